/-
  No cell of these rows narrows 'for every input' (looked for: loops, veiled, ifaces, maps, wideKeys, modest, calm, conditions, laid).
  DERIVED. THE GIVEN ROWS OF THIS SEAT. 5 by the template 'for every input the law returns true; each argument reads behind the call as it read before'; 0 by the template 'total and deterministic' (their statements: YtnnpjaoddniifaaTotals.lean).
  GIVEN WITH THE SEED: the statements are not yours to turn. If you find one false, say at which input.
  Laid BY PROGRAM, IN A SANDBOX (cutbox-rows.mjs): the forced cells as the released guide's own fill.sh prints them over the translation 2952d0dea0349827… (all of the seat's roots in one cut). By AI agents, Wed Nov 11 2026. No macro, syntax, notation, axiom, sorry.
-/
import Derived.Test.YtnnpjaoddniifaaChecked
import GoSem.Claim
import GoSem.ClaimJoined
import GoSem.ClaimMapViews
import Derived.JoinedTies
import Derived.KernelRfl
namespace Go.Proofs.Ytnnpjaoddniifaa
/- THE CELL 'sum', in the pinned program and in every row, IS THE sha256 OF THE DUMP (.gsa) THAT YtnnpjaoddniifaaProg.lean LOADS. Nothing in Lean hashes anything: it is a label: what it is worth is what the hold of that sum in a sandbox is worth. -/
noncomputable def Try.pinned : Pinned := { name := "ytnnpjaoddniifaa", sum := "2952d0dea034982761b9b8719116fe819d7972b28610ab894a021975712bd3ff", checked := Try.checked }
namespace Rows
def none {H : Type} : Left H := { results := [], args := [] }

/-- 'taskmilllaw.WaitAdds': WHATEVER THE INPUT: true; the input reads as it did. -/
def waitAddsSpec : ChangeSpec := { name := "waitAdds", fn := fun _ => fun
  | [d1, d2, d3, d4] => { results := [.lit (.bool true)], args := [d1, d2, d3, d4] }
  | _ => none }
def waitAddsRow : OpenClaim := { program := "ytnnpjaoddniifaa", sum := "2952d0dea034982761b9b8719116fe819d7972b28610ab894a021975712bd3ff", func := "taskmill/taskmilllaw.WaitAdds", spec := "waitAdds", inPlace := ["slices.overlaps[taskmill/api.Line]", "slices.overlaps[int]"], unfollowed := true, recurses := true, apart := false }
def WaitAddsSaid : Prop := waitAddsRow.holds Try.pinned (OpenSpec.ofChange waitAddsSpec)

/-- ITS FALSE NEIGHBOUR: 'it returns false'. Refute it at one input. -/
def waitAddsWrong : ChangeSpec := { name := "waitAdds", fn := fun _ => fun
  | [d1, d2, d3, d4] => { results := [.lit (.bool false)], args := [d1, d2, d3, d4] }
  | _ => none }
def WaitAddsWrongFalsely : Prop := waitAddsRow.holds Try.pinned (OpenSpec.ofChange waitAddsWrong)

/-- 'taskmilllaw.WaitOrder': WHATEVER THE INPUT: true; the input reads as it did. -/
def waitOrderSpec : ChangeSpec := { name := "waitOrder", fn := fun _ => fun
  | [d1, d2] => { results := [.lit (.bool true)], args := [d1, d2] }
  | _ => none }
def waitOrderRow : OpenClaim := { program := "ytnnpjaoddniifaa", sum := "2952d0dea034982761b9b8719116fe819d7972b28610ab894a021975712bd3ff", func := "taskmill/taskmilllaw.WaitOrder", spec := "waitOrder", inPlace := ["slices.overlaps[taskmill/api.Line]", "slices.overlaps[int]"], unfollowed := true, recurses := true, apart := false }
def WaitOrderSaid : Prop := waitOrderRow.holds Try.pinned (OpenSpec.ofChange waitOrderSpec)

/-- ITS FALSE NEIGHBOUR: 'it returns false'. Refute it at one input. -/
def waitOrderWrong : ChangeSpec := { name := "waitOrder", fn := fun _ => fun
  | [d1, d2] => { results := [.lit (.bool false)], args := [d1, d2] }
  | _ => none }
def WaitOrderWrongFalsely : Prop := waitOrderRow.holds Try.pinned (OpenSpec.ofChange waitOrderWrong)

/-- 'taskmilllaw.WaitWakes': WHATEVER THE INPUT: true; the input reads as it did. -/
def waitWakesSpec : ChangeSpec := { name := "waitWakes", fn := fun _ => fun
  | [d1, d2, d3, d4] => { results := [.lit (.bool true)], args := [d1, d2, d3, d4] }
  | _ => none }
def waitWakesRow : OpenClaim := { program := "ytnnpjaoddniifaa", sum := "2952d0dea034982761b9b8719116fe819d7972b28610ab894a021975712bd3ff", func := "taskmill/taskmilllaw.WaitWakes", spec := "waitWakes", inPlace := ["slices.overlaps[taskmill/api.Line]", "slices.overlaps[int]"], unfollowed := true, recurses := true, apart := false }
def WaitWakesSaid : Prop := waitWakesRow.holds Try.pinned (OpenSpec.ofChange waitWakesSpec)

/-- ITS FALSE NEIGHBOUR: 'it returns false'. Refute it at one input. -/
def waitWakesWrong : ChangeSpec := { name := "waitWakes", fn := fun _ => fun
  | [d1, d2, d3, d4] => { results := [.lit (.bool false)], args := [d1, d2, d3, d4] }
  | _ => none }
def WaitWakesWrongFalsely : Prop := waitWakesRow.holds Try.pinned (OpenSpec.ofChange waitWakesWrong)

/-- 'taskmilllaw.WaitDrops': WHATEVER THE INPUT: true; the input reads as it did. -/
def waitDropsSpec : ChangeSpec := { name := "waitDrops", fn := fun _ => fun
  | [d1, d2] => { results := [.lit (.bool true)], args := [d1, d2] }
  | _ => none }
def waitDropsRow : OpenClaim := { program := "ytnnpjaoddniifaa", sum := "2952d0dea034982761b9b8719116fe819d7972b28610ab894a021975712bd3ff", func := "taskmill/taskmilllaw.WaitDrops", spec := "waitDrops", inPlace := ["slices.overlaps[taskmill/api.Line]", "slices.overlaps[int]"], unfollowed := true, recurses := true, apart := false }
def WaitDropsSaid : Prop := waitDropsRow.holds Try.pinned (OpenSpec.ofChange waitDropsSpec)

/-- ITS FALSE NEIGHBOUR: 'it returns false'. Refute it at one input. -/
def waitDropsWrong : ChangeSpec := { name := "waitDrops", fn := fun _ => fun
  | [d1, d2] => { results := [.lit (.bool false)], args := [d1, d2] }
  | _ => none }
def WaitDropsWrongFalsely : Prop := waitDropsRow.holds Try.pinned (OpenSpec.ofChange waitDropsWrong)

/-- 'taskmilllaw.WaitHalves': WHATEVER THE INPUT: true; the input reads as it did. -/
def waitHalvesSpec : ChangeSpec := { name := "waitHalves", fn := fun _ => fun
  | [d1, d2, d3, d4, d5] => { results := [.lit (.bool true)], args := [d1, d2, d3, d4, d5] }
  | _ => none }
def waitHalvesRow : OpenClaim := { program := "ytnnpjaoddniifaa", sum := "2952d0dea034982761b9b8719116fe819d7972b28610ab894a021975712bd3ff", func := "taskmill/taskmilllaw.WaitHalves", spec := "waitHalves", inPlace := ["slices.overlaps[taskmill/api.Line]", "slices.overlaps[int]"], unfollowed := true, recurses := true, apart := false }
def WaitHalvesSaid : Prop := waitHalvesRow.holds Try.pinned (OpenSpec.ofChange waitHalvesSpec)

/-- ITS FALSE NEIGHBOUR: 'it returns false'. Refute it at one input. -/
def waitHalvesWrong : ChangeSpec := { name := "waitHalves", fn := fun _ => fun
  | [d1, d2, d3, d4, d5] => { results := [.lit (.bool false)], args := [d1, d2, d3, d4, d5] }
  | _ => none }
def WaitHalvesWrongFalsely : Prop := waitHalvesRow.holds Try.pinned (OpenSpec.ofChange waitHalvesWrong)

/- THE SECOND FORM. 'bulk': how many values and letters a reading holds, each counted each time it is reached (what is shared counts as often as it is met; a slice's spare places count too). A statement '..UptoSaid' is the law's where the arguments, and the package variables that the reading takes, are together of bulk at most 1048576: NARROWER than '..Said'. Prove '..Said' where nothing that the law and all that it calls make is longer than what came in: it says more and counts as full. Else prove '..UptoSaid'. A law counts once. -/
mutual
def uptoBulk {H : Type} : DataW H → Nat
  | .lit (.string bytes) => bytes.length + 1
  | .lit _ => 1
  | .nil => 1
  | .ptr d => uptoBulk d + 1
  | .slice elems spare => uptoBulkAll elems + uptoBulkAll spare + 1
  | .agg parts => uptoBulkAll parts + 1
  | .iface _ d => uptoBulk d + 1
  | .map entries => uptoBulkEntries entries + 1
  | .held _ => 1
def uptoBulkAll {H : Type} : List (DataW H) → Nat
  | [] => 0
  | d :: r => uptoBulk d + uptoBulkAll r
def uptoBulkEntries {H : Type} : List (Lit × DataW H) → Nat
  | [] => 0
  | x :: r => uptoBulkEntry x + uptoBulkEntries r
def uptoBulkEntry {H : Type} : Lit × DataW H → Nat
  | (.string bytes, d) => bytes.length + uptoBulk d + 1
  | (_, d) => uptoBulk d + 1
 end
def uptoSmall : (H : Type) → List (DataW H) → Bool := fun _ ds => decide (uptoBulkAll ds ≤ 1048576)
def OpenSpec.upto (s : _root_.Go.ChangeSpec) : _root_.Go.OpenSpec := { _root_.Go.OpenSpec.ofChange s with cond := some uptoSmall }

/-- 'taskmilllaw.WaitAdds', WHERE WHAT IT READS IS OF BULK AT MOST 1048576: true; the input reads as it did. -/
def waitAddsUptoRow : OpenClaim := { program := "ytnnpjaoddniifaa", sum := "2952d0dea034982761b9b8719116fe819d7972b28610ab894a021975712bd3ff", func := "taskmill/taskmilllaw.WaitAdds", spec := "waitAdds", inPlace := ["slices.overlaps[taskmill/api.Line]", "slices.overlaps[int]"], unfollowed := true, recurses := true, apart := false, narrowed := true }
def WaitAddsUptoSaid : Prop := waitAddsUptoRow.holds Try.pinned (OpenSpec.upto waitAddsSpec)

/-- 'taskmilllaw.WaitOrder', WHERE WHAT IT READS IS OF BULK AT MOST 1048576: true; the input reads as it did. -/
def waitOrderUptoRow : OpenClaim := { program := "ytnnpjaoddniifaa", sum := "2952d0dea034982761b9b8719116fe819d7972b28610ab894a021975712bd3ff", func := "taskmill/taskmilllaw.WaitOrder", spec := "waitOrder", inPlace := ["slices.overlaps[taskmill/api.Line]", "slices.overlaps[int]"], unfollowed := true, recurses := true, apart := false, narrowed := true }
def WaitOrderUptoSaid : Prop := waitOrderUptoRow.holds Try.pinned (OpenSpec.upto waitOrderSpec)

/-- 'taskmilllaw.WaitWakes', WHERE WHAT IT READS IS OF BULK AT MOST 1048576: true; the input reads as it did. -/
def waitWakesUptoRow : OpenClaim := { program := "ytnnpjaoddniifaa", sum := "2952d0dea034982761b9b8719116fe819d7972b28610ab894a021975712bd3ff", func := "taskmill/taskmilllaw.WaitWakes", spec := "waitWakes", inPlace := ["slices.overlaps[taskmill/api.Line]", "slices.overlaps[int]"], unfollowed := true, recurses := true, apart := false, narrowed := true }
def WaitWakesUptoSaid : Prop := waitWakesUptoRow.holds Try.pinned (OpenSpec.upto waitWakesSpec)

/-- 'taskmilllaw.WaitDrops', WHERE WHAT IT READS IS OF BULK AT MOST 1048576: true; the input reads as it did. -/
def waitDropsUptoRow : OpenClaim := { program := "ytnnpjaoddniifaa", sum := "2952d0dea034982761b9b8719116fe819d7972b28610ab894a021975712bd3ff", func := "taskmill/taskmilllaw.WaitDrops", spec := "waitDrops", inPlace := ["slices.overlaps[taskmill/api.Line]", "slices.overlaps[int]"], unfollowed := true, recurses := true, apart := false, narrowed := true }
def WaitDropsUptoSaid : Prop := waitDropsUptoRow.holds Try.pinned (OpenSpec.upto waitDropsSpec)

/-- 'taskmilllaw.WaitHalves', WHERE WHAT IT READS IS OF BULK AT MOST 1048576: true; the input reads as it did. -/
def waitHalvesUptoRow : OpenClaim := { program := "ytnnpjaoddniifaa", sum := "2952d0dea034982761b9b8719116fe819d7972b28610ab894a021975712bd3ff", func := "taskmill/taskmilllaw.WaitHalves", spec := "waitHalves", inPlace := ["slices.overlaps[taskmill/api.Line]", "slices.overlaps[int]"], unfollowed := true, recurses := true, apart := false, narrowed := true }
def WaitHalvesUptoSaid : Prop := waitHalvesUptoRow.holds Try.pinned (OpenSpec.upto waitHalvesSpec)

end Rows
end Go.Proofs.Ytnnpjaoddniifaa
