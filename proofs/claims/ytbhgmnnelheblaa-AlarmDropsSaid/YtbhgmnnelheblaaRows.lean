/-
  No cell of these rows narrows 'for every input' (looked for: loops, veiled, ifaces, maps, wideKeys, modest, calm, conditions, laid).
  DERIVED. THE GIVEN ROWS OF THIS SEAT. 5 by the template 'for every input the law returns true; each argument reads behind the call as it read before'; 0 by the template 'total and deterministic' (their statements: YtbhgmnnelheblaaTotals.lean).
  GIVEN WITH THE SEED: the statements are not yours to turn. If you find one false, say at which input.
  Laid BY PROGRAM, IN A SANDBOX (cutbox-rows.mjs): the forced cells as the released guide's own fill.sh prints them over the translation fb416c6f368d9b5d… (all of the seat's roots in one cut). By AI agents, Wed Nov 11 2026. No macro, syntax, notation, axiom, sorry.
-/
import Derived.Test.YtbhgmnnelheblaaChecked
import GoSem.Claim
import GoSem.ClaimJoined
import GoSem.ClaimMapViews
import Derived.JoinedTies
import Derived.KernelRfl
namespace Go.Proofs.Ytbhgmnnelheblaa
/- THE CELL 'sum', in the pinned program and in every row, IS THE sha256 OF THE DUMP (.gsa) THAT YtbhgmnnelheblaaProg.lean LOADS. Nothing in Lean hashes anything: it is a label: what it is worth is what the hold of that sum in a sandbox is worth. -/
noncomputable def Try.pinned : Pinned := { name := "ytbhgmnnelheblaa", sum := "fb416c6f368d9b5df18cabfe9c81574e46b8032fce4671f5f78ec4df326a89cb", checked := Try.checked }
namespace Rows
def none {H : Type} : Left H := { results := [], args := [] }

/-- 'taskmilllaw.AlarmAdds': WHATEVER THE INPUT: true; the input reads as it did. -/
def alarmAddsSpec : ChangeSpec := { name := "alarmAdds", fn := fun _ => fun
  | [d1, d2] => { results := [.lit (.bool true)], args := [d1, d2] }
  | _ => none }
def alarmAddsRow : OpenClaim := { program := "ytbhgmnnelheblaa", sum := "fb416c6f368d9b5df18cabfe9c81574e46b8032fce4671f5f78ec4df326a89cb", func := "taskmill/taskmilllaw.AlarmAdds", spec := "alarmAdds", apart := false }
def AlarmAddsSaid : Prop := alarmAddsRow.holds Try.pinned (OpenSpec.ofChange alarmAddsSpec)

/-- ITS FALSE NEIGHBOUR: 'it returns false'. Refute it at one input. -/
def alarmAddsWrong : ChangeSpec := { name := "alarmAdds", fn := fun _ => fun
  | [d1, d2] => { results := [.lit (.bool false)], args := [d1, d2] }
  | _ => none }
def AlarmAddsWrongFalsely : Prop := alarmAddsRow.holds Try.pinned (OpenSpec.ofChange alarmAddsWrong)

/-- 'taskmilllaw.AlarmDrops': WHATEVER THE INPUT: true; the input reads as it did. -/
def alarmDropsSpec : ChangeSpec := { name := "alarmDrops", fn := fun _ => fun
  | [d1, d2] => { results := [.lit (.bool true)], args := [d1, d2] }
  | _ => none }
def alarmDropsRow : OpenClaim := { program := "ytbhgmnnelheblaa", sum := "fb416c6f368d9b5df18cabfe9c81574e46b8032fce4671f5f78ec4df326a89cb", func := "taskmill/taskmilllaw.AlarmDrops", spec := "alarmDrops", apart := false }
def AlarmDropsSaid : Prop := alarmDropsRow.holds Try.pinned (OpenSpec.ofChange alarmDropsSpec)

/-- ITS FALSE NEIGHBOUR: 'it returns false'. Refute it at one input. -/
def alarmDropsWrong : ChangeSpec := { name := "alarmDrops", fn := fun _ => fun
  | [d1, d2] => { results := [.lit (.bool false)], args := [d1, d2] }
  | _ => none }
def AlarmDropsWrongFalsely : Prop := alarmDropsRow.holds Try.pinned (OpenSpec.ofChange alarmDropsWrong)

/-- 'taskmilllaw.AlarmDue': WHATEVER THE INPUT: true; the input reads as it did. -/
def alarmDueSpec : ChangeSpec := { name := "alarmDue", fn := fun _ => fun
  | [d1, d2] => { results := [.lit (.bool true)], args := [d1, d2] }
  | _ => none }
def alarmDueRow : OpenClaim := { program := "ytbhgmnnelheblaa", sum := "fb416c6f368d9b5df18cabfe9c81574e46b8032fce4671f5f78ec4df326a89cb", func := "taskmill/taskmilllaw.AlarmDue", spec := "alarmDue", apart := false }
def AlarmDueSaid : Prop := alarmDueRow.holds Try.pinned (OpenSpec.ofChange alarmDueSpec)

/-- ITS FALSE NEIGHBOUR: 'it returns false'. Refute it at one input. -/
def alarmDueWrong : ChangeSpec := { name := "alarmDue", fn := fun _ => fun
  | [d1, d2] => { results := [.lit (.bool false)], args := [d1, d2] }
  | _ => none }
def AlarmDueWrongFalsely : Prop := alarmDueRow.holds Try.pinned (OpenSpec.ofChange alarmDueWrong)

/-- 'taskmilllaw.AlarmTimes': WHATEVER THE INPUT: true; the input reads as it did. -/
def alarmTimesSpec : ChangeSpec := { name := "alarmTimes", fn := fun _ => fun
  | [d1, d2, d3] => { results := [.lit (.bool true)], args := [d1, d2, d3] }
  | _ => none }
def alarmTimesRow : OpenClaim := { program := "ytbhgmnnelheblaa", sum := "fb416c6f368d9b5df18cabfe9c81574e46b8032fce4671f5f78ec4df326a89cb", func := "taskmill/taskmilllaw.AlarmTimes", spec := "alarmTimes", apart := false }
def AlarmTimesSaid : Prop := alarmTimesRow.holds Try.pinned (OpenSpec.ofChange alarmTimesSpec)

/-- ITS FALSE NEIGHBOUR: 'it returns false'. Refute it at one input. -/
def alarmTimesWrong : ChangeSpec := { name := "alarmTimes", fn := fun _ => fun
  | [d1, d2, d3] => { results := [.lit (.bool false)], args := [d1, d2, d3] }
  | _ => none }
def AlarmTimesWrongFalsely : Prop := alarmTimesRow.holds Try.pinned (OpenSpec.ofChange alarmTimesWrong)

/-- 'taskmilllaw.AlarmKeeps': WHATEVER THE INPUT: true; the input reads as it did. -/
def alarmKeepsSpec : ChangeSpec := { name := "alarmKeeps", fn := fun _ => fun
  | [d1, d2, d3] => { results := [.lit (.bool true)], args := [d1, d2, d3] }
  | _ => none }
def alarmKeepsRow : OpenClaim := { program := "ytbhgmnnelheblaa", sum := "fb416c6f368d9b5df18cabfe9c81574e46b8032fce4671f5f78ec4df326a89cb", func := "taskmill/taskmilllaw.AlarmKeeps", spec := "alarmKeeps", apart := false }
def AlarmKeepsSaid : Prop := alarmKeepsRow.holds Try.pinned (OpenSpec.ofChange alarmKeepsSpec)

/-- ITS FALSE NEIGHBOUR: 'it returns false'. Refute it at one input. -/
def alarmKeepsWrong : ChangeSpec := { name := "alarmKeeps", fn := fun _ => fun
  | [d1, d2, d3] => { results := [.lit (.bool false)], args := [d1, d2, d3] }
  | _ => none }
def AlarmKeepsWrongFalsely : Prop := alarmKeepsRow.holds Try.pinned (OpenSpec.ofChange alarmKeepsWrong)

/- THE SECOND FORM. 'bulk': how many values and letters a reading holds, each counted each time it is reached (what is shared counts as often as it is met; a slice's spare places count too). A statement '..UptoSaid' is the law's where the arguments, and the package variables that the reading takes, are together of bulk at most 1048576: NARROWER than '..Said'. Prove '..Said' where nothing that the law and all that it calls make is longer than what came in: it says more and counts as full. Else prove '..UptoSaid'. A law counts once. -/
mutual
def uptoBulk {H : Type} : DataW H → Nat
  | .lit (.string bytes) => bytes.length + 1
  | .lit _ => 1
  | .nil => 1
  | .ptr d => uptoBulk d + 1
  | .slice elems spare => uptoBulkAll elems + uptoBulkAll spare + 1
  | .agg parts => uptoBulkAll parts + 1
  | .iface _ d => uptoBulk d + 1
  | .map entries => uptoBulkEntries entries + 1
  | .held _ => 1
def uptoBulkAll {H : Type} : List (DataW H) → Nat
  | [] => 0
  | d :: r => uptoBulk d + uptoBulkAll r
def uptoBulkEntries {H : Type} : List (Lit × DataW H) → Nat
  | [] => 0
  | x :: r => uptoBulkEntry x + uptoBulkEntries r
def uptoBulkEntry {H : Type} : Lit × DataW H → Nat
  | (.string bytes, d) => bytes.length + uptoBulk d + 1
  | (_, d) => uptoBulk d + 1
 end
def uptoSmall : (H : Type) → List (DataW H) → Bool := fun _ ds => decide (uptoBulkAll ds ≤ 1048576)
def OpenSpec.upto (s : _root_.Go.ChangeSpec) : _root_.Go.OpenSpec := { _root_.Go.OpenSpec.ofChange s with cond := some uptoSmall }

/-- 'taskmilllaw.AlarmAdds', WHERE WHAT IT READS IS OF BULK AT MOST 1048576: true; the input reads as it did. -/
def alarmAddsUptoRow : OpenClaim := { program := "ytbhgmnnelheblaa", sum := "fb416c6f368d9b5df18cabfe9c81574e46b8032fce4671f5f78ec4df326a89cb", func := "taskmill/taskmilllaw.AlarmAdds", spec := "alarmAdds", apart := false, narrowed := true }
def AlarmAddsUptoSaid : Prop := alarmAddsUptoRow.holds Try.pinned (OpenSpec.upto alarmAddsSpec)

/-- 'taskmilllaw.AlarmDrops', WHERE WHAT IT READS IS OF BULK AT MOST 1048576: true; the input reads as it did. -/
def alarmDropsUptoRow : OpenClaim := { program := "ytbhgmnnelheblaa", sum := "fb416c6f368d9b5df18cabfe9c81574e46b8032fce4671f5f78ec4df326a89cb", func := "taskmill/taskmilllaw.AlarmDrops", spec := "alarmDrops", apart := false, narrowed := true }
def AlarmDropsUptoSaid : Prop := alarmDropsUptoRow.holds Try.pinned (OpenSpec.upto alarmDropsSpec)

/-- 'taskmilllaw.AlarmDue', WHERE WHAT IT READS IS OF BULK AT MOST 1048576: true; the input reads as it did. -/
def alarmDueUptoRow : OpenClaim := { program := "ytbhgmnnelheblaa", sum := "fb416c6f368d9b5df18cabfe9c81574e46b8032fce4671f5f78ec4df326a89cb", func := "taskmill/taskmilllaw.AlarmDue", spec := "alarmDue", apart := false, narrowed := true }
def AlarmDueUptoSaid : Prop := alarmDueUptoRow.holds Try.pinned (OpenSpec.upto alarmDueSpec)

/-- 'taskmilllaw.AlarmTimes', WHERE WHAT IT READS IS OF BULK AT MOST 1048576: true; the input reads as it did. -/
def alarmTimesUptoRow : OpenClaim := { program := "ytbhgmnnelheblaa", sum := "fb416c6f368d9b5df18cabfe9c81574e46b8032fce4671f5f78ec4df326a89cb", func := "taskmill/taskmilllaw.AlarmTimes", spec := "alarmTimes", apart := false, narrowed := true }
def AlarmTimesUptoSaid : Prop := alarmTimesUptoRow.holds Try.pinned (OpenSpec.upto alarmTimesSpec)

/-- 'taskmilllaw.AlarmKeeps', WHERE WHAT IT READS IS OF BULK AT MOST 1048576: true; the input reads as it did. -/
def alarmKeepsUptoRow : OpenClaim := { program := "ytbhgmnnelheblaa", sum := "fb416c6f368d9b5df18cabfe9c81574e46b8032fce4671f5f78ec4df326a89cb", func := "taskmill/taskmilllaw.AlarmKeeps", spec := "alarmKeeps", apart := false, narrowed := true }
def AlarmKeepsUptoSaid : Prop := alarmKeepsUptoRow.holds Try.pinned (OpenSpec.upto alarmKeepsSpec)

end Rows
end Go.Proofs.Ytbhgmnnelheblaa
