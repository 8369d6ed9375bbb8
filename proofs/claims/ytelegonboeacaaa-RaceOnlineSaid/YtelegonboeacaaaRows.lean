/-
  No cell of these rows narrows 'for every input' (looked for: loops, veiled, ifaces, maps, wideKeys, modest, calm, conditions, laid).
  DERIVED. THE GIVEN ROWS OF THIS SEAT. 7 by the template 'for every input the law returns true; each argument reads behind the call as it read before'; 0 by the template 'total and deterministic' (their statements: YtelegonboeacaaaTotals.lean).
  GIVEN WITH THE SEED: the statements are not yours to turn. If you find one false, say at which input.
  Laid BY PROGRAM, IN A SANDBOX (cutbox-rows.mjs): the forced cells as the released guide's own fill.sh prints them over the translation 3f1d6d32cd41230a… (all of the seat's roots in one cut). By AI agents, Wed Nov 11 2026. No macro, syntax, notation, axiom, sorry.
-/
import Derived.Test.YtelegonboeacaaaChecked
import GoSem.Claim
import GoSem.ClaimJoined
import GoSem.ClaimMapViews
import Derived.JoinedTies
import Derived.KernelRfl
namespace Go.Proofs.Ytelegonboeacaaa
/- THE CELL 'sum', in the pinned program and in every row, IS THE sha256 OF THE DUMP (.gsa) THAT YtelegonboeacaaaProg.lean LOADS. Nothing in Lean hashes anything: it is a label: what it is worth is what the hold of that sum in a sandbox is worth. -/
noncomputable def Try.pinned : Pinned := { name := "ytelegonboeacaaa", sum := "3f1d6d32cd41230a04f82b6566b7897b8bc1e7c0981aa1e128aa77cc02434b3b", checked := Try.checked }
namespace Rows
def none {H : Type} : Left H := { results := [], args := [] }

/-- 'taskmilllaw.OrderTasks': WHATEVER THE INPUT: true; the input reads as it did. -/
def orderTasksSpec : ChangeSpec := { name := "orderTasks", fn := fun _ => fun
  | [d1, d2] => { results := [.lit (.bool true)], args := [d1, d2] }
  | _ => none }
def orderTasksRow : OpenClaim := { program := "ytelegonboeacaaa", sum := "3f1d6d32cd41230a04f82b6566b7897b8bc1e7c0981aa1e128aa77cc02434b3b", func := "taskmill/taskmilllaw.OrderTasks", spec := "orderTasks", plainKeys := false, apart := false }
def OrderTasksSaid : Prop := orderTasksRow.holds Try.pinned (OpenSpec.ofChange orderTasksSpec)

/-- ITS FALSE NEIGHBOUR: 'it returns false'. Refute it at one input. -/
def orderTasksWrong : ChangeSpec := { name := "orderTasks", fn := fun _ => fun
  | [d1, d2] => { results := [.lit (.bool false)], args := [d1, d2] }
  | _ => none }
def OrderTasksWrongFalsely : Prop := orderTasksRow.holds Try.pinned (OpenSpec.ofChange orderTasksWrong)

/-- 'taskmilllaw.OrderClocks': WHATEVER THE INPUT: true; the input reads as it did. -/
def orderClocksSpec : ChangeSpec := { name := "orderClocks", fn := fun _ => fun
  | [d1, d2, d3, d4] => { results := [.lit (.bool true)], args := [d1, d2, d3, d4] }
  | _ => none }
def orderClocksRow : OpenClaim := { program := "ytelegonboeacaaa", sum := "3f1d6d32cd41230a04f82b6566b7897b8bc1e7c0981aa1e128aa77cc02434b3b", func := "taskmill/taskmilllaw.OrderClocks", spec := "orderClocks", unfollowed := true, recurses := true, plainKeys := false, apart := false }
def OrderClocksSaid : Prop := orderClocksRow.holds Try.pinned (OpenSpec.ofChange orderClocksSpec)

/-- ITS FALSE NEIGHBOUR: 'it returns false'. Refute it at one input. -/
def orderClocksWrong : ChangeSpec := { name := "orderClocks", fn := fun _ => fun
  | [d1, d2, d3, d4] => { results := [.lit (.bool false)], args := [d1, d2, d3, d4] }
  | _ => none }
def OrderClocksWrongFalsely : Prop := orderClocksRow.holds Try.pinned (OpenSpec.ofChange orderClocksWrong)

/-- 'taskmilllaw.OrderLamport': WHATEVER THE INPUT: true; the input reads as it did. -/
def orderLamportSpec : ChangeSpec := { name := "orderLamport", fn := fun _ => fun
  | [d1, d2, d3, d4, d5] => { results := [.lit (.bool true)], args := [d1, d2, d3, d4, d5] }
  | _ => none }
def orderLamportRow : OpenClaim := { program := "ytelegonboeacaaa", sum := "3f1d6d32cd41230a04f82b6566b7897b8bc1e7c0981aa1e128aa77cc02434b3b", func := "taskmill/taskmilllaw.OrderLamport", spec := "orderLamport", plainKeys := false, apart := false }
def OrderLamportSaid : Prop := orderLamportRow.holds Try.pinned (OpenSpec.ofChange orderLamportSpec)

/-- ITS FALSE NEIGHBOUR: 'it returns false'. Refute it at one input. -/
def orderLamportWrong : ChangeSpec := { name := "orderLamport", fn := fun _ => fun
  | [d1, d2, d3, d4, d5] => { results := [.lit (.bool false)], args := [d1, d2, d3, d4, d5] }
  | _ => none }
def OrderLamportWrongFalsely : Prop := orderLamportRow.holds Try.pinned (OpenSpec.ofChange orderLamportWrong)

/-- 'taskmilllaw.OrderSwaps': WHATEVER THE INPUT: true; the input reads as it did. -/
def orderSwapsSpec : ChangeSpec := { name := "orderSwaps", fn := fun _ => fun
  | [d1, d2, d3] => { results := [.lit (.bool true)], args := [d1, d2, d3] }
  | _ => none }
def orderSwapsRow : OpenClaim := { program := "ytelegonboeacaaa", sum := "3f1d6d32cd41230a04f82b6566b7897b8bc1e7c0981aa1e128aa77cc02434b3b", func := "taskmill/taskmilllaw.OrderSwaps", spec := "orderSwaps", unfollowed := true, recurses := true, plainKeys := false, apart := false }
def OrderSwapsSaid : Prop := orderSwapsRow.holds Try.pinned (OpenSpec.ofChange orderSwapsSpec)

/-- ITS FALSE NEIGHBOUR: 'it returns false'. Refute it at one input. -/
def orderSwapsWrong : ChangeSpec := { name := "orderSwaps", fn := fun _ => fun
  | [d1, d2, d3] => { results := [.lit (.bool false)], args := [d1, d2, d3] }
  | _ => none }
def OrderSwapsWrongFalsely : Prop := orderSwapsRow.holds Try.pinned (OpenSpec.ofChange orderSwapsWrong)

/-- 'taskmilllaw.RaceAll': WHATEVER THE INPUT: true; the input reads as it did. -/
def raceAllSpec : ChangeSpec := { name := "raceAll", fn := fun _ => fun
  | [d1, d2] => { results := [.lit (.bool true)], args := [d1, d2] }
  | _ => none }
def raceAllRow : OpenClaim := { program := "ytelegonboeacaaa", sum := "3f1d6d32cd41230a04f82b6566b7897b8bc1e7c0981aa1e128aa77cc02434b3b", func := "taskmill/taskmilllaw.RaceAll", spec := "raceAll", unfollowed := true, recurses := true, plainKeys := false, apart := false }
def RaceAllSaid : Prop := raceAllRow.holds Try.pinned (OpenSpec.ofChange raceAllSpec)

/-- ITS FALSE NEIGHBOUR: 'it returns false'. Refute it at one input. -/
def raceAllWrong : ChangeSpec := { name := "raceAll", fn := fun _ => fun
  | [d1, d2] => { results := [.lit (.bool false)], args := [d1, d2] }
  | _ => none }
def RaceAllWrongFalsely : Prop := raceAllRow.holds Try.pinned (OpenSpec.ofChange raceAllWrong)

/-- 'taskmilllaw.RaceOnline': WHATEVER THE INPUT: true; the input reads as it did. -/
def raceOnlineSpec : ChangeSpec := { name := "raceOnline", fn := fun _ => fun
  | [d1, d2] => { results := [.lit (.bool true)], args := [d1, d2] }
  | _ => none }
def raceOnlineRow : OpenClaim := { program := "ytelegonboeacaaa", sum := "3f1d6d32cd41230a04f82b6566b7897b8bc1e7c0981aa1e128aa77cc02434b3b", func := "taskmill/taskmilllaw.RaceOnline", spec := "raceOnline", unfollowed := true, recurses := true, plainKeys := false, apart := false }
def RaceOnlineSaid : Prop := raceOnlineRow.holds Try.pinned (OpenSpec.ofChange raceOnlineSpec)

/-- ITS FALSE NEIGHBOUR: 'it returns false'. Refute it at one input. -/
def raceOnlineWrong : ChangeSpec := { name := "raceOnline", fn := fun _ => fun
  | [d1, d2] => { results := [.lit (.bool false)], args := [d1, d2] }
  | _ => none }
def RaceOnlineWrongFalsely : Prop := raceOnlineRow.holds Try.pinned (OpenSpec.ofChange raceOnlineWrong)

/-- 'taskmilllaw.RaceGuards': WHATEVER THE INPUT: true; the input reads as it did. -/
def raceGuardsSpec : ChangeSpec := { name := "raceGuards", fn := fun _ => fun
  | [d1, d2] => { results := [.lit (.bool true)], args := [d1, d2] }
  | _ => none }
def raceGuardsRow : OpenClaim := { program := "ytelegonboeacaaa", sum := "3f1d6d32cd41230a04f82b6566b7897b8bc1e7c0981aa1e128aa77cc02434b3b", func := "taskmill/taskmilllaw.RaceGuards", spec := "raceGuards", unfollowed := true, recurses := true, plainKeys := false, apart := false }
def RaceGuardsSaid : Prop := raceGuardsRow.holds Try.pinned (OpenSpec.ofChange raceGuardsSpec)

/-- ITS FALSE NEIGHBOUR: 'it returns false'. Refute it at one input. -/
def raceGuardsWrong : ChangeSpec := { name := "raceGuards", fn := fun _ => fun
  | [d1, d2] => { results := [.lit (.bool false)], args := [d1, d2] }
  | _ => none }
def RaceGuardsWrongFalsely : Prop := raceGuardsRow.holds Try.pinned (OpenSpec.ofChange raceGuardsWrong)

/- THE SECOND FORM. 'bulk': how many values and letters a reading holds, each counted each time it is reached (what is shared counts as often as it is met; a slice's spare places count too). A statement '..UptoSaid' is the law's where the arguments, and the package variables that the reading takes, are together of bulk at most 1048576: NARROWER than '..Said'. Prove '..Said' where nothing that the law and all that it calls make is longer than what came in: it says more and counts as full. Else prove '..UptoSaid'. A law counts once. -/
mutual
def uptoBulk {H : Type} : DataW H → Nat
  | .lit (.string bytes) => bytes.length + 1
  | .lit _ => 1
  | .nil => 1
  | .ptr d => uptoBulk d + 1
  | .slice elems spare => uptoBulkAll elems + uptoBulkAll spare + 1
  | .agg parts => uptoBulkAll parts + 1
  | .iface _ d => uptoBulk d + 1
  | .map entries => uptoBulkEntries entries + 1
  | .held _ => 1
def uptoBulkAll {H : Type} : List (DataW H) → Nat
  | [] => 0
  | d :: r => uptoBulk d + uptoBulkAll r
def uptoBulkEntries {H : Type} : List (Lit × DataW H) → Nat
  | [] => 0
  | x :: r => uptoBulkEntry x + uptoBulkEntries r
def uptoBulkEntry {H : Type} : Lit × DataW H → Nat
  | (.string bytes, d) => bytes.length + uptoBulk d + 1
  | (_, d) => uptoBulk d + 1
 end
def uptoSmall : (H : Type) → List (DataW H) → Bool := fun _ ds => decide (uptoBulkAll ds ≤ 1048576)
def OpenSpec.upto (s : _root_.Go.ChangeSpec) : _root_.Go.OpenSpec := { _root_.Go.OpenSpec.ofChange s with cond := some uptoSmall }

/-- 'taskmilllaw.OrderTasks', WHERE WHAT IT READS IS OF BULK AT MOST 1048576: true; the input reads as it did. -/
def orderTasksUptoRow : OpenClaim := { program := "ytelegonboeacaaa", sum := "3f1d6d32cd41230a04f82b6566b7897b8bc1e7c0981aa1e128aa77cc02434b3b", func := "taskmill/taskmilllaw.OrderTasks", spec := "orderTasks", plainKeys := false, apart := false, narrowed := true }
def OrderTasksUptoSaid : Prop := orderTasksUptoRow.holds Try.pinned (OpenSpec.upto orderTasksSpec)

/-- 'taskmilllaw.OrderClocks', WHERE WHAT IT READS IS OF BULK AT MOST 1048576: true; the input reads as it did. -/
def orderClocksUptoRow : OpenClaim := { program := "ytelegonboeacaaa", sum := "3f1d6d32cd41230a04f82b6566b7897b8bc1e7c0981aa1e128aa77cc02434b3b", func := "taskmill/taskmilllaw.OrderClocks", spec := "orderClocks", unfollowed := true, recurses := true, plainKeys := false, apart := false, narrowed := true }
def OrderClocksUptoSaid : Prop := orderClocksUptoRow.holds Try.pinned (OpenSpec.upto orderClocksSpec)

/-- 'taskmilllaw.OrderLamport', WHERE WHAT IT READS IS OF BULK AT MOST 1048576: true; the input reads as it did. -/
def orderLamportUptoRow : OpenClaim := { program := "ytelegonboeacaaa", sum := "3f1d6d32cd41230a04f82b6566b7897b8bc1e7c0981aa1e128aa77cc02434b3b", func := "taskmill/taskmilllaw.OrderLamport", spec := "orderLamport", plainKeys := false, apart := false, narrowed := true }
def OrderLamportUptoSaid : Prop := orderLamportUptoRow.holds Try.pinned (OpenSpec.upto orderLamportSpec)

/-- 'taskmilllaw.OrderSwaps', WHERE WHAT IT READS IS OF BULK AT MOST 1048576: true; the input reads as it did. -/
def orderSwapsUptoRow : OpenClaim := { program := "ytelegonboeacaaa", sum := "3f1d6d32cd41230a04f82b6566b7897b8bc1e7c0981aa1e128aa77cc02434b3b", func := "taskmill/taskmilllaw.OrderSwaps", spec := "orderSwaps", unfollowed := true, recurses := true, plainKeys := false, apart := false, narrowed := true }
def OrderSwapsUptoSaid : Prop := orderSwapsUptoRow.holds Try.pinned (OpenSpec.upto orderSwapsSpec)

/-- 'taskmilllaw.RaceAll', WHERE WHAT IT READS IS OF BULK AT MOST 1048576: true; the input reads as it did. -/
def raceAllUptoRow : OpenClaim := { program := "ytelegonboeacaaa", sum := "3f1d6d32cd41230a04f82b6566b7897b8bc1e7c0981aa1e128aa77cc02434b3b", func := "taskmill/taskmilllaw.RaceAll", spec := "raceAll", unfollowed := true, recurses := true, plainKeys := false, apart := false, narrowed := true }
def RaceAllUptoSaid : Prop := raceAllUptoRow.holds Try.pinned (OpenSpec.upto raceAllSpec)

/-- 'taskmilllaw.RaceOnline', WHERE WHAT IT READS IS OF BULK AT MOST 1048576: true; the input reads as it did. -/
def raceOnlineUptoRow : OpenClaim := { program := "ytelegonboeacaaa", sum := "3f1d6d32cd41230a04f82b6566b7897b8bc1e7c0981aa1e128aa77cc02434b3b", func := "taskmill/taskmilllaw.RaceOnline", spec := "raceOnline", unfollowed := true, recurses := true, plainKeys := false, apart := false, narrowed := true }
def RaceOnlineUptoSaid : Prop := raceOnlineUptoRow.holds Try.pinned (OpenSpec.upto raceOnlineSpec)

/-- 'taskmilllaw.RaceGuards', WHERE WHAT IT READS IS OF BULK AT MOST 1048576: true; the input reads as it did. -/
def raceGuardsUptoRow : OpenClaim := { program := "ytelegonboeacaaa", sum := "3f1d6d32cd41230a04f82b6566b7897b8bc1e7c0981aa1e128aa77cc02434b3b", func := "taskmill/taskmilllaw.RaceGuards", spec := "raceGuards", unfollowed := true, recurses := true, plainKeys := false, apart := false, narrowed := true }
def RaceGuardsUptoSaid : Prop := raceGuardsUptoRow.holds Try.pinned (OpenSpec.upto raceGuardsSpec)

end Rows
end Go.Proofs.Ytelegonboeacaaa
