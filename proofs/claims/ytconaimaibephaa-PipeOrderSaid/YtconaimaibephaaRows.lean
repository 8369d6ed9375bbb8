/-
  No cell of these rows narrows 'for every input' (looked for: loops, veiled, ifaces, maps, wideKeys, modest, calm, conditions, laid).
  DERIVED. THE GIVEN ROWS OF THIS SEAT. 7 by the template 'for every input the law returns true; each argument reads behind the call as it read before'; 0 by the template 'total and deterministic' (their statements: YtconaimaibephaaTotals.lean).
  GIVEN WITH THE SEED: the statements are not yours to turn. If you find one false, say at which input.
  Laid BY PROGRAM, IN A SANDBOX (cutbox-rows.mjs): the forced cells as the released guide's own fill.sh prints them over the translation 30d9617ba80bdae7… (all of the seat's roots in one cut). By AI agents, Wed Nov 11 2026. No macro, syntax, notation, axiom, sorry.
-/
import Derived.Test.YtconaimaibephaaChecked
import GoSem.Claim
import GoSem.ClaimJoined
import GoSem.ClaimMapViews
import Derived.JoinedTies
import Derived.KernelRfl
namespace Go.Proofs.Ytconaimaibephaa
/- THE CELL 'sum', in the pinned program and in every row, IS THE sha256 OF THE DUMP (.gsa) THAT YtconaimaibephaaProg.lean LOADS. Nothing in Lean hashes anything: it is a label: what it is worth is what the hold of that sum in a sandbox is worth. -/
noncomputable def Try.pinned : Pinned := { name := "ytconaimaibephaa", sum := "30d9617ba80bdae7564c48d73d1bce09bf5d4df74be920ad1c7ff414400b6d70", checked := Try.checked }
namespace Rows
def none {H : Type} : Left H := { results := [], args := [] }

/-- 'taskmilllaw.PipeSends': WHATEVER THE INPUT: true; the input reads as it did. -/
def pipeSendsSpec : ChangeSpec := { name := "pipeSends", fn := fun _ => fun
  | [d1, d2, d3, d4] => { results := [.lit (.bool true)], args := [d1, d2, d3, d4] }
  | _ => none }
def pipeSendsRow : OpenClaim := { program := "ytconaimaibephaa", sum := "30d9617ba80bdae7564c48d73d1bce09bf5d4df74be920ad1c7ff414400b6d70", func := "taskmill/taskmilllaw.PipeSends", spec := "pipeSends", unfollowed := true, recurses := true, apart := false }
def PipeSendsSaid : Prop := pipeSendsRow.holds Try.pinned (OpenSpec.ofChange pipeSendsSpec)

/-- ITS FALSE NEIGHBOUR: 'it returns false'. Refute it at one input. -/
def pipeSendsWrong : ChangeSpec := { name := "pipeSends", fn := fun _ => fun
  | [d1, d2, d3, d4] => { results := [.lit (.bool false)], args := [d1, d2, d3, d4] }
  | _ => none }
def PipeSendsWrongFalsely : Prop := pipeSendsRow.holds Try.pinned (OpenSpec.ofChange pipeSendsWrong)

/-- 'taskmilllaw.PipeGets': WHATEVER THE INPUT: true; the input reads as it did. -/
def pipeGetsSpec : ChangeSpec := { name := "pipeGets", fn := fun _ => fun
  | [d1, d2, d3] => { results := [.lit (.bool true)], args := [d1, d2, d3] }
  | _ => none }
def pipeGetsRow : OpenClaim := { program := "ytconaimaibephaa", sum := "30d9617ba80bdae7564c48d73d1bce09bf5d4df74be920ad1c7ff414400b6d70", func := "taskmill/taskmilllaw.PipeGets", spec := "pipeGets", unfollowed := true, recurses := true, apart := false }
def PipeGetsSaid : Prop := pipeGetsRow.holds Try.pinned (OpenSpec.ofChange pipeGetsSpec)

/-- ITS FALSE NEIGHBOUR: 'it returns false'. Refute it at one input. -/
def pipeGetsWrong : ChangeSpec := { name := "pipeGets", fn := fun _ => fun
  | [d1, d2, d3] => { results := [.lit (.bool false)], args := [d1, d2, d3] }
  | _ => none }
def PipeGetsWrongFalsely : Prop := pipeGetsRow.holds Try.pinned (OpenSpec.ofChange pipeGetsWrong)

/-- 'taskmilllaw.PipeOrder': WHATEVER THE INPUT: true; the input reads as it did. -/
def pipeOrderSpec : ChangeSpec := { name := "pipeOrder", fn := fun _ => fun
  | [d1, d2] => { results := [.lit (.bool true)], args := [d1, d2] }
  | _ => none }
def pipeOrderRow : OpenClaim := { program := "ytconaimaibephaa", sum := "30d9617ba80bdae7564c48d73d1bce09bf5d4df74be920ad1c7ff414400b6d70", func := "taskmill/taskmilllaw.PipeOrder", spec := "pipeOrder", unfollowed := true, recurses := true, apart := false }
def PipeOrderSaid : Prop := pipeOrderRow.holds Try.pinned (OpenSpec.ofChange pipeOrderSpec)

/-- ITS FALSE NEIGHBOUR: 'it returns false'. Refute it at one input. -/
def pipeOrderWrong : ChangeSpec := { name := "pipeOrder", fn := fun _ => fun
  | [d1, d2] => { results := [.lit (.bool false)], args := [d1, d2] }
  | _ => none }
def PipeOrderWrongFalsely : Prop := pipeOrderRow.holds Try.pinned (OpenSpec.ofChange pipeOrderWrong)

/-- 'taskmilllaw.PipeNobody': WHATEVER THE INPUT: true; the input reads as it did. -/
def pipeNobodySpec : ChangeSpec := { name := "pipeNobody", fn := fun _ => fun
  | [d1, d2] => { results := [.lit (.bool true)], args := [d1, d2] }
  | _ => none }
def pipeNobodyRow : OpenClaim := { program := "ytconaimaibephaa", sum := "30d9617ba80bdae7564c48d73d1bce09bf5d4df74be920ad1c7ff414400b6d70", func := "taskmill/taskmilllaw.PipeNobody", spec := "pipeNobody", unfollowed := true, recurses := true, apart := false }
def PipeNobodySaid : Prop := pipeNobodyRow.holds Try.pinned (OpenSpec.ofChange pipeNobodySpec)

/-- ITS FALSE NEIGHBOUR: 'it returns false'. Refute it at one input. -/
def pipeNobodyWrong : ChangeSpec := { name := "pipeNobody", fn := fun _ => fun
  | [d1, d2] => { results := [.lit (.bool false)], args := [d1, d2] }
  | _ => none }
def PipeNobodyWrongFalsely : Prop := pipeNobodyRow.holds Try.pinned (OpenSpec.ofChange pipeNobodyWrong)

/-- 'taskmilllaw.PipeCloses': WHATEVER THE INPUT: true; the input reads as it did. -/
def pipeClosesSpec : ChangeSpec := { name := "pipeCloses", fn := fun _ => fun
  | [d1, d2] => { results := [.lit (.bool true)], args := [d1, d2] }
  | _ => none }
def pipeClosesRow : OpenClaim := { program := "ytconaimaibephaa", sum := "30d9617ba80bdae7564c48d73d1bce09bf5d4df74be920ad1c7ff414400b6d70", func := "taskmill/taskmilllaw.PipeCloses", spec := "pipeCloses", unfollowed := true, recurses := true, apart := false }
def PipeClosesSaid : Prop := pipeClosesRow.holds Try.pinned (OpenSpec.ofChange pipeClosesSpec)

/-- ITS FALSE NEIGHBOUR: 'it returns false'. Refute it at one input. -/
def pipeClosesWrong : ChangeSpec := { name := "pipeCloses", fn := fun _ => fun
  | [d1, d2] => { results := [.lit (.bool false)], args := [d1, d2] }
  | _ => none }
def PipeClosesWrongFalsely : Prop := pipeClosesRow.holds Try.pinned (OpenSpec.ofChange pipeClosesWrong)

/-- 'taskmilllaw.PipeTwins': WHATEVER THE INPUT: true; the input reads as it did. -/
def pipeTwinsSpec : ChangeSpec := { name := "pipeTwins", fn := fun _ => fun
  | [d1, d2, d3] => { results := [.lit (.bool true)], args := [d1, d2, d3] }
  | _ => none }
def pipeTwinsRow : OpenClaim := { program := "ytconaimaibephaa", sum := "30d9617ba80bdae7564c48d73d1bce09bf5d4df74be920ad1c7ff414400b6d70", func := "taskmill/taskmilllaw.PipeTwins", spec := "pipeTwins", unfollowed := true, recurses := true, apart := false }
def PipeTwinsSaid : Prop := pipeTwinsRow.holds Try.pinned (OpenSpec.ofChange pipeTwinsSpec)

/-- ITS FALSE NEIGHBOUR: 'it returns false'. Refute it at one input. -/
def pipeTwinsWrong : ChangeSpec := { name := "pipeTwins", fn := fun _ => fun
  | [d1, d2, d3] => { results := [.lit (.bool false)], args := [d1, d2, d3] }
  | _ => none }
def PipeTwinsWrongFalsely : Prop := pipeTwinsRow.holds Try.pinned (OpenSpec.ofChange pipeTwinsWrong)

/-- 'taskmilllaw.PipeShuts': WHATEVER THE INPUT: true; the input reads as it did. -/
def pipeShutsSpec : ChangeSpec := { name := "pipeShuts", fn := fun _ => fun
  | [d1, d2] => { results := [.lit (.bool true)], args := [d1, d2] }
  | _ => none }
def pipeShutsRow : OpenClaim := { program := "ytconaimaibephaa", sum := "30d9617ba80bdae7564c48d73d1bce09bf5d4df74be920ad1c7ff414400b6d70", func := "taskmill/taskmilllaw.PipeShuts", spec := "pipeShuts", unfollowed := true, recurses := true, apart := false }
def PipeShutsSaid : Prop := pipeShutsRow.holds Try.pinned (OpenSpec.ofChange pipeShutsSpec)

/-- ITS FALSE NEIGHBOUR: 'it returns false'. Refute it at one input. -/
def pipeShutsWrong : ChangeSpec := { name := "pipeShuts", fn := fun _ => fun
  | [d1, d2] => { results := [.lit (.bool false)], args := [d1, d2] }
  | _ => none }
def PipeShutsWrongFalsely : Prop := pipeShutsRow.holds Try.pinned (OpenSpec.ofChange pipeShutsWrong)

/- THE SECOND FORM. 'bulk': how many values and letters a reading holds, each counted each time it is reached (what is shared counts as often as it is met; a slice's spare places count too). A statement '..UptoSaid' is the law's where the arguments, and the package variables that the reading takes, are together of bulk at most 1048576: NARROWER than '..Said'. Prove '..Said' where nothing that the law and all that it calls make is longer than what came in: it says more and counts as full. Else prove '..UptoSaid'. A law counts once. -/
mutual
def uptoBulk {H : Type} : DataW H → Nat
  | .lit (.string bytes) => bytes.length + 1
  | .lit _ => 1
  | .nil => 1
  | .ptr d => uptoBulk d + 1
  | .slice elems spare => uptoBulkAll elems + uptoBulkAll spare + 1
  | .agg parts => uptoBulkAll parts + 1
  | .iface _ d => uptoBulk d + 1
  | .map entries => uptoBulkEntries entries + 1
  | .held _ => 1
def uptoBulkAll {H : Type} : List (DataW H) → Nat
  | [] => 0
  | d :: r => uptoBulk d + uptoBulkAll r
def uptoBulkEntries {H : Type} : List (Lit × DataW H) → Nat
  | [] => 0
  | x :: r => uptoBulkEntry x + uptoBulkEntries r
def uptoBulkEntry {H : Type} : Lit × DataW H → Nat
  | (.string bytes, d) => bytes.length + uptoBulk d + 1
  | (_, d) => uptoBulk d + 1
 end
def uptoSmall : (H : Type) → List (DataW H) → Bool := fun _ ds => decide (uptoBulkAll ds ≤ 1048576)
def OpenSpec.upto (s : _root_.Go.ChangeSpec) : _root_.Go.OpenSpec := { _root_.Go.OpenSpec.ofChange s with cond := some uptoSmall }

/-- 'taskmilllaw.PipeSends', WHERE WHAT IT READS IS OF BULK AT MOST 1048576: true; the input reads as it did. -/
def pipeSendsUptoRow : OpenClaim := { program := "ytconaimaibephaa", sum := "30d9617ba80bdae7564c48d73d1bce09bf5d4df74be920ad1c7ff414400b6d70", func := "taskmill/taskmilllaw.PipeSends", spec := "pipeSends", unfollowed := true, recurses := true, apart := false, narrowed := true }
def PipeSendsUptoSaid : Prop := pipeSendsUptoRow.holds Try.pinned (OpenSpec.upto pipeSendsSpec)

/-- 'taskmilllaw.PipeGets', WHERE WHAT IT READS IS OF BULK AT MOST 1048576: true; the input reads as it did. -/
def pipeGetsUptoRow : OpenClaim := { program := "ytconaimaibephaa", sum := "30d9617ba80bdae7564c48d73d1bce09bf5d4df74be920ad1c7ff414400b6d70", func := "taskmill/taskmilllaw.PipeGets", spec := "pipeGets", unfollowed := true, recurses := true, apart := false, narrowed := true }
def PipeGetsUptoSaid : Prop := pipeGetsUptoRow.holds Try.pinned (OpenSpec.upto pipeGetsSpec)

/-- 'taskmilllaw.PipeOrder', WHERE WHAT IT READS IS OF BULK AT MOST 1048576: true; the input reads as it did. -/
def pipeOrderUptoRow : OpenClaim := { program := "ytconaimaibephaa", sum := "30d9617ba80bdae7564c48d73d1bce09bf5d4df74be920ad1c7ff414400b6d70", func := "taskmill/taskmilllaw.PipeOrder", spec := "pipeOrder", unfollowed := true, recurses := true, apart := false, narrowed := true }
def PipeOrderUptoSaid : Prop := pipeOrderUptoRow.holds Try.pinned (OpenSpec.upto pipeOrderSpec)

/-- 'taskmilllaw.PipeNobody', WHERE WHAT IT READS IS OF BULK AT MOST 1048576: true; the input reads as it did. -/
def pipeNobodyUptoRow : OpenClaim := { program := "ytconaimaibephaa", sum := "30d9617ba80bdae7564c48d73d1bce09bf5d4df74be920ad1c7ff414400b6d70", func := "taskmill/taskmilllaw.PipeNobody", spec := "pipeNobody", unfollowed := true, recurses := true, apart := false, narrowed := true }
def PipeNobodyUptoSaid : Prop := pipeNobodyUptoRow.holds Try.pinned (OpenSpec.upto pipeNobodySpec)

/-- 'taskmilllaw.PipeCloses', WHERE WHAT IT READS IS OF BULK AT MOST 1048576: true; the input reads as it did. -/
def pipeClosesUptoRow : OpenClaim := { program := "ytconaimaibephaa", sum := "30d9617ba80bdae7564c48d73d1bce09bf5d4df74be920ad1c7ff414400b6d70", func := "taskmill/taskmilllaw.PipeCloses", spec := "pipeCloses", unfollowed := true, recurses := true, apart := false, narrowed := true }
def PipeClosesUptoSaid : Prop := pipeClosesUptoRow.holds Try.pinned (OpenSpec.upto pipeClosesSpec)

/-- 'taskmilllaw.PipeTwins', WHERE WHAT IT READS IS OF BULK AT MOST 1048576: true; the input reads as it did. -/
def pipeTwinsUptoRow : OpenClaim := { program := "ytconaimaibephaa", sum := "30d9617ba80bdae7564c48d73d1bce09bf5d4df74be920ad1c7ff414400b6d70", func := "taskmill/taskmilllaw.PipeTwins", spec := "pipeTwins", unfollowed := true, recurses := true, apart := false, narrowed := true }
def PipeTwinsUptoSaid : Prop := pipeTwinsUptoRow.holds Try.pinned (OpenSpec.upto pipeTwinsSpec)

/-- 'taskmilllaw.PipeShuts', WHERE WHAT IT READS IS OF BULK AT MOST 1048576: true; the input reads as it did. -/
def pipeShutsUptoRow : OpenClaim := { program := "ytconaimaibephaa", sum := "30d9617ba80bdae7564c48d73d1bce09bf5d4df74be920ad1c7ff414400b6d70", func := "taskmill/taskmilllaw.PipeShuts", spec := "pipeShuts", unfollowed := true, recurses := true, apart := false, narrowed := true }
def PipeShutsUptoSaid : Prop := pipeShutsUptoRow.holds Try.pinned (OpenSpec.upto pipeShutsSpec)

end Rows
end Go.Proofs.Ytconaimaibephaa
