/-
  No cell of these rows narrows 'for every input' (looked for: loops, veiled, ifaces, maps, wideKeys, modest, calm, conditions, laid).
  DERIVED. THE GIVEN ROWS OF THIS SEAT. 3 by the template 'for every input the law returns true; each argument reads behind the call as it read before'; 0 by the template 'total and deterministic' (their statements: YtbglmhcpfjmadaaTotals.lean).
  GIVEN WITH THE SEED: the statements are not yours to turn. If you find one false, say at which input.
  Laid BY PROGRAM, IN A SANDBOX (cutbox-rows.mjs): the forced cells as the released guide's own fill.sh prints them over the translation 1dbfaf1808b455fe… (all of the seat's roots in one cut). By AI agents, Wed Nov 11 2026. No macro, syntax, notation, axiom, sorry.
-/
import Derived.Test.YtbglmhcpfjmadaaChecked
import GoSem.Claim
import GoSem.ClaimJoined
import GoSem.ClaimMapViews
import Derived.JoinedTies
import Derived.KernelRfl
namespace Go.Proofs.Ytbglmhcpfjmadaa
/- THE CELL 'sum', in the pinned program and in every row, IS THE sha256 OF THE DUMP (.gsa) THAT YtbglmhcpfjmadaaProg.lean LOADS. Nothing in Lean hashes anything: it is a label: what it is worth is what the hold of that sum in a sandbox is worth. -/
noncomputable def Try.pinned : Pinned := { name := "ytbglmhcpfjmadaa", sum := "1dbfaf1808b455fed460cbd917fa6a51edbcf2d7c7f51252e97a54ccd677dbf2", checked := Try.checked }
namespace Rows
def none {H : Type} : Left H := { results := [], args := [] }

/-- 'taskmilllaw.PollWaits': WHATEVER THE INPUT: true; the input reads as it did. -/
def pollWaitsSpec : ChangeSpec := { name := "pollWaits", fn := fun _ => fun
  | [d1, d2, d3, d4] => { results := [.lit (.bool true)], args := [d1, d2, d3, d4] }
  | _ => none }
def pollWaitsRow : OpenClaim := { program := "ytbglmhcpfjmadaa", sum := "1dbfaf1808b455fed460cbd917fa6a51edbcf2d7c7f51252e97a54ccd677dbf2", func := "taskmill/taskmilllaw.PollWaits", spec := "pollWaits", apart := false }
def PollWaitsSaid : Prop := pollWaitsRow.holds Try.pinned (OpenSpec.ofChange pollWaitsSpec)

/-- ITS FALSE NEIGHBOUR: 'it returns false'. Refute it at one input. -/
def pollWaitsWrong : ChangeSpec := { name := "pollWaits", fn := fun _ => fun
  | [d1, d2, d3, d4] => { results := [.lit (.bool false)], args := [d1, d2, d3, d4] }
  | _ => none }
def PollWaitsWrongFalsely : Prop := pollWaitsRow.holds Try.pinned (OpenSpec.ofChange pollWaitsWrong)

/-- 'taskmilllaw.PollTimes': WHATEVER THE INPUT: true; the input reads as it did. -/
def pollTimesSpec : ChangeSpec := { name := "pollTimes", fn := fun _ => fun
  | [d1, d2, d3, d4] => { results := [.lit (.bool true)], args := [d1, d2, d3, d4] }
  | _ => none }
def pollTimesRow : OpenClaim := { program := "ytbglmhcpfjmadaa", sum := "1dbfaf1808b455fed460cbd917fa6a51edbcf2d7c7f51252e97a54ccd677dbf2", func := "taskmill/taskmilllaw.PollTimes", spec := "pollTimes", apart := false }
def PollTimesSaid : Prop := pollTimesRow.holds Try.pinned (OpenSpec.ofChange pollTimesSpec)

/-- ITS FALSE NEIGHBOUR: 'it returns false'. Refute it at one input. -/
def pollTimesWrong : ChangeSpec := { name := "pollTimes", fn := fun _ => fun
  | [d1, d2, d3, d4] => { results := [.lit (.bool false)], args := [d1, d2, d3, d4] }
  | _ => none }
def PollTimesWrongFalsely : Prop := pollTimesRow.holds Try.pinned (OpenSpec.ofChange pollTimesWrong)

/-- 'taskmilllaw.PollLosesNone': WHATEVER THE INPUT: true; the input reads as it did. -/
def pollLosesNoneSpec : ChangeSpec := { name := "pollLosesNone", fn := fun _ => fun
  | [d] => { results := [.lit (.bool true)], args := [d] }
  | _ => none }
def pollLosesNoneRow : OpenClaim := { program := "ytbglmhcpfjmadaa", sum := "1dbfaf1808b455fed460cbd917fa6a51edbcf2d7c7f51252e97a54ccd677dbf2", func := "taskmill/taskmilllaw.PollLosesNone", spec := "pollLosesNone", apart := false }
def PollLosesNoneSaid : Prop := pollLosesNoneRow.holds Try.pinned (OpenSpec.ofChange pollLosesNoneSpec)

/-- ITS FALSE NEIGHBOUR: 'it returns false'. Refute it at one input. -/
def pollLosesNoneWrong : ChangeSpec := { name := "pollLosesNone", fn := fun _ => fun
  | [d] => { results := [.lit (.bool false)], args := [d] }
  | _ => none }
def PollLosesNoneWrongFalsely : Prop := pollLosesNoneRow.holds Try.pinned (OpenSpec.ofChange pollLosesNoneWrong)

/- THE SECOND FORM. 'bulk': how many values and letters a reading holds, each counted each time it is reached (what is shared counts as often as it is met; a slice's spare places count too). A statement '..UptoSaid' is the law's where the arguments, and the package variables that the reading takes, are together of bulk at most 1048576: NARROWER than '..Said'. Prove '..Said' where nothing that the law and all that it calls make is longer than what came in: it says more and counts as full. Else prove '..UptoSaid'. A law counts once. -/
mutual
def uptoBulk {H : Type} : DataW H → Nat
  | .lit (.string bytes) => bytes.length + 1
  | .lit _ => 1
  | .nil => 1
  | .ptr d => uptoBulk d + 1
  | .slice elems spare => uptoBulkAll elems + uptoBulkAll spare + 1
  | .agg parts => uptoBulkAll parts + 1
  | .iface _ d => uptoBulk d + 1
  | .map entries => uptoBulkEntries entries + 1
  | .held _ => 1
def uptoBulkAll {H : Type} : List (DataW H) → Nat
  | [] => 0
  | d :: r => uptoBulk d + uptoBulkAll r
def uptoBulkEntries {H : Type} : List (Lit × DataW H) → Nat
  | [] => 0
  | x :: r => uptoBulkEntry x + uptoBulkEntries r
def uptoBulkEntry {H : Type} : Lit × DataW H → Nat
  | (.string bytes, d) => bytes.length + uptoBulk d + 1
  | (_, d) => uptoBulk d + 1
 end
def uptoSmall : (H : Type) → List (DataW H) → Bool := fun _ ds => decide (uptoBulkAll ds ≤ 1048576)
def OpenSpec.upto (s : _root_.Go.ChangeSpec) : _root_.Go.OpenSpec := { _root_.Go.OpenSpec.ofChange s with cond := some uptoSmall }

/-- 'taskmilllaw.PollWaits', WHERE WHAT IT READS IS OF BULK AT MOST 1048576: true; the input reads as it did. -/
def pollWaitsUptoRow : OpenClaim := { program := "ytbglmhcpfjmadaa", sum := "1dbfaf1808b455fed460cbd917fa6a51edbcf2d7c7f51252e97a54ccd677dbf2", func := "taskmill/taskmilllaw.PollWaits", spec := "pollWaits", apart := false, narrowed := true }
def PollWaitsUptoSaid : Prop := pollWaitsUptoRow.holds Try.pinned (OpenSpec.upto pollWaitsSpec)

/-- 'taskmilllaw.PollTimes', WHERE WHAT IT READS IS OF BULK AT MOST 1048576: true; the input reads as it did. -/
def pollTimesUptoRow : OpenClaim := { program := "ytbglmhcpfjmadaa", sum := "1dbfaf1808b455fed460cbd917fa6a51edbcf2d7c7f51252e97a54ccd677dbf2", func := "taskmill/taskmilllaw.PollTimes", spec := "pollTimes", apart := false, narrowed := true }
def PollTimesUptoSaid : Prop := pollTimesUptoRow.holds Try.pinned (OpenSpec.upto pollTimesSpec)

/-- 'taskmilllaw.PollLosesNone', WHERE WHAT IT READS IS OF BULK AT MOST 1048576: true; the input reads as it did. -/
def pollLosesNoneUptoRow : OpenClaim := { program := "ytbglmhcpfjmadaa", sum := "1dbfaf1808b455fed460cbd917fa6a51edbcf2d7c7f51252e97a54ccd677dbf2", func := "taskmill/taskmilllaw.PollLosesNone", spec := "pollLosesNone", apart := false, narrowed := true }
def PollLosesNoneUptoSaid : Prop := pollLosesNoneUptoRow.holds Try.pinned (OpenSpec.upto pollLosesNoneSpec)

end Rows
end Go.Proofs.Ytbglmhcpfjmadaa
