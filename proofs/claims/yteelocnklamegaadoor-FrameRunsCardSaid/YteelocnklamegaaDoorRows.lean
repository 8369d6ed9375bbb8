/-
  NARROWER THAN 'FOR EVERY INPUT', by the rows' own cells (each row's printed sentence says how): FrameRuns: laid · FrameLate: laid · FrameCatches: laid · FrameNests: laid · FrameLastPanic: laid.
  DERIVED. THE GIVEN ROWS OF THIS SEAT. 5 by the template 'for every input the law returns true; each argument reads behind the call as it read before'; 0 by the template 'total and deterministic' (their statements: YteelocnklamegaaDoorTotals.lean).
  GIVEN WITH THE SEED: the statements are not yours to turn. If you find one false, say at which input.
  Laid BY PROGRAM, IN A SANDBOX (cutbox-rows.mjs): the forced cells as the released guide's own fill.sh prints them over the translation 8b0fc6fd19b0d265… (all of the seat's roots in one cut). By AI agents, Wed Nov 11 2026. No macro, syntax, notation, axiom, sorry.
-/
import Derived.Test.YteelocnklamegaaDoorChecked
import GoSem.Claim
import GoSem.ClaimJoined
import GoSem.ClaimMapViews
import Derived.JoinedTies
import Derived.KernelRfl
namespace Go.Proofs.YteelocnklamegaaDoor
/- THE CELL 'sum', in the pinned program and in every row, IS THE sha256 OF THE DUMP (.gsa) THAT YteelocnklamegaaDoorProg.lean LOADS. Nothing in Lean hashes anything: it is a label: what it is worth is what the hold of that sum in a sandbox is worth. -/
noncomputable def Tryd.pinned : Pinned := { name := "yteelocnklamegaadoor", sum := "8b0fc6fd19b0d265b809a71c62945c34974c57ca1f6326d41b1088babdf46762", checked := Tryd.checked }
namespace Rows
def none {H : Type} : Left H := { results := [], args := [] }

/- WHAT THE LISTED PACKAGE-LEVEL VARIABLES READ AS WHEN THE CALL BEGINS. Each datum BY PROGRAM (the guide's laid-datum.mjs) off the statement by which the dump's own 'gosem.cut.vars' lays the variable. In a bare row this is a premise. The card (YteelocnklamegaaDoorCards.lean) ties it to the program's text. -/
def laid_errors_errorType {H : Type} : DataW H := .iface "internal/reflectlite.rtype" (.agg [.ptr (.lit (.string [101, 114, 114, 111, 114]))])
def laid_taskmill_frame_errTired {H : Type} : DataW H := .iface "*errors.errorString" (.ptr (.agg [.lit (.string [116, 111, 111, 32, 109, 117, 99, 104])]))

/-- 'taskmilllaw.FrameRuns': WHATEVER THE INPUT: true; the input reads as it did. -/
def frameRunsSpec : ChangeSpec := { name := "frameRuns", fn := fun _ => fun
  | [d] => { results := [.lit (.bool true)], args := [d] }
  | _ => none }
def frameRunsRow : OpenClaim := { program := "yteelocnklamegaadoor", sum := "8b0fc6fd19b0d265b809a71c62945c34974c57ca1f6326d41b1088babdf46762", func := "taskmill/taskmilllaw.FrameRuns", spec := "frameRuns", inPlace := ["internal/reflectlite.ValueOf", "(internal/reflectlite.Value).Type", "(internal/reflectlite.Value).IsNil", "internal/reflectlite.TypeOf", "(internal/reflectlite.Value).Elem", "(internal/reflectlite.Value).Set"], unfollowed := true, recurses := true, named := ["taskmill/frame.errTired", "errors.errorType"], apart := false, laid := [("errors.errorType", laid_errors_errorType), ("taskmill/frame.errTired", laid_taskmill_frame_errTired)] }
def FrameRunsSaid : Prop := frameRunsRow.holds Tryd.pinned (OpenSpec.ofChange frameRunsSpec)

/-- ITS FALSE NEIGHBOUR: 'it returns false'. Refute it at one input. -/
def frameRunsWrong : ChangeSpec := { name := "frameRuns", fn := fun _ => fun
  | [d] => { results := [.lit (.bool false)], args := [d] }
  | _ => none }
def FrameRunsWrongFalsely : Prop := frameRunsRow.holds Tryd.pinned (OpenSpec.ofChange frameRunsWrong)

/-- 'taskmilllaw.FrameLate': WHATEVER THE INPUT: true; the input reads as it did. -/
def frameLateSpec : ChangeSpec := { name := "frameLate", fn := fun _ => fun
  | [d1, d2] => { results := [.lit (.bool true)], args := [d1, d2] }
  | _ => none }
def frameLateRow : OpenClaim := { program := "yteelocnklamegaadoor", sum := "8b0fc6fd19b0d265b809a71c62945c34974c57ca1f6326d41b1088babdf46762", func := "taskmill/taskmilllaw.FrameLate", spec := "frameLate", inPlace := ["internal/reflectlite.ValueOf", "(internal/reflectlite.Value).Type", "(internal/reflectlite.Value).IsNil", "internal/reflectlite.TypeOf", "(internal/reflectlite.Value).Elem", "(internal/reflectlite.Value).Set"], unfollowed := true, recurses := true, named := ["taskmill/frame.errTired", "errors.errorType"], apart := false, laid := [("errors.errorType", laid_errors_errorType), ("taskmill/frame.errTired", laid_taskmill_frame_errTired)] }
def FrameLateSaid : Prop := frameLateRow.holds Tryd.pinned (OpenSpec.ofChange frameLateSpec)

/-- ITS FALSE NEIGHBOUR: 'it returns false'. Refute it at one input. -/
def frameLateWrong : ChangeSpec := { name := "frameLate", fn := fun _ => fun
  | [d1, d2] => { results := [.lit (.bool false)], args := [d1, d2] }
  | _ => none }
def FrameLateWrongFalsely : Prop := frameLateRow.holds Tryd.pinned (OpenSpec.ofChange frameLateWrong)

/-- 'taskmilllaw.FrameCatches': WHATEVER THE INPUT: true; the input reads as it did. -/
def frameCatchesSpec : ChangeSpec := { name := "frameCatches", fn := fun _ => fun
  | [d1, d2, d3] => { results := [.lit (.bool true)], args := [d1, d2, d3] }
  | _ => none }
def frameCatchesRow : OpenClaim := { program := "yteelocnklamegaadoor", sum := "8b0fc6fd19b0d265b809a71c62945c34974c57ca1f6326d41b1088babdf46762", func := "taskmill/taskmilllaw.FrameCatches", spec := "frameCatches", inPlace := ["internal/reflectlite.ValueOf", "(internal/reflectlite.Value).Type", "(internal/reflectlite.Value).IsNil", "internal/reflectlite.TypeOf", "(internal/reflectlite.Value).Elem", "(internal/reflectlite.Value).Set"], unfollowed := true, recurses := true, named := ["taskmill/frame.errTired", "errors.errorType"], apart := false, laid := [("errors.errorType", laid_errors_errorType), ("taskmill/frame.errTired", laid_taskmill_frame_errTired)] }
def FrameCatchesSaid : Prop := frameCatchesRow.holds Tryd.pinned (OpenSpec.ofChange frameCatchesSpec)

/-- ITS FALSE NEIGHBOUR: 'it returns false'. Refute it at one input. -/
def frameCatchesWrong : ChangeSpec := { name := "frameCatches", fn := fun _ => fun
  | [d1, d2, d3] => { results := [.lit (.bool false)], args := [d1, d2, d3] }
  | _ => none }
def FrameCatchesWrongFalsely : Prop := frameCatchesRow.holds Tryd.pinned (OpenSpec.ofChange frameCatchesWrong)

/-- 'taskmilllaw.FrameNests': WHATEVER THE INPUT: true; the input reads as it did. -/
def frameNestsSpec : ChangeSpec := { name := "frameNests", fn := fun _ => fun
  | [d] => { results := [.lit (.bool true)], args := [d] }
  | _ => none }
def frameNestsRow : OpenClaim := { program := "yteelocnklamegaadoor", sum := "8b0fc6fd19b0d265b809a71c62945c34974c57ca1f6326d41b1088babdf46762", func := "taskmill/taskmilllaw.FrameNests", spec := "frameNests", inPlace := ["internal/reflectlite.ValueOf", "(internal/reflectlite.Value).Type", "(internal/reflectlite.Value).IsNil", "internal/reflectlite.TypeOf", "(internal/reflectlite.Value).Elem", "(internal/reflectlite.Value).Set"], unfollowed := true, recurses := true, named := ["taskmill/frame.errTired", "errors.errorType"], apart := false, laid := [("errors.errorType", laid_errors_errorType), ("taskmill/frame.errTired", laid_taskmill_frame_errTired)] }
def FrameNestsSaid : Prop := frameNestsRow.holds Tryd.pinned (OpenSpec.ofChange frameNestsSpec)

/-- ITS FALSE NEIGHBOUR: 'it returns false'. Refute it at one input. -/
def frameNestsWrong : ChangeSpec := { name := "frameNests", fn := fun _ => fun
  | [d] => { results := [.lit (.bool false)], args := [d] }
  | _ => none }
def FrameNestsWrongFalsely : Prop := frameNestsRow.holds Tryd.pinned (OpenSpec.ofChange frameNestsWrong)

/-- 'taskmilllaw.FrameLastPanic': WHATEVER THE INPUT: true; the input reads as it did. -/
def frameLastPanicSpec : ChangeSpec := { name := "frameLastPanic", fn := fun _ => fun
  | [d1, d2] => { results := [.lit (.bool true)], args := [d1, d2] }
  | _ => none }
def frameLastPanicRow : OpenClaim := { program := "yteelocnklamegaadoor", sum := "8b0fc6fd19b0d265b809a71c62945c34974c57ca1f6326d41b1088babdf46762", func := "taskmill/taskmilllaw.FrameLastPanic", spec := "frameLastPanic", inPlace := ["internal/reflectlite.ValueOf", "(internal/reflectlite.Value).Type", "(internal/reflectlite.Value).IsNil", "internal/reflectlite.TypeOf", "(internal/reflectlite.Value).Elem", "(internal/reflectlite.Value).Set"], unfollowed := true, recurses := true, named := ["taskmill/frame.errTired", "errors.errorType"], apart := false, laid := [("errors.errorType", laid_errors_errorType), ("taskmill/frame.errTired", laid_taskmill_frame_errTired)] }
def FrameLastPanicSaid : Prop := frameLastPanicRow.holds Tryd.pinned (OpenSpec.ofChange frameLastPanicSpec)

/-- ITS FALSE NEIGHBOUR: 'it returns false'. Refute it at one input. -/
def frameLastPanicWrong : ChangeSpec := { name := "frameLastPanic", fn := fun _ => fun
  | [d1, d2] => { results := [.lit (.bool false)], args := [d1, d2] }
  | _ => none }
def FrameLastPanicWrongFalsely : Prop := frameLastPanicRow.holds Tryd.pinned (OpenSpec.ofChange frameLastPanicWrong)

/- THE SECOND FORM. 'bulk': how many values and letters a reading holds, each counted each time it is reached (what is shared counts as often as it is met; a slice's spare places count too). A statement '..UptoSaid' is the law's where the arguments, and the package variables that the reading takes, are together of bulk at most 1048576: NARROWER than '..Said'. Prove '..Said' where nothing that the law and all that it calls make is longer than what came in: it says more and counts as full. Else prove '..UptoSaid'. A law counts once. -/
mutual
def uptoBulk {H : Type} : DataW H → Nat
  | .lit (.string bytes) => bytes.length + 1
  | .lit _ => 1
  | .nil => 1
  | .ptr d => uptoBulk d + 1
  | .slice elems spare => uptoBulkAll elems + uptoBulkAll spare + 1
  | .agg parts => uptoBulkAll parts + 1
  | .iface _ d => uptoBulk d + 1
  | .map entries => uptoBulkEntries entries + 1
  | .held _ => 1
def uptoBulkAll {H : Type} : List (DataW H) → Nat
  | [] => 0
  | d :: r => uptoBulk d + uptoBulkAll r
def uptoBulkEntries {H : Type} : List (Lit × DataW H) → Nat
  | [] => 0
  | x :: r => uptoBulkEntry x + uptoBulkEntries r
def uptoBulkEntry {H : Type} : Lit × DataW H → Nat
  | (.string bytes, d) => bytes.length + uptoBulk d + 1
  | (_, d) => uptoBulk d + 1
 end
def uptoSmall : (H : Type) → List (DataW H) → Bool := fun _ ds => decide (uptoBulkAll ds ≤ 1048576)
def OpenSpec.upto (s : _root_.Go.ChangeSpec) : _root_.Go.OpenSpec := { _root_.Go.OpenSpec.ofChange s with cond := some uptoSmall }

/-- 'taskmilllaw.FrameRuns', WHERE WHAT IT READS IS OF BULK AT MOST 1048576: true; the input reads as it did. -/
def frameRunsUptoRow : OpenClaim := { program := "yteelocnklamegaadoor", sum := "8b0fc6fd19b0d265b809a71c62945c34974c57ca1f6326d41b1088babdf46762", func := "taskmill/taskmilllaw.FrameRuns", spec := "frameRuns", inPlace := ["internal/reflectlite.ValueOf", "(internal/reflectlite.Value).Type", "(internal/reflectlite.Value).IsNil", "internal/reflectlite.TypeOf", "(internal/reflectlite.Value).Elem", "(internal/reflectlite.Value).Set"], unfollowed := true, recurses := true, named := ["taskmill/frame.errTired", "errors.errorType"], apart := false, laid := [("errors.errorType", laid_errors_errorType), ("taskmill/frame.errTired", laid_taskmill_frame_errTired)], narrowed := true }
def FrameRunsUptoSaid : Prop := frameRunsUptoRow.holds Tryd.pinned (OpenSpec.upto frameRunsSpec)

/-- 'taskmilllaw.FrameLate', WHERE WHAT IT READS IS OF BULK AT MOST 1048576: true; the input reads as it did. -/
def frameLateUptoRow : OpenClaim := { program := "yteelocnklamegaadoor", sum := "8b0fc6fd19b0d265b809a71c62945c34974c57ca1f6326d41b1088babdf46762", func := "taskmill/taskmilllaw.FrameLate", spec := "frameLate", inPlace := ["internal/reflectlite.ValueOf", "(internal/reflectlite.Value).Type", "(internal/reflectlite.Value).IsNil", "internal/reflectlite.TypeOf", "(internal/reflectlite.Value).Elem", "(internal/reflectlite.Value).Set"], unfollowed := true, recurses := true, named := ["taskmill/frame.errTired", "errors.errorType"], apart := false, laid := [("errors.errorType", laid_errors_errorType), ("taskmill/frame.errTired", laid_taskmill_frame_errTired)], narrowed := true }
def FrameLateUptoSaid : Prop := frameLateUptoRow.holds Tryd.pinned (OpenSpec.upto frameLateSpec)

/-- 'taskmilllaw.FrameCatches', WHERE WHAT IT READS IS OF BULK AT MOST 1048576: true; the input reads as it did. -/
def frameCatchesUptoRow : OpenClaim := { program := "yteelocnklamegaadoor", sum := "8b0fc6fd19b0d265b809a71c62945c34974c57ca1f6326d41b1088babdf46762", func := "taskmill/taskmilllaw.FrameCatches", spec := "frameCatches", inPlace := ["internal/reflectlite.ValueOf", "(internal/reflectlite.Value).Type", "(internal/reflectlite.Value).IsNil", "internal/reflectlite.TypeOf", "(internal/reflectlite.Value).Elem", "(internal/reflectlite.Value).Set"], unfollowed := true, recurses := true, named := ["taskmill/frame.errTired", "errors.errorType"], apart := false, laid := [("errors.errorType", laid_errors_errorType), ("taskmill/frame.errTired", laid_taskmill_frame_errTired)], narrowed := true }
def FrameCatchesUptoSaid : Prop := frameCatchesUptoRow.holds Tryd.pinned (OpenSpec.upto frameCatchesSpec)

/-- 'taskmilllaw.FrameNests', WHERE WHAT IT READS IS OF BULK AT MOST 1048576: true; the input reads as it did. -/
def frameNestsUptoRow : OpenClaim := { program := "yteelocnklamegaadoor", sum := "8b0fc6fd19b0d265b809a71c62945c34974c57ca1f6326d41b1088babdf46762", func := "taskmill/taskmilllaw.FrameNests", spec := "frameNests", inPlace := ["internal/reflectlite.ValueOf", "(internal/reflectlite.Value).Type", "(internal/reflectlite.Value).IsNil", "internal/reflectlite.TypeOf", "(internal/reflectlite.Value).Elem", "(internal/reflectlite.Value).Set"], unfollowed := true, recurses := true, named := ["taskmill/frame.errTired", "errors.errorType"], apart := false, laid := [("errors.errorType", laid_errors_errorType), ("taskmill/frame.errTired", laid_taskmill_frame_errTired)], narrowed := true }
def FrameNestsUptoSaid : Prop := frameNestsUptoRow.holds Tryd.pinned (OpenSpec.upto frameNestsSpec)

/-- 'taskmilllaw.FrameLastPanic', WHERE WHAT IT READS IS OF BULK AT MOST 1048576: true; the input reads as it did. -/
def frameLastPanicUptoRow : OpenClaim := { program := "yteelocnklamegaadoor", sum := "8b0fc6fd19b0d265b809a71c62945c34974c57ca1f6326d41b1088babdf46762", func := "taskmill/taskmilllaw.FrameLastPanic", spec := "frameLastPanic", inPlace := ["internal/reflectlite.ValueOf", "(internal/reflectlite.Value).Type", "(internal/reflectlite.Value).IsNil", "internal/reflectlite.TypeOf", "(internal/reflectlite.Value).Elem", "(internal/reflectlite.Value).Set"], unfollowed := true, recurses := true, named := ["taskmill/frame.errTired", "errors.errorType"], apart := false, laid := [("errors.errorType", laid_errors_errorType), ("taskmill/frame.errTired", laid_taskmill_frame_errTired)], narrowed := true }
def FrameLastPanicUptoSaid : Prop := frameLastPanicUptoRow.holds Tryd.pinned (OpenSpec.upto frameLastPanicSpec)

end Rows
end Go.Proofs.YteelocnklamegaaDoor
