/-
  No cell of these rows narrows 'for every input' (looked for: loops, veiled, ifaces, maps, wideKeys, modest, calm, conditions, laid).
  DERIVED. THE GIVEN ROWS OF THIS SEAT. 5 by the template 'for every input the law returns true; each argument reads behind the call as it read before'; 0 by the template 'total and deterministic' (their statements: YthknjjkldflbaaaTotals.lean).
  GIVEN WITH THE SEED: the statements are not yours to turn. If you find one false, say at which input.
  Laid BY PROGRAM, IN A SANDBOX (cutbox-rows.mjs): the forced cells as the released guide's own fill.sh prints them over the translation ad5105bf3e34937e… (all of the seat's roots in one cut). By AI agents, Wed Nov 11 2026. No macro, syntax, notation, axiom, sorry.
-/
import Derived.Test.YthknjjkldflbaaaChecked
import GoSem.Claim
import GoSem.ClaimJoined
import GoSem.ClaimMapViews
import Derived.JoinedTies
import Derived.KernelRfl
namespace Go.Proofs.Ythknjjkldflbaaa
/- THE CELL 'sum', in the pinned program and in every row, IS THE sha256 OF THE DUMP (.gsa) THAT YthknjjkldflbaaaProg.lean LOADS. Nothing in Lean hashes anything: it is a label: what it is worth is what the hold of that sum in a sandbox is worth. -/
noncomputable def Try.pinned : Pinned := { name := "ythknjjkldflbaaa", sum := "ad5105bf3e34937ea6c53a67f54294b376ccdd0312b76056f2dfa23d41179c42", checked := Try.checked }
namespace Rows
def none {H : Type} : Left H := { results := [], args := [] }

/-- 'taskmilllaw.LockLeaves': WHATEVER THE INPUT: true; the input reads as it did. -/
def lockLeavesSpec : ChangeSpec := { name := "lockLeaves", fn := fun _ => fun
  | [d1, d2, d3] => { results := [.lit (.bool true)], args := [d1, d2, d3] }
  | _ => none }
def lockLeavesRow : OpenClaim := { program := "ythknjjkldflbaaa", sum := "ad5105bf3e34937ea6c53a67f54294b376ccdd0312b76056f2dfa23d41179c42", func := "taskmill/taskmilllaw.LockLeaves", spec := "lockLeaves", unfollowed := true, recurses := true, apart := false }
def LockLeavesSaid : Prop := lockLeavesRow.holds Try.pinned (OpenSpec.ofChange lockLeavesSpec)

/-- ITS FALSE NEIGHBOUR: 'it returns false'. Refute it at one input. -/
def lockLeavesWrong : ChangeSpec := { name := "lockLeaves", fn := fun _ => fun
  | [d1, d2, d3] => { results := [.lit (.bool false)], args := [d1, d2, d3] }
  | _ => none }
def LockLeavesWrongFalsely : Prop := lockLeavesRow.holds Try.pinned (OpenSpec.ofChange lockLeavesWrong)

/-- 'taskmilllaw.LockEnters': WHATEVER THE INPUT: true; the input reads as it did. -/
def lockEntersSpec : ChangeSpec := { name := "lockEnters", fn := fun _ => fun
  | [d1, d2, d3, d4] => { results := [.lit (.bool true)], args := [d1, d2, d3, d4] }
  | _ => none }
def lockEntersRow : OpenClaim := { program := "ythknjjkldflbaaa", sum := "ad5105bf3e34937ea6c53a67f54294b376ccdd0312b76056f2dfa23d41179c42", func := "taskmill/taskmilllaw.LockEnters", spec := "lockEnters", unfollowed := true, recurses := true, apart := false }
def LockEntersSaid : Prop := lockEntersRow.holds Try.pinned (OpenSpec.ofChange lockEntersSpec)

/-- ITS FALSE NEIGHBOUR: 'it returns false'. Refute it at one input. -/
def lockEntersWrong : ChangeSpec := { name := "lockEnters", fn := fun _ => fun
  | [d1, d2, d3, d4] => { results := [.lit (.bool false)], args := [d1, d2, d3, d4] }
  | _ => none }
def LockEntersWrongFalsely : Prop := lockEntersRow.holds Try.pinned (OpenSpec.ofChange lockEntersWrong)

/-- 'taskmilllaw.LockAlone': WHATEVER THE INPUT: true; the input reads as it did. -/
def lockAloneSpec : ChangeSpec := { name := "lockAlone", fn := fun _ => fun
  | [d] => { results := [.lit (.bool true)], args := [d] }
  | _ => none }
def lockAloneRow : OpenClaim := { program := "ythknjjkldflbaaa", sum := "ad5105bf3e34937ea6c53a67f54294b376ccdd0312b76056f2dfa23d41179c42", func := "taskmill/taskmilllaw.LockAlone", spec := "lockAlone", unfollowed := true, recurses := true, apart := false }
def LockAloneSaid : Prop := lockAloneRow.holds Try.pinned (OpenSpec.ofChange lockAloneSpec)

/-- ITS FALSE NEIGHBOUR: 'it returns false'. Refute it at one input. -/
def lockAloneWrong : ChangeSpec := { name := "lockAlone", fn := fun _ => fun
  | [d] => { results := [.lit (.bool false)], args := [d] }
  | _ => none }
def LockAloneWrongFalsely : Prop := lockAloneRow.holds Try.pinned (OpenSpec.ofChange lockAloneWrong)

/-- 'taskmilllaw.LockMutex': WHATEVER THE INPUT: true; the input reads as it did. -/
def lockMutexSpec : ChangeSpec := { name := "lockMutex", fn := fun _ => fun
  | [d] => { results := [.lit (.bool true)], args := [d] }
  | _ => none }
def lockMutexRow : OpenClaim := { program := "ythknjjkldflbaaa", sum := "ad5105bf3e34937ea6c53a67f54294b376ccdd0312b76056f2dfa23d41179c42", func := "taskmill/taskmilllaw.LockMutex", spec := "lockMutex", unfollowed := true, recurses := true, apart := false }
def LockMutexSaid : Prop := lockMutexRow.holds Try.pinned (OpenSpec.ofChange lockMutexSpec)

/-- ITS FALSE NEIGHBOUR: 'it returns false'. Refute it at one input. -/
def lockMutexWrong : ChangeSpec := { name := "lockMutex", fn := fun _ => fun
  | [d] => { results := [.lit (.bool false)], args := [d] }
  | _ => none }
def LockMutexWrongFalsely : Prop := lockMutexRow.holds Try.pinned (OpenSpec.ofChange lockMutexWrong)

/-- 'taskmilllaw.LockShares': WHATEVER THE INPUT: true; the input reads as it did. -/
def lockSharesSpec : ChangeSpec := { name := "lockShares", fn := fun _ => fun
  | [d1, d2] => { results := [.lit (.bool true)], args := [d1, d2] }
  | _ => none }
def lockSharesRow : OpenClaim := { program := "ythknjjkldflbaaa", sum := "ad5105bf3e34937ea6c53a67f54294b376ccdd0312b76056f2dfa23d41179c42", func := "taskmill/taskmilllaw.LockShares", spec := "lockShares", unfollowed := true, recurses := true, apart := false }
def LockSharesSaid : Prop := lockSharesRow.holds Try.pinned (OpenSpec.ofChange lockSharesSpec)

/-- ITS FALSE NEIGHBOUR: 'it returns false'. Refute it at one input. -/
def lockSharesWrong : ChangeSpec := { name := "lockShares", fn := fun _ => fun
  | [d1, d2] => { results := [.lit (.bool false)], args := [d1, d2] }
  | _ => none }
def LockSharesWrongFalsely : Prop := lockSharesRow.holds Try.pinned (OpenSpec.ofChange lockSharesWrong)

/- THE SECOND FORM. 'bulk': how many values and letters a reading holds, each counted each time it is reached (what is shared counts as often as it is met; a slice's spare places count too). A statement '..UptoSaid' is the law's where the arguments, and the package variables that the reading takes, are together of bulk at most 1048576: NARROWER than '..Said'. Prove '..Said' where nothing that the law and all that it calls make is longer than what came in: it says more and counts as full. Else prove '..UptoSaid'. A law counts once. -/
mutual
def uptoBulk {H : Type} : DataW H → Nat
  | .lit (.string bytes) => bytes.length + 1
  | .lit _ => 1
  | .nil => 1
  | .ptr d => uptoBulk d + 1
  | .slice elems spare => uptoBulkAll elems + uptoBulkAll spare + 1
  | .agg parts => uptoBulkAll parts + 1
  | .iface _ d => uptoBulk d + 1
  | .map entries => uptoBulkEntries entries + 1
  | .held _ => 1
def uptoBulkAll {H : Type} : List (DataW H) → Nat
  | [] => 0
  | d :: r => uptoBulk d + uptoBulkAll r
def uptoBulkEntries {H : Type} : List (Lit × DataW H) → Nat
  | [] => 0
  | x :: r => uptoBulkEntry x + uptoBulkEntries r
def uptoBulkEntry {H : Type} : Lit × DataW H → Nat
  | (.string bytes, d) => bytes.length + uptoBulk d + 1
  | (_, d) => uptoBulk d + 1
 end
def uptoSmall : (H : Type) → List (DataW H) → Bool := fun _ ds => decide (uptoBulkAll ds ≤ 1048576)
def OpenSpec.upto (s : _root_.Go.ChangeSpec) : _root_.Go.OpenSpec := { _root_.Go.OpenSpec.ofChange s with cond := some uptoSmall }

/-- 'taskmilllaw.LockLeaves', WHERE WHAT IT READS IS OF BULK AT MOST 1048576: true; the input reads as it did. -/
def lockLeavesUptoRow : OpenClaim := { program := "ythknjjkldflbaaa", sum := "ad5105bf3e34937ea6c53a67f54294b376ccdd0312b76056f2dfa23d41179c42", func := "taskmill/taskmilllaw.LockLeaves", spec := "lockLeaves", unfollowed := true, recurses := true, apart := false, narrowed := true }
def LockLeavesUptoSaid : Prop := lockLeavesUptoRow.holds Try.pinned (OpenSpec.upto lockLeavesSpec)

/-- 'taskmilllaw.LockEnters', WHERE WHAT IT READS IS OF BULK AT MOST 1048576: true; the input reads as it did. -/
def lockEntersUptoRow : OpenClaim := { program := "ythknjjkldflbaaa", sum := "ad5105bf3e34937ea6c53a67f54294b376ccdd0312b76056f2dfa23d41179c42", func := "taskmill/taskmilllaw.LockEnters", spec := "lockEnters", unfollowed := true, recurses := true, apart := false, narrowed := true }
def LockEntersUptoSaid : Prop := lockEntersUptoRow.holds Try.pinned (OpenSpec.upto lockEntersSpec)

/-- 'taskmilllaw.LockAlone', WHERE WHAT IT READS IS OF BULK AT MOST 1048576: true; the input reads as it did. -/
def lockAloneUptoRow : OpenClaim := { program := "ythknjjkldflbaaa", sum := "ad5105bf3e34937ea6c53a67f54294b376ccdd0312b76056f2dfa23d41179c42", func := "taskmill/taskmilllaw.LockAlone", spec := "lockAlone", unfollowed := true, recurses := true, apart := false, narrowed := true }
def LockAloneUptoSaid : Prop := lockAloneUptoRow.holds Try.pinned (OpenSpec.upto lockAloneSpec)

/-- 'taskmilllaw.LockMutex', WHERE WHAT IT READS IS OF BULK AT MOST 1048576: true; the input reads as it did. -/
def lockMutexUptoRow : OpenClaim := { program := "ythknjjkldflbaaa", sum := "ad5105bf3e34937ea6c53a67f54294b376ccdd0312b76056f2dfa23d41179c42", func := "taskmill/taskmilllaw.LockMutex", spec := "lockMutex", unfollowed := true, recurses := true, apart := false, narrowed := true }
def LockMutexUptoSaid : Prop := lockMutexUptoRow.holds Try.pinned (OpenSpec.upto lockMutexSpec)

/-- 'taskmilllaw.LockShares', WHERE WHAT IT READS IS OF BULK AT MOST 1048576: true; the input reads as it did. -/
def lockSharesUptoRow : OpenClaim := { program := "ythknjjkldflbaaa", sum := "ad5105bf3e34937ea6c53a67f54294b376ccdd0312b76056f2dfa23d41179c42", func := "taskmill/taskmilllaw.LockShares", spec := "lockShares", unfollowed := true, recurses := true, apart := false, narrowed := true }
def LockSharesUptoSaid : Prop := lockSharesUptoRow.holds Try.pinned (OpenSpec.upto lockSharesSpec)

end Rows
end Go.Proofs.Ythknjjkldflbaaa
