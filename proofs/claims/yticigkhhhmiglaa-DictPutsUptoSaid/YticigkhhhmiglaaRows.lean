/-
  No cell of these rows narrows 'for every input' (looked for: loops, veiled, ifaces, maps, wideKeys, modest, calm, conditions, laid).
  DERIVED. THE GIVEN ROWS OF THIS SEAT. 5 by the template 'for every input the law returns true; each argument reads behind the call as it read before'; 0 by the template 'total and deterministic' (their statements: YticigkhhhmiglaaTotals.lean).
  GIVEN WITH THE SEED: the statements are not yours to turn. If you find one false, say at which input.
  Laid BY PROGRAM, IN A SANDBOX (cutbox-rows.mjs): the forced cells as the released guide's own fill.sh prints them over the translation 5582b7683535669d… (all of the seat's roots in one cut). By AI agents, Wed Nov 11 2026. No macro, syntax, notation, axiom, sorry.
-/
import Derived.Test.YticigkhhhmiglaaChecked
import GoSem.Claim
import GoSem.ClaimJoined
import GoSem.ClaimMapViews
import Derived.JoinedTies
import Derived.KernelRfl
namespace Go.Proofs.Yticigkhhhmiglaa
/- THE CELL 'sum', in the pinned program and in every row, IS THE sha256 OF THE DUMP (.gsa) THAT YticigkhhhmiglaaProg.lean LOADS. Nothing in Lean hashes anything: it is a label: what it is worth is what the hold of that sum in a sandbox is worth. -/
noncomputable def Try.pinned : Pinned := { name := "yticigkhhhmiglaa", sum := "5582b7683535669dff1256a03ad4ec9a632c00a675970fd2c790e64a2f1422a8", checked := Try.checked }
namespace Rows
def none {H : Type} : Left H := { results := [], args := [] }

/-- 'taskmilllaw.DictOrders': WHATEVER THE INPUT: true; the input reads as it did. -/
def dictOrdersSpec : ChangeSpec := { name := "dictOrders", fn := fun _ => fun
  | [d1, d2] => { results := [.lit (.bool true)], args := [d1, d2] }
  | _ => none }
def dictOrdersRow : OpenClaim := { program := "yticigkhhhmiglaa", sum := "5582b7683535669dff1256a03ad4ec9a632c00a675970fd2c790e64a2f1422a8", func := "taskmill/taskmilllaw.DictOrders", spec := "dictOrders", inPlace := ["slices.overlaps[taskmill/api.Item]"], unfollowed := true, recurses := true, apart := false }
def DictOrdersSaid : Prop := dictOrdersRow.holds Try.pinned (OpenSpec.ofChange dictOrdersSpec)

/-- ITS FALSE NEIGHBOUR: 'it returns false'. Refute it at one input. -/
def dictOrdersWrong : ChangeSpec := { name := "dictOrders", fn := fun _ => fun
  | [d1, d2] => { results := [.lit (.bool false)], args := [d1, d2] }
  | _ => none }
def DictOrdersWrongFalsely : Prop := dictOrdersRow.holds Try.pinned (OpenSpec.ofChange dictOrdersWrong)

/-- 'taskmilllaw.DictDense': WHATEVER THE INPUT: true; the input reads as it did. -/
def dictDenseSpec : ChangeSpec := { name := "dictDense", fn := fun _ => fun
  | [d] => { results := [.lit (.bool true)], args := [d] }
  | _ => none }
def dictDenseRow : OpenClaim := { program := "yticigkhhhmiglaa", sum := "5582b7683535669dff1256a03ad4ec9a632c00a675970fd2c790e64a2f1422a8", func := "taskmill/taskmilllaw.DictDense", spec := "dictDense", inPlace := ["slices.overlaps[taskmill/api.Item]"], unfollowed := true, recurses := true, apart := false }
def DictDenseSaid : Prop := dictDenseRow.holds Try.pinned (OpenSpec.ofChange dictDenseSpec)

/-- ITS FALSE NEIGHBOUR: 'it returns false'. Refute it at one input. -/
def dictDenseWrong : ChangeSpec := { name := "dictDense", fn := fun _ => fun
  | [d] => { results := [.lit (.bool false)], args := [d] }
  | _ => none }
def DictDenseWrongFalsely : Prop := dictDenseRow.holds Try.pinned (OpenSpec.ofChange dictDenseWrong)

/-- 'taskmilllaw.DictPuts': WHATEVER THE INPUT: true; the input reads as it did. -/
def dictPutsSpec : ChangeSpec := { name := "dictPuts", fn := fun _ => fun
  | [d1, d2, d3] => { results := [.lit (.bool true)], args := [d1, d2, d3] }
  | _ => none }
def dictPutsRow : OpenClaim := { program := "yticigkhhhmiglaa", sum := "5582b7683535669dff1256a03ad4ec9a632c00a675970fd2c790e64a2f1422a8", func := "taskmill/taskmilllaw.DictPuts", spec := "dictPuts", inPlace := ["slices.overlaps[taskmill/api.Item]"], unfollowed := true, recurses := true, apart := false }
def DictPutsSaid : Prop := dictPutsRow.holds Try.pinned (OpenSpec.ofChange dictPutsSpec)

/-- ITS FALSE NEIGHBOUR: 'it returns false'. Refute it at one input. -/
def dictPutsWrong : ChangeSpec := { name := "dictPuts", fn := fun _ => fun
  | [d1, d2, d3] => { results := [.lit (.bool false)], args := [d1, d2, d3] }
  | _ => none }
def DictPutsWrongFalsely : Prop := dictPutsRow.holds Try.pinned (OpenSpec.ofChange dictPutsWrong)

/-- 'taskmilllaw.DictAsks': WHATEVER THE INPUT: true; the input reads as it did. -/
def dictAsksSpec : ChangeSpec := { name := "dictAsks", fn := fun _ => fun
  | [d1, d2] => { results := [.lit (.bool true)], args := [d1, d2] }
  | _ => none }
def dictAsksRow : OpenClaim := { program := "yticigkhhhmiglaa", sum := "5582b7683535669dff1256a03ad4ec9a632c00a675970fd2c790e64a2f1422a8", func := "taskmill/taskmilllaw.DictAsks", spec := "dictAsks", inPlace := ["slices.overlaps[taskmill/api.Item]"], unfollowed := true, recurses := true, apart := false }
def DictAsksSaid : Prop := dictAsksRow.holds Try.pinned (OpenSpec.ofChange dictAsksSpec)

/-- ITS FALSE NEIGHBOUR: 'it returns false'. Refute it at one input. -/
def dictAsksWrong : ChangeSpec := { name := "dictAsks", fn := fun _ => fun
  | [d1, d2] => { results := [.lit (.bool false)], args := [d1, d2] }
  | _ => none }
def DictAsksWrongFalsely : Prop := dictAsksRow.holds Try.pinned (OpenSpec.ofChange dictAsksWrong)

/-- 'taskmilllaw.DictKeeps': WHATEVER THE INPUT: true; the input reads as it did. -/
def dictKeepsSpec : ChangeSpec := { name := "dictKeeps", fn := fun _ => fun
  | [d] => { results := [.lit (.bool true)], args := [d] }
  | _ => none }
def dictKeepsRow : OpenClaim := { program := "yticigkhhhmiglaa", sum := "5582b7683535669dff1256a03ad4ec9a632c00a675970fd2c790e64a2f1422a8", func := "taskmill/taskmilllaw.DictKeeps", spec := "dictKeeps", inPlace := ["slices.overlaps[taskmill/api.Item]"], unfollowed := true, recurses := true, apart := false }
def DictKeepsSaid : Prop := dictKeepsRow.holds Try.pinned (OpenSpec.ofChange dictKeepsSpec)

/-- ITS FALSE NEIGHBOUR: 'it returns false'. Refute it at one input. -/
def dictKeepsWrong : ChangeSpec := { name := "dictKeeps", fn := fun _ => fun
  | [d] => { results := [.lit (.bool false)], args := [d] }
  | _ => none }
def DictKeepsWrongFalsely : Prop := dictKeepsRow.holds Try.pinned (OpenSpec.ofChange dictKeepsWrong)

/- THE SECOND FORM. 'bulk': how many values and letters a reading holds, each counted each time it is reached (what is shared counts as often as it is met; a slice's spare places count too). A statement '..UptoSaid' is the law's where the arguments, and the package variables that the reading takes, are together of bulk at most 1048576: NARROWER than '..Said'. Prove '..Said' where nothing that the law and all that it calls make is longer than what came in: it says more and counts as full. Else prove '..UptoSaid'. A law counts once. -/
mutual
def uptoBulk {H : Type} : DataW H → Nat
  | .lit (.string bytes) => bytes.length + 1
  | .lit _ => 1
  | .nil => 1
  | .ptr d => uptoBulk d + 1
  | .slice elems spare => uptoBulkAll elems + uptoBulkAll spare + 1
  | .agg parts => uptoBulkAll parts + 1
  | .iface _ d => uptoBulk d + 1
  | .map entries => uptoBulkEntries entries + 1
  | .held _ => 1
def uptoBulkAll {H : Type} : List (DataW H) → Nat
  | [] => 0
  | d :: r => uptoBulk d + uptoBulkAll r
def uptoBulkEntries {H : Type} : List (Lit × DataW H) → Nat
  | [] => 0
  | x :: r => uptoBulkEntry x + uptoBulkEntries r
def uptoBulkEntry {H : Type} : Lit × DataW H → Nat
  | (.string bytes, d) => bytes.length + uptoBulk d + 1
  | (_, d) => uptoBulk d + 1
 end
def uptoSmall : (H : Type) → List (DataW H) → Bool := fun _ ds => decide (uptoBulkAll ds ≤ 1048576)
def OpenSpec.upto (s : _root_.Go.ChangeSpec) : _root_.Go.OpenSpec := { _root_.Go.OpenSpec.ofChange s with cond := some uptoSmall }

/-- 'taskmilllaw.DictOrders', WHERE WHAT IT READS IS OF BULK AT MOST 1048576: true; the input reads as it did. -/
def dictOrdersUptoRow : OpenClaim := { program := "yticigkhhhmiglaa", sum := "5582b7683535669dff1256a03ad4ec9a632c00a675970fd2c790e64a2f1422a8", func := "taskmill/taskmilllaw.DictOrders", spec := "dictOrders", inPlace := ["slices.overlaps[taskmill/api.Item]"], unfollowed := true, recurses := true, apart := false, narrowed := true }
def DictOrdersUptoSaid : Prop := dictOrdersUptoRow.holds Try.pinned (OpenSpec.upto dictOrdersSpec)

/-- 'taskmilllaw.DictDense', WHERE WHAT IT READS IS OF BULK AT MOST 1048576: true; the input reads as it did. -/
def dictDenseUptoRow : OpenClaim := { program := "yticigkhhhmiglaa", sum := "5582b7683535669dff1256a03ad4ec9a632c00a675970fd2c790e64a2f1422a8", func := "taskmill/taskmilllaw.DictDense", spec := "dictDense", inPlace := ["slices.overlaps[taskmill/api.Item]"], unfollowed := true, recurses := true, apart := false, narrowed := true }
def DictDenseUptoSaid : Prop := dictDenseUptoRow.holds Try.pinned (OpenSpec.upto dictDenseSpec)

/-- 'taskmilllaw.DictPuts', WHERE WHAT IT READS IS OF BULK AT MOST 1048576: true; the input reads as it did. -/
def dictPutsUptoRow : OpenClaim := { program := "yticigkhhhmiglaa", sum := "5582b7683535669dff1256a03ad4ec9a632c00a675970fd2c790e64a2f1422a8", func := "taskmill/taskmilllaw.DictPuts", spec := "dictPuts", inPlace := ["slices.overlaps[taskmill/api.Item]"], unfollowed := true, recurses := true, apart := false, narrowed := true }
def DictPutsUptoSaid : Prop := dictPutsUptoRow.holds Try.pinned (OpenSpec.upto dictPutsSpec)

/-- 'taskmilllaw.DictAsks', WHERE WHAT IT READS IS OF BULK AT MOST 1048576: true; the input reads as it did. -/
def dictAsksUptoRow : OpenClaim := { program := "yticigkhhhmiglaa", sum := "5582b7683535669dff1256a03ad4ec9a632c00a675970fd2c790e64a2f1422a8", func := "taskmill/taskmilllaw.DictAsks", spec := "dictAsks", inPlace := ["slices.overlaps[taskmill/api.Item]"], unfollowed := true, recurses := true, apart := false, narrowed := true }
def DictAsksUptoSaid : Prop := dictAsksUptoRow.holds Try.pinned (OpenSpec.upto dictAsksSpec)

/-- 'taskmilllaw.DictKeeps', WHERE WHAT IT READS IS OF BULK AT MOST 1048576: true; the input reads as it did. -/
def dictKeepsUptoRow : OpenClaim := { program := "yticigkhhhmiglaa", sum := "5582b7683535669dff1256a03ad4ec9a632c00a675970fd2c790e64a2f1422a8", func := "taskmill/taskmilllaw.DictKeeps", spec := "dictKeeps", inPlace := ["slices.overlaps[taskmill/api.Item]"], unfollowed := true, recurses := true, apart := false, narrowed := true }
def DictKeepsUptoSaid : Prop := dictKeepsUptoRow.holds Try.pinned (OpenSpec.upto dictKeepsSpec)

end Rows
end Go.Proofs.Yticigkhhhmiglaa
