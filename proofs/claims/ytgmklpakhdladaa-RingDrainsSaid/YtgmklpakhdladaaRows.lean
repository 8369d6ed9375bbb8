/-
  No cell of these rows narrows 'for every input' (looked for: loops, veiled, ifaces, maps, wideKeys, modest, calm, conditions, laid).
  DERIVED. THE GIVEN ROWS OF THIS SEAT. 8 by the template 'for every input the law returns true; each argument reads behind the call as it read before'; 0 by the template 'total and deterministic' (their statements: YtgmklpakhdladaaTotals.lean).
  GIVEN WITH THE SEED: the statements are not yours to turn. If you find one false, say at which input.
  Laid BY PROGRAM, IN A SANDBOX (cutbox-rows.mjs): the forced cells as the released guide's own fill.sh prints them over the translation 10a036a1e55921bd… (all of the seat's roots in one cut). By AI agents, Wed Nov 11 2026. No macro, syntax, notation, axiom, sorry.
-/
import Derived.Test.YtgmklpakhdladaaChecked
import GoSem.Claim
import GoSem.ClaimJoined
import GoSem.ClaimMapViews
import Derived.JoinedTies
import Derived.KernelRfl
namespace Go.Proofs.Ytgmklpakhdladaa
/- THE CELL 'sum', in the pinned program and in every row, IS THE sha256 OF THE DUMP (.gsa) THAT YtgmklpakhdladaaProg.lean LOADS. Nothing in Lean hashes anything: it is a label: what it is worth is what the hold of that sum in a sandbox is worth. -/
noncomputable def Try.pinned : Pinned := { name := "ytgmklpakhdladaa", sum := "10a036a1e55921bda31dbcd9c229cec7ee0bd83ead62c3849553200f63c38a5f", checked := Try.checked }
namespace Rows
def none {H : Type} : Left H := { results := [], args := [] }

/-- 'taskmilllaw.RingPuts': WHATEVER THE INPUT: true; the input reads as it did. -/
def ringPutsSpec : ChangeSpec := { name := "ringPuts", fn := fun _ => fun
  | [d1, d2, d3] => { results := [.lit (.bool true)], args := [d1, d2, d3] }
  | _ => none }
def ringPutsRow : OpenClaim := { program := "ytgmklpakhdladaa", sum := "10a036a1e55921bda31dbcd9c229cec7ee0bd83ead62c3849553200f63c38a5f", func := "taskmill/taskmilllaw.RingPuts", spec := "ringPuts", apart := false }
def RingPutsSaid : Prop := ringPutsRow.holds Try.pinned (OpenSpec.ofChange ringPutsSpec)

/-- ITS FALSE NEIGHBOUR: 'it returns false'. Refute it at one input. -/
def ringPutsWrong : ChangeSpec := { name := "ringPuts", fn := fun _ => fun
  | [d1, d2, d3] => { results := [.lit (.bool false)], args := [d1, d2, d3] }
  | _ => none }
def RingPutsWrongFalsely : Prop := ringPutsRow.holds Try.pinned (OpenSpec.ofChange ringPutsWrong)

/-- 'taskmilllaw.RingTakes': WHATEVER THE INPUT: true; the input reads as it did. -/
def ringTakesSpec : ChangeSpec := { name := "ringTakes", fn := fun _ => fun
  | [d] => { results := [.lit (.bool true)], args := [d] }
  | _ => none }
def ringTakesRow : OpenClaim := { program := "ytgmklpakhdladaa", sum := "10a036a1e55921bda31dbcd9c229cec7ee0bd83ead62c3849553200f63c38a5f", func := "taskmill/taskmilllaw.RingTakes", spec := "ringTakes", apart := false }
def RingTakesSaid : Prop := ringTakesRow.holds Try.pinned (OpenSpec.ofChange ringTakesSpec)

/-- ITS FALSE NEIGHBOUR: 'it returns false'. Refute it at one input. -/
def ringTakesWrong : ChangeSpec := { name := "ringTakes", fn := fun _ => fun
  | [d] => { results := [.lit (.bool false)], args := [d] }
  | _ => none }
def RingTakesWrongFalsely : Prop := ringTakesRow.holds Try.pinned (OpenSpec.ofChange ringTakesWrong)

/-- 'taskmilllaw.RingOrder': WHATEVER THE INPUT: true; the input reads as it did. -/
def ringOrderSpec : ChangeSpec := { name := "ringOrder", fn := fun _ => fun
  | [d] => { results := [.lit (.bool true)], args := [d] }
  | _ => none }
def ringOrderRow : OpenClaim := { program := "ytgmklpakhdladaa", sum := "10a036a1e55921bda31dbcd9c229cec7ee0bd83ead62c3849553200f63c38a5f", func := "taskmill/taskmilllaw.RingOrder", spec := "ringOrder", apart := false }
def RingOrderSaid : Prop := ringOrderRow.holds Try.pinned (OpenSpec.ofChange ringOrderSpec)

/-- ITS FALSE NEIGHBOUR: 'it returns false'. Refute it at one input. -/
def ringOrderWrong : ChangeSpec := { name := "ringOrder", fn := fun _ => fun
  | [d] => { results := [.lit (.bool false)], args := [d] }
  | _ => none }
def RingOrderWrongFalsely : Prop := ringOrderRow.holds Try.pinned (OpenSpec.ofChange ringOrderWrong)

/-- 'taskmilllaw.RingNext': WHATEVER THE INPUT: true; the input reads as it did. -/
def ringNextSpec : ChangeSpec := { name := "ringNext", fn := fun _ => fun
  | [d1, d2] => { results := [.lit (.bool true)], args := [d1, d2] }
  | _ => none }
def ringNextRow : OpenClaim := { program := "ytgmklpakhdladaa", sum := "10a036a1e55921bda31dbcd9c229cec7ee0bd83ead62c3849553200f63c38a5f", func := "taskmill/taskmilllaw.RingNext", spec := "ringNext", apart := false }
def RingNextSaid : Prop := ringNextRow.holds Try.pinned (OpenSpec.ofChange ringNextSpec)

/-- ITS FALSE NEIGHBOUR: 'it returns false'. Refute it at one input. -/
def ringNextWrong : ChangeSpec := { name := "ringNext", fn := fun _ => fun
  | [d1, d2] => { results := [.lit (.bool false)], args := [d1, d2] }
  | _ => none }
def RingNextWrongFalsely : Prop := ringNextRow.holds Try.pinned (OpenSpec.ofChange ringNextWrong)

/-- 'taskmilllaw.RingRefills': WHATEVER THE INPUT: true; the input reads as it did. -/
def ringRefillsSpec : ChangeSpec := { name := "ringRefills", fn := fun _ => fun
  | [d1, d2, d3] => { results := [.lit (.bool true)], args := [d1, d2, d3] }
  | _ => none }
def ringRefillsRow : OpenClaim := { program := "ytgmklpakhdladaa", sum := "10a036a1e55921bda31dbcd9c229cec7ee0bd83ead62c3849553200f63c38a5f", func := "taskmill/taskmilllaw.RingRefills", spec := "ringRefills", apart := false }
def RingRefillsSaid : Prop := ringRefillsRow.holds Try.pinned (OpenSpec.ofChange ringRefillsSpec)

/-- ITS FALSE NEIGHBOUR: 'it returns false'. Refute it at one input. -/
def ringRefillsWrong : ChangeSpec := { name := "ringRefills", fn := fun _ => fun
  | [d1, d2, d3] => { results := [.lit (.bool false)], args := [d1, d2, d3] }
  | _ => none }
def RingRefillsWrongFalsely : Prop := ringRefillsRow.holds Try.pinned (OpenSpec.ofChange ringRefillsWrong)

/-- 'taskmilllaw.RingSteals': WHATEVER THE INPUT: true; the input reads as it did. -/
def ringStealsSpec : ChangeSpec := { name := "ringSteals", fn := fun _ => fun
  | [d1, d2, d3] => { results := [.lit (.bool true)], args := [d1, d2, d3] }
  | _ => none }
def ringStealsRow : OpenClaim := { program := "ytgmklpakhdladaa", sum := "10a036a1e55921bda31dbcd9c229cec7ee0bd83ead62c3849553200f63c38a5f", func := "taskmill/taskmilllaw.RingSteals", spec := "ringSteals", apart := false }
def RingStealsSaid : Prop := ringStealsRow.holds Try.pinned (OpenSpec.ofChange ringStealsSpec)

/-- ITS FALSE NEIGHBOUR: 'it returns false'. Refute it at one input. -/
def ringStealsWrong : ChangeSpec := { name := "ringSteals", fn := fun _ => fun
  | [d1, d2, d3] => { results := [.lit (.bool false)], args := [d1, d2, d3] }
  | _ => none }
def RingStealsWrongFalsely : Prop := ringStealsRow.holds Try.pinned (OpenSpec.ofChange ringStealsWrong)

/-- 'taskmilllaw.RingDrains': WHATEVER THE INPUT: true; the input reads as it did. -/
def ringDrainsSpec : ChangeSpec := { name := "ringDrains", fn := fun _ => fun
  | [d1, d2] => { results := [.lit (.bool true)], args := [d1, d2] }
  | _ => none }
def ringDrainsRow : OpenClaim := { program := "ytgmklpakhdladaa", sum := "10a036a1e55921bda31dbcd9c229cec7ee0bd83ead62c3849553200f63c38a5f", func := "taskmill/taskmilllaw.RingDrains", spec := "ringDrains", apart := false }
def RingDrainsSaid : Prop := ringDrainsRow.holds Try.pinned (OpenSpec.ofChange ringDrainsSpec)

/-- ITS FALSE NEIGHBOUR: 'it returns false'. Refute it at one input. -/
def ringDrainsWrong : ChangeSpec := { name := "ringDrains", fn := fun _ => fun
  | [d1, d2] => { results := [.lit (.bool false)], args := [d1, d2] }
  | _ => none }
def RingDrainsWrongFalsely : Prop := ringDrainsRow.holds Try.pinned (OpenSpec.ofChange ringDrainsWrong)

/-- 'taskmilllaw.RingKeeps': WHATEVER THE INPUT: true; the input reads as it did. -/
def ringKeepsSpec : ChangeSpec := { name := "ringKeeps", fn := fun _ => fun
  | [d] => { results := [.lit (.bool true)], args := [d] }
  | _ => none }
def ringKeepsRow : OpenClaim := { program := "ytgmklpakhdladaa", sum := "10a036a1e55921bda31dbcd9c229cec7ee0bd83ead62c3849553200f63c38a5f", func := "taskmill/taskmilllaw.RingKeeps", spec := "ringKeeps", apart := false }
def RingKeepsSaid : Prop := ringKeepsRow.holds Try.pinned (OpenSpec.ofChange ringKeepsSpec)

/-- ITS FALSE NEIGHBOUR: 'it returns false'. Refute it at one input. -/
def ringKeepsWrong : ChangeSpec := { name := "ringKeeps", fn := fun _ => fun
  | [d] => { results := [.lit (.bool false)], args := [d] }
  | _ => none }
def RingKeepsWrongFalsely : Prop := ringKeepsRow.holds Try.pinned (OpenSpec.ofChange ringKeepsWrong)

/- THE SECOND FORM. 'bulk': how many values and letters a reading holds, each counted each time it is reached (what is shared counts as often as it is met; a slice's spare places count too). A statement '..UptoSaid' is the law's where the arguments, and the package variables that the reading takes, are together of bulk at most 1048576: NARROWER than '..Said'. Prove '..Said' where nothing that the law and all that it calls make is longer than what came in: it says more and counts as full. Else prove '..UptoSaid'. A law counts once. -/
mutual
def uptoBulk {H : Type} : DataW H → Nat
  | .lit (.string bytes) => bytes.length + 1
  | .lit _ => 1
  | .nil => 1
  | .ptr d => uptoBulk d + 1
  | .slice elems spare => uptoBulkAll elems + uptoBulkAll spare + 1
  | .agg parts => uptoBulkAll parts + 1
  | .iface _ d => uptoBulk d + 1
  | .map entries => uptoBulkEntries entries + 1
  | .held _ => 1
def uptoBulkAll {H : Type} : List (DataW H) → Nat
  | [] => 0
  | d :: r => uptoBulk d + uptoBulkAll r
def uptoBulkEntries {H : Type} : List (Lit × DataW H) → Nat
  | [] => 0
  | x :: r => uptoBulkEntry x + uptoBulkEntries r
def uptoBulkEntry {H : Type} : Lit × DataW H → Nat
  | (.string bytes, d) => bytes.length + uptoBulk d + 1
  | (_, d) => uptoBulk d + 1
 end
def uptoSmall : (H : Type) → List (DataW H) → Bool := fun _ ds => decide (uptoBulkAll ds ≤ 1048576)
def OpenSpec.upto (s : _root_.Go.ChangeSpec) : _root_.Go.OpenSpec := { _root_.Go.OpenSpec.ofChange s with cond := some uptoSmall }

/-- 'taskmilllaw.RingPuts', WHERE WHAT IT READS IS OF BULK AT MOST 1048576: true; the input reads as it did. -/
def ringPutsUptoRow : OpenClaim := { program := "ytgmklpakhdladaa", sum := "10a036a1e55921bda31dbcd9c229cec7ee0bd83ead62c3849553200f63c38a5f", func := "taskmill/taskmilllaw.RingPuts", spec := "ringPuts", apart := false, narrowed := true }
def RingPutsUptoSaid : Prop := ringPutsUptoRow.holds Try.pinned (OpenSpec.upto ringPutsSpec)

/-- 'taskmilllaw.RingTakes', WHERE WHAT IT READS IS OF BULK AT MOST 1048576: true; the input reads as it did. -/
def ringTakesUptoRow : OpenClaim := { program := "ytgmklpakhdladaa", sum := "10a036a1e55921bda31dbcd9c229cec7ee0bd83ead62c3849553200f63c38a5f", func := "taskmill/taskmilllaw.RingTakes", spec := "ringTakes", apart := false, narrowed := true }
def RingTakesUptoSaid : Prop := ringTakesUptoRow.holds Try.pinned (OpenSpec.upto ringTakesSpec)

/-- 'taskmilllaw.RingOrder', WHERE WHAT IT READS IS OF BULK AT MOST 1048576: true; the input reads as it did. -/
def ringOrderUptoRow : OpenClaim := { program := "ytgmklpakhdladaa", sum := "10a036a1e55921bda31dbcd9c229cec7ee0bd83ead62c3849553200f63c38a5f", func := "taskmill/taskmilllaw.RingOrder", spec := "ringOrder", apart := false, narrowed := true }
def RingOrderUptoSaid : Prop := ringOrderUptoRow.holds Try.pinned (OpenSpec.upto ringOrderSpec)

/-- 'taskmilllaw.RingNext', WHERE WHAT IT READS IS OF BULK AT MOST 1048576: true; the input reads as it did. -/
def ringNextUptoRow : OpenClaim := { program := "ytgmklpakhdladaa", sum := "10a036a1e55921bda31dbcd9c229cec7ee0bd83ead62c3849553200f63c38a5f", func := "taskmill/taskmilllaw.RingNext", spec := "ringNext", apart := false, narrowed := true }
def RingNextUptoSaid : Prop := ringNextUptoRow.holds Try.pinned (OpenSpec.upto ringNextSpec)

/-- 'taskmilllaw.RingRefills', WHERE WHAT IT READS IS OF BULK AT MOST 1048576: true; the input reads as it did. -/
def ringRefillsUptoRow : OpenClaim := { program := "ytgmklpakhdladaa", sum := "10a036a1e55921bda31dbcd9c229cec7ee0bd83ead62c3849553200f63c38a5f", func := "taskmill/taskmilllaw.RingRefills", spec := "ringRefills", apart := false, narrowed := true }
def RingRefillsUptoSaid : Prop := ringRefillsUptoRow.holds Try.pinned (OpenSpec.upto ringRefillsSpec)

/-- 'taskmilllaw.RingSteals', WHERE WHAT IT READS IS OF BULK AT MOST 1048576: true; the input reads as it did. -/
def ringStealsUptoRow : OpenClaim := { program := "ytgmklpakhdladaa", sum := "10a036a1e55921bda31dbcd9c229cec7ee0bd83ead62c3849553200f63c38a5f", func := "taskmill/taskmilllaw.RingSteals", spec := "ringSteals", apart := false, narrowed := true }
def RingStealsUptoSaid : Prop := ringStealsUptoRow.holds Try.pinned (OpenSpec.upto ringStealsSpec)

/-- 'taskmilllaw.RingDrains', WHERE WHAT IT READS IS OF BULK AT MOST 1048576: true; the input reads as it did. -/
def ringDrainsUptoRow : OpenClaim := { program := "ytgmklpakhdladaa", sum := "10a036a1e55921bda31dbcd9c229cec7ee0bd83ead62c3849553200f63c38a5f", func := "taskmill/taskmilllaw.RingDrains", spec := "ringDrains", apart := false, narrowed := true }
def RingDrainsUptoSaid : Prop := ringDrainsUptoRow.holds Try.pinned (OpenSpec.upto ringDrainsSpec)

/-- 'taskmilllaw.RingKeeps', WHERE WHAT IT READS IS OF BULK AT MOST 1048576: true; the input reads as it did. -/
def ringKeepsUptoRow : OpenClaim := { program := "ytgmklpakhdladaa", sum := "10a036a1e55921bda31dbcd9c229cec7ee0bd83ead62c3849553200f63c38a5f", func := "taskmill/taskmilllaw.RingKeeps", spec := "ringKeeps", apart := false, narrowed := true }
def RingKeepsUptoSaid : Prop := ringKeepsUptoRow.holds Try.pinned (OpenSpec.upto ringKeepsSpec)

end Rows
end Go.Proofs.Ytgmklpakhdladaa
