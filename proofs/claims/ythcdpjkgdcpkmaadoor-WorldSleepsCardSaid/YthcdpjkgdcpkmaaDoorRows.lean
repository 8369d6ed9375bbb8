/-
  NARROWER THAN 'FOR EVERY INPUT', by the rows' own cells (each row's printed sentence says how): WorldSleeps: laid · WorldServes: laid.
  DERIVED. THE GIVEN ROWS OF THIS SEAT. 2 by the template 'for every input the law returns true; each argument reads behind the call as it read before'; 0 by the template 'total and deterministic' (their statements: YthcdpjkgdcpkmaaDoorTotals.lean).
  GIVEN WITH THE SEED: the statements are not yours to turn. If you find one false, say at which input.
  Laid BY PROGRAM, IN A SANDBOX (cutbox-rows.mjs): the forced cells as the released guide's own fill.sh prints them over the translation 3ac615ddea92b635… (all of the seat's roots in one cut). By AI agents, Wed Nov 11 2026. No macro, syntax, notation, axiom, sorry.
-/
import Derived.Test.YthcdpjkgdcpkmaaDoorChecked
import GoSem.Claim
import GoSem.ClaimJoined
import GoSem.ClaimMapViews
import Derived.JoinedTies
import Derived.KernelRfl
namespace Go.Proofs.YthcdpjkgdcpkmaaDoor
/- THE CELL 'sum', in the pinned program and in every row, IS THE sha256 OF THE DUMP (.gsa) THAT YthcdpjkgdcpkmaaDoorProg.lean LOADS. Nothing in Lean hashes anything: it is a label: what it is worth is what the hold of that sum in a sandbox is worth. -/
noncomputable def Tryd.pinned : Pinned := { name := "ythcdpjkgdcpkmaadoor", sum := "3ac615ddea92b635d9136c14f97f8e182d6b642bb14769d17ebe2dbf0ab05112", checked := Tryd.checked }
namespace Rows
def none {H : Type} : Left H := { results := [], args := [] }

/- WHAT THE LISTED PACKAGE-LEVEL VARIABLES READ AS WHEN THE CALL BEGINS. Each datum BY PROGRAM (the guide's laid-datum.mjs) off the statement by which the dump's own 'gosem.cut.vars' lays the variable. In a bare row this is a premise. The card (YthcdpjkgdcpkmaaDoorCards.lean) ties it to the program's text. -/
def laid_taskmill_code_kinds {H : Type} : DataW H := .agg [.agg [.lit (.string []), .lit (.string [])], .agg [.lit (.string [115, 101, 116]), .lit (.string [114, 110])], .agg [.lit (.string [99, 111, 112, 121]), .lit (.string [114, 114])], .agg [.lit (.string [97, 100, 100]), .lit (.string [114, 114])], .agg [.lit (.string [115, 117, 98]), .lit (.string [114, 114])], .agg [.lit (.string [108, 101, 115, 115]), .lit (.string [114, 114])], .agg [.lit (.string [106, 117, 109, 112]), .lit (.string [99, 45])], .agg [.lit (.string [122, 101, 114, 111]), .lit (.string [114, 99])], .agg [.lit (.string [112, 114, 105, 110, 116]), .lit (.string [114, 45])], .agg [.lit (.string [101, 110, 100]), .lit (.string [45, 45])], .agg [.lit (.string [121, 105, 101, 108, 100]), .lit (.string [45, 45])], .agg [.lit (.string [103, 111]), .lit (.string [99, 114])], .agg [.lit (.string [108, 111, 97, 100]), .lit (.string [114, 109])], .agg [.lit (.string [115, 116, 111, 114, 101]), .lit (.string [109, 114])], .agg [.lit (.string [115, 101, 110, 100]), .lit (.string [112, 114])], .agg [.lit (.string [103, 101, 116]), .lit (.string [114, 112])], .agg [.lit (.string [115, 104, 117, 116]), .lit (.string [112, 45])], .agg [.lit (.string [108, 111, 99, 107]), .lit (.string [108, 107])], .agg [.lit (.string [117, 110, 108, 111, 99, 107]), .lit (.string [108, 107])], .agg [.lit (.string [99, 111, 117, 110, 116]), .lit (.string [103, 114])], .agg [.lit (.string [119, 97, 105, 116]), .lit (.string [103, 45])], .agg [.lit (.string [115, 108, 101, 101, 112]), .lit (.string [114, 45])], .agg [.lit (.string [112, 97, 110, 105, 99]), .lit (.string [45, 45])]]

/-- 'taskmilllaw.WorldSleeps': WHATEVER THE INPUT: true; the input reads as it did. -/
def worldSleepsSpec : ChangeSpec := { name := "worldSleeps", fn := fun _ => fun
  | [d1, d2] => { results := [.lit (.bool true)], args := [d1, d2] }
  | _ => none }
def worldSleepsRow : OpenClaim := { program := "ythcdpjkgdcpkmaadoor", sum := "3ac615ddea92b635d9136c14f97f8e182d6b642bb14769d17ebe2dbf0ab05112", func := "taskmill/taskmilllaw.WorldSleeps", spec := "worldSleeps", unfollowed := true, recurses := true, named := ["taskmill/code.kinds"], apart := false, laid := [("taskmill/code.kinds", laid_taskmill_code_kinds)] }
def WorldSleepsSaid : Prop := worldSleepsRow.holds Tryd.pinned (OpenSpec.ofChange worldSleepsSpec)

/-- ITS FALSE NEIGHBOUR: 'it returns false'. Refute it at one input. -/
def worldSleepsWrong : ChangeSpec := { name := "worldSleeps", fn := fun _ => fun
  | [d1, d2] => { results := [.lit (.bool false)], args := [d1, d2] }
  | _ => none }
def WorldSleepsWrongFalsely : Prop := worldSleepsRow.holds Tryd.pinned (OpenSpec.ofChange worldSleepsWrong)

/-- 'taskmilllaw.WorldServes': WHATEVER THE INPUT: true; the input reads as it did. -/
def worldServesSpec : ChangeSpec := { name := "worldServes", fn := fun _ => fun
  | [d1, d2, d3] => { results := [.lit (.bool true)], args := [d1, d2, d3] }
  | _ => none }
def worldServesRow : OpenClaim := { program := "ythcdpjkgdcpkmaadoor", sum := "3ac615ddea92b635d9136c14f97f8e182d6b642bb14769d17ebe2dbf0ab05112", func := "taskmill/taskmilllaw.WorldServes", spec := "worldServes", unfollowed := true, recurses := true, named := ["taskmill/code.kinds"], apart := false, laid := [("taskmill/code.kinds", laid_taskmill_code_kinds)] }
def WorldServesSaid : Prop := worldServesRow.holds Tryd.pinned (OpenSpec.ofChange worldServesSpec)

/-- ITS FALSE NEIGHBOUR: 'it returns false'. Refute it at one input. -/
def worldServesWrong : ChangeSpec := { name := "worldServes", fn := fun _ => fun
  | [d1, d2, d3] => { results := [.lit (.bool false)], args := [d1, d2, d3] }
  | _ => none }
def WorldServesWrongFalsely : Prop := worldServesRow.holds Tryd.pinned (OpenSpec.ofChange worldServesWrong)

/- THE SECOND FORM. 'bulk': how many values and letters a reading holds, each counted each time it is reached (what is shared counts as often as it is met; a slice's spare places count too). A statement '..UptoSaid' is the law's where the arguments, and the package variables that the reading takes, are together of bulk at most 1048576: NARROWER than '..Said'. Prove '..Said' where nothing that the law and all that it calls make is longer than what came in: it says more and counts as full. Else prove '..UptoSaid'. A law counts once. -/
mutual
def uptoBulk {H : Type} : DataW H → Nat
  | .lit (.string bytes) => bytes.length + 1
  | .lit _ => 1
  | .nil => 1
  | .ptr d => uptoBulk d + 1
  | .slice elems spare => uptoBulkAll elems + uptoBulkAll spare + 1
  | .agg parts => uptoBulkAll parts + 1
  | .iface _ d => uptoBulk d + 1
  | .map entries => uptoBulkEntries entries + 1
  | .held _ => 1
def uptoBulkAll {H : Type} : List (DataW H) → Nat
  | [] => 0
  | d :: r => uptoBulk d + uptoBulkAll r
def uptoBulkEntries {H : Type} : List (Lit × DataW H) → Nat
  | [] => 0
  | x :: r => uptoBulkEntry x + uptoBulkEntries r
def uptoBulkEntry {H : Type} : Lit × DataW H → Nat
  | (.string bytes, d) => bytes.length + uptoBulk d + 1
  | (_, d) => uptoBulk d + 1
 end
def uptoSmall : (H : Type) → List (DataW H) → Bool := fun _ ds => decide (uptoBulkAll ds ≤ 1048576)
def OpenSpec.upto (s : _root_.Go.ChangeSpec) : _root_.Go.OpenSpec := { _root_.Go.OpenSpec.ofChange s with cond := some uptoSmall }

/-- 'taskmilllaw.WorldSleeps', WHERE WHAT IT READS IS OF BULK AT MOST 1048576: true; the input reads as it did. -/
def worldSleepsUptoRow : OpenClaim := { program := "ythcdpjkgdcpkmaadoor", sum := "3ac615ddea92b635d9136c14f97f8e182d6b642bb14769d17ebe2dbf0ab05112", func := "taskmill/taskmilllaw.WorldSleeps", spec := "worldSleeps", unfollowed := true, recurses := true, named := ["taskmill/code.kinds"], apart := false, laid := [("taskmill/code.kinds", laid_taskmill_code_kinds)], narrowed := true }
def WorldSleepsUptoSaid : Prop := worldSleepsUptoRow.holds Tryd.pinned (OpenSpec.upto worldSleepsSpec)

/-- 'taskmilllaw.WorldServes', WHERE WHAT IT READS IS OF BULK AT MOST 1048576: true; the input reads as it did. -/
def worldServesUptoRow : OpenClaim := { program := "ythcdpjkgdcpkmaadoor", sum := "3ac615ddea92b635d9136c14f97f8e182d6b642bb14769d17ebe2dbf0ab05112", func := "taskmill/taskmilllaw.WorldServes", spec := "worldServes", unfollowed := true, recurses := true, named := ["taskmill/code.kinds"], apart := false, laid := [("taskmill/code.kinds", laid_taskmill_code_kinds)], narrowed := true }
def WorldServesUptoSaid : Prop := worldServesUptoRow.holds Tryd.pinned (OpenSpec.upto worldServesSpec)

end Rows
end Go.Proofs.YthcdpjkgdcpkmaaDoor
