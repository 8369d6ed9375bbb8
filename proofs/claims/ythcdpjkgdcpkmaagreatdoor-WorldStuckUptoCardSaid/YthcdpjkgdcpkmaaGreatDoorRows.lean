/-
  NARROWER THAN 'FOR EVERY INPUT', by the rows' own cells (each row's printed sentence says how): WorldPlays: laid · WorldPrefix: laid · WorldPipes: laid · WorldLocks: laid · WorldCells: laid · WorldGroups: laid · WorldTasks: laid · WorldStuck: laid · WorldAlone: laid · WorldSums: laid · WorldMeets: laid · OrderPlays: laid · RaceLocked: laid · RaceFree: laid.
  DERIVED. THE GIVEN ROWS OF THIS SEAT. 14 by the template 'for every input the law returns true; each argument reads behind the call as it read before'; 0 by the template 'total and deterministic' (their statements: YthcdpjkgdcpkmaaGreatDoorTotals.lean).
  GIVEN WITH THE SEED: the statements are not yours to turn. If you find one false, say at which input.
  Laid BY PROGRAM, IN A SANDBOX (cutbox-rows.mjs): the forced cells as the released guide's own fill.sh prints them over the translation 5fa2aec9c8308ec7… (all of the seat's roots in one cut). By AI agents, Wed Nov 11 2026. No macro, syntax, notation, axiom, sorry.
-/
import Derived.Test.YthcdpjkgdcpkmaaGreatDoorChecked
import GoSem.Claim
import GoSem.ClaimJoined
import GoSem.ClaimMapViews
import Derived.JoinedTies
import Derived.KernelRfl
namespace Go.Proofs.YthcdpjkgdcpkmaaGreatDoor
/- THE CELL 'sum', in the pinned program and in every row, IS THE sha256 OF THE DUMP (.gsa) THAT YthcdpjkgdcpkmaaGreatDoorProg.lean LOADS. Nothing in Lean hashes anything: it is a label: what it is worth is what the hold of that sum in a sandbox is worth. -/
noncomputable def Tryz.pinned : Pinned := { name := "ythcdpjkgdcpkmaagreatdoor", sum := "5fa2aec9c8308ec7cb9fcc6100414ec842a60aa57722c522912b5323aa9824da", checked := Tryz.checked }
namespace Rows
def none {H : Type} : Left H := { results := [], args := [] }

/- WHAT THE LISTED PACKAGE-LEVEL VARIABLES READ AS WHEN THE CALL BEGINS. Each datum BY PROGRAM (the guide's laid-datum.mjs) off the statement by which the dump's own 'gosem.cut.vars' lays the variable. In a bare row this is a premise. The card (YthcdpjkgdcpkmaaGreatDoorCards.lean) ties it to the program's text. -/
def laid_taskmill_taskmillref_Args {H : Type} : DataW H := .slice [.lit (.string []), .lit (.string [114, 110]), .lit (.string [114, 114]), .lit (.string [114, 114]), .lit (.string [114, 114]), .lit (.string [114, 114]), .lit (.string [99, 45]), .lit (.string [114, 99]), .lit (.string [114, 45]), .lit (.string [45, 45]), .lit (.string [45, 45]), .lit (.string [99, 114]), .lit (.string [114, 109]), .lit (.string [109, 114]), .lit (.string [112, 114]), .lit (.string [114, 112]), .lit (.string [112, 45]), .lit (.string [108, 107]), .lit (.string [108, 107]), .lit (.string [103, 114]), .lit (.string [103, 45]), .lit (.string [114, 45]), .lit (.string [45, 45])] []
def laid_taskmill_code_kinds {H : Type} : DataW H := .agg [.agg [.lit (.string []), .lit (.string [])], .agg [.lit (.string [115, 101, 116]), .lit (.string [114, 110])], .agg [.lit (.string [99, 111, 112, 121]), .lit (.string [114, 114])], .agg [.lit (.string [97, 100, 100]), .lit (.string [114, 114])], .agg [.lit (.string [115, 117, 98]), .lit (.string [114, 114])], .agg [.lit (.string [108, 101, 115, 115]), .lit (.string [114, 114])], .agg [.lit (.string [106, 117, 109, 112]), .lit (.string [99, 45])], .agg [.lit (.string [122, 101, 114, 111]), .lit (.string [114, 99])], .agg [.lit (.string [112, 114, 105, 110, 116]), .lit (.string [114, 45])], .agg [.lit (.string [101, 110, 100]), .lit (.string [45, 45])], .agg [.lit (.string [121, 105, 101, 108, 100]), .lit (.string [45, 45])], .agg [.lit (.string [103, 111]), .lit (.string [99, 114])], .agg [.lit (.string [108, 111, 97, 100]), .lit (.string [114, 109])], .agg [.lit (.string [115, 116, 111, 114, 101]), .lit (.string [109, 114])], .agg [.lit (.string [115, 101, 110, 100]), .lit (.string [112, 114])], .agg [.lit (.string [103, 101, 116]), .lit (.string [114, 112])], .agg [.lit (.string [115, 104, 117, 116]), .lit (.string [112, 45])], .agg [.lit (.string [108, 111, 99, 107]), .lit (.string [108, 107])], .agg [.lit (.string [117, 110, 108, 111, 99, 107]), .lit (.string [108, 107])], .agg [.lit (.string [99, 111, 117, 110, 116]), .lit (.string [103, 114])], .agg [.lit (.string [119, 97, 105, 116]), .lit (.string [103, 45])], .agg [.lit (.string [115, 108, 101, 101, 112]), .lit (.string [114, 45])], .agg [.lit (.string [112, 97, 110, 105, 99]), .lit (.string [45, 45])]]

/-- 'taskmilllaw.WorldPlays': WHATEVER THE INPUT: true; the input reads as it did. -/
def worldPlaysSpec : ChangeSpec := { name := "worldPlays", fn := fun _ => fun
  | [d1, d2, d3] => { results := [.lit (.bool true)], args := [d1, d2, d3] }
  | _ => none }
def worldPlaysRow : OpenClaim := { program := "ythcdpjkgdcpkmaagreatdoor", sum := "5fa2aec9c8308ec7cb9fcc6100414ec842a60aa57722c522912b5323aa9824da", func := "taskmill/taskmilllaw.WorldPlays", spec := "worldPlays", unfollowed := true, recurses := true, named := ["taskmill/code.kinds", "taskmill/taskmillref.Args"], apart := false, laid := [("taskmill/taskmillref.Args", laid_taskmill_taskmillref_Args), ("taskmill/code.kinds", laid_taskmill_code_kinds)] }
def WorldPlaysSaid : Prop := worldPlaysRow.holds Tryz.pinned (OpenSpec.ofChange worldPlaysSpec)

/-- ITS FALSE NEIGHBOUR: 'it returns false'. Refute it at one input. -/
def worldPlaysWrong : ChangeSpec := { name := "worldPlays", fn := fun _ => fun
  | [d1, d2, d3] => { results := [.lit (.bool false)], args := [d1, d2, d3] }
  | _ => none }
def WorldPlaysWrongFalsely : Prop := worldPlaysRow.holds Tryz.pinned (OpenSpec.ofChange worldPlaysWrong)

/-- 'taskmilllaw.WorldPrefix': WHATEVER THE INPUT: true; the input reads as it did. -/
def worldPrefixSpec : ChangeSpec := { name := "worldPrefix", fn := fun _ => fun
  | [d1, d2, d3, d4] => { results := [.lit (.bool true)], args := [d1, d2, d3, d4] }
  | _ => none }
def worldPrefixRow : OpenClaim := { program := "ythcdpjkgdcpkmaagreatdoor", sum := "5fa2aec9c8308ec7cb9fcc6100414ec842a60aa57722c522912b5323aa9824da", func := "taskmill/taskmilllaw.WorldPrefix", spec := "worldPrefix", unfollowed := true, recurses := true, named := ["taskmill/code.kinds", "taskmill/taskmillref.Args"], apart := false, laid := [("taskmill/taskmillref.Args", laid_taskmill_taskmillref_Args), ("taskmill/code.kinds", laid_taskmill_code_kinds)] }
def WorldPrefixSaid : Prop := worldPrefixRow.holds Tryz.pinned (OpenSpec.ofChange worldPrefixSpec)

/-- ITS FALSE NEIGHBOUR: 'it returns false'. Refute it at one input. -/
def worldPrefixWrong : ChangeSpec := { name := "worldPrefix", fn := fun _ => fun
  | [d1, d2, d3, d4] => { results := [.lit (.bool false)], args := [d1, d2, d3, d4] }
  | _ => none }
def WorldPrefixWrongFalsely : Prop := worldPrefixRow.holds Tryz.pinned (OpenSpec.ofChange worldPrefixWrong)

/-- 'taskmilllaw.WorldPipes': WHATEVER THE INPUT: true; the input reads as it did. -/
def worldPipesSpec : ChangeSpec := { name := "worldPipes", fn := fun _ => fun
  | [d1, d2, d3] => { results := [.lit (.bool true)], args := [d1, d2, d3] }
  | _ => none }
def worldPipesRow : OpenClaim := { program := "ythcdpjkgdcpkmaagreatdoor", sum := "5fa2aec9c8308ec7cb9fcc6100414ec842a60aa57722c522912b5323aa9824da", func := "taskmill/taskmilllaw.WorldPipes", spec := "worldPipes", unfollowed := true, recurses := true, named := ["taskmill/code.kinds", "taskmill/taskmillref.Args"], apart := false, laid := [("taskmill/taskmillref.Args", laid_taskmill_taskmillref_Args), ("taskmill/code.kinds", laid_taskmill_code_kinds)] }
def WorldPipesSaid : Prop := worldPipesRow.holds Tryz.pinned (OpenSpec.ofChange worldPipesSpec)

/-- ITS FALSE NEIGHBOUR: 'it returns false'. Refute it at one input. -/
def worldPipesWrong : ChangeSpec := { name := "worldPipes", fn := fun _ => fun
  | [d1, d2, d3] => { results := [.lit (.bool false)], args := [d1, d2, d3] }
  | _ => none }
def WorldPipesWrongFalsely : Prop := worldPipesRow.holds Tryz.pinned (OpenSpec.ofChange worldPipesWrong)

/-- 'taskmilllaw.WorldLocks': WHATEVER THE INPUT: true; the input reads as it did. -/
def worldLocksSpec : ChangeSpec := { name := "worldLocks", fn := fun _ => fun
  | [d1, d2, d3] => { results := [.lit (.bool true)], args := [d1, d2, d3] }
  | _ => none }
def worldLocksRow : OpenClaim := { program := "ythcdpjkgdcpkmaagreatdoor", sum := "5fa2aec9c8308ec7cb9fcc6100414ec842a60aa57722c522912b5323aa9824da", func := "taskmill/taskmilllaw.WorldLocks", spec := "worldLocks", unfollowed := true, recurses := true, named := ["taskmill/code.kinds", "taskmill/taskmillref.Args"], apart := false, laid := [("taskmill/taskmillref.Args", laid_taskmill_taskmillref_Args), ("taskmill/code.kinds", laid_taskmill_code_kinds)] }
def WorldLocksSaid : Prop := worldLocksRow.holds Tryz.pinned (OpenSpec.ofChange worldLocksSpec)

/-- ITS FALSE NEIGHBOUR: 'it returns false'. Refute it at one input. -/
def worldLocksWrong : ChangeSpec := { name := "worldLocks", fn := fun _ => fun
  | [d1, d2, d3] => { results := [.lit (.bool false)], args := [d1, d2, d3] }
  | _ => none }
def WorldLocksWrongFalsely : Prop := worldLocksRow.holds Tryz.pinned (OpenSpec.ofChange worldLocksWrong)

/-- 'taskmilllaw.WorldCells': WHATEVER THE INPUT: true; the input reads as it did. -/
def worldCellsSpec : ChangeSpec := { name := "worldCells", fn := fun _ => fun
  | [d1, d2, d3] => { results := [.lit (.bool true)], args := [d1, d2, d3] }
  | _ => none }
def worldCellsRow : OpenClaim := { program := "ythcdpjkgdcpkmaagreatdoor", sum := "5fa2aec9c8308ec7cb9fcc6100414ec842a60aa57722c522912b5323aa9824da", func := "taskmill/taskmilllaw.WorldCells", spec := "worldCells", unfollowed := true, recurses := true, named := ["taskmill/code.kinds", "taskmill/taskmillref.Args"], apart := false, laid := [("taskmill/taskmillref.Args", laid_taskmill_taskmillref_Args), ("taskmill/code.kinds", laid_taskmill_code_kinds)] }
def WorldCellsSaid : Prop := worldCellsRow.holds Tryz.pinned (OpenSpec.ofChange worldCellsSpec)

/-- ITS FALSE NEIGHBOUR: 'it returns false'. Refute it at one input. -/
def worldCellsWrong : ChangeSpec := { name := "worldCells", fn := fun _ => fun
  | [d1, d2, d3] => { results := [.lit (.bool false)], args := [d1, d2, d3] }
  | _ => none }
def WorldCellsWrongFalsely : Prop := worldCellsRow.holds Tryz.pinned (OpenSpec.ofChange worldCellsWrong)

/-- 'taskmilllaw.WorldGroups': WHATEVER THE INPUT: true; the input reads as it did. -/
def worldGroupsSpec : ChangeSpec := { name := "worldGroups", fn := fun _ => fun
  | [d1, d2, d3] => { results := [.lit (.bool true)], args := [d1, d2, d3] }
  | _ => none }
def worldGroupsRow : OpenClaim := { program := "ythcdpjkgdcpkmaagreatdoor", sum := "5fa2aec9c8308ec7cb9fcc6100414ec842a60aa57722c522912b5323aa9824da", func := "taskmill/taskmilllaw.WorldGroups", spec := "worldGroups", unfollowed := true, recurses := true, named := ["taskmill/code.kinds", "taskmill/taskmillref.Args"], apart := false, laid := [("taskmill/taskmillref.Args", laid_taskmill_taskmillref_Args), ("taskmill/code.kinds", laid_taskmill_code_kinds)] }
def WorldGroupsSaid : Prop := worldGroupsRow.holds Tryz.pinned (OpenSpec.ofChange worldGroupsSpec)

/-- ITS FALSE NEIGHBOUR: 'it returns false'. Refute it at one input. -/
def worldGroupsWrong : ChangeSpec := { name := "worldGroups", fn := fun _ => fun
  | [d1, d2, d3] => { results := [.lit (.bool false)], args := [d1, d2, d3] }
  | _ => none }
def WorldGroupsWrongFalsely : Prop := worldGroupsRow.holds Tryz.pinned (OpenSpec.ofChange worldGroupsWrong)

/-- 'taskmilllaw.WorldTasks': WHATEVER THE INPUT: true; the input reads as it did. -/
def worldTasksSpec : ChangeSpec := { name := "worldTasks", fn := fun _ => fun
  | [d1, d2, d3] => { results := [.lit (.bool true)], args := [d1, d2, d3] }
  | _ => none }
def worldTasksRow : OpenClaim := { program := "ythcdpjkgdcpkmaagreatdoor", sum := "5fa2aec9c8308ec7cb9fcc6100414ec842a60aa57722c522912b5323aa9824da", func := "taskmill/taskmilllaw.WorldTasks", spec := "worldTasks", unfollowed := true, recurses := true, named := ["taskmill/code.kinds", "taskmill/taskmillref.Args"], apart := false, laid := [("taskmill/taskmillref.Args", laid_taskmill_taskmillref_Args), ("taskmill/code.kinds", laid_taskmill_code_kinds)] }
def WorldTasksSaid : Prop := worldTasksRow.holds Tryz.pinned (OpenSpec.ofChange worldTasksSpec)

/-- ITS FALSE NEIGHBOUR: 'it returns false'. Refute it at one input. -/
def worldTasksWrong : ChangeSpec := { name := "worldTasks", fn := fun _ => fun
  | [d1, d2, d3] => { results := [.lit (.bool false)], args := [d1, d2, d3] }
  | _ => none }
def WorldTasksWrongFalsely : Prop := worldTasksRow.holds Tryz.pinned (OpenSpec.ofChange worldTasksWrong)

/-- 'taskmilllaw.WorldStuck': WHATEVER THE INPUT: true; the input reads as it did. -/
def worldStuckSpec : ChangeSpec := { name := "worldStuck", fn := fun _ => fun
  | [d1, d2, d3, d4] => { results := [.lit (.bool true)], args := [d1, d2, d3, d4] }
  | _ => none }
def worldStuckRow : OpenClaim := { program := "ythcdpjkgdcpkmaagreatdoor", sum := "5fa2aec9c8308ec7cb9fcc6100414ec842a60aa57722c522912b5323aa9824da", func := "taskmill/taskmilllaw.WorldStuck", spec := "worldStuck", unfollowed := true, recurses := true, named := ["taskmill/code.kinds", "taskmill/taskmillref.Args"], apart := false, laid := [("taskmill/taskmillref.Args", laid_taskmill_taskmillref_Args), ("taskmill/code.kinds", laid_taskmill_code_kinds)] }
def WorldStuckSaid : Prop := worldStuckRow.holds Tryz.pinned (OpenSpec.ofChange worldStuckSpec)

/-- ITS FALSE NEIGHBOUR: 'it returns false'. Refute it at one input. -/
def worldStuckWrong : ChangeSpec := { name := "worldStuck", fn := fun _ => fun
  | [d1, d2, d3, d4] => { results := [.lit (.bool false)], args := [d1, d2, d3, d4] }
  | _ => none }
def WorldStuckWrongFalsely : Prop := worldStuckRow.holds Tryz.pinned (OpenSpec.ofChange worldStuckWrong)

/-- 'taskmilllaw.WorldAlone': WHATEVER THE INPUT: true; the input reads as it did. -/
def worldAloneSpec : ChangeSpec := { name := "worldAlone", fn := fun _ => fun
  | [d1, d2, d3, d4] => { results := [.lit (.bool true)], args := [d1, d2, d3, d4] }
  | _ => none }
def worldAloneRow : OpenClaim := { program := "ythcdpjkgdcpkmaagreatdoor", sum := "5fa2aec9c8308ec7cb9fcc6100414ec842a60aa57722c522912b5323aa9824da", func := "taskmill/taskmilllaw.WorldAlone", spec := "worldAlone", unfollowed := true, recurses := true, named := ["taskmill/code.kinds", "taskmill/taskmillref.Args"], apart := false, laid := [("taskmill/taskmillref.Args", laid_taskmill_taskmillref_Args), ("taskmill/code.kinds", laid_taskmill_code_kinds)] }
def WorldAloneSaid : Prop := worldAloneRow.holds Tryz.pinned (OpenSpec.ofChange worldAloneSpec)

/-- ITS FALSE NEIGHBOUR: 'it returns false'. Refute it at one input. -/
def worldAloneWrong : ChangeSpec := { name := "worldAlone", fn := fun _ => fun
  | [d1, d2, d3, d4] => { results := [.lit (.bool false)], args := [d1, d2, d3, d4] }
  | _ => none }
def WorldAloneWrongFalsely : Prop := worldAloneRow.holds Tryz.pinned (OpenSpec.ofChange worldAloneWrong)

/-- 'taskmilllaw.WorldSums': WHATEVER THE INPUT: true; the input reads as it did. -/
def worldSumsSpec : ChangeSpec := { name := "worldSums", fn := fun _ => fun
  | [d1, d2, d3] => { results := [.lit (.bool true)], args := [d1, d2, d3] }
  | _ => none }
def worldSumsRow : OpenClaim := { program := "ythcdpjkgdcpkmaagreatdoor", sum := "5fa2aec9c8308ec7cb9fcc6100414ec842a60aa57722c522912b5323aa9824da", func := "taskmill/taskmilllaw.WorldSums", spec := "worldSums", unfollowed := true, recurses := true, named := ["taskmill/code.kinds", "taskmill/taskmillref.Args"], apart := false, laid := [("taskmill/taskmillref.Args", laid_taskmill_taskmillref_Args), ("taskmill/code.kinds", laid_taskmill_code_kinds)] }
def WorldSumsSaid : Prop := worldSumsRow.holds Tryz.pinned (OpenSpec.ofChange worldSumsSpec)

/-- ITS FALSE NEIGHBOUR: 'it returns false'. Refute it at one input. -/
def worldSumsWrong : ChangeSpec := { name := "worldSums", fn := fun _ => fun
  | [d1, d2, d3] => { results := [.lit (.bool false)], args := [d1, d2, d3] }
  | _ => none }
def WorldSumsWrongFalsely : Prop := worldSumsRow.holds Tryz.pinned (OpenSpec.ofChange worldSumsWrong)

/-- 'taskmilllaw.WorldMeets': WHATEVER THE INPUT: true; the input reads as it did. -/
def worldMeetsSpec : ChangeSpec := { name := "worldMeets", fn := fun _ => fun
  | [d1, d2, d3] => { results := [.lit (.bool true)], args := [d1, d2, d3] }
  | _ => none }
def worldMeetsRow : OpenClaim := { program := "ythcdpjkgdcpkmaagreatdoor", sum := "5fa2aec9c8308ec7cb9fcc6100414ec842a60aa57722c522912b5323aa9824da", func := "taskmill/taskmilllaw.WorldMeets", spec := "worldMeets", unfollowed := true, recurses := true, named := ["taskmill/code.kinds", "taskmill/taskmillref.Args"], apart := false, laid := [("taskmill/taskmillref.Args", laid_taskmill_taskmillref_Args), ("taskmill/code.kinds", laid_taskmill_code_kinds)] }
def WorldMeetsSaid : Prop := worldMeetsRow.holds Tryz.pinned (OpenSpec.ofChange worldMeetsSpec)

/-- ITS FALSE NEIGHBOUR: 'it returns false'. Refute it at one input. -/
def worldMeetsWrong : ChangeSpec := { name := "worldMeets", fn := fun _ => fun
  | [d1, d2, d3] => { results := [.lit (.bool false)], args := [d1, d2, d3] }
  | _ => none }
def WorldMeetsWrongFalsely : Prop := worldMeetsRow.holds Tryz.pinned (OpenSpec.ofChange worldMeetsWrong)

/-- 'taskmilllaw.OrderPlays': WHATEVER THE INPUT: true; the input reads as it did. -/
def orderPlaysSpec : ChangeSpec := { name := "orderPlays", fn := fun _ => fun
  | [d1, d2, d3] => { results := [.lit (.bool true)], args := [d1, d2, d3] }
  | _ => none }
def orderPlaysRow : OpenClaim := { program := "ythcdpjkgdcpkmaagreatdoor", sum := "5fa2aec9c8308ec7cb9fcc6100414ec842a60aa57722c522912b5323aa9824da", func := "taskmill/taskmilllaw.OrderPlays", spec := "orderPlays", unfollowed := true, recurses := true, named := ["taskmill/taskmillref.Args", "taskmill/code.kinds"], apart := false, laid := [("taskmill/taskmillref.Args", laid_taskmill_taskmillref_Args), ("taskmill/code.kinds", laid_taskmill_code_kinds)] }
def OrderPlaysSaid : Prop := orderPlaysRow.holds Tryz.pinned (OpenSpec.ofChange orderPlaysSpec)

/-- ITS FALSE NEIGHBOUR: 'it returns false'. Refute it at one input. -/
def orderPlaysWrong : ChangeSpec := { name := "orderPlays", fn := fun _ => fun
  | [d1, d2, d3] => { results := [.lit (.bool false)], args := [d1, d2, d3] }
  | _ => none }
def OrderPlaysWrongFalsely : Prop := orderPlaysRow.holds Tryz.pinned (OpenSpec.ofChange orderPlaysWrong)

/-- 'taskmilllaw.RaceLocked': WHATEVER THE INPUT: true; the input reads as it did. -/
def raceLockedSpec : ChangeSpec := { name := "raceLocked", fn := fun _ => fun
  | [d1, d2, d3, d4] => { results := [.lit (.bool true)], args := [d1, d2, d3, d4] }
  | _ => none }
def raceLockedRow : OpenClaim := { program := "ythcdpjkgdcpkmaagreatdoor", sum := "5fa2aec9c8308ec7cb9fcc6100414ec842a60aa57722c522912b5323aa9824da", func := "taskmill/taskmilllaw.RaceLocked", spec := "raceLocked", unfollowed := true, recurses := true, named := ["taskmill/taskmillref.Args", "taskmill/code.kinds"], apart := false, laid := [("taskmill/taskmillref.Args", laid_taskmill_taskmillref_Args), ("taskmill/code.kinds", laid_taskmill_code_kinds)] }
def RaceLockedSaid : Prop := raceLockedRow.holds Tryz.pinned (OpenSpec.ofChange raceLockedSpec)

/-- ITS FALSE NEIGHBOUR: 'it returns false'. Refute it at one input. -/
def raceLockedWrong : ChangeSpec := { name := "raceLocked", fn := fun _ => fun
  | [d1, d2, d3, d4] => { results := [.lit (.bool false)], args := [d1, d2, d3, d4] }
  | _ => none }
def RaceLockedWrongFalsely : Prop := raceLockedRow.holds Tryz.pinned (OpenSpec.ofChange raceLockedWrong)

/-- 'taskmilllaw.RaceFree': WHATEVER THE INPUT: true; the input reads as it did. -/
def raceFreeSpec : ChangeSpec := { name := "raceFree", fn := fun _ => fun
  | [d1, d2, d3] => { results := [.lit (.bool true)], args := [d1, d2, d3] }
  | _ => none }
def raceFreeRow : OpenClaim := { program := "ythcdpjkgdcpkmaagreatdoor", sum := "5fa2aec9c8308ec7cb9fcc6100414ec842a60aa57722c522912b5323aa9824da", func := "taskmill/taskmilllaw.RaceFree", spec := "raceFree", unfollowed := true, recurses := true, named := ["taskmill/taskmillref.Args", "taskmill/code.kinds"], apart := false, laid := [("taskmill/taskmillref.Args", laid_taskmill_taskmillref_Args), ("taskmill/code.kinds", laid_taskmill_code_kinds)] }
def RaceFreeSaid : Prop := raceFreeRow.holds Tryz.pinned (OpenSpec.ofChange raceFreeSpec)

/-- ITS FALSE NEIGHBOUR: 'it returns false'. Refute it at one input. -/
def raceFreeWrong : ChangeSpec := { name := "raceFree", fn := fun _ => fun
  | [d1, d2, d3] => { results := [.lit (.bool false)], args := [d1, d2, d3] }
  | _ => none }
def RaceFreeWrongFalsely : Prop := raceFreeRow.holds Tryz.pinned (OpenSpec.ofChange raceFreeWrong)

/- THE SECOND FORM. 'bulk': how many values and letters a reading holds, each counted each time it is reached (what is shared counts as often as it is met; a slice's spare places count too). A statement '..UptoSaid' is the law's where the arguments, and the package variables that the reading takes, are together of bulk at most 1048576: NARROWER than '..Said'. Prove '..Said' where nothing that the law and all that it calls make is longer than what came in: it says more and counts as full. Else prove '..UptoSaid'. A law counts once. -/
mutual
def uptoBulk {H : Type} : DataW H → Nat
  | .lit (.string bytes) => bytes.length + 1
  | .lit _ => 1
  | .nil => 1
  | .ptr d => uptoBulk d + 1
  | .slice elems spare => uptoBulkAll elems + uptoBulkAll spare + 1
  | .agg parts => uptoBulkAll parts + 1
  | .iface _ d => uptoBulk d + 1
  | .map entries => uptoBulkEntries entries + 1
  | .held _ => 1
def uptoBulkAll {H : Type} : List (DataW H) → Nat
  | [] => 0
  | d :: r => uptoBulk d + uptoBulkAll r
def uptoBulkEntries {H : Type} : List (Lit × DataW H) → Nat
  | [] => 0
  | x :: r => uptoBulkEntry x + uptoBulkEntries r
def uptoBulkEntry {H : Type} : Lit × DataW H → Nat
  | (.string bytes, d) => bytes.length + uptoBulk d + 1
  | (_, d) => uptoBulk d + 1
 end
def uptoSmall : (H : Type) → List (DataW H) → Bool := fun _ ds => decide (uptoBulkAll ds ≤ 1048576)
def OpenSpec.upto (s : _root_.Go.ChangeSpec) : _root_.Go.OpenSpec := { _root_.Go.OpenSpec.ofChange s with cond := some uptoSmall }

/-- 'taskmilllaw.WorldPlays', WHERE WHAT IT READS IS OF BULK AT MOST 1048576: true; the input reads as it did. -/
def worldPlaysUptoRow : OpenClaim := { program := "ythcdpjkgdcpkmaagreatdoor", sum := "5fa2aec9c8308ec7cb9fcc6100414ec842a60aa57722c522912b5323aa9824da", func := "taskmill/taskmilllaw.WorldPlays", spec := "worldPlays", unfollowed := true, recurses := true, named := ["taskmill/code.kinds", "taskmill/taskmillref.Args"], apart := false, laid := [("taskmill/taskmillref.Args", laid_taskmill_taskmillref_Args), ("taskmill/code.kinds", laid_taskmill_code_kinds)], narrowed := true }
def WorldPlaysUptoSaid : Prop := worldPlaysUptoRow.holds Tryz.pinned (OpenSpec.upto worldPlaysSpec)

/-- 'taskmilllaw.WorldPrefix', WHERE WHAT IT READS IS OF BULK AT MOST 1048576: true; the input reads as it did. -/
def worldPrefixUptoRow : OpenClaim := { program := "ythcdpjkgdcpkmaagreatdoor", sum := "5fa2aec9c8308ec7cb9fcc6100414ec842a60aa57722c522912b5323aa9824da", func := "taskmill/taskmilllaw.WorldPrefix", spec := "worldPrefix", unfollowed := true, recurses := true, named := ["taskmill/code.kinds", "taskmill/taskmillref.Args"], apart := false, laid := [("taskmill/taskmillref.Args", laid_taskmill_taskmillref_Args), ("taskmill/code.kinds", laid_taskmill_code_kinds)], narrowed := true }
def WorldPrefixUptoSaid : Prop := worldPrefixUptoRow.holds Tryz.pinned (OpenSpec.upto worldPrefixSpec)

/-- 'taskmilllaw.WorldPipes', WHERE WHAT IT READS IS OF BULK AT MOST 1048576: true; the input reads as it did. -/
def worldPipesUptoRow : OpenClaim := { program := "ythcdpjkgdcpkmaagreatdoor", sum := "5fa2aec9c8308ec7cb9fcc6100414ec842a60aa57722c522912b5323aa9824da", func := "taskmill/taskmilllaw.WorldPipes", spec := "worldPipes", unfollowed := true, recurses := true, named := ["taskmill/code.kinds", "taskmill/taskmillref.Args"], apart := false, laid := [("taskmill/taskmillref.Args", laid_taskmill_taskmillref_Args), ("taskmill/code.kinds", laid_taskmill_code_kinds)], narrowed := true }
def WorldPipesUptoSaid : Prop := worldPipesUptoRow.holds Tryz.pinned (OpenSpec.upto worldPipesSpec)

/-- 'taskmilllaw.WorldLocks', WHERE WHAT IT READS IS OF BULK AT MOST 1048576: true; the input reads as it did. -/
def worldLocksUptoRow : OpenClaim := { program := "ythcdpjkgdcpkmaagreatdoor", sum := "5fa2aec9c8308ec7cb9fcc6100414ec842a60aa57722c522912b5323aa9824da", func := "taskmill/taskmilllaw.WorldLocks", spec := "worldLocks", unfollowed := true, recurses := true, named := ["taskmill/code.kinds", "taskmill/taskmillref.Args"], apart := false, laid := [("taskmill/taskmillref.Args", laid_taskmill_taskmillref_Args), ("taskmill/code.kinds", laid_taskmill_code_kinds)], narrowed := true }
def WorldLocksUptoSaid : Prop := worldLocksUptoRow.holds Tryz.pinned (OpenSpec.upto worldLocksSpec)

/-- 'taskmilllaw.WorldCells', WHERE WHAT IT READS IS OF BULK AT MOST 1048576: true; the input reads as it did. -/
def worldCellsUptoRow : OpenClaim := { program := "ythcdpjkgdcpkmaagreatdoor", sum := "5fa2aec9c8308ec7cb9fcc6100414ec842a60aa57722c522912b5323aa9824da", func := "taskmill/taskmilllaw.WorldCells", spec := "worldCells", unfollowed := true, recurses := true, named := ["taskmill/code.kinds", "taskmill/taskmillref.Args"], apart := false, laid := [("taskmill/taskmillref.Args", laid_taskmill_taskmillref_Args), ("taskmill/code.kinds", laid_taskmill_code_kinds)], narrowed := true }
def WorldCellsUptoSaid : Prop := worldCellsUptoRow.holds Tryz.pinned (OpenSpec.upto worldCellsSpec)

/-- 'taskmilllaw.WorldGroups', WHERE WHAT IT READS IS OF BULK AT MOST 1048576: true; the input reads as it did. -/
def worldGroupsUptoRow : OpenClaim := { program := "ythcdpjkgdcpkmaagreatdoor", sum := "5fa2aec9c8308ec7cb9fcc6100414ec842a60aa57722c522912b5323aa9824da", func := "taskmill/taskmilllaw.WorldGroups", spec := "worldGroups", unfollowed := true, recurses := true, named := ["taskmill/code.kinds", "taskmill/taskmillref.Args"], apart := false, laid := [("taskmill/taskmillref.Args", laid_taskmill_taskmillref_Args), ("taskmill/code.kinds", laid_taskmill_code_kinds)], narrowed := true }
def WorldGroupsUptoSaid : Prop := worldGroupsUptoRow.holds Tryz.pinned (OpenSpec.upto worldGroupsSpec)

/-- 'taskmilllaw.WorldTasks', WHERE WHAT IT READS IS OF BULK AT MOST 1048576: true; the input reads as it did. -/
def worldTasksUptoRow : OpenClaim := { program := "ythcdpjkgdcpkmaagreatdoor", sum := "5fa2aec9c8308ec7cb9fcc6100414ec842a60aa57722c522912b5323aa9824da", func := "taskmill/taskmilllaw.WorldTasks", spec := "worldTasks", unfollowed := true, recurses := true, named := ["taskmill/code.kinds", "taskmill/taskmillref.Args"], apart := false, laid := [("taskmill/taskmillref.Args", laid_taskmill_taskmillref_Args), ("taskmill/code.kinds", laid_taskmill_code_kinds)], narrowed := true }
def WorldTasksUptoSaid : Prop := worldTasksUptoRow.holds Tryz.pinned (OpenSpec.upto worldTasksSpec)

/-- 'taskmilllaw.WorldStuck', WHERE WHAT IT READS IS OF BULK AT MOST 1048576: true; the input reads as it did. -/
def worldStuckUptoRow : OpenClaim := { program := "ythcdpjkgdcpkmaagreatdoor", sum := "5fa2aec9c8308ec7cb9fcc6100414ec842a60aa57722c522912b5323aa9824da", func := "taskmill/taskmilllaw.WorldStuck", spec := "worldStuck", unfollowed := true, recurses := true, named := ["taskmill/code.kinds", "taskmill/taskmillref.Args"], apart := false, laid := [("taskmill/taskmillref.Args", laid_taskmill_taskmillref_Args), ("taskmill/code.kinds", laid_taskmill_code_kinds)], narrowed := true }
def WorldStuckUptoSaid : Prop := worldStuckUptoRow.holds Tryz.pinned (OpenSpec.upto worldStuckSpec)

/-- 'taskmilllaw.WorldAlone', WHERE WHAT IT READS IS OF BULK AT MOST 1048576: true; the input reads as it did. -/
def worldAloneUptoRow : OpenClaim := { program := "ythcdpjkgdcpkmaagreatdoor", sum := "5fa2aec9c8308ec7cb9fcc6100414ec842a60aa57722c522912b5323aa9824da", func := "taskmill/taskmilllaw.WorldAlone", spec := "worldAlone", unfollowed := true, recurses := true, named := ["taskmill/code.kinds", "taskmill/taskmillref.Args"], apart := false, laid := [("taskmill/taskmillref.Args", laid_taskmill_taskmillref_Args), ("taskmill/code.kinds", laid_taskmill_code_kinds)], narrowed := true }
def WorldAloneUptoSaid : Prop := worldAloneUptoRow.holds Tryz.pinned (OpenSpec.upto worldAloneSpec)

/-- 'taskmilllaw.WorldSums', WHERE WHAT IT READS IS OF BULK AT MOST 1048576: true; the input reads as it did. -/
def worldSumsUptoRow : OpenClaim := { program := "ythcdpjkgdcpkmaagreatdoor", sum := "5fa2aec9c8308ec7cb9fcc6100414ec842a60aa57722c522912b5323aa9824da", func := "taskmill/taskmilllaw.WorldSums", spec := "worldSums", unfollowed := true, recurses := true, named := ["taskmill/code.kinds", "taskmill/taskmillref.Args"], apart := false, laid := [("taskmill/taskmillref.Args", laid_taskmill_taskmillref_Args), ("taskmill/code.kinds", laid_taskmill_code_kinds)], narrowed := true }
def WorldSumsUptoSaid : Prop := worldSumsUptoRow.holds Tryz.pinned (OpenSpec.upto worldSumsSpec)

/-- 'taskmilllaw.WorldMeets', WHERE WHAT IT READS IS OF BULK AT MOST 1048576: true; the input reads as it did. -/
def worldMeetsUptoRow : OpenClaim := { program := "ythcdpjkgdcpkmaagreatdoor", sum := "5fa2aec9c8308ec7cb9fcc6100414ec842a60aa57722c522912b5323aa9824da", func := "taskmill/taskmilllaw.WorldMeets", spec := "worldMeets", unfollowed := true, recurses := true, named := ["taskmill/code.kinds", "taskmill/taskmillref.Args"], apart := false, laid := [("taskmill/taskmillref.Args", laid_taskmill_taskmillref_Args), ("taskmill/code.kinds", laid_taskmill_code_kinds)], narrowed := true }
def WorldMeetsUptoSaid : Prop := worldMeetsUptoRow.holds Tryz.pinned (OpenSpec.upto worldMeetsSpec)

/-- 'taskmilllaw.OrderPlays', WHERE WHAT IT READS IS OF BULK AT MOST 1048576: true; the input reads as it did. -/
def orderPlaysUptoRow : OpenClaim := { program := "ythcdpjkgdcpkmaagreatdoor", sum := "5fa2aec9c8308ec7cb9fcc6100414ec842a60aa57722c522912b5323aa9824da", func := "taskmill/taskmilllaw.OrderPlays", spec := "orderPlays", unfollowed := true, recurses := true, named := ["taskmill/taskmillref.Args", "taskmill/code.kinds"], apart := false, laid := [("taskmill/taskmillref.Args", laid_taskmill_taskmillref_Args), ("taskmill/code.kinds", laid_taskmill_code_kinds)], narrowed := true }
def OrderPlaysUptoSaid : Prop := orderPlaysUptoRow.holds Tryz.pinned (OpenSpec.upto orderPlaysSpec)

/-- 'taskmilllaw.RaceLocked', WHERE WHAT IT READS IS OF BULK AT MOST 1048576: true; the input reads as it did. -/
def raceLockedUptoRow : OpenClaim := { program := "ythcdpjkgdcpkmaagreatdoor", sum := "5fa2aec9c8308ec7cb9fcc6100414ec842a60aa57722c522912b5323aa9824da", func := "taskmill/taskmilllaw.RaceLocked", spec := "raceLocked", unfollowed := true, recurses := true, named := ["taskmill/taskmillref.Args", "taskmill/code.kinds"], apart := false, laid := [("taskmill/taskmillref.Args", laid_taskmill_taskmillref_Args), ("taskmill/code.kinds", laid_taskmill_code_kinds)], narrowed := true }
def RaceLockedUptoSaid : Prop := raceLockedUptoRow.holds Tryz.pinned (OpenSpec.upto raceLockedSpec)

/-- 'taskmilllaw.RaceFree', WHERE WHAT IT READS IS OF BULK AT MOST 1048576: true; the input reads as it did. -/
def raceFreeUptoRow : OpenClaim := { program := "ythcdpjkgdcpkmaagreatdoor", sum := "5fa2aec9c8308ec7cb9fcc6100414ec842a60aa57722c522912b5323aa9824da", func := "taskmill/taskmilllaw.RaceFree", spec := "raceFree", unfollowed := true, recurses := true, named := ["taskmill/taskmillref.Args", "taskmill/code.kinds"], apart := false, laid := [("taskmill/taskmillref.Args", laid_taskmill_taskmillref_Args), ("taskmill/code.kinds", laid_taskmill_code_kinds)], narrowed := true }
def RaceFreeUptoSaid : Prop := raceFreeUptoRow.holds Tryz.pinned (OpenSpec.upto raceFreeSpec)

end Rows
end Go.Proofs.YthcdpjkgdcpkmaaGreatDoor
