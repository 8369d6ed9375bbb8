/-
  DERIVED. GIVEN WITH THE SEED: THE CARDS: each row of YthcdpjkgdcpkmaaGreatDoorRows.lean that lists a variable, with what it lists TIED to the program's text (the seventh form; the later family's looks); each row that meets fmt, with fmt's text TOLD by the authors' own Lean function (tested against real Go, not proved from fmt's source: count such statements apart). THE CARD IS WHAT COUNTS. Prove the row's statement (the work); the ties are given (YthcdpjkgdcpkmaaGreatDoorTie.lean); close each card by the builder's one call (the guide's Derived/Test/ToyasCard.lean, 'card_holds'). Laid BY PROGRAM, IN A SANDBOX (cutbox-door.mjs). By AI agents, Wed Nov 11 2026. No macro, syntax, notation, axiom, sorry.
-/
import Derived.Test.YthcdpjkgdcpkmaaGreatDoorRows
import GoSem.ClaimSeven
namespace Go.Proofs.YthcdpjkgdcpkmaaGreatDoor
namespace Rows

/-- THE TIED CARD OF 'taskmilllaw.WorldPlays'. -/
def worldPlaysCard : Claim7 := { stood := { row := worldPlaysRow, standIns := [], harness := (true, "c38a2c21b203554f474b75a858573b4321205dd5ee467ad78324b9619930bcff"), looks := false }, kinds := [], alts := [], laidByText := true, laidKinds := [.data, .widerDeep], laidTests := true, laidLooks := .later }
def WorldPlaysCardSaid : Prop := Claim7.holds Tryz.pinned (.plain (OpenSpec.ofChange worldPlaysSpec)) worldPlaysCard

/-- THE TIED CARD OF 'taskmilllaw.WorldPrefix'. -/
def worldPrefixCard : Claim7 := { stood := { row := worldPrefixRow, standIns := [], harness := (true, "c38a2c21b203554f474b75a858573b4321205dd5ee467ad78324b9619930bcff"), looks := false }, kinds := [], alts := [], laidByText := true, laidKinds := [.data, .widerDeep], laidTests := true, laidLooks := .later }
def WorldPrefixCardSaid : Prop := Claim7.holds Tryz.pinned (.plain (OpenSpec.ofChange worldPrefixSpec)) worldPrefixCard

/-- THE TIED CARD OF 'taskmilllaw.WorldPipes'. -/
def worldPipesCard : Claim7 := { stood := { row := worldPipesRow, standIns := [], harness := (true, "c38a2c21b203554f474b75a858573b4321205dd5ee467ad78324b9619930bcff"), looks := false }, kinds := [], alts := [], laidByText := true, laidKinds := [.data, .widerDeep], laidTests := true, laidLooks := .later }
def WorldPipesCardSaid : Prop := Claim7.holds Tryz.pinned (.plain (OpenSpec.ofChange worldPipesSpec)) worldPipesCard

/-- THE TIED CARD OF 'taskmilllaw.WorldLocks'. -/
def worldLocksCard : Claim7 := { stood := { row := worldLocksRow, standIns := [], harness := (true, "c38a2c21b203554f474b75a858573b4321205dd5ee467ad78324b9619930bcff"), looks := false }, kinds := [], alts := [], laidByText := true, laidKinds := [.data, .widerDeep], laidTests := true, laidLooks := .later }
def WorldLocksCardSaid : Prop := Claim7.holds Tryz.pinned (.plain (OpenSpec.ofChange worldLocksSpec)) worldLocksCard

/-- THE TIED CARD OF 'taskmilllaw.WorldCells'. -/
def worldCellsCard : Claim7 := { stood := { row := worldCellsRow, standIns := [], harness := (true, "c38a2c21b203554f474b75a858573b4321205dd5ee467ad78324b9619930bcff"), looks := false }, kinds := [], alts := [], laidByText := true, laidKinds := [.data, .widerDeep], laidTests := true, laidLooks := .later }
def WorldCellsCardSaid : Prop := Claim7.holds Tryz.pinned (.plain (OpenSpec.ofChange worldCellsSpec)) worldCellsCard

/-- THE TIED CARD OF 'taskmilllaw.WorldGroups'. -/
def worldGroupsCard : Claim7 := { stood := { row := worldGroupsRow, standIns := [], harness := (true, "c38a2c21b203554f474b75a858573b4321205dd5ee467ad78324b9619930bcff"), looks := false }, kinds := [], alts := [], laidByText := true, laidKinds := [.data, .widerDeep], laidTests := true, laidLooks := .later }
def WorldGroupsCardSaid : Prop := Claim7.holds Tryz.pinned (.plain (OpenSpec.ofChange worldGroupsSpec)) worldGroupsCard

/-- THE TIED CARD OF 'taskmilllaw.WorldTasks'. -/
def worldTasksCard : Claim7 := { stood := { row := worldTasksRow, standIns := [], harness := (true, "c38a2c21b203554f474b75a858573b4321205dd5ee467ad78324b9619930bcff"), looks := false }, kinds := [], alts := [], laidByText := true, laidKinds := [.data, .widerDeep], laidTests := true, laidLooks := .later }
def WorldTasksCardSaid : Prop := Claim7.holds Tryz.pinned (.plain (OpenSpec.ofChange worldTasksSpec)) worldTasksCard

/-- THE TIED CARD OF 'taskmilllaw.WorldStuck'. -/
def worldStuckCard : Claim7 := { stood := { row := worldStuckRow, standIns := [], harness := (true, "c38a2c21b203554f474b75a858573b4321205dd5ee467ad78324b9619930bcff"), looks := false }, kinds := [], alts := [], laidByText := true, laidKinds := [.data, .widerDeep], laidTests := true, laidLooks := .later }
def WorldStuckCardSaid : Prop := Claim7.holds Tryz.pinned (.plain (OpenSpec.ofChange worldStuckSpec)) worldStuckCard

/-- THE TIED CARD OF 'taskmilllaw.WorldAlone'. -/
def worldAloneCard : Claim7 := { stood := { row := worldAloneRow, standIns := [], harness := (true, "c38a2c21b203554f474b75a858573b4321205dd5ee467ad78324b9619930bcff"), looks := false }, kinds := [], alts := [], laidByText := true, laidKinds := [.data, .widerDeep], laidTests := true, laidLooks := .later }
def WorldAloneCardSaid : Prop := Claim7.holds Tryz.pinned (.plain (OpenSpec.ofChange worldAloneSpec)) worldAloneCard

/-- THE TIED CARD OF 'taskmilllaw.WorldSums'. -/
def worldSumsCard : Claim7 := { stood := { row := worldSumsRow, standIns := [], harness := (true, "c38a2c21b203554f474b75a858573b4321205dd5ee467ad78324b9619930bcff"), looks := false }, kinds := [], alts := [], laidByText := true, laidKinds := [.data, .widerDeep], laidTests := true, laidLooks := .later }
def WorldSumsCardSaid : Prop := Claim7.holds Tryz.pinned (.plain (OpenSpec.ofChange worldSumsSpec)) worldSumsCard

/-- THE TIED CARD OF 'taskmilllaw.WorldMeets'. -/
def worldMeetsCard : Claim7 := { stood := { row := worldMeetsRow, standIns := [], harness := (true, "c38a2c21b203554f474b75a858573b4321205dd5ee467ad78324b9619930bcff"), looks := false }, kinds := [], alts := [], laidByText := true, laidKinds := [.data, .widerDeep], laidTests := true, laidLooks := .later }
def WorldMeetsCardSaid : Prop := Claim7.holds Tryz.pinned (.plain (OpenSpec.ofChange worldMeetsSpec)) worldMeetsCard

/-- THE TIED CARD OF 'taskmilllaw.OrderPlays'. -/
def orderPlaysCard : Claim7 := { stood := { row := orderPlaysRow, standIns := [], harness := (true, "c38a2c21b203554f474b75a858573b4321205dd5ee467ad78324b9619930bcff"), looks := false }, kinds := [], alts := [], laidByText := true, laidKinds := [.data, .widerDeep], laidTests := true, laidLooks := .later }
def OrderPlaysCardSaid : Prop := Claim7.holds Tryz.pinned (.plain (OpenSpec.ofChange orderPlaysSpec)) orderPlaysCard

/-- THE TIED CARD OF 'taskmilllaw.RaceLocked'. -/
def raceLockedCard : Claim7 := { stood := { row := raceLockedRow, standIns := [], harness := (true, "c38a2c21b203554f474b75a858573b4321205dd5ee467ad78324b9619930bcff"), looks := false }, kinds := [], alts := [], laidByText := true, laidKinds := [.data, .widerDeep], laidTests := true, laidLooks := .later }
def RaceLockedCardSaid : Prop := Claim7.holds Tryz.pinned (.plain (OpenSpec.ofChange raceLockedSpec)) raceLockedCard

/-- THE TIED CARD OF 'taskmilllaw.RaceFree'. -/
def raceFreeCard : Claim7 := { stood := { row := raceFreeRow, standIns := [], harness := (true, "c38a2c21b203554f474b75a858573b4321205dd5ee467ad78324b9619930bcff"), looks := false }, kinds := [], alts := [], laidByText := true, laidKinds := [.data, .widerDeep], laidTests := true, laidLooks := .later }
def RaceFreeCardSaid : Prop := Claim7.holds Tryz.pinned (.plain (OpenSpec.ofChange raceFreeSpec)) raceFreeCard

/-- THE SECOND FORM's CARD OF 'taskmilllaw.WorldPlays'. -/
def worldPlaysUptoCard : Claim7 := { stood := { row := worldPlaysUptoRow, standIns := [], harness := (true, "c38a2c21b203554f474b75a858573b4321205dd5ee467ad78324b9619930bcff"), looks := false }, kinds := [], alts := [], laidByText := true, laidKinds := [.data, .widerDeep], laidTests := true, laidLooks := .later }
def WorldPlaysUptoCardSaid : Prop := Claim7.holds Tryz.pinned (.plain (OpenSpec.upto worldPlaysSpec)) worldPlaysUptoCard

/-- THE SECOND FORM's CARD OF 'taskmilllaw.WorldPrefix'. -/
def worldPrefixUptoCard : Claim7 := { stood := { row := worldPrefixUptoRow, standIns := [], harness := (true, "c38a2c21b203554f474b75a858573b4321205dd5ee467ad78324b9619930bcff"), looks := false }, kinds := [], alts := [], laidByText := true, laidKinds := [.data, .widerDeep], laidTests := true, laidLooks := .later }
def WorldPrefixUptoCardSaid : Prop := Claim7.holds Tryz.pinned (.plain (OpenSpec.upto worldPrefixSpec)) worldPrefixUptoCard

/-- THE SECOND FORM's CARD OF 'taskmilllaw.WorldPipes'. -/
def worldPipesUptoCard : Claim7 := { stood := { row := worldPipesUptoRow, standIns := [], harness := (true, "c38a2c21b203554f474b75a858573b4321205dd5ee467ad78324b9619930bcff"), looks := false }, kinds := [], alts := [], laidByText := true, laidKinds := [.data, .widerDeep], laidTests := true, laidLooks := .later }
def WorldPipesUptoCardSaid : Prop := Claim7.holds Tryz.pinned (.plain (OpenSpec.upto worldPipesSpec)) worldPipesUptoCard

/-- THE SECOND FORM's CARD OF 'taskmilllaw.WorldLocks'. -/
def worldLocksUptoCard : Claim7 := { stood := { row := worldLocksUptoRow, standIns := [], harness := (true, "c38a2c21b203554f474b75a858573b4321205dd5ee467ad78324b9619930bcff"), looks := false }, kinds := [], alts := [], laidByText := true, laidKinds := [.data, .widerDeep], laidTests := true, laidLooks := .later }
def WorldLocksUptoCardSaid : Prop := Claim7.holds Tryz.pinned (.plain (OpenSpec.upto worldLocksSpec)) worldLocksUptoCard

/-- THE SECOND FORM's CARD OF 'taskmilllaw.WorldCells'. -/
def worldCellsUptoCard : Claim7 := { stood := { row := worldCellsUptoRow, standIns := [], harness := (true, "c38a2c21b203554f474b75a858573b4321205dd5ee467ad78324b9619930bcff"), looks := false }, kinds := [], alts := [], laidByText := true, laidKinds := [.data, .widerDeep], laidTests := true, laidLooks := .later }
def WorldCellsUptoCardSaid : Prop := Claim7.holds Tryz.pinned (.plain (OpenSpec.upto worldCellsSpec)) worldCellsUptoCard

/-- THE SECOND FORM's CARD OF 'taskmilllaw.WorldGroups'. -/
def worldGroupsUptoCard : Claim7 := { stood := { row := worldGroupsUptoRow, standIns := [], harness := (true, "c38a2c21b203554f474b75a858573b4321205dd5ee467ad78324b9619930bcff"), looks := false }, kinds := [], alts := [], laidByText := true, laidKinds := [.data, .widerDeep], laidTests := true, laidLooks := .later }
def WorldGroupsUptoCardSaid : Prop := Claim7.holds Tryz.pinned (.plain (OpenSpec.upto worldGroupsSpec)) worldGroupsUptoCard

/-- THE SECOND FORM's CARD OF 'taskmilllaw.WorldTasks'. -/
def worldTasksUptoCard : Claim7 := { stood := { row := worldTasksUptoRow, standIns := [], harness := (true, "c38a2c21b203554f474b75a858573b4321205dd5ee467ad78324b9619930bcff"), looks := false }, kinds := [], alts := [], laidByText := true, laidKinds := [.data, .widerDeep], laidTests := true, laidLooks := .later }
def WorldTasksUptoCardSaid : Prop := Claim7.holds Tryz.pinned (.plain (OpenSpec.upto worldTasksSpec)) worldTasksUptoCard

/-- THE SECOND FORM's CARD OF 'taskmilllaw.WorldStuck'. -/
def worldStuckUptoCard : Claim7 := { stood := { row := worldStuckUptoRow, standIns := [], harness := (true, "c38a2c21b203554f474b75a858573b4321205dd5ee467ad78324b9619930bcff"), looks := false }, kinds := [], alts := [], laidByText := true, laidKinds := [.data, .widerDeep], laidTests := true, laidLooks := .later }
def WorldStuckUptoCardSaid : Prop := Claim7.holds Tryz.pinned (.plain (OpenSpec.upto worldStuckSpec)) worldStuckUptoCard

/-- THE SECOND FORM's CARD OF 'taskmilllaw.WorldAlone'. -/
def worldAloneUptoCard : Claim7 := { stood := { row := worldAloneUptoRow, standIns := [], harness := (true, "c38a2c21b203554f474b75a858573b4321205dd5ee467ad78324b9619930bcff"), looks := false }, kinds := [], alts := [], laidByText := true, laidKinds := [.data, .widerDeep], laidTests := true, laidLooks := .later }
def WorldAloneUptoCardSaid : Prop := Claim7.holds Tryz.pinned (.plain (OpenSpec.upto worldAloneSpec)) worldAloneUptoCard

/-- THE SECOND FORM's CARD OF 'taskmilllaw.WorldSums'. -/
def worldSumsUptoCard : Claim7 := { stood := { row := worldSumsUptoRow, standIns := [], harness := (true, "c38a2c21b203554f474b75a858573b4321205dd5ee467ad78324b9619930bcff"), looks := false }, kinds := [], alts := [], laidByText := true, laidKinds := [.data, .widerDeep], laidTests := true, laidLooks := .later }
def WorldSumsUptoCardSaid : Prop := Claim7.holds Tryz.pinned (.plain (OpenSpec.upto worldSumsSpec)) worldSumsUptoCard

/-- THE SECOND FORM's CARD OF 'taskmilllaw.WorldMeets'. -/
def worldMeetsUptoCard : Claim7 := { stood := { row := worldMeetsUptoRow, standIns := [], harness := (true, "c38a2c21b203554f474b75a858573b4321205dd5ee467ad78324b9619930bcff"), looks := false }, kinds := [], alts := [], laidByText := true, laidKinds := [.data, .widerDeep], laidTests := true, laidLooks := .later }
def WorldMeetsUptoCardSaid : Prop := Claim7.holds Tryz.pinned (.plain (OpenSpec.upto worldMeetsSpec)) worldMeetsUptoCard

/-- THE SECOND FORM's CARD OF 'taskmilllaw.OrderPlays'. -/
def orderPlaysUptoCard : Claim7 := { stood := { row := orderPlaysUptoRow, standIns := [], harness := (true, "c38a2c21b203554f474b75a858573b4321205dd5ee467ad78324b9619930bcff"), looks := false }, kinds := [], alts := [], laidByText := true, laidKinds := [.data, .widerDeep], laidTests := true, laidLooks := .later }
def OrderPlaysUptoCardSaid : Prop := Claim7.holds Tryz.pinned (.plain (OpenSpec.upto orderPlaysSpec)) orderPlaysUptoCard

/-- THE SECOND FORM's CARD OF 'taskmilllaw.RaceLocked'. -/
def raceLockedUptoCard : Claim7 := { stood := { row := raceLockedUptoRow, standIns := [], harness := (true, "c38a2c21b203554f474b75a858573b4321205dd5ee467ad78324b9619930bcff"), looks := false }, kinds := [], alts := [], laidByText := true, laidKinds := [.data, .widerDeep], laidTests := true, laidLooks := .later }
def RaceLockedUptoCardSaid : Prop := Claim7.holds Tryz.pinned (.plain (OpenSpec.upto raceLockedSpec)) raceLockedUptoCard

/-- THE SECOND FORM's CARD OF 'taskmilllaw.RaceFree'. -/
def raceFreeUptoCard : Claim7 := { stood := { row := raceFreeUptoRow, standIns := [], harness := (true, "c38a2c21b203554f474b75a858573b4321205dd5ee467ad78324b9619930bcff"), looks := false }, kinds := [], alts := [], laidByText := true, laidKinds := [.data, .widerDeep], laidTests := true, laidLooks := .later }
def RaceFreeUptoCardSaid : Prop := Claim7.holds Tryz.pinned (.plain (OpenSpec.upto raceFreeSpec)) raceFreeUptoCard
end Rows
end Go.Proofs.YthcdpjkgdcpkmaaGreatDoor
