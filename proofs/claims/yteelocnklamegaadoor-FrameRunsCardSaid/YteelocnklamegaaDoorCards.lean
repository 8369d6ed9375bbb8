/-
  DERIVED. GIVEN WITH THE SEED: THE CARDS: each row of YteelocnklamegaaDoorRows.lean that lists a variable, with what it lists TIED to the program's text (the seventh form; the later family's looks); each row that meets fmt, with fmt's text TOLD by the authors' own Lean function (tested against real Go, not proved from fmt's source: count such statements apart). THE CARD IS WHAT COUNTS. Prove the row's statement (the work); the ties are given (YteelocnklamegaaDoorTie.lean); close each card by the builder's one call (the guide's Derived/Test/ToyasCard.lean, 'card_holds'). Laid BY PROGRAM, IN A SANDBOX (cutbox-door.mjs). By AI agents, Wed Nov 11 2026. No macro, syntax, notation, axiom, sorry.
-/
import Derived.Test.YteelocnklamegaaDoorRows
import GoSem.ClaimSeven
namespace Go.Proofs.YteelocnklamegaaDoor
namespace Rows

/-- THE TIED CARD OF 'taskmilllaw.FrameRuns'. -/
def frameRunsCard : Claim7 := { stood := { row := frameRunsRow, standIns := [], harness := (true, "d7c5c2fd054220a48f8d0830e48e960011559da2cbbd89f33642e9346a7571d1"), looks := true }, kinds := [], alts := [], laidByText := true, laidKinds := [.handle, .sentinel], laidTests := true, laidLooks := .later }
def FrameRunsCardSaid : Prop := Claim7.holds Tryd.pinned (.plain (OpenSpec.ofChange frameRunsSpec)) frameRunsCard

/-- THE TIED CARD OF 'taskmilllaw.FrameLate'. -/
def frameLateCard : Claim7 := { stood := { row := frameLateRow, standIns := [], harness := (true, "d7c5c2fd054220a48f8d0830e48e960011559da2cbbd89f33642e9346a7571d1"), looks := true }, kinds := [], alts := [], laidByText := true, laidKinds := [.handle, .sentinel], laidTests := true, laidLooks := .later }
def FrameLateCardSaid : Prop := Claim7.holds Tryd.pinned (.plain (OpenSpec.ofChange frameLateSpec)) frameLateCard

/-- THE TIED CARD OF 'taskmilllaw.FrameCatches'. -/
def frameCatchesCard : Claim7 := { stood := { row := frameCatchesRow, standIns := [], harness := (true, "d7c5c2fd054220a48f8d0830e48e960011559da2cbbd89f33642e9346a7571d1"), looks := true }, kinds := [], alts := [], laidByText := true, laidKinds := [.handle, .sentinel], laidTests := true, laidLooks := .later }
def FrameCatchesCardSaid : Prop := Claim7.holds Tryd.pinned (.plain (OpenSpec.ofChange frameCatchesSpec)) frameCatchesCard

/-- THE TIED CARD OF 'taskmilllaw.FrameNests'. -/
def frameNestsCard : Claim7 := { stood := { row := frameNestsRow, standIns := [], harness := (true, "d7c5c2fd054220a48f8d0830e48e960011559da2cbbd89f33642e9346a7571d1"), looks := true }, kinds := [], alts := [], laidByText := true, laidKinds := [.handle, .sentinel], laidTests := true, laidLooks := .later }
def FrameNestsCardSaid : Prop := Claim7.holds Tryd.pinned (.plain (OpenSpec.ofChange frameNestsSpec)) frameNestsCard

/-- THE TIED CARD OF 'taskmilllaw.FrameLastPanic'. -/
def frameLastPanicCard : Claim7 := { stood := { row := frameLastPanicRow, standIns := [], harness := (true, "d7c5c2fd054220a48f8d0830e48e960011559da2cbbd89f33642e9346a7571d1"), looks := true }, kinds := [], alts := [], laidByText := true, laidKinds := [.handle, .sentinel], laidTests := true, laidLooks := .later }
def FrameLastPanicCardSaid : Prop := Claim7.holds Tryd.pinned (.plain (OpenSpec.ofChange frameLastPanicSpec)) frameLastPanicCard

/-- THE SECOND FORM's CARD OF 'taskmilllaw.FrameRuns'. -/
def frameRunsUptoCard : Claim7 := { stood := { row := frameRunsUptoRow, standIns := [], harness := (true, "d7c5c2fd054220a48f8d0830e48e960011559da2cbbd89f33642e9346a7571d1"), looks := true }, kinds := [], alts := [], laidByText := true, laidKinds := [.handle, .sentinel], laidTests := true, laidLooks := .later }
def FrameRunsUptoCardSaid : Prop := Claim7.holds Tryd.pinned (.plain (OpenSpec.upto frameRunsSpec)) frameRunsUptoCard

/-- THE SECOND FORM's CARD OF 'taskmilllaw.FrameLate'. -/
def frameLateUptoCard : Claim7 := { stood := { row := frameLateUptoRow, standIns := [], harness := (true, "d7c5c2fd054220a48f8d0830e48e960011559da2cbbd89f33642e9346a7571d1"), looks := true }, kinds := [], alts := [], laidByText := true, laidKinds := [.handle, .sentinel], laidTests := true, laidLooks := .later }
def FrameLateUptoCardSaid : Prop := Claim7.holds Tryd.pinned (.plain (OpenSpec.upto frameLateSpec)) frameLateUptoCard

/-- THE SECOND FORM's CARD OF 'taskmilllaw.FrameCatches'. -/
def frameCatchesUptoCard : Claim7 := { stood := { row := frameCatchesUptoRow, standIns := [], harness := (true, "d7c5c2fd054220a48f8d0830e48e960011559da2cbbd89f33642e9346a7571d1"), looks := true }, kinds := [], alts := [], laidByText := true, laidKinds := [.handle, .sentinel], laidTests := true, laidLooks := .later }
def FrameCatchesUptoCardSaid : Prop := Claim7.holds Tryd.pinned (.plain (OpenSpec.upto frameCatchesSpec)) frameCatchesUptoCard

/-- THE SECOND FORM's CARD OF 'taskmilllaw.FrameNests'. -/
def frameNestsUptoCard : Claim7 := { stood := { row := frameNestsUptoRow, standIns := [], harness := (true, "d7c5c2fd054220a48f8d0830e48e960011559da2cbbd89f33642e9346a7571d1"), looks := true }, kinds := [], alts := [], laidByText := true, laidKinds := [.handle, .sentinel], laidTests := true, laidLooks := .later }
def FrameNestsUptoCardSaid : Prop := Claim7.holds Tryd.pinned (.plain (OpenSpec.upto frameNestsSpec)) frameNestsUptoCard

/-- THE SECOND FORM's CARD OF 'taskmilllaw.FrameLastPanic'. -/
def frameLastPanicUptoCard : Claim7 := { stood := { row := frameLastPanicUptoRow, standIns := [], harness := (true, "d7c5c2fd054220a48f8d0830e48e960011559da2cbbd89f33642e9346a7571d1"), looks := true }, kinds := [], alts := [], laidByText := true, laidKinds := [.handle, .sentinel], laidTests := true, laidLooks := .later }
def FrameLastPanicUptoCardSaid : Prop := Claim7.holds Tryd.pinned (.plain (OpenSpec.upto frameLastPanicSpec)) frameLastPanicUptoCard
end Rows
end Go.Proofs.YteelocnklamegaaDoor
