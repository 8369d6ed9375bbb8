/-
  DERIVED. GIVEN WITH THE SEED: THE CARDS: each row of YthcdpjkgdcpkmaaDoorRows.lean that lists a variable, with what it lists TIED to the program's text (the seventh form; the later family's looks); each row that meets fmt, with fmt's text TOLD by the authors' own Lean function (tested against real Go, not proved from fmt's source: count such statements apart). THE CARD IS WHAT COUNTS. Prove the row's statement (the work); the ties are given (YthcdpjkgdcpkmaaDoorTie.lean); close each card by the builder's one call (the guide's Derived/Test/ToyasCard.lean, 'card_holds'). Laid BY PROGRAM, IN A SANDBOX (cutbox-door.mjs). By AI agents, Wed Nov 11 2026. No macro, syntax, notation, axiom, sorry.
-/
import Derived.Test.YthcdpjkgdcpkmaaDoorRows
import GoSem.ClaimSeven
namespace Go.Proofs.YthcdpjkgdcpkmaaDoor
namespace Rows

/-- THE TIED CARD OF 'taskmilllaw.WorldSleeps'. -/
def worldSleepsCard : Claim7 := { stood := { row := worldSleepsRow, standIns := [], harness := (true, "0bb24bd46087b26862e651d2d96a0a8e4aa500f30876f17e99b48fc5e489c78a"), looks := false }, kinds := [], alts := [], laidByText := true, laidKinds := [.widerDeep], laidTests := true, laidLooks := .later }
def WorldSleepsCardSaid : Prop := Claim7.holds Tryd.pinned (.plain (OpenSpec.ofChange worldSleepsSpec)) worldSleepsCard

/-- THE TIED CARD OF 'taskmilllaw.WorldServes'. -/
def worldServesCard : Claim7 := { stood := { row := worldServesRow, standIns := [], harness := (true, "0bb24bd46087b26862e651d2d96a0a8e4aa500f30876f17e99b48fc5e489c78a"), looks := false }, kinds := [], alts := [], laidByText := true, laidKinds := [.widerDeep], laidTests := true, laidLooks := .later }
def WorldServesCardSaid : Prop := Claim7.holds Tryd.pinned (.plain (OpenSpec.ofChange worldServesSpec)) worldServesCard

/-- THE SECOND FORM's CARD OF 'taskmilllaw.WorldSleeps'. -/
def worldSleepsUptoCard : Claim7 := { stood := { row := worldSleepsUptoRow, standIns := [], harness := (true, "0bb24bd46087b26862e651d2d96a0a8e4aa500f30876f17e99b48fc5e489c78a"), looks := false }, kinds := [], alts := [], laidByText := true, laidKinds := [.widerDeep], laidTests := true, laidLooks := .later }
def WorldSleepsUptoCardSaid : Prop := Claim7.holds Tryd.pinned (.plain (OpenSpec.upto worldSleepsSpec)) worldSleepsUptoCard

/-- THE SECOND FORM's CARD OF 'taskmilllaw.WorldServes'. -/
def worldServesUptoCard : Claim7 := { stood := { row := worldServesUptoRow, standIns := [], harness := (true, "0bb24bd46087b26862e651d2d96a0a8e4aa500f30876f17e99b48fc5e489c78a"), looks := false }, kinds := [], alts := [], laidByText := true, laidKinds := [.widerDeep], laidTests := true, laidLooks := .later }
def WorldServesUptoCardSaid : Prop := Claim7.holds Tryd.pinned (.plain (OpenSpec.upto worldServesSpec)) worldServesUptoCard
end Rows
end Go.Proofs.YthcdpjkgdcpkmaaDoor
