/-
  DERIVED. GIVEN WITH THE SEED: THE CARDS: each row of YtdckcophbmnjjaaGreatDoorRows.lean that lists a variable, with what it lists TIED to the program's text (the seventh form; the later family's looks); each row that meets fmt, with fmt's text TOLD by the authors' own Lean function (tested against real Go, not proved from fmt's source: count such statements apart). THE CARD IS WHAT COUNTS. Prove the row's statement (the work); the ties are given (YtdckcophbmnjjaaGreatDoorTie.lean); close each card by the builder's one call (the guide's Derived/Test/ToyasCard.lean, 'card_holds'). Laid BY PROGRAM, IN A SANDBOX (cutbox-door.mjs). By AI agents, Wed Nov 11 2026. No macro, syntax, notation, axiom, sorry.
-/
import Derived.Test.YtdckcophbmnjjaaGreatDoorRows
import GoSem.ClaimSeven
namespace Go.Proofs.YtdckcophbmnjjaaGreatDoor
namespace Rows

/-- THE TIED CARD OF 'bellbuoylaw34.TallyPlays'. -/
def tallyPlaysCard : Claim7 := { stood := { row := tallyPlaysRow, standIns := [], harness := (true, "c3102f49c573aded1a80fc823b7b848d09e0676b20b7ae6b479df150bae0e45f"), looks := false }, kinds := [], alts := [], laidByText := true, laidKinds := [.data], laidTests := true, laidLooks := .later }
def TallyPlaysCardSaid : Prop := Claim7.holds Tryz.pinned (.plain (OpenSpec.ofChange tallyPlaysSpec)) tallyPlaysCard

/-- THE SECOND FORM's CARD OF 'bellbuoylaw34.TallyPlays'. -/
def tallyPlaysUptoCard : Claim7 := { stood := { row := tallyPlaysUptoRow, standIns := [], harness := (true, "c3102f49c573aded1a80fc823b7b848d09e0676b20b7ae6b479df150bae0e45f"), looks := false }, kinds := [], alts := [], laidByText := true, laidKinds := [.data], laidTests := true, laidLooks := .later }
def TallyPlaysUptoCardSaid : Prop := Claim7.holds Tryz.pinned (.plain (OpenSpec.upto tallyPlaysSpec)) tallyPlaysUptoCard
end Rows
end Go.Proofs.YtdckcophbmnjjaaGreatDoor
