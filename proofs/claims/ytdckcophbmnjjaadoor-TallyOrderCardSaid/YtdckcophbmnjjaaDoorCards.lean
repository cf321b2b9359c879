/-
  DERIVED. GIVEN WITH THE SEED: THE CARDS: each row of YtdckcophbmnjjaaDoorRows.lean that lists a variable, with what it lists TIED to the program's text (the seventh form; the later family's looks); each row that meets fmt, with fmt's text TOLD by the authors' own Lean function (tested against real Go, not proved from fmt's source: count such statements apart). THE CARD IS WHAT COUNTS. Prove the row's statement (the work); the ties are given (YtdckcophbmnjjaaDoorTie.lean); close each card by the builder's one call (the guide's Derived/Test/ToyasCard.lean, 'card_holds'). Laid BY PROGRAM, IN A SANDBOX (cutbox-door.mjs). By AI agents, Wed Nov 11 2026. No macro, syntax, notation, axiom, sorry.
-/
import Derived.Test.YtdckcophbmnjjaaDoorRows
import GoSem.ClaimSeven
namespace Go.Proofs.YtdckcophbmnjjaaDoor
namespace Rows

/-- THE TIED CARD OF 'bellbuoylaw34.TallySums'. -/
def tallySumsCard : Claim7 := { stood := { row := tallySumsRow, standIns := [], harness := (true, "6d8c17f5a899739d37045606a6ba2eec6d06f64de617440dd10b999b1654cede"), looks := false }, kinds := [], alts := [], laidByText := true, laidKinds := [.data], laidTests := true, laidLooks := .later }
def TallySumsCardSaid : Prop := Claim7.holds Tryd.pinned (.plain (OpenSpec.ofChange tallySumsSpec)) tallySumsCard

/-- THE TIED CARD OF 'bellbuoylaw34.TallyOrder'. -/
def tallyOrderCard : Claim7 := { stood := { row := tallyOrderRow, standIns := [], harness := (true, "6d8c17f5a899739d37045606a6ba2eec6d06f64de617440dd10b999b1654cede"), looks := false }, kinds := [], alts := [], laidByText := true, laidKinds := [.data], laidTests := true, laidLooks := .later }
def TallyOrderCardSaid : Prop := Claim7.holds Tryd.pinned (.plain (OpenSpec.ofChange tallyOrderSpec)) tallyOrderCard

/-- THE SECOND FORM's CARD OF 'bellbuoylaw34.TallySums'. -/
def tallySumsUptoCard : Claim7 := { stood := { row := tallySumsUptoRow, standIns := [], harness := (true, "6d8c17f5a899739d37045606a6ba2eec6d06f64de617440dd10b999b1654cede"), looks := false }, kinds := [], alts := [], laidByText := true, laidKinds := [.data], laidTests := true, laidLooks := .later }
def TallySumsUptoCardSaid : Prop := Claim7.holds Tryd.pinned (.plain (OpenSpec.upto tallySumsSpec)) tallySumsUptoCard

/-- THE SECOND FORM's CARD OF 'bellbuoylaw34.TallyOrder'. -/
def tallyOrderUptoCard : Claim7 := { stood := { row := tallyOrderUptoRow, standIns := [], harness := (true, "6d8c17f5a899739d37045606a6ba2eec6d06f64de617440dd10b999b1654cede"), looks := false }, kinds := [], alts := [], laidByText := true, laidKinds := [.data], laidTests := true, laidLooks := .later }
def TallyOrderUptoCardSaid : Prop := Claim7.holds Tryd.pinned (.plain (OpenSpec.upto tallyOrderSpec)) tallyOrderUptoCard
end Rows
end Go.Proofs.YtdckcophbmnjjaaDoor
