/-
  DERIVED. GIVEN WITH THE SEED: THE CARDS: each row of YtmifapnmlhchlaaDoorRows.lean that lists a variable, with what it lists TIED to the program's text (the seventh form; the later family's looks); each row that meets fmt, with fmt's text TOLD by the authors' own Lean function (tested against real Go, not proved from fmt's source: count such statements apart). THE CARD IS WHAT COUNTS. Prove the row's statement (the work); the ties are given (YtmifapnmlhchlaaDoorTie.lean); close each card by the builder's one call (the guide's Derived/Test/ToyasCard.lean, 'card_holds'). Laid BY PROGRAM, IN A SANDBOX (cutbox-door.mjs). By AI agents, Wed Nov 11 2026. No macro, syntax, notation, axiom, sorry.
-/
import Derived.Test.YtmifapnmlhchlaaDoorRows
import GoSem.ClaimSeven
namespace Go.Proofs.YtmifapnmlhchlaaDoor
namespace Rows

/-- THE TIED CARD OF 'bellbuoytop.TopDemand'. -/
def topDemandCard : Claim7 := { stood := { row := topDemandRow, standIns := [], harness := (true, "73540458063919289254e50962db06db23a0fea03fd7bce1491daf3f29024d04"), looks := false }, kinds := [], alts := [], laidByText := true, laidKinds := [.data], laidTests := true, laidLooks := .later }
def TopDemandCardSaid : Prop := Claim7.holds Tryd.pinned (.plain (OpenSpec.ofChange topDemandSpec)) topDemandCard

/-- THE TIED CARD OF 'bellbuoylaw26.DemandIs'. -/
def demandIsCard : Claim7 := { stood := { row := demandIsRow, standIns := [], harness := (true, "73540458063919289254e50962db06db23a0fea03fd7bce1491daf3f29024d04"), looks := false }, kinds := [], alts := [], laidByText := true, laidKinds := [.data], laidTests := true, laidLooks := .later }
def DemandIsCardSaid : Prop := Claim7.holds Tryd.pinned (.plain (OpenSpec.ofChange demandIsSpec)) demandIsCard

/-- THE TIED CARD OF 'bellbuoylaw26.DemandPasses'. -/
def demandPassesCard : Claim7 := { stood := { row := demandPassesRow, standIns := [], harness := (true, "73540458063919289254e50962db06db23a0fea03fd7bce1491daf3f29024d04"), looks := false }, kinds := [], alts := [], laidByText := true, laidKinds := [.data], laidTests := true, laidLooks := .later }
def DemandPassesCardSaid : Prop := Claim7.holds Tryd.pinned (.plain (OpenSpec.ofChange demandPassesSpec)) demandPassesCard

/-- THE TIED CARD OF 'bellbuoylaw26.DemandGrows'. -/
def demandGrowsCard : Claim7 := { stood := { row := demandGrowsRow, standIns := [], harness := (true, "73540458063919289254e50962db06db23a0fea03fd7bce1491daf3f29024d04"), looks := false }, kinds := [], alts := [], laidByText := true, laidKinds := [.data], laidTests := true, laidLooks := .later }
def DemandGrowsCardSaid : Prop := Claim7.holds Tryd.pinned (.plain (OpenSpec.ofChange demandGrowsSpec)) demandGrowsCard

/-- THE TIED CARD OF 'bellbuoylaw26.DemandLess'. -/
def demandLessCard : Claim7 := { stood := { row := demandLessRow, standIns := [], harness := (true, "73540458063919289254e50962db06db23a0fea03fd7bce1491daf3f29024d04"), looks := false }, kinds := [], alts := [], laidByText := true, laidKinds := [.data], laidTests := true, laidLooks := .later }
def DemandLessCardSaid : Prop := Claim7.holds Tryd.pinned (.plain (OpenSpec.ofChange demandLessSpec)) demandLessCard

/-- THE TIED CARD OF 'bellbuoylaw26.DemandOthers'. -/
def demandOthersCard : Claim7 := { stood := { row := demandOthersRow, standIns := [], harness := (true, "73540458063919289254e50962db06db23a0fea03fd7bce1491daf3f29024d04"), looks := false }, kinds := [], alts := [], laidByText := true, laidKinds := [.data], laidTests := true, laidLooks := .later }
def DemandOthersCardSaid : Prop := Claim7.holds Tryd.pinned (.plain (OpenSpec.ofChange demandOthersSpec)) demandOthersCard

/-- THE SECOND FORM's CARD OF 'bellbuoytop.TopDemand'. -/
def topDemandUptoCard : Claim7 := { stood := { row := topDemandUptoRow, standIns := [], harness := (true, "73540458063919289254e50962db06db23a0fea03fd7bce1491daf3f29024d04"), looks := false }, kinds := [], alts := [], laidByText := true, laidKinds := [.data], laidTests := true, laidLooks := .later }
def TopDemandUptoCardSaid : Prop := Claim7.holds Tryd.pinned (.plain (OpenSpec.upto topDemandSpec)) topDemandUptoCard

/-- THE SECOND FORM's CARD OF 'bellbuoylaw26.DemandIs'. -/
def demandIsUptoCard : Claim7 := { stood := { row := demandIsUptoRow, standIns := [], harness := (true, "73540458063919289254e50962db06db23a0fea03fd7bce1491daf3f29024d04"), looks := false }, kinds := [], alts := [], laidByText := true, laidKinds := [.data], laidTests := true, laidLooks := .later }
def DemandIsUptoCardSaid : Prop := Claim7.holds Tryd.pinned (.plain (OpenSpec.upto demandIsSpec)) demandIsUptoCard

/-- THE SECOND FORM's CARD OF 'bellbuoylaw26.DemandPasses'. -/
def demandPassesUptoCard : Claim7 := { stood := { row := demandPassesUptoRow, standIns := [], harness := (true, "73540458063919289254e50962db06db23a0fea03fd7bce1491daf3f29024d04"), looks := false }, kinds := [], alts := [], laidByText := true, laidKinds := [.data], laidTests := true, laidLooks := .later }
def DemandPassesUptoCardSaid : Prop := Claim7.holds Tryd.pinned (.plain (OpenSpec.upto demandPassesSpec)) demandPassesUptoCard

/-- THE SECOND FORM's CARD OF 'bellbuoylaw26.DemandGrows'. -/
def demandGrowsUptoCard : Claim7 := { stood := { row := demandGrowsUptoRow, standIns := [], harness := (true, "73540458063919289254e50962db06db23a0fea03fd7bce1491daf3f29024d04"), looks := false }, kinds := [], alts := [], laidByText := true, laidKinds := [.data], laidTests := true, laidLooks := .later }
def DemandGrowsUptoCardSaid : Prop := Claim7.holds Tryd.pinned (.plain (OpenSpec.upto demandGrowsSpec)) demandGrowsUptoCard

/-- THE SECOND FORM's CARD OF 'bellbuoylaw26.DemandLess'. -/
def demandLessUptoCard : Claim7 := { stood := { row := demandLessUptoRow, standIns := [], harness := (true, "73540458063919289254e50962db06db23a0fea03fd7bce1491daf3f29024d04"), looks := false }, kinds := [], alts := [], laidByText := true, laidKinds := [.data], laidTests := true, laidLooks := .later }
def DemandLessUptoCardSaid : Prop := Claim7.holds Tryd.pinned (.plain (OpenSpec.upto demandLessSpec)) demandLessUptoCard

/-- THE SECOND FORM's CARD OF 'bellbuoylaw26.DemandOthers'. -/
def demandOthersUptoCard : Claim7 := { stood := { row := demandOthersUptoRow, standIns := [], harness := (true, "73540458063919289254e50962db06db23a0fea03fd7bce1491daf3f29024d04"), looks := false }, kinds := [], alts := [], laidByText := true, laidKinds := [.data], laidTests := true, laidLooks := .later }
def DemandOthersUptoCardSaid : Prop := Claim7.holds Tryd.pinned (.plain (OpenSpec.upto demandOthersSpec)) demandOthersUptoCard
end Rows
end Go.Proofs.YtmifapnmlhchlaaDoor
