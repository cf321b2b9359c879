/-
  NARROWER THAN 'FOR EVERY INPUT', by the rows' own cells (each row's printed sentence says how): TopDemand: laid · DemandIs: laid · DemandPasses: laid · DemandGrows: laid · DemandLess: laid · DemandOthers: laid.
  DERIVED. THE GIVEN ROWS OF THIS SEAT. 6 by the template 'for every input the law returns true; each argument reads behind the call as it read before'; 0 by the template 'total and deterministic' (their statements: YtmifapnmlhchlaaDoorTotals.lean).
  GIVEN WITH THE SEED: the statements are not yours to turn. If you find one false, say at which input.
  Laid BY PROGRAM, IN A SANDBOX (cutbox-rows.mjs): the forced cells as the released guide's own fill.sh prints them over the translation c394c165b087e2c2… (all of the seat's roots in one cut). By AI agents, Wed Nov 11 2026. No macro, syntax, notation, axiom, sorry.
-/
import Derived.Test.YtmifapnmlhchlaaDoorChecked
import GoSem.Claim
import GoSem.ClaimJoined
import GoSem.ClaimMapViews
import Derived.JoinedTies
import Derived.KernelRfl
namespace Go.Proofs.YtmifapnmlhchlaaDoor
/- THE CELL 'sum', in the pinned program and in every row, IS THE sha256 OF THE DUMP (.gsa) THAT YtmifapnmlhchlaaDoorProg.lean LOADS. Nothing in Lean hashes anything: it is a label: what it is worth is what the hold of that sum in a sandbox is worth. -/
noncomputable def Tryd.pinned : Pinned := { name := "ytmifapnmlhchlaadoor", sum := "c394c165b087e2c28926d1e16ab30f2b6e7b0889ad5d5d9d0d1ff5e860b8a580", checked := Tryd.checked }
namespace Rows
def none {H : Type} : Left H := { results := [], args := [] }

/- WHAT THE LISTED PACKAGE-LEVEL VARIABLES READ AS WHEN THE CALL BEGINS. Each datum BY PROGRAM (the guide's laid-datum.mjs) off the statement by which the dump's own 'gosem.cut.vars' lays the variable. In a bare row this is a premise. The card (YtmifapnmlhchlaaDoorCards.lean) ties it to the program's text. -/
def laid_bellbuoy_crc_divisor {H : Type} : DataW H := .agg [.lit (.int .u8 1), .lit (.int .u8 1), .lit (.int .u8 0), .lit (.int .u8 0), .lit (.int .u8 0), .lit (.int .u8 1), .lit (.int .u8 0), .lit (.int .u8 1), .lit (.int .u8 1), .lit (.int .u8 0), .lit (.int .u8 0), .lit (.int .u8 1), .lit (.int .u8 1), .lit (.int .u8 0), .lit (.int .u8 0), .lit (.int .u8 1)]

/-- 'bellbuoytop.TopDemand': WHATEVER THE INPUT: true; the input reads as it did. -/
def topDemandSpec : ChangeSpec := { name := "topDemand", fn := fun _ => fun
  | [d1, d2, d3] => { results := [.lit (.bool true)], args := [d1, d2, d3] }
  | _ => none }
def topDemandRow : OpenClaim := { program := "ytmifapnmlhchlaadoor", sum := "c394c165b087e2c28926d1e16ab30f2b6e7b0889ad5d5d9d0d1ff5e860b8a580", func := "bellbuoy/bellbuoytop.TopDemand", spec := "topDemand", unfollowed := true, recurses := true, named := ["bellbuoy/crc.divisor"], apart := false, laid := [("bellbuoy/crc.divisor", laid_bellbuoy_crc_divisor)] }
def TopDemandSaid : Prop := topDemandRow.holds Tryd.pinned (OpenSpec.ofChange topDemandSpec)

/-- ITS FALSE NEIGHBOUR: 'it returns false'. Refute it at one input. -/
def topDemandWrong : ChangeSpec := { name := "topDemand", fn := fun _ => fun
  | [d1, d2, d3] => { results := [.lit (.bool false)], args := [d1, d2, d3] }
  | _ => none }
def TopDemandWrongFalsely : Prop := topDemandRow.holds Tryd.pinned (OpenSpec.ofChange topDemandWrong)

/-- 'bellbuoylaw26.DemandIs': WHATEVER THE INPUT: true; the input reads as it did. -/
def demandIsSpec : ChangeSpec := { name := "demandIs", fn := fun _ => fun
  | [d1, d2, d3] => { results := [.lit (.bool true)], args := [d1, d2, d3] }
  | _ => none }
def demandIsRow : OpenClaim := { program := "ytmifapnmlhchlaadoor", sum := "c394c165b087e2c28926d1e16ab30f2b6e7b0889ad5d5d9d0d1ff5e860b8a580", func := "bellbuoy/bellbuoylaw26.DemandIs", spec := "demandIs", inPlace := ["math/bits.Add64"], unfollowed := true, recurses := true, named := ["bellbuoy/crc.divisor", "math/bits.divideError", "math/bits.overflowError"], apart := false, laid := [("bellbuoy/crc.divisor", laid_bellbuoy_crc_divisor)] }
def DemandIsSaid : Prop := demandIsRow.holds Tryd.pinned (OpenSpec.ofChange demandIsSpec)

/-- ITS FALSE NEIGHBOUR: 'it returns false'. Refute it at one input. -/
def demandIsWrong : ChangeSpec := { name := "demandIs", fn := fun _ => fun
  | [d1, d2, d3] => { results := [.lit (.bool false)], args := [d1, d2, d3] }
  | _ => none }
def DemandIsWrongFalsely : Prop := demandIsRow.holds Tryd.pinned (OpenSpec.ofChange demandIsWrong)

/-- 'bellbuoylaw26.DemandPasses': WHATEVER THE INPUT: true; the input reads as it did. -/
def demandPassesSpec : ChangeSpec := { name := "demandPasses", fn := fun _ => fun
  | [d1, d2, d3] => { results := [.lit (.bool true)], args := [d1, d2, d3] }
  | _ => none }
def demandPassesRow : OpenClaim := { program := "ytmifapnmlhchlaadoor", sum := "c394c165b087e2c28926d1e16ab30f2b6e7b0889ad5d5d9d0d1ff5e860b8a580", func := "bellbuoy/bellbuoylaw26.DemandPasses", spec := "demandPasses", inPlace := ["math/bits.Add64"], unfollowed := true, recurses := true, named := ["bellbuoy/crc.divisor", "math/bits.divideError", "math/bits.overflowError"], apart := false, laid := [("bellbuoy/crc.divisor", laid_bellbuoy_crc_divisor)] }
def DemandPassesSaid : Prop := demandPassesRow.holds Tryd.pinned (OpenSpec.ofChange demandPassesSpec)

/-- ITS FALSE NEIGHBOUR: 'it returns false'. Refute it at one input. -/
def demandPassesWrong : ChangeSpec := { name := "demandPasses", fn := fun _ => fun
  | [d1, d2, d3] => { results := [.lit (.bool false)], args := [d1, d2, d3] }
  | _ => none }
def DemandPassesWrongFalsely : Prop := demandPassesRow.holds Tryd.pinned (OpenSpec.ofChange demandPassesWrong)

/-- 'bellbuoylaw26.DemandGrows': WHATEVER THE INPUT: true; the input reads as it did. -/
def demandGrowsSpec : ChangeSpec := { name := "demandGrows", fn := fun _ => fun
  | [d1, d2, d3] => { results := [.lit (.bool true)], args := [d1, d2, d3] }
  | _ => none }
def demandGrowsRow : OpenClaim := { program := "ytmifapnmlhchlaadoor", sum := "c394c165b087e2c28926d1e16ab30f2b6e7b0889ad5d5d9d0d1ff5e860b8a580", func := "bellbuoy/bellbuoylaw26.DemandGrows", spec := "demandGrows", inPlace := ["math/bits.Add64"], unfollowed := true, recurses := true, named := ["bellbuoy/crc.divisor", "math/bits.divideError", "math/bits.overflowError"], apart := false, laid := [("bellbuoy/crc.divisor", laid_bellbuoy_crc_divisor)] }
def DemandGrowsSaid : Prop := demandGrowsRow.holds Tryd.pinned (OpenSpec.ofChange demandGrowsSpec)

/-- ITS FALSE NEIGHBOUR: 'it returns false'. Refute it at one input. -/
def demandGrowsWrong : ChangeSpec := { name := "demandGrows", fn := fun _ => fun
  | [d1, d2, d3] => { results := [.lit (.bool false)], args := [d1, d2, d3] }
  | _ => none }
def DemandGrowsWrongFalsely : Prop := demandGrowsRow.holds Tryd.pinned (OpenSpec.ofChange demandGrowsWrong)

/-- 'bellbuoylaw26.DemandLess': WHATEVER THE INPUT: true; the input reads as it did. -/
def demandLessSpec : ChangeSpec := { name := "demandLess", fn := fun _ => fun
  | [d1, d2, d3] => { results := [.lit (.bool true)], args := [d1, d2, d3] }
  | _ => none }
def demandLessRow : OpenClaim := { program := "ytmifapnmlhchlaadoor", sum := "c394c165b087e2c28926d1e16ab30f2b6e7b0889ad5d5d9d0d1ff5e860b8a580", func := "bellbuoy/bellbuoylaw26.DemandLess", spec := "demandLess", inPlace := ["math/bits.Add64"], unfollowed := true, recurses := true, named := ["bellbuoy/crc.divisor", "math/bits.divideError", "math/bits.overflowError"], apart := false, laid := [("bellbuoy/crc.divisor", laid_bellbuoy_crc_divisor)] }
def DemandLessSaid : Prop := demandLessRow.holds Tryd.pinned (OpenSpec.ofChange demandLessSpec)

/-- ITS FALSE NEIGHBOUR: 'it returns false'. Refute it at one input. -/
def demandLessWrong : ChangeSpec := { name := "demandLess", fn := fun _ => fun
  | [d1, d2, d3] => { results := [.lit (.bool false)], args := [d1, d2, d3] }
  | _ => none }
def DemandLessWrongFalsely : Prop := demandLessRow.holds Tryd.pinned (OpenSpec.ofChange demandLessWrong)

/-- 'bellbuoylaw26.DemandOthers': WHATEVER THE INPUT: true; the input reads as it did. -/
def demandOthersSpec : ChangeSpec := { name := "demandOthers", fn := fun _ => fun
  | [d1, d2, d3] => { results := [.lit (.bool true)], args := [d1, d2, d3] }
  | _ => none }
def demandOthersRow : OpenClaim := { program := "ytmifapnmlhchlaadoor", sum := "c394c165b087e2c28926d1e16ab30f2b6e7b0889ad5d5d9d0d1ff5e860b8a580", func := "bellbuoy/bellbuoylaw26.DemandOthers", spec := "demandOthers", inPlace := ["math/bits.Add64"], unfollowed := true, recurses := true, named := ["bellbuoy/crc.divisor", "math/bits.divideError", "math/bits.overflowError"], apart := false, laid := [("bellbuoy/crc.divisor", laid_bellbuoy_crc_divisor)] }
def DemandOthersSaid : Prop := demandOthersRow.holds Tryd.pinned (OpenSpec.ofChange demandOthersSpec)

/-- ITS FALSE NEIGHBOUR: 'it returns false'. Refute it at one input. -/
def demandOthersWrong : ChangeSpec := { name := "demandOthers", fn := fun _ => fun
  | [d1, d2, d3] => { results := [.lit (.bool false)], args := [d1, d2, d3] }
  | _ => none }
def DemandOthersWrongFalsely : Prop := demandOthersRow.holds Tryd.pinned (OpenSpec.ofChange demandOthersWrong)

/- THE SECOND FORM. 'bulk': how many values and letters a reading holds, each counted each time it is reached (what is shared counts as often as it is met; a slice's spare places count too). A statement '..UptoSaid' is the law's where the arguments, and the package variables that the reading takes, are together of bulk at most 1048576: NARROWER than '..Said'. Prove '..Said' where nothing that the law and all that it calls make is longer than what came in: it says more and counts as full. Else prove '..UptoSaid'. A law counts once. -/
mutual
def uptoBulk {H : Type} : DataW H → Nat
  | .lit (.string bytes) => bytes.length + 1
  | .lit _ => 1
  | .nil => 1
  | .ptr d => uptoBulk d + 1
  | .slice elems spare => uptoBulkAll elems + uptoBulkAll spare + 1
  | .agg parts => uptoBulkAll parts + 1
  | .iface _ d => uptoBulk d + 1
  | .map entries => uptoBulkEntries entries + 1
  | .held _ => 1
def uptoBulkAll {H : Type} : List (DataW H) → Nat
  | [] => 0
  | d :: r => uptoBulk d + uptoBulkAll r
def uptoBulkEntries {H : Type} : List (Lit × DataW H) → Nat
  | [] => 0
  | x :: r => uptoBulkEntry x + uptoBulkEntries r
def uptoBulkEntry {H : Type} : Lit × DataW H → Nat
  | (.string bytes, d) => bytes.length + uptoBulk d + 1
  | (_, d) => uptoBulk d + 1
 end
def uptoSmall : (H : Type) → List (DataW H) → Bool := fun _ ds => decide (uptoBulkAll ds ≤ 1048576)
def OpenSpec.upto (s : _root_.Go.ChangeSpec) : _root_.Go.OpenSpec := { _root_.Go.OpenSpec.ofChange s with cond := some uptoSmall }

/-- 'bellbuoytop.TopDemand', WHERE WHAT IT READS IS OF BULK AT MOST 1048576: true; the input reads as it did. -/
def topDemandUptoRow : OpenClaim := { program := "ytmifapnmlhchlaadoor", sum := "c394c165b087e2c28926d1e16ab30f2b6e7b0889ad5d5d9d0d1ff5e860b8a580", func := "bellbuoy/bellbuoytop.TopDemand", spec := "topDemand", unfollowed := true, recurses := true, named := ["bellbuoy/crc.divisor"], apart := false, laid := [("bellbuoy/crc.divisor", laid_bellbuoy_crc_divisor)], narrowed := true }
def TopDemandUptoSaid : Prop := topDemandUptoRow.holds Tryd.pinned (OpenSpec.upto topDemandSpec)

/-- 'bellbuoylaw26.DemandIs', WHERE WHAT IT READS IS OF BULK AT MOST 1048576: true; the input reads as it did. -/
def demandIsUptoRow : OpenClaim := { program := "ytmifapnmlhchlaadoor", sum := "c394c165b087e2c28926d1e16ab30f2b6e7b0889ad5d5d9d0d1ff5e860b8a580", func := "bellbuoy/bellbuoylaw26.DemandIs", spec := "demandIs", inPlace := ["math/bits.Add64"], unfollowed := true, recurses := true, named := ["bellbuoy/crc.divisor", "math/bits.divideError", "math/bits.overflowError"], apart := false, laid := [("bellbuoy/crc.divisor", laid_bellbuoy_crc_divisor)], narrowed := true }
def DemandIsUptoSaid : Prop := demandIsUptoRow.holds Tryd.pinned (OpenSpec.upto demandIsSpec)

/-- 'bellbuoylaw26.DemandPasses', WHERE WHAT IT READS IS OF BULK AT MOST 1048576: true; the input reads as it did. -/
def demandPassesUptoRow : OpenClaim := { program := "ytmifapnmlhchlaadoor", sum := "c394c165b087e2c28926d1e16ab30f2b6e7b0889ad5d5d9d0d1ff5e860b8a580", func := "bellbuoy/bellbuoylaw26.DemandPasses", spec := "demandPasses", inPlace := ["math/bits.Add64"], unfollowed := true, recurses := true, named := ["bellbuoy/crc.divisor", "math/bits.divideError", "math/bits.overflowError"], apart := false, laid := [("bellbuoy/crc.divisor", laid_bellbuoy_crc_divisor)], narrowed := true }
def DemandPassesUptoSaid : Prop := demandPassesUptoRow.holds Tryd.pinned (OpenSpec.upto demandPassesSpec)

/-- 'bellbuoylaw26.DemandGrows', WHERE WHAT IT READS IS OF BULK AT MOST 1048576: true; the input reads as it did. -/
def demandGrowsUptoRow : OpenClaim := { program := "ytmifapnmlhchlaadoor", sum := "c394c165b087e2c28926d1e16ab30f2b6e7b0889ad5d5d9d0d1ff5e860b8a580", func := "bellbuoy/bellbuoylaw26.DemandGrows", spec := "demandGrows", inPlace := ["math/bits.Add64"], unfollowed := true, recurses := true, named := ["bellbuoy/crc.divisor", "math/bits.divideError", "math/bits.overflowError"], apart := false, laid := [("bellbuoy/crc.divisor", laid_bellbuoy_crc_divisor)], narrowed := true }
def DemandGrowsUptoSaid : Prop := demandGrowsUptoRow.holds Tryd.pinned (OpenSpec.upto demandGrowsSpec)

/-- 'bellbuoylaw26.DemandLess', WHERE WHAT IT READS IS OF BULK AT MOST 1048576: true; the input reads as it did. -/
def demandLessUptoRow : OpenClaim := { program := "ytmifapnmlhchlaadoor", sum := "c394c165b087e2c28926d1e16ab30f2b6e7b0889ad5d5d9d0d1ff5e860b8a580", func := "bellbuoy/bellbuoylaw26.DemandLess", spec := "demandLess", inPlace := ["math/bits.Add64"], unfollowed := true, recurses := true, named := ["bellbuoy/crc.divisor", "math/bits.divideError", "math/bits.overflowError"], apart := false, laid := [("bellbuoy/crc.divisor", laid_bellbuoy_crc_divisor)], narrowed := true }
def DemandLessUptoSaid : Prop := demandLessUptoRow.holds Tryd.pinned (OpenSpec.upto demandLessSpec)

/-- 'bellbuoylaw26.DemandOthers', WHERE WHAT IT READS IS OF BULK AT MOST 1048576: true; the input reads as it did. -/
def demandOthersUptoRow : OpenClaim := { program := "ytmifapnmlhchlaadoor", sum := "c394c165b087e2c28926d1e16ab30f2b6e7b0889ad5d5d9d0d1ff5e860b8a580", func := "bellbuoy/bellbuoylaw26.DemandOthers", spec := "demandOthers", inPlace := ["math/bits.Add64"], unfollowed := true, recurses := true, named := ["bellbuoy/crc.divisor", "math/bits.divideError", "math/bits.overflowError"], apart := false, laid := [("bellbuoy/crc.divisor", laid_bellbuoy_crc_divisor)], narrowed := true }
def DemandOthersUptoSaid : Prop := demandOthersUptoRow.holds Tryd.pinned (OpenSpec.upto demandOthersSpec)

end Rows
end Go.Proofs.YtmifapnmlhchlaaDoor
