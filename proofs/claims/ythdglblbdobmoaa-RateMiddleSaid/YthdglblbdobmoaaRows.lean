/-
  No cell of these rows narrows 'for every input' (looked for: loops, veiled, ifaces, maps, wideKeys, modest, calm, conditions, laid).
  DERIVED. THE GIVEN ROWS OF THIS SEAT. 5 by the template 'for every input the law returns true; each argument reads behind the call as it read before'; 0 by the template 'total and deterministic' (their statements: YthdglblbdobmoaaTotals.lean).
  GIVEN WITH THE SEED: the statements are not yours to turn. If you find one false, say at which input.
  Laid BY PROGRAM, IN A SANDBOX (cutbox-rows.mjs): the forced cells as the released guide's own fill.sh prints them over the translation 9a86e7924ac800e3… (all of the seat's roots in one cut). By AI agents, Wed Nov 11 2026. No macro, syntax, notation, axiom, sorry.
-/
import Derived.Test.YthdglblbdobmoaaChecked
import GoSem.Claim
import GoSem.ClaimJoined
import GoSem.ClaimMapViews
import Derived.JoinedTies
import Derived.KernelRfl
namespace Go.Proofs.Ythdglblbdobmoaa
/- THE CELL 'sum', in the pinned program and in every row, IS THE sha256 OF THE DUMP (.gsa) THAT YthdglblbdobmoaaProg.lean LOADS. Nothing in Lean hashes anything: it is a label: what it is worth is what the hold of that sum in a sandbox is worth. -/
noncomputable def Try.pinned : Pinned := { name := "ythdglblbdobmoaa", sum := "9a86e7924ac800e31ced7f9eaed4f2e79a79ce2812d9813e96cd6f209e99f9e0", checked := Try.checked }
namespace Rows
def none {H : Type} : Left H := { results := [], args := [] }

/-- 'bellbuoylaw18.RateOf': WHATEVER THE INPUT: true; the input reads as it did. -/
def rateOfSpec : ChangeSpec := { name := "rateOf", fn := fun _ => fun
  | [d1, d2, d3] => { results := [.lit (.bool true)], args := [d1, d2, d3] }
  | _ => none }
def rateOfRow : OpenClaim := { program := "ythdglblbdobmoaa", sum := "9a86e7924ac800e31ced7f9eaed4f2e79a79ce2812d9813e96cd6f209e99f9e0", func := "bellbuoy/bellbuoylaw18.RateOf", spec := "rateOf", inPlace := ["math/bits.Add64"], recurses := true, named := ["math/bits.divideError", "math/bits.overflowError"], apart := false }
def RateOfSaid : Prop := rateOfRow.holds Try.pinned (OpenSpec.ofChange rateOfSpec)

/-- ITS FALSE NEIGHBOUR: 'it returns false'. Refute it at one input. -/
def rateOfWrong : ChangeSpec := { name := "rateOf", fn := fun _ => fun
  | [d1, d2, d3] => { results := [.lit (.bool false)], args := [d1, d2, d3] }
  | _ => none }
def RateOfWrongFalsely : Prop := rateOfRow.holds Try.pinned (OpenSpec.ofChange rateOfWrong)

/-- 'bellbuoylaw18.RatePlays': WHATEVER THE INPUT: true; the input reads as it did. -/
def ratePlaysSpec : ChangeSpec := { name := "ratePlays", fn := fun _ => fun
  | [d1, d2, d3] => { results := [.lit (.bool true)], args := [d1, d2, d3] }
  | _ => none }
def ratePlaysRow : OpenClaim := { program := "ythdglblbdobmoaa", sum := "9a86e7924ac800e31ced7f9eaed4f2e79a79ce2812d9813e96cd6f209e99f9e0", func := "bellbuoy/bellbuoylaw18.RatePlays", spec := "ratePlays", inPlace := ["math/bits.Add64"], recurses := true, named := ["math/bits.divideError", "math/bits.overflowError"], apart := false }
def RatePlaysSaid : Prop := ratePlaysRow.holds Try.pinned (OpenSpec.ofChange ratePlaysSpec)

/-- ITS FALSE NEIGHBOUR: 'it returns false'. Refute it at one input. -/
def ratePlaysWrong : ChangeSpec := { name := "ratePlays", fn := fun _ => fun
  | [d1, d2, d3] => { results := [.lit (.bool false)], args := [d1, d2, d3] }
  | _ => none }
def RatePlaysWrongFalsely : Prop := ratePlaysRow.holds Try.pinned (OpenSpec.ofChange ratePlaysWrong)

/-- 'bellbuoylaw18.RateWithin': WHATEVER THE INPUT: true; the input reads as it did. -/
def rateWithinSpec : ChangeSpec := { name := "rateWithin", fn := fun _ => fun
  | [d1, d2, d3] => { results := [.lit (.bool true)], args := [d1, d2, d3] }
  | _ => none }
def rateWithinRow : OpenClaim := { program := "ythdglblbdobmoaa", sum := "9a86e7924ac800e31ced7f9eaed4f2e79a79ce2812d9813e96cd6f209e99f9e0", func := "bellbuoy/bellbuoylaw18.RateWithin", spec := "rateWithin", inPlace := ["math/bits.Add64"], recurses := true, named := ["math/bits.divideError", "math/bits.overflowError"], apart := false }
def RateWithinSaid : Prop := rateWithinRow.holds Try.pinned (OpenSpec.ofChange rateWithinSpec)

/-- ITS FALSE NEIGHBOUR: 'it returns false'. Refute it at one input. -/
def rateWithinWrong : ChangeSpec := { name := "rateWithin", fn := fun _ => fun
  | [d1, d2, d3] => { results := [.lit (.bool false)], args := [d1, d2, d3] }
  | _ => none }
def RateWithinWrongFalsely : Prop := rateWithinRow.holds Try.pinned (OpenSpec.ofChange rateWithinWrong)

/-- 'bellbuoylaw18.RateTells': WHATEVER THE INPUT: true; the input reads as it did. -/
def rateTellsSpec : ChangeSpec := { name := "rateTells", fn := fun _ => fun
  | [d1, d2, d3] => { results := [.lit (.bool true)], args := [d1, d2, d3] }
  | _ => none }
def rateTellsRow : OpenClaim := { program := "ythdglblbdobmoaa", sum := "9a86e7924ac800e31ced7f9eaed4f2e79a79ce2812d9813e96cd6f209e99f9e0", func := "bellbuoy/bellbuoylaw18.RateTells", spec := "rateTells", inPlace := ["math/bits.Add64"], recurses := true, named := ["math/bits.divideError", "math/bits.overflowError"], apart := false }
def RateTellsSaid : Prop := rateTellsRow.holds Try.pinned (OpenSpec.ofChange rateTellsSpec)

/-- ITS FALSE NEIGHBOUR: 'it returns false'. Refute it at one input. -/
def rateTellsWrong : ChangeSpec := { name := "rateTells", fn := fun _ => fun
  | [d1, d2, d3] => { results := [.lit (.bool false)], args := [d1, d2, d3] }
  | _ => none }
def RateTellsWrongFalsely : Prop := rateTellsRow.holds Try.pinned (OpenSpec.ofChange rateTellsWrong)

/-- 'bellbuoylaw18.RateMiddle': WHATEVER THE INPUT: true; the input reads as it did. -/
def rateMiddleSpec : ChangeSpec := { name := "rateMiddle", fn := fun _ => fun
  | [d] => { results := [.lit (.bool true)], args := [d] }
  | _ => none }
def rateMiddleRow : OpenClaim := { program := "ythdglblbdobmoaa", sum := "9a86e7924ac800e31ced7f9eaed4f2e79a79ce2812d9813e96cd6f209e99f9e0", func := "bellbuoy/bellbuoylaw18.RateMiddle", spec := "rateMiddle", inPlace := ["math/bits.Add64"], recurses := true, named := ["math/bits.divideError", "math/bits.overflowError"], apart := false }
def RateMiddleSaid : Prop := rateMiddleRow.holds Try.pinned (OpenSpec.ofChange rateMiddleSpec)

/-- ITS FALSE NEIGHBOUR: 'it returns false'. Refute it at one input. -/
def rateMiddleWrong : ChangeSpec := { name := "rateMiddle", fn := fun _ => fun
  | [d] => { results := [.lit (.bool false)], args := [d] }
  | _ => none }
def RateMiddleWrongFalsely : Prop := rateMiddleRow.holds Try.pinned (OpenSpec.ofChange rateMiddleWrong)

/- THE SECOND FORM. 'bulk': how many values and letters a reading holds, each counted each time it is reached (what is shared counts as often as it is met; a slice's spare places count too). A statement '..UptoSaid' is the law's where the arguments, and the package variables that the reading takes, are together of bulk at most 1048576: NARROWER than '..Said'. Prove '..Said' where nothing that the law and all that it calls make is longer than what came in: it says more and counts as full. Else prove '..UptoSaid'. A law counts once. -/
mutual
def uptoBulk {H : Type} : DataW H → Nat
  | .lit (.string bytes) => bytes.length + 1
  | .lit _ => 1
  | .nil => 1
  | .ptr d => uptoBulk d + 1
  | .slice elems spare => uptoBulkAll elems + uptoBulkAll spare + 1
  | .agg parts => uptoBulkAll parts + 1
  | .iface _ d => uptoBulk d + 1
  | .map entries => uptoBulkEntries entries + 1
  | .held _ => 1
def uptoBulkAll {H : Type} : List (DataW H) → Nat
  | [] => 0
  | d :: r => uptoBulk d + uptoBulkAll r
def uptoBulkEntries {H : Type} : List (Lit × DataW H) → Nat
  | [] => 0
  | x :: r => uptoBulkEntry x + uptoBulkEntries r
def uptoBulkEntry {H : Type} : Lit × DataW H → Nat
  | (.string bytes, d) => bytes.length + uptoBulk d + 1
  | (_, d) => uptoBulk d + 1
 end
def uptoSmall : (H : Type) → List (DataW H) → Bool := fun _ ds => decide (uptoBulkAll ds ≤ 1048576)
def OpenSpec.upto (s : _root_.Go.ChangeSpec) : _root_.Go.OpenSpec := { _root_.Go.OpenSpec.ofChange s with cond := some uptoSmall }

/-- 'bellbuoylaw18.RateOf', WHERE WHAT IT READS IS OF BULK AT MOST 1048576: true; the input reads as it did. -/
def rateOfUptoRow : OpenClaim := { program := "ythdglblbdobmoaa", sum := "9a86e7924ac800e31ced7f9eaed4f2e79a79ce2812d9813e96cd6f209e99f9e0", func := "bellbuoy/bellbuoylaw18.RateOf", spec := "rateOf", inPlace := ["math/bits.Add64"], recurses := true, named := ["math/bits.divideError", "math/bits.overflowError"], apart := false, narrowed := true }
def RateOfUptoSaid : Prop := rateOfUptoRow.holds Try.pinned (OpenSpec.upto rateOfSpec)

/-- 'bellbuoylaw18.RatePlays', WHERE WHAT IT READS IS OF BULK AT MOST 1048576: true; the input reads as it did. -/
def ratePlaysUptoRow : OpenClaim := { program := "ythdglblbdobmoaa", sum := "9a86e7924ac800e31ced7f9eaed4f2e79a79ce2812d9813e96cd6f209e99f9e0", func := "bellbuoy/bellbuoylaw18.RatePlays", spec := "ratePlays", inPlace := ["math/bits.Add64"], recurses := true, named := ["math/bits.divideError", "math/bits.overflowError"], apart := false, narrowed := true }
def RatePlaysUptoSaid : Prop := ratePlaysUptoRow.holds Try.pinned (OpenSpec.upto ratePlaysSpec)

/-- 'bellbuoylaw18.RateWithin', WHERE WHAT IT READS IS OF BULK AT MOST 1048576: true; the input reads as it did. -/
def rateWithinUptoRow : OpenClaim := { program := "ythdglblbdobmoaa", sum := "9a86e7924ac800e31ced7f9eaed4f2e79a79ce2812d9813e96cd6f209e99f9e0", func := "bellbuoy/bellbuoylaw18.RateWithin", spec := "rateWithin", inPlace := ["math/bits.Add64"], recurses := true, named := ["math/bits.divideError", "math/bits.overflowError"], apart := false, narrowed := true }
def RateWithinUptoSaid : Prop := rateWithinUptoRow.holds Try.pinned (OpenSpec.upto rateWithinSpec)

/-- 'bellbuoylaw18.RateTells', WHERE WHAT IT READS IS OF BULK AT MOST 1048576: true; the input reads as it did. -/
def rateTellsUptoRow : OpenClaim := { program := "ythdglblbdobmoaa", sum := "9a86e7924ac800e31ced7f9eaed4f2e79a79ce2812d9813e96cd6f209e99f9e0", func := "bellbuoy/bellbuoylaw18.RateTells", spec := "rateTells", inPlace := ["math/bits.Add64"], recurses := true, named := ["math/bits.divideError", "math/bits.overflowError"], apart := false, narrowed := true }
def RateTellsUptoSaid : Prop := rateTellsUptoRow.holds Try.pinned (OpenSpec.upto rateTellsSpec)

/-- 'bellbuoylaw18.RateMiddle', WHERE WHAT IT READS IS OF BULK AT MOST 1048576: true; the input reads as it did. -/
def rateMiddleUptoRow : OpenClaim := { program := "ythdglblbdobmoaa", sum := "9a86e7924ac800e31ced7f9eaed4f2e79a79ce2812d9813e96cd6f209e99f9e0", func := "bellbuoy/bellbuoylaw18.RateMiddle", spec := "rateMiddle", inPlace := ["math/bits.Add64"], recurses := true, named := ["math/bits.divideError", "math/bits.overflowError"], apart := false, narrowed := true }
def RateMiddleUptoSaid : Prop := rateMiddleUptoRow.holds Try.pinned (OpenSpec.upto rateMiddleSpec)

end Rows
end Go.Proofs.Ythdglblbdobmoaa
