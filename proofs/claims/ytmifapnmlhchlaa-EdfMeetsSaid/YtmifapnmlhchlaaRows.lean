/-
  No cell of these rows narrows 'for every input' (looked for: loops, veiled, ifaces, maps, wideKeys, modest, calm, conditions, laid).
  DERIVED. THE GIVEN ROWS OF THIS SEAT. 5 by the template 'for every input the law returns true; each argument reads behind the call as it read before'; 0 by the template 'total and deterministic' (their statements: YtmifapnmlhchlaaTotals.lean).
  GIVEN WITH THE SEED: the statements are not yours to turn. If you find one false, say at which input.
  Laid BY PROGRAM, IN A SANDBOX (cutbox-rows.mjs): the forced cells as the released guide's own fill.sh prints them over the translation 814afec1de846837… (all of the seat's roots in one cut). By AI agents, Wed Nov 11 2026. No macro, syntax, notation, axiom, sorry.
-/
import Derived.Test.YtmifapnmlhchlaaChecked
import GoSem.Claim
import GoSem.ClaimJoined
import GoSem.ClaimMapViews
import Derived.JoinedTies
import Derived.KernelRfl
namespace Go.Proofs.Ytmifapnmlhchlaa
/- THE CELL 'sum', in the pinned program and in every row, IS THE sha256 OF THE DUMP (.gsa) THAT YtmifapnmlhchlaaProg.lean LOADS. Nothing in Lean hashes anything: it is a label: what it is worth is what the hold of that sum in a sandbox is worth. -/
noncomputable def Try.pinned : Pinned := { name := "ytmifapnmlhchlaa", sum := "814afec1de846837106727f639403f6a062f7b86d17bc90305782afaf7418f28", checked := Try.checked }
namespace Rows
def none {H : Type} : Left H := { results := [], args := [] }

/-- 'bellbuoylaw27.EdfRuns': WHATEVER THE INPUT: true; the input reads as it did. -/
def edfRunsSpec : ChangeSpec := { name := "edfRuns", fn := fun _ => fun
  | [d1, d2, d3] => { results := [.lit (.bool true)], args := [d1, d2, d3] }
  | _ => none }
def edfRunsRow : OpenClaim := { program := "ytmifapnmlhchlaa", sum := "814afec1de846837106727f639403f6a062f7b86d17bc90305782afaf7418f28", func := "bellbuoy/bellbuoylaw27.EdfRuns", spec := "edfRuns", unfollowed := true, recurses := true, apart := false }
def EdfRunsSaid : Prop := edfRunsRow.holds Try.pinned (OpenSpec.ofChange edfRunsSpec)

/-- ITS FALSE NEIGHBOUR: 'it returns false'. Refute it at one input. -/
def edfRunsWrong : ChangeSpec := { name := "edfRuns", fn := fun _ => fun
  | [d1, d2, d3] => { results := [.lit (.bool false)], args := [d1, d2, d3] }
  | _ => none }
def EdfRunsWrongFalsely : Prop := edfRunsRow.holds Try.pinned (OpenSpec.ofChange edfRunsWrong)

/-- 'bellbuoylaw27.EdfAhead': WHATEVER THE INPUT: true; the input reads as it did. -/
def edfAheadSpec : ChangeSpec := { name := "edfAhead", fn := fun _ => fun
  | [d1, d2, d3] => { results := [.lit (.bool true)], args := [d1, d2, d3] }
  | _ => none }
def edfAheadRow : OpenClaim := { program := "ytmifapnmlhchlaa", sum := "814afec1de846837106727f639403f6a062f7b86d17bc90305782afaf7418f28", func := "bellbuoy/bellbuoylaw27.EdfAhead", spec := "edfAhead", unfollowed := true, recurses := true, apart := false }
def EdfAheadSaid : Prop := edfAheadRow.holds Try.pinned (OpenSpec.ofChange edfAheadSpec)

/-- ITS FALSE NEIGHBOUR: 'it returns false'. Refute it at one input. -/
def edfAheadWrong : ChangeSpec := { name := "edfAhead", fn := fun _ => fun
  | [d1, d2, d3] => { results := [.lit (.bool false)], args := [d1, d2, d3] }
  | _ => none }
def EdfAheadWrongFalsely : Prop := edfAheadRow.holds Try.pinned (OpenSpec.ofChange edfAheadWrong)

/-- 'bellbuoylaw27.EdfOnce': WHATEVER THE INPUT: true; the input reads as it did. -/
def edfOnceSpec : ChangeSpec := { name := "edfOnce", fn := fun _ => fun
  | [d1, d2] => { results := [.lit (.bool true)], args := [d1, d2] }
  | _ => none }
def edfOnceRow : OpenClaim := { program := "ytmifapnmlhchlaa", sum := "814afec1de846837106727f639403f6a062f7b86d17bc90305782afaf7418f28", func := "bellbuoy/bellbuoylaw27.EdfOnce", spec := "edfOnce", unfollowed := true, recurses := true, apart := false }
def EdfOnceSaid : Prop := edfOnceRow.holds Try.pinned (OpenSpec.ofChange edfOnceSpec)

/-- ITS FALSE NEIGHBOUR: 'it returns false'. Refute it at one input. -/
def edfOnceWrong : ChangeSpec := { name := "edfOnce", fn := fun _ => fun
  | [d1, d2] => { results := [.lit (.bool false)], args := [d1, d2] }
  | _ => none }
def EdfOnceWrongFalsely : Prop := edfOnceRow.holds Try.pinned (OpenSpec.ofChange edfOnceWrong)

/-- 'bellbuoylaw27.EdfFirst': WHATEVER THE INPUT: true; the input reads as it did. -/
def edfFirstSpec : ChangeSpec := { name := "edfFirst", fn := fun _ => fun
  | [d1, d2] => { results := [.lit (.bool true)], args := [d1, d2] }
  | _ => none }
def edfFirstRow : OpenClaim := { program := "ytmifapnmlhchlaa", sum := "814afec1de846837106727f639403f6a062f7b86d17bc90305782afaf7418f28", func := "bellbuoy/bellbuoylaw27.EdfFirst", spec := "edfFirst", unfollowed := true, recurses := true, apart := false }
def EdfFirstSaid : Prop := edfFirstRow.holds Try.pinned (OpenSpec.ofChange edfFirstSpec)

/-- ITS FALSE NEIGHBOUR: 'it returns false'. Refute it at one input. -/
def edfFirstWrong : ChangeSpec := { name := "edfFirst", fn := fun _ => fun
  | [d1, d2] => { results := [.lit (.bool false)], args := [d1, d2] }
  | _ => none }
def EdfFirstWrongFalsely : Prop := edfFirstRow.holds Try.pinned (OpenSpec.ofChange edfFirstWrong)

/-- 'bellbuoylaw27.EdfMeets': WHATEVER THE INPUT: true; the input reads as it did. -/
def edfMeetsSpec : ChangeSpec := { name := "edfMeets", fn := fun _ => fun
  | [d1, d2, d3] => { results := [.lit (.bool true)], args := [d1, d2, d3] }
  | _ => none }
def edfMeetsRow : OpenClaim := { program := "ytmifapnmlhchlaa", sum := "814afec1de846837106727f639403f6a062f7b86d17bc90305782afaf7418f28", func := "bellbuoy/bellbuoylaw27.EdfMeets", spec := "edfMeets", unfollowed := true, recurses := true, apart := false }
def EdfMeetsSaid : Prop := edfMeetsRow.holds Try.pinned (OpenSpec.ofChange edfMeetsSpec)

/-- ITS FALSE NEIGHBOUR: 'it returns false'. Refute it at one input. -/
def edfMeetsWrong : ChangeSpec := { name := "edfMeets", fn := fun _ => fun
  | [d1, d2, d3] => { results := [.lit (.bool false)], args := [d1, d2, d3] }
  | _ => none }
def EdfMeetsWrongFalsely : Prop := edfMeetsRow.holds Try.pinned (OpenSpec.ofChange edfMeetsWrong)

/- THE SECOND FORM. 'bulk': how many values and letters a reading holds, each counted each time it is reached (what is shared counts as often as it is met; a slice's spare places count too). A statement '..UptoSaid' is the law's where the arguments, and the package variables that the reading takes, are together of bulk at most 1048576: NARROWER than '..Said'. Prove '..Said' where nothing that the law and all that it calls make is longer than what came in: it says more and counts as full. Else prove '..UptoSaid'. A law counts once. -/
mutual
def uptoBulk {H : Type} : DataW H → Nat
  | .lit (.string bytes) => bytes.length + 1
  | .lit _ => 1
  | .nil => 1
  | .ptr d => uptoBulk d + 1
  | .slice elems spare => uptoBulkAll elems + uptoBulkAll spare + 1
  | .agg parts => uptoBulkAll parts + 1
  | .iface _ d => uptoBulk d + 1
  | .map entries => uptoBulkEntries entries + 1
  | .held _ => 1
def uptoBulkAll {H : Type} : List (DataW H) → Nat
  | [] => 0
  | d :: r => uptoBulk d + uptoBulkAll r
def uptoBulkEntries {H : Type} : List (Lit × DataW H) → Nat
  | [] => 0
  | x :: r => uptoBulkEntry x + uptoBulkEntries r
def uptoBulkEntry {H : Type} : Lit × DataW H → Nat
  | (.string bytes, d) => bytes.length + uptoBulk d + 1
  | (_, d) => uptoBulk d + 1
 end
def uptoSmall : (H : Type) → List (DataW H) → Bool := fun _ ds => decide (uptoBulkAll ds ≤ 1048576)
def OpenSpec.upto (s : _root_.Go.ChangeSpec) : _root_.Go.OpenSpec := { _root_.Go.OpenSpec.ofChange s with cond := some uptoSmall }

/-- 'bellbuoylaw27.EdfRuns', WHERE WHAT IT READS IS OF BULK AT MOST 1048576: true; the input reads as it did. -/
def edfRunsUptoRow : OpenClaim := { program := "ytmifapnmlhchlaa", sum := "814afec1de846837106727f639403f6a062f7b86d17bc90305782afaf7418f28", func := "bellbuoy/bellbuoylaw27.EdfRuns", spec := "edfRuns", unfollowed := true, recurses := true, apart := false, narrowed := true }
def EdfRunsUptoSaid : Prop := edfRunsUptoRow.holds Try.pinned (OpenSpec.upto edfRunsSpec)

/-- 'bellbuoylaw27.EdfAhead', WHERE WHAT IT READS IS OF BULK AT MOST 1048576: true; the input reads as it did. -/
def edfAheadUptoRow : OpenClaim := { program := "ytmifapnmlhchlaa", sum := "814afec1de846837106727f639403f6a062f7b86d17bc90305782afaf7418f28", func := "bellbuoy/bellbuoylaw27.EdfAhead", spec := "edfAhead", unfollowed := true, recurses := true, apart := false, narrowed := true }
def EdfAheadUptoSaid : Prop := edfAheadUptoRow.holds Try.pinned (OpenSpec.upto edfAheadSpec)

/-- 'bellbuoylaw27.EdfOnce', WHERE WHAT IT READS IS OF BULK AT MOST 1048576: true; the input reads as it did. -/
def edfOnceUptoRow : OpenClaim := { program := "ytmifapnmlhchlaa", sum := "814afec1de846837106727f639403f6a062f7b86d17bc90305782afaf7418f28", func := "bellbuoy/bellbuoylaw27.EdfOnce", spec := "edfOnce", unfollowed := true, recurses := true, apart := false, narrowed := true }
def EdfOnceUptoSaid : Prop := edfOnceUptoRow.holds Try.pinned (OpenSpec.upto edfOnceSpec)

/-- 'bellbuoylaw27.EdfFirst', WHERE WHAT IT READS IS OF BULK AT MOST 1048576: true; the input reads as it did. -/
def edfFirstUptoRow : OpenClaim := { program := "ytmifapnmlhchlaa", sum := "814afec1de846837106727f639403f6a062f7b86d17bc90305782afaf7418f28", func := "bellbuoy/bellbuoylaw27.EdfFirst", spec := "edfFirst", unfollowed := true, recurses := true, apart := false, narrowed := true }
def EdfFirstUptoSaid : Prop := edfFirstUptoRow.holds Try.pinned (OpenSpec.upto edfFirstSpec)

/-- 'bellbuoylaw27.EdfMeets', WHERE WHAT IT READS IS OF BULK AT MOST 1048576: true; the input reads as it did. -/
def edfMeetsUptoRow : OpenClaim := { program := "ytmifapnmlhchlaa", sum := "814afec1de846837106727f639403f6a062f7b86d17bc90305782afaf7418f28", func := "bellbuoy/bellbuoylaw27.EdfMeets", spec := "edfMeets", unfollowed := true, recurses := true, apart := false, narrowed := true }
def EdfMeetsUptoSaid : Prop := edfMeetsUptoRow.holds Try.pinned (OpenSpec.upto edfMeetsSpec)

end Rows
end Go.Proofs.Ytmifapnmlhchlaa
