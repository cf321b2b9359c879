/-
  No cell of these rows narrows 'for every input' (looked for: loops, veiled, ifaces, maps, wideKeys, modest, calm, conditions, laid).
  DERIVED. THE GIVEN ROWS OF THIS SEAT. 7 by the template 'for every input the law returns true; each argument reads behind the call as it read before'; 0 by the template 'total and deterministic' (their statements: YtcdhihoghkkahaaTotals.lean).
  GIVEN WITH THE SEED: the statements are not yours to turn. If you find one false, say at which input.
  Laid BY PROGRAM, IN A SANDBOX (cutbox-rows.mjs): the forced cells as the released guide's own fill.sh prints them over the translation d810be1909adb379… (all of the seat's roots in one cut). By AI agents, Wed Nov 11 2026. No macro, syntax, notation, axiom, sorry.
-/
import Derived.Test.YtcdhihoghkkahaaChecked
import GoSem.Claim
import GoSem.ClaimJoined
import GoSem.ClaimMapViews
import Derived.JoinedTies
import Derived.KernelRfl
namespace Go.Proofs.Ytcdhihoghkkahaa
/- THE CELL 'sum', in the pinned program and in every row, IS THE sha256 OF THE DUMP (.gsa) THAT YtcdhihoghkkahaaProg.lean LOADS. Nothing in Lean hashes anything: it is a label: what it is worth is what the hold of that sum in a sandbox is worth. -/
noncomputable def Try.pinned : Pinned := { name := "ytcdhihoghkkahaa", sum := "d810be1909adb379dcecfa20dac758a1528f40844c965db03c4e0a3d29db80f8", checked := Try.checked }
namespace Rows
def none {H : Type} : Left H := { results := [], args := [] }

/-- 'bellbuoylaw10.CountIs': WHATEVER THE INPUT: true; the input reads as it did. -/
def countIsSpec : ChangeSpec := { name := "countIs", fn := fun _ => fun
  | [d1, d2] => { results := [.lit (.bool true)], args := [d1, d2] }
  | _ => none }
def countIsRow : OpenClaim := { program := "ytcdhihoghkkahaa", sum := "d810be1909adb379dcecfa20dac758a1528f40844c965db03c4e0a3d29db80f8", func := "bellbuoy/bellbuoylaw10.CountIs", spec := "countIs", apart := false }
def CountIsSaid : Prop := countIsRow.holds Try.pinned (OpenSpec.ofChange countIsSpec)

/-- ITS FALSE NEIGHBOUR: 'it returns false'. Refute it at one input. -/
def countIsWrong : ChangeSpec := { name := "countIs", fn := fun _ => fun
  | [d1, d2] => { results := [.lit (.bool false)], args := [d1, d2] }
  | _ => none }
def CountIsWrongFalsely : Prop := countIsRow.holds Try.pinned (OpenSpec.ofChange countIsWrong)

/-- 'bellbuoylaw10.CountStays': WHATEVER THE INPUT: true; the input reads as it did. -/
def countStaysSpec : ChangeSpec := { name := "countStays", fn := fun _ => fun
  | [d] => { results := [.lit (.bool true)], args := [d] }
  | _ => none }
def countStaysRow : OpenClaim := { program := "ytcdhihoghkkahaa", sum := "d810be1909adb379dcecfa20dac758a1528f40844c965db03c4e0a3d29db80f8", func := "bellbuoy/bellbuoylaw10.CountStays", spec := "countStays", apart := false }
def CountStaysSaid : Prop := countStaysRow.holds Try.pinned (OpenSpec.ofChange countStaysSpec)

/-- ITS FALSE NEIGHBOUR: 'it returns false'. Refute it at one input. -/
def countStaysWrong : ChangeSpec := { name := "countStays", fn := fun _ => fun
  | [d] => { results := [.lit (.bool false)], args := [d] }
  | _ => none }
def CountStaysWrongFalsely : Prop := countStaysRow.holds Try.pinned (OpenSpec.ofChange countStaysWrong)

/-- 'bellbuoylaw10.CountOff': WHATEVER THE INPUT: true; the input reads as it did. -/
def countOffSpec : ChangeSpec := { name := "countOff", fn := fun _ => fun
  | [d] => { results := [.lit (.bool true)], args := [d] }
  | _ => none }
def countOffRow : OpenClaim := { program := "ytcdhihoghkkahaa", sum := "d810be1909adb379dcecfa20dac758a1528f40844c965db03c4e0a3d29db80f8", func := "bellbuoy/bellbuoylaw10.CountOff", spec := "countOff", apart := false }
def CountOffSaid : Prop := countOffRow.holds Try.pinned (OpenSpec.ofChange countOffSpec)

/-- ITS FALSE NEIGHBOUR: 'it returns false'. Refute it at one input. -/
def countOffWrong : ChangeSpec := { name := "countOff", fn := fun _ => fun
  | [d] => { results := [.lit (.bool false)], args := [d] }
  | _ => none }
def CountOffWrongFalsely : Prop := countOffRow.holds Try.pinned (OpenSpec.ofChange countOffWrong)

/-- 'bellbuoylaw24.QueueSorts': WHATEVER THE INPUT: true; the input reads as it did. -/
def queueSortsSpec : ChangeSpec := { name := "queueSorts", fn := fun _ => fun
  | [d] => { results := [.lit (.bool true)], args := [d] }
  | _ => none }
def queueSortsRow : OpenClaim := { program := "ytcdhihoghkkahaa", sum := "d810be1909adb379dcecfa20dac758a1528f40844c965db03c4e0a3d29db80f8", func := "bellbuoy/bellbuoylaw24.QueueSorts", spec := "queueSorts", unfollowed := true, recurses := true, apart := false }
def QueueSortsSaid : Prop := queueSortsRow.holds Try.pinned (OpenSpec.ofChange queueSortsSpec)

/-- ITS FALSE NEIGHBOUR: 'it returns false'. Refute it at one input. -/
def queueSortsWrong : ChangeSpec := { name := "queueSorts", fn := fun _ => fun
  | [d] => { results := [.lit (.bool false)], args := [d] }
  | _ => none }
def QueueSortsWrongFalsely : Prop := queueSortsRow.holds Try.pinned (OpenSpec.ofChange queueSortsWrong)

/-- 'bellbuoylaw24.QueuePlays': WHATEVER THE INPUT: true; the input reads as it did. -/
def queuePlaysSpec : ChangeSpec := { name := "queuePlays", fn := fun _ => fun
  | [d1, d2] => { results := [.lit (.bool true)], args := [d1, d2] }
  | _ => none }
def queuePlaysRow : OpenClaim := { program := "ytcdhihoghkkahaa", sum := "d810be1909adb379dcecfa20dac758a1528f40844c965db03c4e0a3d29db80f8", func := "bellbuoy/bellbuoylaw24.QueuePlays", spec := "queuePlays", unfollowed := true, recurses := true, apart := false }
def QueuePlaysSaid : Prop := queuePlaysRow.holds Try.pinned (OpenSpec.ofChange queuePlaysSpec)

/-- ITS FALSE NEIGHBOUR: 'it returns false'. Refute it at one input. -/
def queuePlaysWrong : ChangeSpec := { name := "queuePlays", fn := fun _ => fun
  | [d1, d2] => { results := [.lit (.bool false)], args := [d1, d2] }
  | _ => none }
def QueuePlaysWrongFalsely : Prop := queuePlaysRow.holds Try.pinned (OpenSpec.ofChange queuePlaysWrong)

/-- 'bellbuoylaw24.QueueFull': WHATEVER THE INPUT: true; the input reads as it did. -/
def queueFullSpec : ChangeSpec := { name := "queueFull", fn := fun _ => fun
  | [d1, d2] => { results := [.lit (.bool true)], args := [d1, d2] }
  | _ => none }
def queueFullRow : OpenClaim := { program := "ytcdhihoghkkahaa", sum := "d810be1909adb379dcecfa20dac758a1528f40844c965db03c4e0a3d29db80f8", func := "bellbuoy/bellbuoylaw24.QueueFull", spec := "queueFull", unfollowed := true, recurses := true, apart := false }
def QueueFullSaid : Prop := queueFullRow.holds Try.pinned (OpenSpec.ofChange queueFullSpec)

/-- ITS FALSE NEIGHBOUR: 'it returns false'. Refute it at one input. -/
def queueFullWrong : ChangeSpec := { name := "queueFull", fn := fun _ => fun
  | [d1, d2] => { results := [.lit (.bool false)], args := [d1, d2] }
  | _ => none }
def QueueFullWrongFalsely : Prop := queueFullRow.holds Try.pinned (OpenSpec.ofChange queueFullWrong)

/-- 'bellbuoytop.TopQueued': WHATEVER THE INPUT: true; the input reads as it did. -/
def topQueuedSpec : ChangeSpec := { name := "topQueued", fn := fun _ => fun
  | [d] => { results := [.lit (.bool true)], args := [d] }
  | _ => none }
def topQueuedRow : OpenClaim := { program := "ytcdhihoghkkahaa", sum := "d810be1909adb379dcecfa20dac758a1528f40844c965db03c4e0a3d29db80f8", func := "bellbuoy/bellbuoytop.TopQueued", spec := "topQueued", unfollowed := true, recurses := true, apart := false }
def TopQueuedSaid : Prop := topQueuedRow.holds Try.pinned (OpenSpec.ofChange topQueuedSpec)

/-- ITS FALSE NEIGHBOUR: 'it returns false'. Refute it at one input. -/
def topQueuedWrong : ChangeSpec := { name := "topQueued", fn := fun _ => fun
  | [d] => { results := [.lit (.bool false)], args := [d] }
  | _ => none }
def TopQueuedWrongFalsely : Prop := topQueuedRow.holds Try.pinned (OpenSpec.ofChange topQueuedWrong)

/- THE SECOND FORM. 'bulk': how many values and letters a reading holds, each counted each time it is reached (what is shared counts as often as it is met; a slice's spare places count too). A statement '..UptoSaid' is the law's where the arguments, and the package variables that the reading takes, are together of bulk at most 1048576: NARROWER than '..Said'. Prove '..Said' where nothing that the law and all that it calls make is longer than what came in: it says more and counts as full. Else prove '..UptoSaid'. A law counts once. -/
mutual
def uptoBulk {H : Type} : DataW H → Nat
  | .lit (.string bytes) => bytes.length + 1
  | .lit _ => 1
  | .nil => 1
  | .ptr d => uptoBulk d + 1
  | .slice elems spare => uptoBulkAll elems + uptoBulkAll spare + 1
  | .agg parts => uptoBulkAll parts + 1
  | .iface _ d => uptoBulk d + 1
  | .map entries => uptoBulkEntries entries + 1
  | .held _ => 1
def uptoBulkAll {H : Type} : List (DataW H) → Nat
  | [] => 0
  | d :: r => uptoBulk d + uptoBulkAll r
def uptoBulkEntries {H : Type} : List (Lit × DataW H) → Nat
  | [] => 0
  | x :: r => uptoBulkEntry x + uptoBulkEntries r
def uptoBulkEntry {H : Type} : Lit × DataW H → Nat
  | (.string bytes, d) => bytes.length + uptoBulk d + 1
  | (_, d) => uptoBulk d + 1
 end
def uptoSmall : (H : Type) → List (DataW H) → Bool := fun _ ds => decide (uptoBulkAll ds ≤ 1048576)
def OpenSpec.upto (s : _root_.Go.ChangeSpec) : _root_.Go.OpenSpec := { _root_.Go.OpenSpec.ofChange s with cond := some uptoSmall }

/-- 'bellbuoylaw10.CountIs', WHERE WHAT IT READS IS OF BULK AT MOST 1048576: true; the input reads as it did. -/
def countIsUptoRow : OpenClaim := { program := "ytcdhihoghkkahaa", sum := "d810be1909adb379dcecfa20dac758a1528f40844c965db03c4e0a3d29db80f8", func := "bellbuoy/bellbuoylaw10.CountIs", spec := "countIs", apart := false, narrowed := true }
def CountIsUptoSaid : Prop := countIsUptoRow.holds Try.pinned (OpenSpec.upto countIsSpec)

/-- 'bellbuoylaw10.CountStays', WHERE WHAT IT READS IS OF BULK AT MOST 1048576: true; the input reads as it did. -/
def countStaysUptoRow : OpenClaim := { program := "ytcdhihoghkkahaa", sum := "d810be1909adb379dcecfa20dac758a1528f40844c965db03c4e0a3d29db80f8", func := "bellbuoy/bellbuoylaw10.CountStays", spec := "countStays", apart := false, narrowed := true }
def CountStaysUptoSaid : Prop := countStaysUptoRow.holds Try.pinned (OpenSpec.upto countStaysSpec)

/-- 'bellbuoylaw10.CountOff', WHERE WHAT IT READS IS OF BULK AT MOST 1048576: true; the input reads as it did. -/
def countOffUptoRow : OpenClaim := { program := "ytcdhihoghkkahaa", sum := "d810be1909adb379dcecfa20dac758a1528f40844c965db03c4e0a3d29db80f8", func := "bellbuoy/bellbuoylaw10.CountOff", spec := "countOff", apart := false, narrowed := true }
def CountOffUptoSaid : Prop := countOffUptoRow.holds Try.pinned (OpenSpec.upto countOffSpec)

/-- 'bellbuoylaw24.QueueSorts', WHERE WHAT IT READS IS OF BULK AT MOST 1048576: true; the input reads as it did. -/
def queueSortsUptoRow : OpenClaim := { program := "ytcdhihoghkkahaa", sum := "d810be1909adb379dcecfa20dac758a1528f40844c965db03c4e0a3d29db80f8", func := "bellbuoy/bellbuoylaw24.QueueSorts", spec := "queueSorts", unfollowed := true, recurses := true, apart := false, narrowed := true }
def QueueSortsUptoSaid : Prop := queueSortsUptoRow.holds Try.pinned (OpenSpec.upto queueSortsSpec)

/-- 'bellbuoylaw24.QueuePlays', WHERE WHAT IT READS IS OF BULK AT MOST 1048576: true; the input reads as it did. -/
def queuePlaysUptoRow : OpenClaim := { program := "ytcdhihoghkkahaa", sum := "d810be1909adb379dcecfa20dac758a1528f40844c965db03c4e0a3d29db80f8", func := "bellbuoy/bellbuoylaw24.QueuePlays", spec := "queuePlays", unfollowed := true, recurses := true, apart := false, narrowed := true }
def QueuePlaysUptoSaid : Prop := queuePlaysUptoRow.holds Try.pinned (OpenSpec.upto queuePlaysSpec)

/-- 'bellbuoylaw24.QueueFull', WHERE WHAT IT READS IS OF BULK AT MOST 1048576: true; the input reads as it did. -/
def queueFullUptoRow : OpenClaim := { program := "ytcdhihoghkkahaa", sum := "d810be1909adb379dcecfa20dac758a1528f40844c965db03c4e0a3d29db80f8", func := "bellbuoy/bellbuoylaw24.QueueFull", spec := "queueFull", unfollowed := true, recurses := true, apart := false, narrowed := true }
def QueueFullUptoSaid : Prop := queueFullUptoRow.holds Try.pinned (OpenSpec.upto queueFullSpec)

/-- 'bellbuoytop.TopQueued', WHERE WHAT IT READS IS OF BULK AT MOST 1048576: true; the input reads as it did. -/
def topQueuedUptoRow : OpenClaim := { program := "ytcdhihoghkkahaa", sum := "d810be1909adb379dcecfa20dac758a1528f40844c965db03c4e0a3d29db80f8", func := "bellbuoy/bellbuoytop.TopQueued", spec := "topQueued", unfollowed := true, recurses := true, apart := false, narrowed := true }
def TopQueuedUptoSaid : Prop := topQueuedUptoRow.holds Try.pinned (OpenSpec.upto topQueuedSpec)

end Rows
end Go.Proofs.Ytcdhihoghkkahaa
