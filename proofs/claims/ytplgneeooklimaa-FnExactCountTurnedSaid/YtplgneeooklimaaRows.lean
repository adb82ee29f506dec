/-
  No cell of these rows narrows 'for every input' (looked for: loops, veiled, ifaces, maps, wideKeys, modest, calm, conditions, laid).
  DERIVED. THE GIVEN ROWS OF THIS SEAT. 12 by the template 'for every input the law returns true; each argument reads behind the call as it read before'; 0 by the template 'total and deterministic' (their statements: YtplgneeooklimaaTotals.lean).
  GIVEN WITH THE SEED: the statements are not yours to turn. If you find one false, say at which input.
  Laid BY PROGRAM, IN A SANDBOX (cutbox-rows.mjs): the forced cells as the released guide's own fill.sh prints them over the translation 5bf26f286d36fe6c… (all of the seat's roots in one cut). By AI agents, Wed Nov 11 2026. No macro, syntax, notation, axiom, sorry.
-/
import Derived.Test.YtplgneeooklimaaChecked
import GoSem.Claim
import GoSem.ClaimJoined
import GoSem.ClaimMapViews
import Derived.JoinedTies
import Derived.KernelRfl
namespace Go.Proofs.Ytplgneeooklimaa
/- THE CELL 'sum', in the pinned program and in every row, IS THE sha256 OF THE DUMP (.gsa) THAT YtplgneeooklimaaProg.lean LOADS. Nothing in Lean hashes anything: it is a label: what it is worth is what the hold of that sum in a sandbox is worth. -/
noncomputable def Try.pinned : Pinned := { name := "ytplgneeooklimaa", sum := "5bf26f286d36fe6c50b56a577c6e021830d1052a36e2e5955dcef15285733690", checked := Try.checked }
namespace Rows
def none {H : Type} : Left H := { results := [], args := [] }

/-- 'laws.FnExactFirstEntryMaze': WHATEVER THE INPUT: true; the input reads as it did. -/
def fnExactFirstEntryMazeSpec : ChangeSpec := { name := "fnExactFirstEntryMaze", fn := fun _ => fun
  | [d1, d2, d3] => { results := [.lit (.bool true)], args := [d1, d2, d3] }
  | _ => none }
def fnExactFirstEntryMazeRow : OpenClaim := { program := "ytplgneeooklimaa", sum := "5bf26f286d36fe6c50b56a577c6e021830d1052a36e2e5955dcef15285733690", func := "loop.example/g00990/laws.FnExactFirstEntryMaze", spec := "fnExactFirstEntryMaze", unfollowed := true, recurses := true, apart := false }
def FnExactFirstEntryMazeSaid : Prop := fnExactFirstEntryMazeRow.holds Try.pinned (OpenSpec.ofChange fnExactFirstEntryMazeSpec)

/-- ITS FALSE NEIGHBOUR: 'it returns false'. Refute it at one input. -/
def fnExactFirstEntryMazeWrong : ChangeSpec := { name := "fnExactFirstEntryMaze", fn := fun _ => fun
  | [d1, d2, d3] => { results := [.lit (.bool false)], args := [d1, d2, d3] }
  | _ => none }
def FnExactFirstEntryMazeWrongFalsely : Prop := fnExactFirstEntryMazeRow.holds Try.pinned (OpenSpec.ofChange fnExactFirstEntryMazeWrong)

/-- 'laws.FnExactLastExitMaze': WHATEVER THE INPUT: true; the input reads as it did. -/
def fnExactLastExitMazeSpec : ChangeSpec := { name := "fnExactLastExitMaze", fn := fun _ => fun
  | [d1, d2, d3] => { results := [.lit (.bool true)], args := [d1, d2, d3] }
  | _ => none }
def fnExactLastExitMazeRow : OpenClaim := { program := "ytplgneeooklimaa", sum := "5bf26f286d36fe6c50b56a577c6e021830d1052a36e2e5955dcef15285733690", func := "loop.example/g00990/laws.FnExactLastExitMaze", spec := "fnExactLastExitMaze", unfollowed := true, recurses := true, apart := false }
def FnExactLastExitMazeSaid : Prop := fnExactLastExitMazeRow.holds Try.pinned (OpenSpec.ofChange fnExactLastExitMazeSpec)

/-- ITS FALSE NEIGHBOUR: 'it returns false'. Refute it at one input. -/
def fnExactLastExitMazeWrong : ChangeSpec := { name := "fnExactLastExitMaze", fn := fun _ => fun
  | [d1, d2, d3] => { results := [.lit (.bool false)], args := [d1, d2, d3] }
  | _ => none }
def FnExactLastExitMazeWrongFalsely : Prop := fnExactLastExitMazeRow.holds Try.pinned (OpenSpec.ofChange fnExactLastExitMazeWrong)

/-- 'laws.FnTreeCounts': WHATEVER THE INPUT: true; the input reads as it did. -/
def fnTreeCountsSpec : ChangeSpec := { name := "fnTreeCounts", fn := fun _ => fun
  | [d] => { results := [.lit (.bool true)], args := [d] }
  | _ => none }
def fnTreeCountsRow : OpenClaim := { program := "ytplgneeooklimaa", sum := "5bf26f286d36fe6c50b56a577c6e021830d1052a36e2e5955dcef15285733690", func := "loop.example/g00990/laws.FnTreeCounts", spec := "fnTreeCounts", unfollowed := true, recurses := true, apart := false }
def FnTreeCountsSaid : Prop := fnTreeCountsRow.holds Try.pinned (OpenSpec.ofChange fnTreeCountsSpec)

/-- ITS FALSE NEIGHBOUR: 'it returns false'. Refute it at one input. -/
def fnTreeCountsWrong : ChangeSpec := { name := "fnTreeCounts", fn := fun _ => fun
  | [d] => { results := [.lit (.bool false)], args := [d] }
  | _ => none }
def FnTreeCountsWrongFalsely : Prop := fnTreeCountsRow.holds Try.pinned (OpenSpec.ofChange fnTreeCountsWrong)

/-- 'laws.FnExactCountTurned': WHATEVER THE INPUT: true; the input reads as it did. -/
def fnExactCountTurnedSpec : ChangeSpec := { name := "fnExactCountTurned", fn := fun _ => fun
  | [d] => { results := [.lit (.bool true)], args := [d] }
  | _ => none }
def fnExactCountTurnedRow : OpenClaim := { program := "ytplgneeooklimaa", sum := "5bf26f286d36fe6c50b56a577c6e021830d1052a36e2e5955dcef15285733690", func := "loop.example/g00990/laws.FnExactCountTurned", spec := "fnExactCountTurned", unfollowed := true, recurses := true, apart := false }
def FnExactCountTurnedSaid : Prop := fnExactCountTurnedRow.holds Try.pinned (OpenSpec.ofChange fnExactCountTurnedSpec)

/-- ITS FALSE NEIGHBOUR: 'it returns false'. Refute it at one input. -/
def fnExactCountTurnedWrong : ChangeSpec := { name := "fnExactCountTurned", fn := fun _ => fun
  | [d] => { results := [.lit (.bool false)], args := [d] }
  | _ => none }
def FnExactCountTurnedWrongFalsely : Prop := fnExactCountTurnedRow.holds Try.pinned (OpenSpec.ofChange fnExactCountTurnedWrong)

/-- 'laws.FnExactCountWith': WHATEVER THE INPUT: true; the input reads as it did. -/
def fnExactCountWithSpec : ChangeSpec := { name := "fnExactCountWith", fn := fun _ => fun
  | [d1, d2] => { results := [.lit (.bool true)], args := [d1, d2] }
  | _ => none }
def fnExactCountWithRow : OpenClaim := { program := "ytplgneeooklimaa", sum := "5bf26f286d36fe6c50b56a577c6e021830d1052a36e2e5955dcef15285733690", func := "loop.example/g00990/laws.FnExactCountWith", spec := "fnExactCountWith", unfollowed := true, recurses := true, apart := false }
def FnExactCountWithSaid : Prop := fnExactCountWithRow.holds Try.pinned (OpenSpec.ofChange fnExactCountWithSpec)

/-- ITS FALSE NEIGHBOUR: 'it returns false'. Refute it at one input. -/
def fnExactCountWithWrong : ChangeSpec := { name := "fnExactCountWith", fn := fun _ => fun
  | [d1, d2] => { results := [.lit (.bool false)], args := [d1, d2] }
  | _ => none }
def FnExactCountWithWrongFalsely : Prop := fnExactCountWithRow.holds Try.pinned (OpenSpec.ofChange fnExactCountWithWrong)

/-- 'laws.FnExactNumberOf': WHATEVER THE INPUT: true; the input reads as it did. -/
def fnExactNumberOfSpec : ChangeSpec := { name := "fnExactNumberOf", fn := fun _ => fun
  | [d] => { results := [.lit (.bool true)], args := [d] }
  | _ => none }
def fnExactNumberOfRow : OpenClaim := { program := "ytplgneeooklimaa", sum := "5bf26f286d36fe6c50b56a577c6e021830d1052a36e2e5955dcef15285733690", func := "loop.example/g00990/laws.FnExactNumberOf", spec := "fnExactNumberOf", unfollowed := true, recurses := true, apart := false }
def FnExactNumberOfSaid : Prop := fnExactNumberOfRow.holds Try.pinned (OpenSpec.ofChange fnExactNumberOfSpec)

/-- ITS FALSE NEIGHBOUR: 'it returns false'. Refute it at one input. -/
def fnExactNumberOfWrong : ChangeSpec := { name := "fnExactNumberOf", fn := fun _ => fun
  | [d] => { results := [.lit (.bool false)], args := [d] }
  | _ => none }
def FnExactNumberOfWrongFalsely : Prop := fnExactNumberOfRow.holds Try.pinned (OpenSpec.ofChange fnExactNumberOfWrong)

/-- 'laws.FnHands': WHATEVER THE INPUT: true; the input reads as it did. -/
def fnHandsSpec : ChangeSpec := { name := "fnHands", fn := fun _ => fun
  | [d] => { results := [.lit (.bool true)], args := [d] }
  | _ => none }
def fnHandsRow : OpenClaim := { program := "ytplgneeooklimaa", sum := "5bf26f286d36fe6c50b56a577c6e021830d1052a36e2e5955dcef15285733690", func := "loop.example/g00990/laws.FnHands", spec := "fnHands", unfollowed := true, recurses := true, apart := false }
def FnHandsSaid : Prop := fnHandsRow.holds Try.pinned (OpenSpec.ofChange fnHandsSpec)

/-- ITS FALSE NEIGHBOUR: 'it returns false'. Refute it at one input. -/
def fnHandsWrong : ChangeSpec := { name := "fnHands", fn := fun _ => fun
  | [d] => { results := [.lit (.bool false)], args := [d] }
  | _ => none }
def FnHandsWrongFalsely : Prop := fnHandsRow.holds Try.pinned (OpenSpec.ofChange fnHandsWrong)

/-- 'laws.FnExactCoverTime': WHATEVER THE INPUT: true; the input reads as it did. -/
def fnExactCoverTimeSpec : ChangeSpec := { name := "fnExactCoverTime", fn := fun _ => fun
  | [d1, d2, d3] => { results := [.lit (.bool true)], args := [d1, d2, d3] }
  | _ => none }
def fnExactCoverTimeRow : OpenClaim := { program := "ytplgneeooklimaa", sum := "5bf26f286d36fe6c50b56a577c6e021830d1052a36e2e5955dcef15285733690", func := "loop.example/g00990/laws.FnExactCoverTime", spec := "fnExactCoverTime", unfollowed := true, recurses := true, apart := false }
def FnExactCoverTimeSaid : Prop := fnExactCoverTimeRow.holds Try.pinned (OpenSpec.ofChange fnExactCoverTimeSpec)

/-- ITS FALSE NEIGHBOUR: 'it returns false'. Refute it at one input. -/
def fnExactCoverTimeWrong : ChangeSpec := { name := "fnExactCoverTime", fn := fun _ => fun
  | [d1, d2, d3] => { results := [.lit (.bool false)], args := [d1, d2, d3] }
  | _ => none }
def FnExactCoverTimeWrongFalsely : Prop := fnExactCoverTimeRow.holds Try.pinned (OpenSpec.ofChange fnExactCoverTimeWrong)

/-- 'laws.FnExactCellsVisited': WHATEVER THE INPUT: true; the input reads as it did. -/
def fnExactCellsVisitedSpec : ChangeSpec := { name := "fnExactCellsVisited", fn := fun _ => fun
  | [d1, d2] => { results := [.lit (.bool true)], args := [d1, d2] }
  | _ => none }
def fnExactCellsVisitedRow : OpenClaim := { program := "ytplgneeooklimaa", sum := "5bf26f286d36fe6c50b56a577c6e021830d1052a36e2e5955dcef15285733690", func := "loop.example/g00990/laws.FnExactCellsVisited", spec := "fnExactCellsVisited", unfollowed := true, recurses := true, apart := false }
def FnExactCellsVisitedSaid : Prop := fnExactCellsVisitedRow.holds Try.pinned (OpenSpec.ofChange fnExactCellsVisitedSpec)

/-- ITS FALSE NEIGHBOUR: 'it returns false'. Refute it at one input. -/
def fnExactCellsVisitedWrong : ChangeSpec := { name := "fnExactCellsVisited", fn := fun _ => fun
  | [d1, d2] => { results := [.lit (.bool false)], args := [d1, d2] }
  | _ => none }
def FnExactCellsVisitedWrongFalsely : Prop := fnExactCellsVisitedRow.holds Try.pinned (OpenSpec.ofChange fnExactCellsVisitedWrong)

/-- 'laws.FnExactNextMaze': WHATEVER THE INPUT: true; the input reads as it did. -/
def fnExactNextMazeSpec : ChangeSpec := { name := "fnExactNextMaze", fn := fun _ => fun
  | [d] => { results := [.lit (.bool true)], args := [d] }
  | _ => none }
def fnExactNextMazeRow : OpenClaim := { program := "ytplgneeooklimaa", sum := "5bf26f286d36fe6c50b56a577c6e021830d1052a36e2e5955dcef15285733690", func := "loop.example/g00990/laws.FnExactNextMaze", spec := "fnExactNextMaze", unfollowed := true, recurses := true, apart := false }
def FnExactNextMazeSaid : Prop := fnExactNextMazeRow.holds Try.pinned (OpenSpec.ofChange fnExactNextMazeSpec)

/-- ITS FALSE NEIGHBOUR: 'it returns false'. Refute it at one input. -/
def fnExactNextMazeWrong : ChangeSpec := { name := "fnExactNextMaze", fn := fun _ => fun
  | [d] => { results := [.lit (.bool false)], args := [d] }
  | _ => none }
def FnExactNextMazeWrongFalsely : Prop := fnExactNextMazeRow.holds Try.pinned (OpenSpec.ofChange fnExactNextMazeWrong)

/-- 'laws.FnErased': WHATEVER THE INPUT: true; the input reads as it did. -/
def fnErasedSpec : ChangeSpec := { name := "fnErased", fn := fun _ => fun
  | [d] => { results := [.lit (.bool true)], args := [d] }
  | _ => none }
def fnErasedRow : OpenClaim := { program := "ytplgneeooklimaa", sum := "5bf26f286d36fe6c50b56a577c6e021830d1052a36e2e5955dcef15285733690", func := "loop.example/g00990/laws.FnErased", spec := "fnErased", unfollowed := true, recurses := true, apart := false }
def FnErasedSaid : Prop := fnErasedRow.holds Try.pinned (OpenSpec.ofChange fnErasedSpec)

/-- ITS FALSE NEIGHBOUR: 'it returns false'. Refute it at one input. -/
def fnErasedWrong : ChangeSpec := { name := "fnErased", fn := fun _ => fun
  | [d] => { results := [.lit (.bool false)], args := [d] }
  | _ => none }
def FnErasedWrongFalsely : Prop := fnErasedRow.holds Try.pinned (OpenSpec.ofChange fnErasedWrong)

/-- 'laws.FnExactCountSwaps': WHATEVER THE INPUT: true; the input reads as it did. -/
def fnExactCountSwapsSpec : ChangeSpec := { name := "fnExactCountSwaps", fn := fun _ => fun
  | [d] => { results := [.lit (.bool true)], args := [d] }
  | _ => none }
def fnExactCountSwapsRow : OpenClaim := { program := "ytplgneeooklimaa", sum := "5bf26f286d36fe6c50b56a577c6e021830d1052a36e2e5955dcef15285733690", func := "loop.example/g00990/laws.FnExactCountSwaps", spec := "fnExactCountSwaps", unfollowed := true, recurses := true, apart := false }
def FnExactCountSwapsSaid : Prop := fnExactCountSwapsRow.holds Try.pinned (OpenSpec.ofChange fnExactCountSwapsSpec)

/-- ITS FALSE NEIGHBOUR: 'it returns false'. Refute it at one input. -/
def fnExactCountSwapsWrong : ChangeSpec := { name := "fnExactCountSwaps", fn := fun _ => fun
  | [d] => { results := [.lit (.bool false)], args := [d] }
  | _ => none }
def FnExactCountSwapsWrongFalsely : Prop := fnExactCountSwapsRow.holds Try.pinned (OpenSpec.ofChange fnExactCountSwapsWrong)

/- THE SECOND FORM. 'bulk': how many values and letters a reading holds, each counted each time it is reached (what is shared counts as often as it is met; a slice's spare places count too). A statement '..UptoSaid' is the law's where the arguments, and the package variables that the reading takes, are together of bulk at most 1048576: NARROWER than '..Said'. Prove '..Said' where nothing that the law and all that it calls make is longer than what came in: it says more and counts as full. Else prove '..UptoSaid'. A law counts once. -/
mutual
def uptoBulk {H : Type} : DataW H → Nat
  | .lit (.string bytes) => bytes.length + 1
  | .lit _ => 1
  | .nil => 1
  | .ptr d => uptoBulk d + 1
  | .slice elems spare => uptoBulkAll elems + uptoBulkAll spare + 1
  | .agg parts => uptoBulkAll parts + 1
  | .iface _ d => uptoBulk d + 1
  | .map entries => uptoBulkEntries entries + 1
  | .held _ => 1
def uptoBulkAll {H : Type} : List (DataW H) → Nat
  | [] => 0
  | d :: r => uptoBulk d + uptoBulkAll r
def uptoBulkEntries {H : Type} : List (Lit × DataW H) → Nat
  | [] => 0
  | x :: r => uptoBulkEntry x + uptoBulkEntries r
def uptoBulkEntry {H : Type} : Lit × DataW H → Nat
  | (.string bytes, d) => bytes.length + uptoBulk d + 1
  | (_, d) => uptoBulk d + 1
 end
def uptoSmall : (H : Type) → List (DataW H) → Bool := fun _ ds => decide (uptoBulkAll ds ≤ 1048576)
def OpenSpec.upto (s : _root_.Go.ChangeSpec) : _root_.Go.OpenSpec := { _root_.Go.OpenSpec.ofChange s with cond := some uptoSmall }

/-- 'laws.FnExactFirstEntryMaze', WHERE WHAT IT READS IS OF BULK AT MOST 1048576: true; the input reads as it did. -/
def fnExactFirstEntryMazeUptoRow : OpenClaim := { program := "ytplgneeooklimaa", sum := "5bf26f286d36fe6c50b56a577c6e021830d1052a36e2e5955dcef15285733690", func := "loop.example/g00990/laws.FnExactFirstEntryMaze", spec := "fnExactFirstEntryMaze", unfollowed := true, recurses := true, apart := false, narrowed := true }
def FnExactFirstEntryMazeUptoSaid : Prop := fnExactFirstEntryMazeUptoRow.holds Try.pinned (OpenSpec.upto fnExactFirstEntryMazeSpec)

/-- 'laws.FnExactLastExitMaze', WHERE WHAT IT READS IS OF BULK AT MOST 1048576: true; the input reads as it did. -/
def fnExactLastExitMazeUptoRow : OpenClaim := { program := "ytplgneeooklimaa", sum := "5bf26f286d36fe6c50b56a577c6e021830d1052a36e2e5955dcef15285733690", func := "loop.example/g00990/laws.FnExactLastExitMaze", spec := "fnExactLastExitMaze", unfollowed := true, recurses := true, apart := false, narrowed := true }
def FnExactLastExitMazeUptoSaid : Prop := fnExactLastExitMazeUptoRow.holds Try.pinned (OpenSpec.upto fnExactLastExitMazeSpec)

/-- 'laws.FnTreeCounts', WHERE WHAT IT READS IS OF BULK AT MOST 1048576: true; the input reads as it did. -/
def fnTreeCountsUptoRow : OpenClaim := { program := "ytplgneeooklimaa", sum := "5bf26f286d36fe6c50b56a577c6e021830d1052a36e2e5955dcef15285733690", func := "loop.example/g00990/laws.FnTreeCounts", spec := "fnTreeCounts", unfollowed := true, recurses := true, apart := false, narrowed := true }
def FnTreeCountsUptoSaid : Prop := fnTreeCountsUptoRow.holds Try.pinned (OpenSpec.upto fnTreeCountsSpec)

/-- 'laws.FnExactCountTurned', WHERE WHAT IT READS IS OF BULK AT MOST 1048576: true; the input reads as it did. -/
def fnExactCountTurnedUptoRow : OpenClaim := { program := "ytplgneeooklimaa", sum := "5bf26f286d36fe6c50b56a577c6e021830d1052a36e2e5955dcef15285733690", func := "loop.example/g00990/laws.FnExactCountTurned", spec := "fnExactCountTurned", unfollowed := true, recurses := true, apart := false, narrowed := true }
def FnExactCountTurnedUptoSaid : Prop := fnExactCountTurnedUptoRow.holds Try.pinned (OpenSpec.upto fnExactCountTurnedSpec)

/-- 'laws.FnExactCountWith', WHERE WHAT IT READS IS OF BULK AT MOST 1048576: true; the input reads as it did. -/
def fnExactCountWithUptoRow : OpenClaim := { program := "ytplgneeooklimaa", sum := "5bf26f286d36fe6c50b56a577c6e021830d1052a36e2e5955dcef15285733690", func := "loop.example/g00990/laws.FnExactCountWith", spec := "fnExactCountWith", unfollowed := true, recurses := true, apart := false, narrowed := true }
def FnExactCountWithUptoSaid : Prop := fnExactCountWithUptoRow.holds Try.pinned (OpenSpec.upto fnExactCountWithSpec)

/-- 'laws.FnExactNumberOf', WHERE WHAT IT READS IS OF BULK AT MOST 1048576: true; the input reads as it did. -/
def fnExactNumberOfUptoRow : OpenClaim := { program := "ytplgneeooklimaa", sum := "5bf26f286d36fe6c50b56a577c6e021830d1052a36e2e5955dcef15285733690", func := "loop.example/g00990/laws.FnExactNumberOf", spec := "fnExactNumberOf", unfollowed := true, recurses := true, apart := false, narrowed := true }
def FnExactNumberOfUptoSaid : Prop := fnExactNumberOfUptoRow.holds Try.pinned (OpenSpec.upto fnExactNumberOfSpec)

/-- 'laws.FnHands', WHERE WHAT IT READS IS OF BULK AT MOST 1048576: true; the input reads as it did. -/
def fnHandsUptoRow : OpenClaim := { program := "ytplgneeooklimaa", sum := "5bf26f286d36fe6c50b56a577c6e021830d1052a36e2e5955dcef15285733690", func := "loop.example/g00990/laws.FnHands", spec := "fnHands", unfollowed := true, recurses := true, apart := false, narrowed := true }
def FnHandsUptoSaid : Prop := fnHandsUptoRow.holds Try.pinned (OpenSpec.upto fnHandsSpec)

/-- 'laws.FnExactCoverTime', WHERE WHAT IT READS IS OF BULK AT MOST 1048576: true; the input reads as it did. -/
def fnExactCoverTimeUptoRow : OpenClaim := { program := "ytplgneeooklimaa", sum := "5bf26f286d36fe6c50b56a577c6e021830d1052a36e2e5955dcef15285733690", func := "loop.example/g00990/laws.FnExactCoverTime", spec := "fnExactCoverTime", unfollowed := true, recurses := true, apart := false, narrowed := true }
def FnExactCoverTimeUptoSaid : Prop := fnExactCoverTimeUptoRow.holds Try.pinned (OpenSpec.upto fnExactCoverTimeSpec)

/-- 'laws.FnExactCellsVisited', WHERE WHAT IT READS IS OF BULK AT MOST 1048576: true; the input reads as it did. -/
def fnExactCellsVisitedUptoRow : OpenClaim := { program := "ytplgneeooklimaa", sum := "5bf26f286d36fe6c50b56a577c6e021830d1052a36e2e5955dcef15285733690", func := "loop.example/g00990/laws.FnExactCellsVisited", spec := "fnExactCellsVisited", unfollowed := true, recurses := true, apart := false, narrowed := true }
def FnExactCellsVisitedUptoSaid : Prop := fnExactCellsVisitedUptoRow.holds Try.pinned (OpenSpec.upto fnExactCellsVisitedSpec)

/-- 'laws.FnExactNextMaze', WHERE WHAT IT READS IS OF BULK AT MOST 1048576: true; the input reads as it did. -/
def fnExactNextMazeUptoRow : OpenClaim := { program := "ytplgneeooklimaa", sum := "5bf26f286d36fe6c50b56a577c6e021830d1052a36e2e5955dcef15285733690", func := "loop.example/g00990/laws.FnExactNextMaze", spec := "fnExactNextMaze", unfollowed := true, recurses := true, apart := false, narrowed := true }
def FnExactNextMazeUptoSaid : Prop := fnExactNextMazeUptoRow.holds Try.pinned (OpenSpec.upto fnExactNextMazeSpec)

/-- 'laws.FnErased', WHERE WHAT IT READS IS OF BULK AT MOST 1048576: true; the input reads as it did. -/
def fnErasedUptoRow : OpenClaim := { program := "ytplgneeooklimaa", sum := "5bf26f286d36fe6c50b56a577c6e021830d1052a36e2e5955dcef15285733690", func := "loop.example/g00990/laws.FnErased", spec := "fnErased", unfollowed := true, recurses := true, apart := false, narrowed := true }
def FnErasedUptoSaid : Prop := fnErasedUptoRow.holds Try.pinned (OpenSpec.upto fnErasedSpec)

/-- 'laws.FnExactCountSwaps', WHERE WHAT IT READS IS OF BULK AT MOST 1048576: true; the input reads as it did. -/
def fnExactCountSwapsUptoRow : OpenClaim := { program := "ytplgneeooklimaa", sum := "5bf26f286d36fe6c50b56a577c6e021830d1052a36e2e5955dcef15285733690", func := "loop.example/g00990/laws.FnExactCountSwaps", spec := "fnExactCountSwaps", unfollowed := true, recurses := true, apart := false, narrowed := true }
def FnExactCountSwapsUptoSaid : Prop := fnExactCountSwapsUptoRow.holds Try.pinned (OpenSpec.upto fnExactCountSwapsSpec)

end Rows
end Go.Proofs.Ytplgneeooklimaa
