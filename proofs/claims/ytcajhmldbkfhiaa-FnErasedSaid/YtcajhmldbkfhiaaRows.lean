/-
  No cell of these rows narrows 'for every input' (looked for: loops, veiled, ifaces, maps, wideKeys, modest, calm, conditions, laid).
  DERIVED. THE GIVEN ROWS OF THIS SEAT. 10 by the template 'for every input the law returns true; each argument reads behind the call as it read before'; 0 by the template 'total and deterministic' (their statements: YtcajhmldbkfhiaaTotals.lean).
  GIVEN WITH THE SEED: the statements are not yours to turn. If you find one false, say at which input.
  Laid BY PROGRAM, IN A SANDBOX (cutbox-rows.mjs): the forced cells as the released guide's own fill.sh prints them over the translation 25cf778918f096cd… (all of the seat's roots in one cut). By AI agents, Wed Nov 11 2026. No macro, syntax, notation, axiom, sorry.
-/
import Derived.Test.YtcajhmldbkfhiaaChecked
import GoSem.Claim
import GoSem.ClaimJoined
import GoSem.ClaimMapViews
import Derived.JoinedTies
import Derived.KernelRfl
namespace Go.Proofs.Ytcajhmldbkfhiaa
/- THE CELL 'sum', in the pinned program and in every row, IS THE sha256 OF THE DUMP (.gsa) THAT YtcajhmldbkfhiaaProg.lean LOADS. Nothing in Lean hashes anything: it is a label: what it is worth is what the hold of that sum in a sandbox is worth. -/
noncomputable def Try.pinned : Pinned := { name := "ytcajhmldbkfhiaa", sum := "25cf778918f096cdfadecb70e078c25d0cce12b9b93db7073a50567324bc5da6", checked := Try.checked }
namespace Rows
def none {H : Type} : Left H := { results := [], args := [] }

/-- 'laws.FnExactIsSimple': WHATEVER THE INPUT: true; the input reads as it did. -/
def fnExactIsSimpleSpec : ChangeSpec := { name := "fnExactIsSimple", fn := fun _ => fun
  | [d] => { results := [.lit (.bool true)], args := [d] }
  | _ => none }
def fnExactIsSimpleRow : OpenClaim := { program := "ytcajhmldbkfhiaa", sum := "25cf778918f096cdfadecb70e078c25d0cce12b9b93db7073a50567324bc5da6", func := "loop.example/g00990/laws.FnExactIsSimple", spec := "fnExactIsSimple", recurses := true, apart := false }
def FnExactIsSimpleSaid : Prop := fnExactIsSimpleRow.holds Try.pinned (OpenSpec.ofChange fnExactIsSimpleSpec)

/-- ITS FALSE NEIGHBOUR: 'it returns false'. Refute it at one input. -/
def fnExactIsSimpleWrong : ChangeSpec := { name := "fnExactIsSimple", fn := fun _ => fun
  | [d] => { results := [.lit (.bool false)], args := [d] }
  | _ => none }
def FnExactIsSimpleWrongFalsely : Prop := fnExactIsSimpleRow.holds Try.pinned (OpenSpec.ofChange fnExactIsSimpleWrong)

/-- 'laws.FnExactListTrees': WHATEVER THE INPUT: true; the input reads as it did. -/
def fnExactListTreesSpec : ChangeSpec := { name := "fnExactListTrees", fn := fun _ => fun
  | [d] => { results := [.lit (.bool true)], args := [d] }
  | _ => none }
def fnExactListTreesRow : OpenClaim := { program := "ytcajhmldbkfhiaa", sum := "25cf778918f096cdfadecb70e078c25d0cce12b9b93db7073a50567324bc5da6", func := "loop.example/g00990/laws.FnExactListTrees", spec := "fnExactListTrees", unfollowed := true, recurses := true, apart := false }
def FnExactListTreesSaid : Prop := fnExactListTreesRow.holds Try.pinned (OpenSpec.ofChange fnExactListTreesSpec)

/-- ITS FALSE NEIGHBOUR: 'it returns false'. Refute it at one input. -/
def fnExactListTreesWrong : ChangeSpec := { name := "fnExactListTrees", fn := fun _ => fun
  | [d] => { results := [.lit (.bool false)], args := [d] }
  | _ => none }
def FnExactListTreesWrongFalsely : Prop := fnExactListTreesRow.holds Try.pinned (OpenSpec.ofChange fnExactListTreesWrong)

/-- 'laws.FnHands': WHATEVER THE INPUT: true; the input reads as it did. -/
def fnHandsSpec : ChangeSpec := { name := "fnHands", fn := fun _ => fun
  | [d] => { results := [.lit (.bool true)], args := [d] }
  | _ => none }
def fnHandsRow : OpenClaim := { program := "ytcajhmldbkfhiaa", sum := "25cf778918f096cdfadecb70e078c25d0cce12b9b93db7073a50567324bc5da6", func := "loop.example/g00990/laws.FnHands", spec := "fnHands", unfollowed := true, recurses := true, apart := false }
def FnHandsSaid : Prop := fnHandsRow.holds Try.pinned (OpenSpec.ofChange fnHandsSpec)

/-- ITS FALSE NEIGHBOUR: 'it returns false'. Refute it at one input. -/
def fnHandsWrong : ChangeSpec := { name := "fnHands", fn := fun _ => fun
  | [d] => { results := [.lit (.bool false)], args := [d] }
  | _ => none }
def FnHandsWrongFalsely : Prop := fnHandsRow.holds Try.pinned (OpenSpec.ofChange fnHandsWrong)

/-- 'laws.FnExactCoverTime': WHATEVER THE INPUT: true; the input reads as it did. -/
def fnExactCoverTimeSpec : ChangeSpec := { name := "fnExactCoverTime", fn := fun _ => fun
  | [d1, d2, d3] => { results := [.lit (.bool true)], args := [d1, d2, d3] }
  | _ => none }
def fnExactCoverTimeRow : OpenClaim := { program := "ytcajhmldbkfhiaa", sum := "25cf778918f096cdfadecb70e078c25d0cce12b9b93db7073a50567324bc5da6", func := "loop.example/g00990/laws.FnExactCoverTime", spec := "fnExactCoverTime", unfollowed := true, recurses := true, apart := false }
def FnExactCoverTimeSaid : Prop := fnExactCoverTimeRow.holds Try.pinned (OpenSpec.ofChange fnExactCoverTimeSpec)

/-- ITS FALSE NEIGHBOUR: 'it returns false'. Refute it at one input. -/
def fnExactCoverTimeWrong : ChangeSpec := { name := "fnExactCoverTime", fn := fun _ => fun
  | [d1, d2, d3] => { results := [.lit (.bool false)], args := [d1, d2, d3] }
  | _ => none }
def FnExactCoverTimeWrongFalsely : Prop := fnExactCoverTimeRow.holds Try.pinned (OpenSpec.ofChange fnExactCoverTimeWrong)

/-- 'laws.FnExactCellsVisited': WHATEVER THE INPUT: true; the input reads as it did. -/
def fnExactCellsVisitedSpec : ChangeSpec := { name := "fnExactCellsVisited", fn := fun _ => fun
  | [d1, d2] => { results := [.lit (.bool true)], args := [d1, d2] }
  | _ => none }
def fnExactCellsVisitedRow : OpenClaim := { program := "ytcajhmldbkfhiaa", sum := "25cf778918f096cdfadecb70e078c25d0cce12b9b93db7073a50567324bc5da6", func := "loop.example/g00990/laws.FnExactCellsVisited", spec := "fnExactCellsVisited", unfollowed := true, recurses := true, apart := false }
def FnExactCellsVisitedSaid : Prop := fnExactCellsVisitedRow.holds Try.pinned (OpenSpec.ofChange fnExactCellsVisitedSpec)

/-- ITS FALSE NEIGHBOUR: 'it returns false'. Refute it at one input. -/
def fnExactCellsVisitedWrong : ChangeSpec := { name := "fnExactCellsVisited", fn := fun _ => fun
  | [d1, d2] => { results := [.lit (.bool false)], args := [d1, d2] }
  | _ => none }
def FnExactCellsVisitedWrongFalsely : Prop := fnExactCellsVisitedRow.holds Try.pinned (OpenSpec.ofChange fnExactCellsVisitedWrong)

/-- 'laws.FnErased': WHATEVER THE INPUT: true; the input reads as it did. -/
def fnErasedSpec : ChangeSpec := { name := "fnErased", fn := fun _ => fun
  | [d] => { results := [.lit (.bool true)], args := [d] }
  | _ => none }
def fnErasedRow : OpenClaim := { program := "ytcajhmldbkfhiaa", sum := "25cf778918f096cdfadecb70e078c25d0cce12b9b93db7073a50567324bc5da6", func := "loop.example/g00990/laws.FnErased", spec := "fnErased", unfollowed := true, recurses := true, apart := false }
def FnErasedSaid : Prop := fnErasedRow.holds Try.pinned (OpenSpec.ofChange fnErasedSpec)

/-- ITS FALSE NEIGHBOUR: 'it returns false'. Refute it at one input. -/
def fnErasedWrong : ChangeSpec := { name := "fnErased", fn := fun _ => fun
  | [d] => { results := [.lit (.bool false)], args := [d] }
  | _ => none }
def FnErasedWrongFalsely : Prop := fnErasedRow.holds Try.pinned (OpenSpec.ofChange fnErasedWrong)

/-- 'laws.FnExactCountSwaps': WHATEVER THE INPUT: true; the input reads as it did. -/
def fnExactCountSwapsSpec : ChangeSpec := { name := "fnExactCountSwaps", fn := fun _ => fun
  | [d] => { results := [.lit (.bool true)], args := [d] }
  | _ => none }
def fnExactCountSwapsRow : OpenClaim := { program := "ytcajhmldbkfhiaa", sum := "25cf778918f096cdfadecb70e078c25d0cce12b9b93db7073a50567324bc5da6", func := "loop.example/g00990/laws.FnExactCountSwaps", spec := "fnExactCountSwaps", unfollowed := true, recurses := true, apart := false }
def FnExactCountSwapsSaid : Prop := fnExactCountSwapsRow.holds Try.pinned (OpenSpec.ofChange fnExactCountSwapsSpec)

/-- ITS FALSE NEIGHBOUR: 'it returns false'. Refute it at one input. -/
def fnExactCountSwapsWrong : ChangeSpec := { name := "fnExactCountSwaps", fn := fun _ => fun
  | [d] => { results := [.lit (.bool false)], args := [d] }
  | _ => none }
def FnExactCountSwapsWrongFalsely : Prop := fnExactCountSwapsRow.holds Try.pinned (OpenSpec.ofChange fnExactCountSwapsWrong)

/-- 'laws.FnExactLoopGaps': WHATEVER THE INPUT: true; the input reads as it did. -/
def fnExactLoopGapsSpec : ChangeSpec := { name := "fnExactLoopGaps", fn := fun _ => fun
  | [d1, d2] => { results := [.lit (.bool true)], args := [d1, d2] }
  | _ => none }
def fnExactLoopGapsRow : OpenClaim := { program := "ytcajhmldbkfhiaa", sum := "25cf778918f096cdfadecb70e078c25d0cce12b9b93db7073a50567324bc5da6", func := "loop.example/g00990/laws.FnExactLoopGaps", spec := "fnExactLoopGaps", unfollowed := true, recurses := true, apart := false }
def FnExactLoopGapsSaid : Prop := fnExactLoopGapsRow.holds Try.pinned (OpenSpec.ofChange fnExactLoopGapsSpec)

/-- ITS FALSE NEIGHBOUR: 'it returns false'. Refute it at one input. -/
def fnExactLoopGapsWrong : ChangeSpec := { name := "fnExactLoopGaps", fn := fun _ => fun
  | [d1, d2] => { results := [.lit (.bool false)], args := [d1, d2] }
  | _ => none }
def FnExactLoopGapsWrongFalsely : Prop := fnExactLoopGapsRow.holds Try.pinned (OpenSpec.ofChange fnExactLoopGapsWrong)

/-- 'laws.FnEntries': WHATEVER THE INPUT: true; the input reads as it did. -/
def fnEntriesSpec : ChangeSpec := { name := "fnEntries", fn := fun _ => fun
  | [d] => { results := [.lit (.bool true)], args := [d] }
  | _ => none }
def fnEntriesRow : OpenClaim := { program := "ytcajhmldbkfhiaa", sum := "25cf778918f096cdfadecb70e078c25d0cce12b9b93db7073a50567324bc5da6", func := "loop.example/g00990/laws.FnEntries", spec := "fnEntries", unfollowed := true, recurses := true, apart := false }
def FnEntriesSaid : Prop := fnEntriesRow.holds Try.pinned (OpenSpec.ofChange fnEntriesSpec)

/-- ITS FALSE NEIGHBOUR: 'it returns false'. Refute it at one input. -/
def fnEntriesWrong : ChangeSpec := { name := "fnEntries", fn := fun _ => fun
  | [d] => { results := [.lit (.bool false)], args := [d] }
  | _ => none }
def FnEntriesWrongFalsely : Prop := fnEntriesRow.holds Try.pinned (OpenSpec.ofChange fnEntriesWrong)

/-- 'laws.FnExactSwapGaps': WHATEVER THE INPUT: true; the input reads as it did. -/
def fnExactSwapGapsSpec : ChangeSpec := { name := "fnExactSwapGaps", fn := fun _ => fun
  | [d1, d2, d3] => { results := [.lit (.bool true)], args := [d1, d2, d3] }
  | _ => none }
def fnExactSwapGapsRow : OpenClaim := { program := "ytcajhmldbkfhiaa", sum := "25cf778918f096cdfadecb70e078c25d0cce12b9b93db7073a50567324bc5da6", func := "loop.example/g00990/laws.FnExactSwapGaps", spec := "fnExactSwapGaps", unfollowed := true, recurses := true, apart := false }
def FnExactSwapGapsSaid : Prop := fnExactSwapGapsRow.holds Try.pinned (OpenSpec.ofChange fnExactSwapGapsSpec)

/-- ITS FALSE NEIGHBOUR: 'it returns false'. Refute it at one input. -/
def fnExactSwapGapsWrong : ChangeSpec := { name := "fnExactSwapGaps", fn := fun _ => fun
  | [d1, d2, d3] => { results := [.lit (.bool false)], args := [d1, d2, d3] }
  | _ => none }
def FnExactSwapGapsWrongFalsely : Prop := fnExactSwapGapsRow.holds Try.pinned (OpenSpec.ofChange fnExactSwapGapsWrong)

/- THE SECOND FORM. 'bulk': how many values and letters a reading holds, each counted each time it is reached (what is shared counts as often as it is met; a slice's spare places count too). A statement '..UptoSaid' is the law's where the arguments, and the package variables that the reading takes, are together of bulk at most 1048576: NARROWER than '..Said'. Prove '..Said' where nothing that the law and all that it calls make is longer than what came in: it says more and counts as full. Else prove '..UptoSaid'. A law counts once. -/
mutual
def uptoBulk {H : Type} : DataW H → Nat
  | .lit (.string bytes) => bytes.length + 1
  | .lit _ => 1
  | .nil => 1
  | .ptr d => uptoBulk d + 1
  | .slice elems spare => uptoBulkAll elems + uptoBulkAll spare + 1
  | .agg parts => uptoBulkAll parts + 1
  | .iface _ d => uptoBulk d + 1
  | .map entries => uptoBulkEntries entries + 1
  | .held _ => 1
def uptoBulkAll {H : Type} : List (DataW H) → Nat
  | [] => 0
  | d :: r => uptoBulk d + uptoBulkAll r
def uptoBulkEntries {H : Type} : List (Lit × DataW H) → Nat
  | [] => 0
  | x :: r => uptoBulkEntry x + uptoBulkEntries r
def uptoBulkEntry {H : Type} : Lit × DataW H → Nat
  | (.string bytes, d) => bytes.length + uptoBulk d + 1
  | (_, d) => uptoBulk d + 1
 end
def uptoSmall : (H : Type) → List (DataW H) → Bool := fun _ ds => decide (uptoBulkAll ds ≤ 1048576)
def OpenSpec.upto (s : _root_.Go.ChangeSpec) : _root_.Go.OpenSpec := { _root_.Go.OpenSpec.ofChange s with cond := some uptoSmall }

/-- 'laws.FnExactIsSimple', WHERE WHAT IT READS IS OF BULK AT MOST 1048576: true; the input reads as it did. -/
def fnExactIsSimpleUptoRow : OpenClaim := { program := "ytcajhmldbkfhiaa", sum := "25cf778918f096cdfadecb70e078c25d0cce12b9b93db7073a50567324bc5da6", func := "loop.example/g00990/laws.FnExactIsSimple", spec := "fnExactIsSimple", recurses := true, apart := false, narrowed := true }
def FnExactIsSimpleUptoSaid : Prop := fnExactIsSimpleUptoRow.holds Try.pinned (OpenSpec.upto fnExactIsSimpleSpec)

/-- 'laws.FnExactListTrees', WHERE WHAT IT READS IS OF BULK AT MOST 1048576: true; the input reads as it did. -/
def fnExactListTreesUptoRow : OpenClaim := { program := "ytcajhmldbkfhiaa", sum := "25cf778918f096cdfadecb70e078c25d0cce12b9b93db7073a50567324bc5da6", func := "loop.example/g00990/laws.FnExactListTrees", spec := "fnExactListTrees", unfollowed := true, recurses := true, apart := false, narrowed := true }
def FnExactListTreesUptoSaid : Prop := fnExactListTreesUptoRow.holds Try.pinned (OpenSpec.upto fnExactListTreesSpec)

/-- 'laws.FnHands', WHERE WHAT IT READS IS OF BULK AT MOST 1048576: true; the input reads as it did. -/
def fnHandsUptoRow : OpenClaim := { program := "ytcajhmldbkfhiaa", sum := "25cf778918f096cdfadecb70e078c25d0cce12b9b93db7073a50567324bc5da6", func := "loop.example/g00990/laws.FnHands", spec := "fnHands", unfollowed := true, recurses := true, apart := false, narrowed := true }
def FnHandsUptoSaid : Prop := fnHandsUptoRow.holds Try.pinned (OpenSpec.upto fnHandsSpec)

/-- 'laws.FnExactCoverTime', WHERE WHAT IT READS IS OF BULK AT MOST 1048576: true; the input reads as it did. -/
def fnExactCoverTimeUptoRow : OpenClaim := { program := "ytcajhmldbkfhiaa", sum := "25cf778918f096cdfadecb70e078c25d0cce12b9b93db7073a50567324bc5da6", func := "loop.example/g00990/laws.FnExactCoverTime", spec := "fnExactCoverTime", unfollowed := true, recurses := true, apart := false, narrowed := true }
def FnExactCoverTimeUptoSaid : Prop := fnExactCoverTimeUptoRow.holds Try.pinned (OpenSpec.upto fnExactCoverTimeSpec)

/-- 'laws.FnExactCellsVisited', WHERE WHAT IT READS IS OF BULK AT MOST 1048576: true; the input reads as it did. -/
def fnExactCellsVisitedUptoRow : OpenClaim := { program := "ytcajhmldbkfhiaa", sum := "25cf778918f096cdfadecb70e078c25d0cce12b9b93db7073a50567324bc5da6", func := "loop.example/g00990/laws.FnExactCellsVisited", spec := "fnExactCellsVisited", unfollowed := true, recurses := true, apart := false, narrowed := true }
def FnExactCellsVisitedUptoSaid : Prop := fnExactCellsVisitedUptoRow.holds Try.pinned (OpenSpec.upto fnExactCellsVisitedSpec)

/-- 'laws.FnErased', WHERE WHAT IT READS IS OF BULK AT MOST 1048576: true; the input reads as it did. -/
def fnErasedUptoRow : OpenClaim := { program := "ytcajhmldbkfhiaa", sum := "25cf778918f096cdfadecb70e078c25d0cce12b9b93db7073a50567324bc5da6", func := "loop.example/g00990/laws.FnErased", spec := "fnErased", unfollowed := true, recurses := true, apart := false, narrowed := true }
def FnErasedUptoSaid : Prop := fnErasedUptoRow.holds Try.pinned (OpenSpec.upto fnErasedSpec)

/-- 'laws.FnExactCountSwaps', WHERE WHAT IT READS IS OF BULK AT MOST 1048576: true; the input reads as it did. -/
def fnExactCountSwapsUptoRow : OpenClaim := { program := "ytcajhmldbkfhiaa", sum := "25cf778918f096cdfadecb70e078c25d0cce12b9b93db7073a50567324bc5da6", func := "loop.example/g00990/laws.FnExactCountSwaps", spec := "fnExactCountSwaps", unfollowed := true, recurses := true, apart := false, narrowed := true }
def FnExactCountSwapsUptoSaid : Prop := fnExactCountSwapsUptoRow.holds Try.pinned (OpenSpec.upto fnExactCountSwapsSpec)

/-- 'laws.FnExactLoopGaps', WHERE WHAT IT READS IS OF BULK AT MOST 1048576: true; the input reads as it did. -/
def fnExactLoopGapsUptoRow : OpenClaim := { program := "ytcajhmldbkfhiaa", sum := "25cf778918f096cdfadecb70e078c25d0cce12b9b93db7073a50567324bc5da6", func := "loop.example/g00990/laws.FnExactLoopGaps", spec := "fnExactLoopGaps", unfollowed := true, recurses := true, apart := false, narrowed := true }
def FnExactLoopGapsUptoSaid : Prop := fnExactLoopGapsUptoRow.holds Try.pinned (OpenSpec.upto fnExactLoopGapsSpec)

/-- 'laws.FnEntries', WHERE WHAT IT READS IS OF BULK AT MOST 1048576: true; the input reads as it did. -/
def fnEntriesUptoRow : OpenClaim := { program := "ytcajhmldbkfhiaa", sum := "25cf778918f096cdfadecb70e078c25d0cce12b9b93db7073a50567324bc5da6", func := "loop.example/g00990/laws.FnEntries", spec := "fnEntries", unfollowed := true, recurses := true, apart := false, narrowed := true }
def FnEntriesUptoSaid : Prop := fnEntriesUptoRow.holds Try.pinned (OpenSpec.upto fnEntriesSpec)

/-- 'laws.FnExactSwapGaps', WHERE WHAT IT READS IS OF BULK AT MOST 1048576: true; the input reads as it did. -/
def fnExactSwapGapsUptoRow : OpenClaim := { program := "ytcajhmldbkfhiaa", sum := "25cf778918f096cdfadecb70e078c25d0cce12b9b93db7073a50567324bc5da6", func := "loop.example/g00990/laws.FnExactSwapGaps", spec := "fnExactSwapGaps", unfollowed := true, recurses := true, apart := false, narrowed := true }
def FnExactSwapGapsUptoSaid : Prop := fnExactSwapGapsUptoRow.holds Try.pinned (OpenSpec.upto fnExactSwapGapsSpec)

end Rows
end Go.Proofs.Ytcajhmldbkfhiaa
