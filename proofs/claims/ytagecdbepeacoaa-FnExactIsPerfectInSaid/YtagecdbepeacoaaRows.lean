/-
  No cell of these rows narrows 'for every input' (looked for: loops, veiled, ifaces, maps, wideKeys, modest, calm, conditions, laid).
  DERIVED. THE GIVEN ROWS OF THIS SEAT. 12 by the template 'for every input the law returns true; each argument reads behind the call as it read before'; 0 by the template 'total and deterministic' (their statements: YtagecdbepeacoaaTotals.lean).
  GIVEN WITH THE SEED: the statements are not yours to turn. If you find one false, say at which input.
  Laid BY PROGRAM, IN A SANDBOX (cutbox-rows.mjs): the forced cells as the released guide's own fill.sh prints them over the translation 55956f63063ef79a… (all of the seat's roots in one cut). By AI agents, Wed Nov 11 2026. No macro, syntax, notation, axiom, sorry.
-/
import Derived.Test.YtagecdbepeacoaaChecked
import GoSem.Claim
import GoSem.ClaimJoined
import GoSem.ClaimMapViews
import Derived.JoinedTies
import Derived.KernelRfl
namespace Go.Proofs.Ytagecdbepeacoaa
/- THE CELL 'sum', in the pinned program and in every row, IS THE sha256 OF THE DUMP (.gsa) THAT YtagecdbepeacoaaProg.lean LOADS. Nothing in Lean hashes anything: it is a label: what it is worth is what the hold of that sum in a sandbox is worth. -/
noncomputable def Try.pinned : Pinned := { name := "ytagecdbepeacoaa", sum := "55956f63063ef79a1bddddaaffea9d85b6bffbf5977922ee782846bfb11255bb", checked := Try.checked }
namespace Rows
def none {H : Type} : Left H := { results := [], args := [] }

/-- 'laws.FnExactMaskParts': WHATEVER THE INPUT: true; the input reads as it did. -/
def fnExactMaskPartsSpec : ChangeSpec := { name := "fnExactMaskParts", fn := fun _ => fun
  | [d1, d2] => { results := [.lit (.bool true)], args := [d1, d2] }
  | _ => none }
def fnExactMaskPartsRow : OpenClaim := { program := "ytagecdbepeacoaa", sum := "55956f63063ef79a1bddddaaffea9d85b6bffbf5977922ee782846bfb11255bb", func := "loop.example/g00990/laws.FnExactMaskParts", spec := "fnExactMaskParts", unfollowed := true, recurses := true, apart := false }
def FnExactMaskPartsSaid : Prop := fnExactMaskPartsRow.holds Try.pinned (OpenSpec.ofChange fnExactMaskPartsSpec)

/-- ITS FALSE NEIGHBOUR: 'it returns false'. Refute it at one input. -/
def fnExactMaskPartsWrong : ChangeSpec := { name := "fnExactMaskParts", fn := fun _ => fun
  | [d1, d2] => { results := [.lit (.bool false)], args := [d1, d2] }
  | _ => none }
def FnExactMaskPartsWrongFalsely : Prop := fnExactMaskPartsRow.holds Try.pinned (OpenSpec.ofChange fnExactMaskPartsWrong)

/-- 'laws.FnTurned': WHATEVER THE INPUT: true; the input reads as it did. -/
def fnTurnedSpec : ChangeSpec := { name := "fnTurned", fn := fun _ => fun
  | [d] => { results := [.lit (.bool true)], args := [d] }
  | _ => none }
def fnTurnedRow : OpenClaim := { program := "ytagecdbepeacoaa", sum := "55956f63063ef79a1bddddaaffea9d85b6bffbf5977922ee782846bfb11255bb", func := "loop.example/g00990/laws.FnTurned", spec := "fnTurned", unfollowed := true, recurses := true, apart := false }
def FnTurnedSaid : Prop := fnTurnedRow.holds Try.pinned (OpenSpec.ofChange fnTurnedSpec)

/-- ITS FALSE NEIGHBOUR: 'it returns false'. Refute it at one input. -/
def fnTurnedWrong : ChangeSpec := { name := "fnTurned", fn := fun _ => fun
  | [d] => { results := [.lit (.bool false)], args := [d] }
  | _ => none }
def FnTurnedWrongFalsely : Prop := fnTurnedRow.holds Try.pinned (OpenSpec.ofChange fnTurnedWrong)

/-- 'laws.FnExactIsSimple': WHATEVER THE INPUT: true; the input reads as it did. -/
def fnExactIsSimpleSpec : ChangeSpec := { name := "fnExactIsSimple", fn := fun _ => fun
  | [d] => { results := [.lit (.bool true)], args := [d] }
  | _ => none }
def fnExactIsSimpleRow : OpenClaim := { program := "ytagecdbepeacoaa", sum := "55956f63063ef79a1bddddaaffea9d85b6bffbf5977922ee782846bfb11255bb", func := "loop.example/g00990/laws.FnExactIsSimple", spec := "fnExactIsSimple", recurses := true, apart := false }
def FnExactIsSimpleSaid : Prop := fnExactIsSimpleRow.holds Try.pinned (OpenSpec.ofChange fnExactIsSimpleSpec)

/-- ITS FALSE NEIGHBOUR: 'it returns false'. Refute it at one input. -/
def fnExactIsSimpleWrong : ChangeSpec := { name := "fnExactIsSimple", fn := fun _ => fun
  | [d] => { results := [.lit (.bool false)], args := [d] }
  | _ => none }
def FnExactIsSimpleWrongFalsely : Prop := fnExactIsSimpleRow.holds Try.pinned (OpenSpec.ofChange fnExactIsSimpleWrong)

/-- 'laws.FnCounts': WHATEVER THE INPUT: true; the input reads as it did. -/
def fnCountsSpec : ChangeSpec := { name := "fnCounts", fn := fun _ => fun
  | [d] => { results := [.lit (.bool true)], args := [d] }
  | _ => none }
def fnCountsRow : OpenClaim := { program := "ytagecdbepeacoaa", sum := "55956f63063ef79a1bddddaaffea9d85b6bffbf5977922ee782846bfb11255bb", func := "loop.example/g00990/laws.FnCounts", spec := "fnCounts", unfollowed := true, recurses := true, apart := false }
def FnCountsSaid : Prop := fnCountsRow.holds Try.pinned (OpenSpec.ofChange fnCountsSpec)

/-- ITS FALSE NEIGHBOUR: 'it returns false'. Refute it at one input. -/
def fnCountsWrong : ChangeSpec := { name := "fnCounts", fn := fun _ => fun
  | [d] => { results := [.lit (.bool false)], args := [d] }
  | _ => none }
def FnCountsWrongFalsely : Prop := fnCountsRow.holds Try.pinned (OpenSpec.ofChange fnCountsWrong)

/-- 'laws.FnBraids': WHATEVER THE INPUT: true; the input reads as it did. -/
def fnBraidsSpec : ChangeSpec := { name := "fnBraids", fn := fun _ => fun
  | [d] => { results := [.lit (.bool true)], args := [d] }
  | _ => none }
def fnBraidsRow : OpenClaim := { program := "ytagecdbepeacoaa", sum := "55956f63063ef79a1bddddaaffea9d85b6bffbf5977922ee782846bfb11255bb", func := "loop.example/g00990/laws.FnBraids", spec := "fnBraids", unfollowed := true, recurses := true, apart := false }
def FnBraidsSaid : Prop := fnBraidsRow.holds Try.pinned (OpenSpec.ofChange fnBraidsSpec)

/-- ITS FALSE NEIGHBOUR: 'it returns false'. Refute it at one input. -/
def fnBraidsWrong : ChangeSpec := { name := "fnBraids", fn := fun _ => fun
  | [d] => { results := [.lit (.bool false)], args := [d] }
  | _ => none }
def FnBraidsWrongFalsely : Prop := fnBraidsRow.holds Try.pinned (OpenSpec.ofChange fnBraidsWrong)

/-- 'laws.FnExactIsPerfectIn': WHATEVER THE INPUT: true; the input reads as it did. -/
def fnExactIsPerfectInSpec : ChangeSpec := { name := "fnExactIsPerfectIn", fn := fun _ => fun
  | [d1, d2] => { results := [.lit (.bool true)], args := [d1, d2] }
  | _ => none }
def fnExactIsPerfectInRow : OpenClaim := { program := "ytagecdbepeacoaa", sum := "55956f63063ef79a1bddddaaffea9d85b6bffbf5977922ee782846bfb11255bb", func := "loop.example/g00990/laws.FnExactIsPerfectIn", spec := "fnExactIsPerfectIn", unfollowed := true, recurses := true, apart := false }
def FnExactIsPerfectInSaid : Prop := fnExactIsPerfectInRow.holds Try.pinned (OpenSpec.ofChange fnExactIsPerfectInSpec)

/-- ITS FALSE NEIGHBOUR: 'it returns false'. Refute it at one input. -/
def fnExactIsPerfectInWrong : ChangeSpec := { name := "fnExactIsPerfectIn", fn := fun _ => fun
  | [d1, d2] => { results := [.lit (.bool false)], args := [d1, d2] }
  | _ => none }
def FnExactIsPerfectInWrongFalsely : Prop := fnExactIsPerfectInRow.holds Try.pinned (OpenSpec.ofChange fnExactIsPerfectInWrong)

/-- 'laws.FnExactCountFixed': WHATEVER THE INPUT: true; the input reads as it did. -/
def fnExactCountFixedSpec : ChangeSpec := { name := "fnExactCountFixed", fn := fun _ => fun
  | [d1, d2, d3] => { results := [.lit (.bool true)], args := [d1, d2, d3] }
  | _ => none }
def fnExactCountFixedRow : OpenClaim := { program := "ytagecdbepeacoaa", sum := "55956f63063ef79a1bddddaaffea9d85b6bffbf5977922ee782846bfb11255bb", func := "loop.example/g00990/laws.FnExactCountFixed", spec := "fnExactCountFixed", unfollowed := true, recurses := true, apart := false }
def FnExactCountFixedSaid : Prop := fnExactCountFixedRow.holds Try.pinned (OpenSpec.ofChange fnExactCountFixedSpec)

/-- ITS FALSE NEIGHBOUR: 'it returns false'. Refute it at one input. -/
def fnExactCountFixedWrong : ChangeSpec := { name := "fnExactCountFixed", fn := fun _ => fun
  | [d1, d2, d3] => { results := [.lit (.bool false)], args := [d1, d2, d3] }
  | _ => none }
def FnExactCountFixedWrongFalsely : Prop := fnExactCountFixedRow.holds Try.pinned (OpenSpec.ofChange fnExactCountFixedWrong)

/-- 'laws.FnExactCountAll': WHATEVER THE INPUT: true; the input reads as it did. -/
def fnExactCountAllSpec : ChangeSpec := { name := "fnExactCountAll", fn := fun _ => fun
  | [d] => { results := [.lit (.bool true)], args := [d] }
  | _ => none }
def fnExactCountAllRow : OpenClaim := { program := "ytagecdbepeacoaa", sum := "55956f63063ef79a1bddddaaffea9d85b6bffbf5977922ee782846bfb11255bb", func := "loop.example/g00990/laws.FnExactCountAll", spec := "fnExactCountAll", unfollowed := true, recurses := true, apart := false }
def FnExactCountAllSaid : Prop := fnExactCountAllRow.holds Try.pinned (OpenSpec.ofChange fnExactCountAllSpec)

/-- ITS FALSE NEIGHBOUR: 'it returns false'. Refute it at one input. -/
def fnExactCountAllWrong : ChangeSpec := { name := "fnExactCountAll", fn := fun _ => fun
  | [d] => { results := [.lit (.bool false)], args := [d] }
  | _ => none }
def FnExactCountAllWrongFalsely : Prop := fnExactCountAllRow.holds Try.pinned (OpenSpec.ofChange fnExactCountAllWrong)

/-- 'laws.FnExactListTrees': WHATEVER THE INPUT: true; the input reads as it did. -/
def fnExactListTreesSpec : ChangeSpec := { name := "fnExactListTrees", fn := fun _ => fun
  | [d] => { results := [.lit (.bool true)], args := [d] }
  | _ => none }
def fnExactListTreesRow : OpenClaim := { program := "ytagecdbepeacoaa", sum := "55956f63063ef79a1bddddaaffea9d85b6bffbf5977922ee782846bfb11255bb", func := "loop.example/g00990/laws.FnExactListTrees", spec := "fnExactListTrees", unfollowed := true, recurses := true, apart := false }
def FnExactListTreesSaid : Prop := fnExactListTreesRow.holds Try.pinned (OpenSpec.ofChange fnExactListTreesSpec)

/-- ITS FALSE NEIGHBOUR: 'it returns false'. Refute it at one input. -/
def fnExactListTreesWrong : ChangeSpec := { name := "fnExactListTrees", fn := fun _ => fun
  | [d] => { results := [.lit (.bool false)], args := [d] }
  | _ => none }
def FnExactListTreesWrongFalsely : Prop := fnExactListTreesRow.holds Try.pinned (OpenSpec.ofChange fnExactListTreesWrong)

/-- 'laws.FnExactCountTrees': WHATEVER THE INPUT: true; the input reads as it did. -/
def fnExactCountTreesSpec : ChangeSpec := { name := "fnExactCountTrees", fn := fun _ => fun
  | [d] => { results := [.lit (.bool true)], args := [d] }
  | _ => none }
def fnExactCountTreesRow : OpenClaim := { program := "ytagecdbepeacoaa", sum := "55956f63063ef79a1bddddaaffea9d85b6bffbf5977922ee782846bfb11255bb", func := "loop.example/g00990/laws.FnExactCountTrees", spec := "fnExactCountTrees", unfollowed := true, recurses := true, apart := false }
def FnExactCountTreesSaid : Prop := fnExactCountTreesRow.holds Try.pinned (OpenSpec.ofChange fnExactCountTreesSpec)

/-- ITS FALSE NEIGHBOUR: 'it returns false'. Refute it at one input. -/
def fnExactCountTreesWrong : ChangeSpec := { name := "fnExactCountTrees", fn := fun _ => fun
  | [d] => { results := [.lit (.bool false)], args := [d] }
  | _ => none }
def FnExactCountTreesWrongFalsely : Prop := fnExactCountTreesRow.holds Try.pinned (OpenSpec.ofChange fnExactCountTreesWrong)

/-- 'laws.FnNumbered': WHATEVER THE INPUT: true; the input reads as it did. -/
def fnNumberedSpec : ChangeSpec := { name := "fnNumbered", fn := fun _ => fun
  | [d] => { results := [.lit (.bool true)], args := [d] }
  | _ => none }
def fnNumberedRow : OpenClaim := { program := "ytagecdbepeacoaa", sum := "55956f63063ef79a1bddddaaffea9d85b6bffbf5977922ee782846bfb11255bb", func := "loop.example/g00990/laws.FnNumbered", spec := "fnNumbered", unfollowed := true, recurses := true, apart := false }
def FnNumberedSaid : Prop := fnNumberedRow.holds Try.pinned (OpenSpec.ofChange fnNumberedSpec)

/-- ITS FALSE NEIGHBOUR: 'it returns false'. Refute it at one input. -/
def fnNumberedWrong : ChangeSpec := { name := "fnNumbered", fn := fun _ => fun
  | [d] => { results := [.lit (.bool false)], args := [d] }
  | _ => none }
def FnNumberedWrongFalsely : Prop := fnNumberedRow.holds Try.pinned (OpenSpec.ofChange fnNumberedWrong)

/-- 'laws.FnExactMazeAt': WHATEVER THE INPUT: true; the input reads as it did. -/
def fnExactMazeAtSpec : ChangeSpec := { name := "fnExactMazeAt", fn := fun _ => fun
  | [d1, d2] => { results := [.lit (.bool true)], args := [d1, d2] }
  | _ => none }
def fnExactMazeAtRow : OpenClaim := { program := "ytagecdbepeacoaa", sum := "55956f63063ef79a1bddddaaffea9d85b6bffbf5977922ee782846bfb11255bb", func := "loop.example/g00990/laws.FnExactMazeAt", spec := "fnExactMazeAt", unfollowed := true, recurses := true, apart := false }
def FnExactMazeAtSaid : Prop := fnExactMazeAtRow.holds Try.pinned (OpenSpec.ofChange fnExactMazeAtSpec)

/-- ITS FALSE NEIGHBOUR: 'it returns false'. Refute it at one input. -/
def fnExactMazeAtWrong : ChangeSpec := { name := "fnExactMazeAt", fn := fun _ => fun
  | [d1, d2] => { results := [.lit (.bool false)], args := [d1, d2] }
  | _ => none }
def FnExactMazeAtWrongFalsely : Prop := fnExactMazeAtRow.holds Try.pinned (OpenSpec.ofChange fnExactMazeAtWrong)

/- THE SECOND FORM. 'bulk': how many values and letters a reading holds, each counted each time it is reached (what is shared counts as often as it is met; a slice's spare places count too). A statement '..UptoSaid' is the law's where the arguments, and the package variables that the reading takes, are together of bulk at most 1048576: NARROWER than '..Said'. Prove '..Said' where nothing that the law and all that it calls make is longer than what came in: it says more and counts as full. Else prove '..UptoSaid'. A law counts once. -/
mutual
def uptoBulk {H : Type} : DataW H → Nat
  | .lit (.string bytes) => bytes.length + 1
  | .lit _ => 1
  | .nil => 1
  | .ptr d => uptoBulk d + 1
  | .slice elems spare => uptoBulkAll elems + uptoBulkAll spare + 1
  | .agg parts => uptoBulkAll parts + 1
  | .iface _ d => uptoBulk d + 1
  | .map entries => uptoBulkEntries entries + 1
  | .held _ => 1
def uptoBulkAll {H : Type} : List (DataW H) → Nat
  | [] => 0
  | d :: r => uptoBulk d + uptoBulkAll r
def uptoBulkEntries {H : Type} : List (Lit × DataW H) → Nat
  | [] => 0
  | x :: r => uptoBulkEntry x + uptoBulkEntries r
def uptoBulkEntry {H : Type} : Lit × DataW H → Nat
  | (.string bytes, d) => bytes.length + uptoBulk d + 1
  | (_, d) => uptoBulk d + 1
 end
def uptoSmall : (H : Type) → List (DataW H) → Bool := fun _ ds => decide (uptoBulkAll ds ≤ 1048576)
def OpenSpec.upto (s : _root_.Go.ChangeSpec) : _root_.Go.OpenSpec := { _root_.Go.OpenSpec.ofChange s with cond := some uptoSmall }

/-- 'laws.FnExactMaskParts', WHERE WHAT IT READS IS OF BULK AT MOST 1048576: true; the input reads as it did. -/
def fnExactMaskPartsUptoRow : OpenClaim := { program := "ytagecdbepeacoaa", sum := "55956f63063ef79a1bddddaaffea9d85b6bffbf5977922ee782846bfb11255bb", func := "loop.example/g00990/laws.FnExactMaskParts", spec := "fnExactMaskParts", unfollowed := true, recurses := true, apart := false, narrowed := true }
def FnExactMaskPartsUptoSaid : Prop := fnExactMaskPartsUptoRow.holds Try.pinned (OpenSpec.upto fnExactMaskPartsSpec)

/-- 'laws.FnTurned', WHERE WHAT IT READS IS OF BULK AT MOST 1048576: true; the input reads as it did. -/
def fnTurnedUptoRow : OpenClaim := { program := "ytagecdbepeacoaa", sum := "55956f63063ef79a1bddddaaffea9d85b6bffbf5977922ee782846bfb11255bb", func := "loop.example/g00990/laws.FnTurned", spec := "fnTurned", unfollowed := true, recurses := true, apart := false, narrowed := true }
def FnTurnedUptoSaid : Prop := fnTurnedUptoRow.holds Try.pinned (OpenSpec.upto fnTurnedSpec)

/-- 'laws.FnExactIsSimple', WHERE WHAT IT READS IS OF BULK AT MOST 1048576: true; the input reads as it did. -/
def fnExactIsSimpleUptoRow : OpenClaim := { program := "ytagecdbepeacoaa", sum := "55956f63063ef79a1bddddaaffea9d85b6bffbf5977922ee782846bfb11255bb", func := "loop.example/g00990/laws.FnExactIsSimple", spec := "fnExactIsSimple", recurses := true, apart := false, narrowed := true }
def FnExactIsSimpleUptoSaid : Prop := fnExactIsSimpleUptoRow.holds Try.pinned (OpenSpec.upto fnExactIsSimpleSpec)

/-- 'laws.FnCounts', WHERE WHAT IT READS IS OF BULK AT MOST 1048576: true; the input reads as it did. -/
def fnCountsUptoRow : OpenClaim := { program := "ytagecdbepeacoaa", sum := "55956f63063ef79a1bddddaaffea9d85b6bffbf5977922ee782846bfb11255bb", func := "loop.example/g00990/laws.FnCounts", spec := "fnCounts", unfollowed := true, recurses := true, apart := false, narrowed := true }
def FnCountsUptoSaid : Prop := fnCountsUptoRow.holds Try.pinned (OpenSpec.upto fnCountsSpec)

/-- 'laws.FnBraids', WHERE WHAT IT READS IS OF BULK AT MOST 1048576: true; the input reads as it did. -/
def fnBraidsUptoRow : OpenClaim := { program := "ytagecdbepeacoaa", sum := "55956f63063ef79a1bddddaaffea9d85b6bffbf5977922ee782846bfb11255bb", func := "loop.example/g00990/laws.FnBraids", spec := "fnBraids", unfollowed := true, recurses := true, apart := false, narrowed := true }
def FnBraidsUptoSaid : Prop := fnBraidsUptoRow.holds Try.pinned (OpenSpec.upto fnBraidsSpec)

/-- 'laws.FnExactIsPerfectIn', WHERE WHAT IT READS IS OF BULK AT MOST 1048576: true; the input reads as it did. -/
def fnExactIsPerfectInUptoRow : OpenClaim := { program := "ytagecdbepeacoaa", sum := "55956f63063ef79a1bddddaaffea9d85b6bffbf5977922ee782846bfb11255bb", func := "loop.example/g00990/laws.FnExactIsPerfectIn", spec := "fnExactIsPerfectIn", unfollowed := true, recurses := true, apart := false, narrowed := true }
def FnExactIsPerfectInUptoSaid : Prop := fnExactIsPerfectInUptoRow.holds Try.pinned (OpenSpec.upto fnExactIsPerfectInSpec)

/-- 'laws.FnExactCountFixed', WHERE WHAT IT READS IS OF BULK AT MOST 1048576: true; the input reads as it did. -/
def fnExactCountFixedUptoRow : OpenClaim := { program := "ytagecdbepeacoaa", sum := "55956f63063ef79a1bddddaaffea9d85b6bffbf5977922ee782846bfb11255bb", func := "loop.example/g00990/laws.FnExactCountFixed", spec := "fnExactCountFixed", unfollowed := true, recurses := true, apart := false, narrowed := true }
def FnExactCountFixedUptoSaid : Prop := fnExactCountFixedUptoRow.holds Try.pinned (OpenSpec.upto fnExactCountFixedSpec)

/-- 'laws.FnExactCountAll', WHERE WHAT IT READS IS OF BULK AT MOST 1048576: true; the input reads as it did. -/
def fnExactCountAllUptoRow : OpenClaim := { program := "ytagecdbepeacoaa", sum := "55956f63063ef79a1bddddaaffea9d85b6bffbf5977922ee782846bfb11255bb", func := "loop.example/g00990/laws.FnExactCountAll", spec := "fnExactCountAll", unfollowed := true, recurses := true, apart := false, narrowed := true }
def FnExactCountAllUptoSaid : Prop := fnExactCountAllUptoRow.holds Try.pinned (OpenSpec.upto fnExactCountAllSpec)

/-- 'laws.FnExactListTrees', WHERE WHAT IT READS IS OF BULK AT MOST 1048576: true; the input reads as it did. -/
def fnExactListTreesUptoRow : OpenClaim := { program := "ytagecdbepeacoaa", sum := "55956f63063ef79a1bddddaaffea9d85b6bffbf5977922ee782846bfb11255bb", func := "loop.example/g00990/laws.FnExactListTrees", spec := "fnExactListTrees", unfollowed := true, recurses := true, apart := false, narrowed := true }
def FnExactListTreesUptoSaid : Prop := fnExactListTreesUptoRow.holds Try.pinned (OpenSpec.upto fnExactListTreesSpec)

/-- 'laws.FnExactCountTrees', WHERE WHAT IT READS IS OF BULK AT MOST 1048576: true; the input reads as it did. -/
def fnExactCountTreesUptoRow : OpenClaim := { program := "ytagecdbepeacoaa", sum := "55956f63063ef79a1bddddaaffea9d85b6bffbf5977922ee782846bfb11255bb", func := "loop.example/g00990/laws.FnExactCountTrees", spec := "fnExactCountTrees", unfollowed := true, recurses := true, apart := false, narrowed := true }
def FnExactCountTreesUptoSaid : Prop := fnExactCountTreesUptoRow.holds Try.pinned (OpenSpec.upto fnExactCountTreesSpec)

/-- 'laws.FnNumbered', WHERE WHAT IT READS IS OF BULK AT MOST 1048576: true; the input reads as it did. -/
def fnNumberedUptoRow : OpenClaim := { program := "ytagecdbepeacoaa", sum := "55956f63063ef79a1bddddaaffea9d85b6bffbf5977922ee782846bfb11255bb", func := "loop.example/g00990/laws.FnNumbered", spec := "fnNumbered", unfollowed := true, recurses := true, apart := false, narrowed := true }
def FnNumberedUptoSaid : Prop := fnNumberedUptoRow.holds Try.pinned (OpenSpec.upto fnNumberedSpec)

/-- 'laws.FnExactMazeAt', WHERE WHAT IT READS IS OF BULK AT MOST 1048576: true; the input reads as it did. -/
def fnExactMazeAtUptoRow : OpenClaim := { program := "ytagecdbepeacoaa", sum := "55956f63063ef79a1bddddaaffea9d85b6bffbf5977922ee782846bfb11255bb", func := "loop.example/g00990/laws.FnExactMazeAt", spec := "fnExactMazeAt", unfollowed := true, recurses := true, apart := false, narrowed := true }
def FnExactMazeAtUptoSaid : Prop := fnExactMazeAtUptoRow.holds Try.pinned (OpenSpec.upto fnExactMazeAtSpec)

end Rows
end Go.Proofs.Ytagecdbepeacoaa
