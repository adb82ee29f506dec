/-
  No cell of these rows narrows 'for every input' (looked for: loops, veiled, ifaces, maps, wideKeys, modest, calm, conditions, laid).
  DERIVED. THE GIVEN ROWS OF THIS SEAT. 12 by the template 'for every input the law returns true; each argument reads behind the call as it read before'; 0 by the template 'total and deterministic' (their statements: YtejaglljnjdabaaTotals.lean).
  GIVEN WITH THE SEED: the statements are not yours to turn. If you find one false, say at which input.
  Laid BY PROGRAM, IN A SANDBOX (cutbox-rows.mjs): the forced cells as the released guide's own fill.sh prints them over the translation 3272738a5fac9856… (all of the seat's roots in one cut). By AI agents, Wed Nov 11 2026. No macro, syntax, notation, axiom, sorry.
-/
import Derived.Test.YtejaglljnjdabaaChecked
import GoSem.Claim
import GoSem.ClaimJoined
import GoSem.ClaimMapViews
import Derived.JoinedTies
import Derived.KernelRfl
namespace Go.Proofs.Ytejaglljnjdabaa
/- THE CELL 'sum', in the pinned program and in every row, IS THE sha256 OF THE DUMP (.gsa) THAT YtejaglljnjdabaaProg.lean LOADS. Nothing in Lean hashes anything: it is a label: what it is worth is what the hold of that sum in a sandbox is worth. -/
noncomputable def Try.pinned : Pinned := { name := "ytejaglljnjdabaa", sum := "3272738a5fac985619ab09f8290f7ac1410b45ff5f735ad8139c098d7ad962f8", checked := Try.checked }
namespace Rows
def none {H : Type} : Left H := { results := [], args := [] }

/-- 'laws.FnExactMirrorMaze': WHATEVER THE INPUT: true; the input reads as it did. -/
def fnExactMirrorMazeSpec : ChangeSpec := { name := "fnExactMirrorMaze", fn := fun _ => fun
  | [d] => { results := [.lit (.bool true)], args := [d] }
  | _ => none }
def fnExactMirrorMazeRow : OpenClaim := { program := "ytejaglljnjdabaa", sum := "3272738a5fac985619ab09f8290f7ac1410b45ff5f735ad8139c098d7ad962f8", func := "loop.example/g00990/laws.FnExactMirrorMaze", spec := "fnExactMirrorMaze", unfollowed := true, recurses := true, apart := false }
def FnExactMirrorMazeSaid : Prop := fnExactMirrorMazeRow.holds Try.pinned (OpenSpec.ofChange fnExactMirrorMazeSpec)

/-- ITS FALSE NEIGHBOUR: 'it returns false'. Refute it at one input. -/
def fnExactMirrorMazeWrong : ChangeSpec := { name := "fnExactMirrorMaze", fn := fun _ => fun
  | [d] => { results := [.lit (.bool false)], args := [d] }
  | _ => none }
def FnExactMirrorMazeWrongFalsely : Prop := fnExactMirrorMazeRow.holds Try.pinned (OpenSpec.ofChange fnExactMirrorMazeWrong)

/-- 'laws.FnExactLaplaceOf': WHATEVER THE INPUT: true; the input reads as it did. -/
def fnExactLaplaceOfSpec : ChangeSpec := { name := "fnExactLaplaceOf", fn := fun _ => fun
  | [d] => { results := [.lit (.bool true)], args := [d] }
  | _ => none }
def fnExactLaplaceOfRow : OpenClaim := { program := "ytejaglljnjdabaa", sum := "3272738a5fac985619ab09f8290f7ac1410b45ff5f735ad8139c098d7ad962f8", func := "loop.example/g00990/laws.FnExactLaplaceOf", spec := "fnExactLaplaceOf", apart := false }
def FnExactLaplaceOfSaid : Prop := fnExactLaplaceOfRow.holds Try.pinned (OpenSpec.ofChange fnExactLaplaceOfSpec)

/-- ITS FALSE NEIGHBOUR: 'it returns false'. Refute it at one input. -/
def fnExactLaplaceOfWrong : ChangeSpec := { name := "fnExactLaplaceOf", fn := fun _ => fun
  | [d] => { results := [.lit (.bool false)], args := [d] }
  | _ => none }
def FnExactLaplaceOfWrongFalsely : Prop := fnExactLaplaceOfRow.holds Try.pinned (OpenSpec.ofChange fnExactLaplaceOfWrong)

/-- 'laws.FnExactHandWalk': WHATEVER THE INPUT: true; the input reads as it did. -/
def fnExactHandWalkSpec : ChangeSpec := { name := "fnExactHandWalk", fn := fun _ => fun
  | [d1, d2, d3] => { results := [.lit (.bool true)], args := [d1, d2, d3] }
  | _ => none }
def fnExactHandWalkRow : OpenClaim := { program := "ytejaglljnjdabaa", sum := "3272738a5fac985619ab09f8290f7ac1410b45ff5f735ad8139c098d7ad962f8", func := "loop.example/g00990/laws.FnExactHandWalk", spec := "fnExactHandWalk", unfollowed := true, recurses := true, apart := false }
def FnExactHandWalkSaid : Prop := fnExactHandWalkRow.holds Try.pinned (OpenSpec.ofChange fnExactHandWalkSpec)

/-- ITS FALSE NEIGHBOUR: 'it returns false'. Refute it at one input. -/
def fnExactHandWalkWrong : ChangeSpec := { name := "fnExactHandWalk", fn := fun _ => fun
  | [d1, d2, d3] => { results := [.lit (.bool false)], args := [d1, d2, d3] }
  | _ => none }
def FnExactHandWalkWrongFalsely : Prop := fnExactHandWalkRow.holds Try.pinned (OpenSpec.ofChange fnExactHandWalkWrong)

/-- 'laws.FnExactDivideMaze': WHATEVER THE INPUT: true; the input reads as it did. -/
def fnExactDivideMazeSpec : ChangeSpec := { name := "fnExactDivideMaze", fn := fun _ => fun
  | [d1, d2] => { results := [.lit (.bool true)], args := [d1, d2] }
  | _ => none }
def fnExactDivideMazeRow : OpenClaim := { program := "ytejaglljnjdabaa", sum := "3272738a5fac985619ab09f8290f7ac1410b45ff5f735ad8139c098d7ad962f8", func := "loop.example/g00990/laws.FnExactDivideMaze", spec := "fnExactDivideMaze", recurses := true, apart := false }
def FnExactDivideMazeSaid : Prop := fnExactDivideMazeRow.holds Try.pinned (OpenSpec.ofChange fnExactDivideMazeSpec)

/-- ITS FALSE NEIGHBOUR: 'it returns false'. Refute it at one input. -/
def fnExactDivideMazeWrong : ChangeSpec := { name := "fnExactDivideMaze", fn := fun _ => fun
  | [d1, d2] => { results := [.lit (.bool false)], args := [d1, d2] }
  | _ => none }
def FnExactDivideMazeWrongFalsely : Prop := fnExactDivideMazeRow.holds Try.pinned (OpenSpec.ofChange fnExactDivideMazeWrong)

/-- 'laws.FnExactIsWallTree': WHATEVER THE INPUT: true; the input reads as it did. -/
def fnExactIsWallTreeSpec : ChangeSpec := { name := "fnExactIsWallTree", fn := fun _ => fun
  | [d] => { results := [.lit (.bool true)], args := [d] }
  | _ => none }
def fnExactIsWallTreeRow : OpenClaim := { program := "ytejaglljnjdabaa", sum := "3272738a5fac985619ab09f8290f7ac1410b45ff5f735ad8139c098d7ad962f8", func := "loop.example/g00990/laws.FnExactIsWallTree", spec := "fnExactIsWallTree", unfollowed := true, recurses := true, apart := false }
def FnExactIsWallTreeSaid : Prop := fnExactIsWallTreeRow.holds Try.pinned (OpenSpec.ofChange fnExactIsWallTreeSpec)

/-- ITS FALSE NEIGHBOUR: 'it returns false'. Refute it at one input. -/
def fnExactIsWallTreeWrong : ChangeSpec := { name := "fnExactIsWallTree", fn := fun _ => fun
  | [d] => { results := [.lit (.bool false)], args := [d] }
  | _ => none }
def FnExactIsWallTreeWrongFalsely : Prop := fnExactIsWallTreeRow.holds Try.pinned (OpenSpec.ofChange fnExactIsWallTreeWrong)

/-- 'laws.FnExactLeastForm': WHATEVER THE INPUT: true; the input reads as it did. -/
def fnExactLeastFormSpec : ChangeSpec := { name := "fnExactLeastForm", fn := fun _ => fun
  | [d] => { results := [.lit (.bool true)], args := [d] }
  | _ => none }
def fnExactLeastFormRow : OpenClaim := { program := "ytejaglljnjdabaa", sum := "3272738a5fac985619ab09f8290f7ac1410b45ff5f735ad8139c098d7ad962f8", func := "loop.example/g00990/laws.FnExactLeastForm", spec := "fnExactLeastForm", unfollowed := true, recurses := true, apart := false }
def FnExactLeastFormSaid : Prop := fnExactLeastFormRow.holds Try.pinned (OpenSpec.ofChange fnExactLeastFormSpec)

/-- ITS FALSE NEIGHBOUR: 'it returns false'. Refute it at one input. -/
def fnExactLeastFormWrong : ChangeSpec := { name := "fnExactLeastForm", fn := fun _ => fun
  | [d] => { results := [.lit (.bool false)], args := [d] }
  | _ => none }
def FnExactLeastFormWrongFalsely : Prop := fnExactLeastFormRow.holds Try.pinned (OpenSpec.ofChange fnExactLeastFormWrong)

/-- 'laws.FnExactTwoWays': WHATEVER THE INPUT: true; the input reads as it did. -/
def fnExactTwoWaysSpec : ChangeSpec := { name := "fnExactTwoWays", fn := fun _ => fun
  | [d1, d2, d3] => { results := [.lit (.bool true)], args := [d1, d2, d3] }
  | _ => none }
def fnExactTwoWaysRow : OpenClaim := { program := "ytejaglljnjdabaa", sum := "3272738a5fac985619ab09f8290f7ac1410b45ff5f735ad8139c098d7ad962f8", func := "loop.example/g00990/laws.FnExactTwoWays", spec := "fnExactTwoWays", unfollowed := true, recurses := true, apart := false }
def FnExactTwoWaysSaid : Prop := fnExactTwoWaysRow.holds Try.pinned (OpenSpec.ofChange fnExactTwoWaysSpec)

/-- ITS FALSE NEIGHBOUR: 'it returns false'. Refute it at one input. -/
def fnExactTwoWaysWrong : ChangeSpec := { name := "fnExactTwoWays", fn := fun _ => fun
  | [d1, d2, d3] => { results := [.lit (.bool false)], args := [d1, d2, d3] }
  | _ => none }
def FnExactTwoWaysWrongFalsely : Prop := fnExactTwoWaysRow.holds Try.pinned (OpenSpec.ofChange fnExactTwoWaysWrong)

/-- 'laws.FnExactEraseWay': WHATEVER THE INPUT: true; the input reads as it did. -/
def fnExactEraseWaySpec : ChangeSpec := { name := "fnExactEraseWay", fn := fun _ => fun
  | [d1, d2, d3] => { results := [.lit (.bool true)], args := [d1, d2, d3] }
  | _ => none }
def fnExactEraseWayRow : OpenClaim := { program := "ytejaglljnjdabaa", sum := "3272738a5fac985619ab09f8290f7ac1410b45ff5f735ad8139c098d7ad962f8", func := "loop.example/g00990/laws.FnExactEraseWay", spec := "fnExactEraseWay", unfollowed := true, recurses := true, apart := false }
def FnExactEraseWaySaid : Prop := fnExactEraseWayRow.holds Try.pinned (OpenSpec.ofChange fnExactEraseWaySpec)

/-- ITS FALSE NEIGHBOUR: 'it returns false'. Refute it at one input. -/
def fnExactEraseWayWrong : ChangeSpec := { name := "fnExactEraseWay", fn := fun _ => fun
  | [d1, d2, d3] => { results := [.lit (.bool false)], args := [d1, d2, d3] }
  | _ => none }
def FnExactEraseWayWrongFalsely : Prop := fnExactEraseWayRow.holds Try.pinned (OpenSpec.ofChange fnExactEraseWayWrong)

/-- 'laws.FnExactCutLoops': WHATEVER THE INPUT: true; the input reads as it did. -/
def fnExactCutLoopsSpec : ChangeSpec := { name := "fnExactCutLoops", fn := fun _ => fun
  | [d] => { results := [.lit (.bool true)], args := [d] }
  | _ => none }
def fnExactCutLoopsRow : OpenClaim := { program := "ytejaglljnjdabaa", sum := "3272738a5fac985619ab09f8290f7ac1410b45ff5f735ad8139c098d7ad962f8", func := "loop.example/g00990/laws.FnExactCutLoops", spec := "fnExactCutLoops", unfollowed := true, recurses := true, apart := false }
def FnExactCutLoopsSaid : Prop := fnExactCutLoopsRow.holds Try.pinned (OpenSpec.ofChange fnExactCutLoopsSpec)

/-- ITS FALSE NEIGHBOUR: 'it returns false'. Refute it at one input. -/
def fnExactCutLoopsWrong : ChangeSpec := { name := "fnExactCutLoops", fn := fun _ => fun
  | [d] => { results := [.lit (.bool false)], args := [d] }
  | _ => none }
def FnExactCutLoopsWrongFalsely : Prop := fnExactCutLoopsRow.holds Try.pinned (OpenSpec.ofChange fnExactCutLoopsWrong)

/-- 'laws.FnGrown': WHATEVER THE INPUT: true; the input reads as it did. -/
def fnGrownSpec : ChangeSpec := { name := "fnGrown", fn := fun _ => fun
  | [d] => { results := [.lit (.bool true)], args := [d] }
  | _ => none }
def fnGrownRow : OpenClaim := { program := "ytejaglljnjdabaa", sum := "3272738a5fac985619ab09f8290f7ac1410b45ff5f735ad8139c098d7ad962f8", func := "loop.example/g00990/laws.FnGrown", spec := "fnGrown", unfollowed := true, recurses := true, apart := false }
def FnGrownSaid : Prop := fnGrownRow.holds Try.pinned (OpenSpec.ofChange fnGrownSpec)

/-- ITS FALSE NEIGHBOUR: 'it returns false'. Refute it at one input. -/
def fnGrownWrong : ChangeSpec := { name := "fnGrown", fn := fun _ => fun
  | [d] => { results := [.lit (.bool false)], args := [d] }
  | _ => none }
def FnGrownWrongFalsely : Prop := fnGrownRow.holds Try.pinned (OpenSpec.ofChange fnGrownWrong)

/-- 'laws.FnExactGapsApart': WHATEVER THE INPUT: true; the input reads as it did. -/
def fnExactGapsApartSpec : ChangeSpec := { name := "fnExactGapsApart", fn := fun _ => fun
  | [d1, d2] => { results := [.lit (.bool true)], args := [d1, d2] }
  | _ => none }
def fnExactGapsApartRow : OpenClaim := { program := "ytejaglljnjdabaa", sum := "3272738a5fac985619ab09f8290f7ac1410b45ff5f735ad8139c098d7ad962f8", func := "loop.example/g00990/laws.FnExactGapsApart", spec := "fnExactGapsApart", unfollowed := true, recurses := true, apart := false }
def FnExactGapsApartSaid : Prop := fnExactGapsApartRow.holds Try.pinned (OpenSpec.ofChange fnExactGapsApartSpec)

/-- ITS FALSE NEIGHBOUR: 'it returns false'. Refute it at one input. -/
def fnExactGapsApartWrong : ChangeSpec := { name := "fnExactGapsApart", fn := fun _ => fun
  | [d1, d2] => { results := [.lit (.bool false)], args := [d1, d2] }
  | _ => none }
def FnExactGapsApartWrongFalsely : Prop := fnExactGapsApartRow.holds Try.pinned (OpenSpec.ofChange fnExactGapsApartWrong)

/-- 'laws.FnMasks': WHATEVER THE INPUT: true; the input reads as it did. -/
def fnMasksSpec : ChangeSpec := { name := "fnMasks", fn := fun _ => fun
  | [d] => { results := [.lit (.bool true)], args := [d] }
  | _ => none }
def fnMasksRow : OpenClaim := { program := "ytejaglljnjdabaa", sum := "3272738a5fac985619ab09f8290f7ac1410b45ff5f735ad8139c098d7ad962f8", func := "loop.example/g00990/laws.FnMasks", spec := "fnMasks", unfollowed := true, recurses := true, apart := false }
def FnMasksSaid : Prop := fnMasksRow.holds Try.pinned (OpenSpec.ofChange fnMasksSpec)

/-- ITS FALSE NEIGHBOUR: 'it returns false'. Refute it at one input. -/
def fnMasksWrong : ChangeSpec := { name := "fnMasks", fn := fun _ => fun
  | [d] => { results := [.lit (.bool false)], args := [d] }
  | _ => none }
def FnMasksWrongFalsely : Prop := fnMasksRow.holds Try.pinned (OpenSpec.ofChange fnMasksWrong)

/- THE SECOND FORM. 'bulk': how many values and letters a reading holds, each counted each time it is reached (what is shared counts as often as it is met; a slice's spare places count too). A statement '..UptoSaid' is the law's where the arguments, and the package variables that the reading takes, are together of bulk at most 1048576: NARROWER than '..Said'. Prove '..Said' where nothing that the law and all that it calls make is longer than what came in: it says more and counts as full. Else prove '..UptoSaid'. A law counts once. -/
mutual
def uptoBulk {H : Type} : DataW H → Nat
  | .lit (.string bytes) => bytes.length + 1
  | .lit _ => 1
  | .nil => 1
  | .ptr d => uptoBulk d + 1
  | .slice elems spare => uptoBulkAll elems + uptoBulkAll spare + 1
  | .agg parts => uptoBulkAll parts + 1
  | .iface _ d => uptoBulk d + 1
  | .map entries => uptoBulkEntries entries + 1
  | .held _ => 1
def uptoBulkAll {H : Type} : List (DataW H) → Nat
  | [] => 0
  | d :: r => uptoBulk d + uptoBulkAll r
def uptoBulkEntries {H : Type} : List (Lit × DataW H) → Nat
  | [] => 0
  | x :: r => uptoBulkEntry x + uptoBulkEntries r
def uptoBulkEntry {H : Type} : Lit × DataW H → Nat
  | (.string bytes, d) => bytes.length + uptoBulk d + 1
  | (_, d) => uptoBulk d + 1
 end
def uptoSmall : (H : Type) → List (DataW H) → Bool := fun _ ds => decide (uptoBulkAll ds ≤ 1048576)
def OpenSpec.upto (s : _root_.Go.ChangeSpec) : _root_.Go.OpenSpec := { _root_.Go.OpenSpec.ofChange s with cond := some uptoSmall }

/-- 'laws.FnExactMirrorMaze', WHERE WHAT IT READS IS OF BULK AT MOST 1048576: true; the input reads as it did. -/
def fnExactMirrorMazeUptoRow : OpenClaim := { program := "ytejaglljnjdabaa", sum := "3272738a5fac985619ab09f8290f7ac1410b45ff5f735ad8139c098d7ad962f8", func := "loop.example/g00990/laws.FnExactMirrorMaze", spec := "fnExactMirrorMaze", unfollowed := true, recurses := true, apart := false, narrowed := true }
def FnExactMirrorMazeUptoSaid : Prop := fnExactMirrorMazeUptoRow.holds Try.pinned (OpenSpec.upto fnExactMirrorMazeSpec)

/-- 'laws.FnExactLaplaceOf', WHERE WHAT IT READS IS OF BULK AT MOST 1048576: true; the input reads as it did. -/
def fnExactLaplaceOfUptoRow : OpenClaim := { program := "ytejaglljnjdabaa", sum := "3272738a5fac985619ab09f8290f7ac1410b45ff5f735ad8139c098d7ad962f8", func := "loop.example/g00990/laws.FnExactLaplaceOf", spec := "fnExactLaplaceOf", apart := false, narrowed := true }
def FnExactLaplaceOfUptoSaid : Prop := fnExactLaplaceOfUptoRow.holds Try.pinned (OpenSpec.upto fnExactLaplaceOfSpec)

/-- 'laws.FnExactHandWalk', WHERE WHAT IT READS IS OF BULK AT MOST 1048576: true; the input reads as it did. -/
def fnExactHandWalkUptoRow : OpenClaim := { program := "ytejaglljnjdabaa", sum := "3272738a5fac985619ab09f8290f7ac1410b45ff5f735ad8139c098d7ad962f8", func := "loop.example/g00990/laws.FnExactHandWalk", spec := "fnExactHandWalk", unfollowed := true, recurses := true, apart := false, narrowed := true }
def FnExactHandWalkUptoSaid : Prop := fnExactHandWalkUptoRow.holds Try.pinned (OpenSpec.upto fnExactHandWalkSpec)

/-- 'laws.FnExactDivideMaze', WHERE WHAT IT READS IS OF BULK AT MOST 1048576: true; the input reads as it did. -/
def fnExactDivideMazeUptoRow : OpenClaim := { program := "ytejaglljnjdabaa", sum := "3272738a5fac985619ab09f8290f7ac1410b45ff5f735ad8139c098d7ad962f8", func := "loop.example/g00990/laws.FnExactDivideMaze", spec := "fnExactDivideMaze", recurses := true, apart := false, narrowed := true }
def FnExactDivideMazeUptoSaid : Prop := fnExactDivideMazeUptoRow.holds Try.pinned (OpenSpec.upto fnExactDivideMazeSpec)

/-- 'laws.FnExactIsWallTree', WHERE WHAT IT READS IS OF BULK AT MOST 1048576: true; the input reads as it did. -/
def fnExactIsWallTreeUptoRow : OpenClaim := { program := "ytejaglljnjdabaa", sum := "3272738a5fac985619ab09f8290f7ac1410b45ff5f735ad8139c098d7ad962f8", func := "loop.example/g00990/laws.FnExactIsWallTree", spec := "fnExactIsWallTree", unfollowed := true, recurses := true, apart := false, narrowed := true }
def FnExactIsWallTreeUptoSaid : Prop := fnExactIsWallTreeUptoRow.holds Try.pinned (OpenSpec.upto fnExactIsWallTreeSpec)

/-- 'laws.FnExactLeastForm', WHERE WHAT IT READS IS OF BULK AT MOST 1048576: true; the input reads as it did. -/
def fnExactLeastFormUptoRow : OpenClaim := { program := "ytejaglljnjdabaa", sum := "3272738a5fac985619ab09f8290f7ac1410b45ff5f735ad8139c098d7ad962f8", func := "loop.example/g00990/laws.FnExactLeastForm", spec := "fnExactLeastForm", unfollowed := true, recurses := true, apart := false, narrowed := true }
def FnExactLeastFormUptoSaid : Prop := fnExactLeastFormUptoRow.holds Try.pinned (OpenSpec.upto fnExactLeastFormSpec)

/-- 'laws.FnExactTwoWays', WHERE WHAT IT READS IS OF BULK AT MOST 1048576: true; the input reads as it did. -/
def fnExactTwoWaysUptoRow : OpenClaim := { program := "ytejaglljnjdabaa", sum := "3272738a5fac985619ab09f8290f7ac1410b45ff5f735ad8139c098d7ad962f8", func := "loop.example/g00990/laws.FnExactTwoWays", spec := "fnExactTwoWays", unfollowed := true, recurses := true, apart := false, narrowed := true }
def FnExactTwoWaysUptoSaid : Prop := fnExactTwoWaysUptoRow.holds Try.pinned (OpenSpec.upto fnExactTwoWaysSpec)

/-- 'laws.FnExactEraseWay', WHERE WHAT IT READS IS OF BULK AT MOST 1048576: true; the input reads as it did. -/
def fnExactEraseWayUptoRow : OpenClaim := { program := "ytejaglljnjdabaa", sum := "3272738a5fac985619ab09f8290f7ac1410b45ff5f735ad8139c098d7ad962f8", func := "loop.example/g00990/laws.FnExactEraseWay", spec := "fnExactEraseWay", unfollowed := true, recurses := true, apart := false, narrowed := true }
def FnExactEraseWayUptoSaid : Prop := fnExactEraseWayUptoRow.holds Try.pinned (OpenSpec.upto fnExactEraseWaySpec)

/-- 'laws.FnExactCutLoops', WHERE WHAT IT READS IS OF BULK AT MOST 1048576: true; the input reads as it did. -/
def fnExactCutLoopsUptoRow : OpenClaim := { program := "ytejaglljnjdabaa", sum := "3272738a5fac985619ab09f8290f7ac1410b45ff5f735ad8139c098d7ad962f8", func := "loop.example/g00990/laws.FnExactCutLoops", spec := "fnExactCutLoops", unfollowed := true, recurses := true, apart := false, narrowed := true }
def FnExactCutLoopsUptoSaid : Prop := fnExactCutLoopsUptoRow.holds Try.pinned (OpenSpec.upto fnExactCutLoopsSpec)

/-- 'laws.FnGrown', WHERE WHAT IT READS IS OF BULK AT MOST 1048576: true; the input reads as it did. -/
def fnGrownUptoRow : OpenClaim := { program := "ytejaglljnjdabaa", sum := "3272738a5fac985619ab09f8290f7ac1410b45ff5f735ad8139c098d7ad962f8", func := "loop.example/g00990/laws.FnGrown", spec := "fnGrown", unfollowed := true, recurses := true, apart := false, narrowed := true }
def FnGrownUptoSaid : Prop := fnGrownUptoRow.holds Try.pinned (OpenSpec.upto fnGrownSpec)

/-- 'laws.FnExactGapsApart', WHERE WHAT IT READS IS OF BULK AT MOST 1048576: true; the input reads as it did. -/
def fnExactGapsApartUptoRow : OpenClaim := { program := "ytejaglljnjdabaa", sum := "3272738a5fac985619ab09f8290f7ac1410b45ff5f735ad8139c098d7ad962f8", func := "loop.example/g00990/laws.FnExactGapsApart", spec := "fnExactGapsApart", unfollowed := true, recurses := true, apart := false, narrowed := true }
def FnExactGapsApartUptoSaid : Prop := fnExactGapsApartUptoRow.holds Try.pinned (OpenSpec.upto fnExactGapsApartSpec)

/-- 'laws.FnMasks', WHERE WHAT IT READS IS OF BULK AT MOST 1048576: true; the input reads as it did. -/
def fnMasksUptoRow : OpenClaim := { program := "ytejaglljnjdabaa", sum := "3272738a5fac985619ab09f8290f7ac1410b45ff5f735ad8139c098d7ad962f8", func := "loop.example/g00990/laws.FnMasks", spec := "fnMasks", unfollowed := true, recurses := true, apart := false, narrowed := true }
def FnMasksUptoSaid : Prop := fnMasksUptoRow.holds Try.pinned (OpenSpec.upto fnMasksSpec)

end Rows
end Go.Proofs.Ytejaglljnjdabaa
