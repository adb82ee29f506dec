/-
  No cell of these rows narrows 'for every input' (looked for: loops, veiled, ifaces, maps, wideKeys, modest, calm, conditions, laid).
  DERIVED. THE GIVEN ROWS OF THIS SEAT. 12 by the template 'for every input the law returns true; each argument reads behind the call as it read before'; 0 by the template 'total and deterministic' (their statements: YtbeajmcjfhbcjaaTotals.lean).
  GIVEN WITH THE SEED: the statements are not yours to turn. If you find one false, say at which input.
  Laid BY PROGRAM, IN A SANDBOX (cutbox-rows.mjs): the forced cells as the released guide's own fill.sh prints them over the translation 39a905d9b350d210… (all of the seat's roots in one cut). By AI agents, Wed Nov 11 2026. No macro, syntax, notation, axiom, sorry.
-/
import Derived.Test.YtbeajmcjfhbcjaaChecked
import GoSem.Claim
import GoSem.ClaimJoined
import GoSem.ClaimMapViews
import Derived.JoinedTies
import Derived.KernelRfl
namespace Go.Proofs.Ytbeajmcjfhbcjaa
/- THE CELL 'sum', in the pinned program and in every row, IS THE sha256 OF THE DUMP (.gsa) THAT YtbeajmcjfhbcjaaProg.lean LOADS. Nothing in Lean hashes anything: it is a label: what it is worth is what the hold of that sum in a sandbox is worth. -/
noncomputable def Try.pinned : Pinned := { name := "ytbeajmcjfhbcjaa", sum := "39a905d9b350d210e3c0af7d0d3bcb74fefc45897a03c15cf15fde2c1f00b274", checked := Try.checked }
namespace Rows
def none {H : Type} : Left H := { results := [], args := [] }

/-- 'laws.FnWalls': WHATEVER THE INPUT: true; the input reads as it did. -/
def fnWallsSpec : ChangeSpec := { name := "fnWalls", fn := fun _ => fun
  | [d] => { results := [.lit (.bool true)], args := [d] }
  | _ => none }
def fnWallsRow : OpenClaim := { program := "ytbeajmcjfhbcjaa", sum := "39a905d9b350d210e3c0af7d0d3bcb74fefc45897a03c15cf15fde2c1f00b274", func := "loop.example/g00990/laws.FnWalls", spec := "fnWalls", unfollowed := true, recurses := true, apart := false }
def FnWallsSaid : Prop := fnWallsRow.holds Try.pinned (OpenSpec.ofChange fnWallsSpec)

/-- ITS FALSE NEIGHBOUR: 'it returns false'. Refute it at one input. -/
def fnWallsWrong : ChangeSpec := { name := "fnWalls", fn := fun _ => fun
  | [d] => { results := [.lit (.bool false)], args := [d] }
  | _ => none }
def FnWallsWrongFalsely : Prop := fnWallsRow.holds Try.pinned (OpenSpec.ofChange fnWallsWrong)

/-- 'laws.FnExactArrowsOk': WHATEVER THE INPUT: true; the input reads as it did. -/
def fnExactArrowsOkSpec : ChangeSpec := { name := "fnExactArrowsOk", fn := fun _ => fun
  | [d1, d2] => { results := [.lit (.bool true)], args := [d1, d2] }
  | _ => none }
def fnExactArrowsOkRow : OpenClaim := { program := "ytbeajmcjfhbcjaa", sum := "39a905d9b350d210e3c0af7d0d3bcb74fefc45897a03c15cf15fde2c1f00b274", func := "loop.example/g00990/laws.FnExactArrowsOk", spec := "fnExactArrowsOk", unfollowed := true, recurses := true, apart := false }
def FnExactArrowsOkSaid : Prop := fnExactArrowsOkRow.holds Try.pinned (OpenSpec.ofChange fnExactArrowsOkSpec)

/-- ITS FALSE NEIGHBOUR: 'it returns false'. Refute it at one input. -/
def fnExactArrowsOkWrong : ChangeSpec := { name := "fnExactArrowsOk", fn := fun _ => fun
  | [d1, d2] => { results := [.lit (.bool false)], args := [d1, d2] }
  | _ => none }
def FnExactArrowsOkWrongFalsely : Prop := fnExactArrowsOkRow.holds Try.pinned (OpenSpec.ofChange fnExactArrowsOkWrong)

/-- 'laws.FnExactGrowMaze': WHATEVER THE INPUT: true; the input reads as it did. -/
def fnExactGrowMazeSpec : ChangeSpec := { name := "fnExactGrowMaze", fn := fun _ => fun
  | [d1, d2] => { results := [.lit (.bool true)], args := [d1, d2] }
  | _ => none }
def fnExactGrowMazeRow : OpenClaim := { program := "ytbeajmcjfhbcjaa", sum := "39a905d9b350d210e3c0af7d0d3bcb74fefc45897a03c15cf15fde2c1f00b274", func := "loop.example/g00990/laws.FnExactGrowMaze", spec := "fnExactGrowMaze", apart := false }
def FnExactGrowMazeSaid : Prop := fnExactGrowMazeRow.holds Try.pinned (OpenSpec.ofChange fnExactGrowMazeSpec)

/-- ITS FALSE NEIGHBOUR: 'it returns false'. Refute it at one input. -/
def fnExactGrowMazeWrong : ChangeSpec := { name := "fnExactGrowMaze", fn := fun _ => fun
  | [d1, d2] => { results := [.lit (.bool false)], args := [d1, d2] }
  | _ => none }
def FnExactGrowMazeWrongFalsely : Prop := fnExactGrowMazeRow.holds Try.pinned (OpenSpec.ofChange fnExactGrowMazeWrong)

/-- 'laws.FnExactIsBraid': WHATEVER THE INPUT: true; the input reads as it did. -/
def fnExactIsBraidSpec : ChangeSpec := { name := "fnExactIsBraid", fn := fun _ => fun
  | [d] => { results := [.lit (.bool true)], args := [d] }
  | _ => none }
def fnExactIsBraidRow : OpenClaim := { program := "ytbeajmcjfhbcjaa", sum := "39a905d9b350d210e3c0af7d0d3bcb74fefc45897a03c15cf15fde2c1f00b274", func := "loop.example/g00990/laws.FnExactIsBraid", spec := "fnExactIsBraid", unfollowed := true, recurses := true, apart := false }
def FnExactIsBraidSaid : Prop := fnExactIsBraidRow.holds Try.pinned (OpenSpec.ofChange fnExactIsBraidSpec)

/-- ITS FALSE NEIGHBOUR: 'it returns false'. Refute it at one input. -/
def fnExactIsBraidWrong : ChangeSpec := { name := "fnExactIsBraid", fn := fun _ => fun
  | [d] => { results := [.lit (.bool false)], args := [d] }
  | _ => none }
def FnExactIsBraidWrongFalsely : Prop := fnExactIsBraidRow.holds Try.pinned (OpenSpec.ofChange fnExactIsBraidWrong)

/-- 'laws.FnExactCountRooms': WHATEVER THE INPUT: true; the input reads as it did. -/
def fnExactCountRoomsSpec : ChangeSpec := { name := "fnExactCountRooms", fn := fun _ => fun
  | [d] => { results := [.lit (.bool true)], args := [d] }
  | _ => none }
def fnExactCountRoomsRow : OpenClaim := { program := "ytbeajmcjfhbcjaa", sum := "39a905d9b350d210e3c0af7d0d3bcb74fefc45897a03c15cf15fde2c1f00b274", func := "loop.example/g00990/laws.FnExactCountRooms", spec := "fnExactCountRooms", recurses := true, apart := false }
def FnExactCountRoomsSaid : Prop := fnExactCountRoomsRow.holds Try.pinned (OpenSpec.ofChange fnExactCountRoomsSpec)

/-- ITS FALSE NEIGHBOUR: 'it returns false'. Refute it at one input. -/
def fnExactCountRoomsWrong : ChangeSpec := { name := "fnExactCountRooms", fn := fun _ => fun
  | [d] => { results := [.lit (.bool false)], args := [d] }
  | _ => none }
def FnExactCountRoomsWrongFalsely : Prop := fnExactCountRoomsRow.holds Try.pinned (OpenSpec.ofChange fnExactCountRoomsWrong)

/-- 'laws.FnExactHandReaches': WHATEVER THE INPUT: true; the input reads as it did. -/
def fnExactHandReachesSpec : ChangeSpec := { name := "fnExactHandReaches", fn := fun _ => fun
  | [d1, d2, d3] => { results := [.lit (.bool true)], args := [d1, d2, d3] }
  | _ => none }
def fnExactHandReachesRow : OpenClaim := { program := "ytbeajmcjfhbcjaa", sum := "39a905d9b350d210e3c0af7d0d3bcb74fefc45897a03c15cf15fde2c1f00b274", func := "loop.example/g00990/laws.FnExactHandReaches", spec := "fnExactHandReaches", unfollowed := true, recurses := true, apart := false }
def FnExactHandReachesSaid : Prop := fnExactHandReachesRow.holds Try.pinned (OpenSpec.ofChange fnExactHandReachesSpec)

/-- ITS FALSE NEIGHBOUR: 'it returns false'. Refute it at one input. -/
def fnExactHandReachesWrong : ChangeSpec := { name := "fnExactHandReaches", fn := fun _ => fun
  | [d1, d2, d3] => { results := [.lit (.bool false)], args := [d1, d2, d3] }
  | _ => none }
def FnExactHandReachesWrongFalsely : Prop := fnExactHandReachesRow.holds Try.pinned (OpenSpec.ofChange fnExactHandReachesWrong)

/-- 'laws.FnExactDivideMaze': WHATEVER THE INPUT: true; the input reads as it did. -/
def fnExactDivideMazeSpec : ChangeSpec := { name := "fnExactDivideMaze", fn := fun _ => fun
  | [d1, d2] => { results := [.lit (.bool true)], args := [d1, d2] }
  | _ => none }
def fnExactDivideMazeRow : OpenClaim := { program := "ytbeajmcjfhbcjaa", sum := "39a905d9b350d210e3c0af7d0d3bcb74fefc45897a03c15cf15fde2c1f00b274", func := "loop.example/g00990/laws.FnExactDivideMaze", spec := "fnExactDivideMaze", recurses := true, apart := false }
def FnExactDivideMazeSaid : Prop := fnExactDivideMazeRow.holds Try.pinned (OpenSpec.ofChange fnExactDivideMazeSpec)

/-- ITS FALSE NEIGHBOUR: 'it returns false'. Refute it at one input. -/
def fnExactDivideMazeWrong : ChangeSpec := { name := "fnExactDivideMaze", fn := fun _ => fun
  | [d1, d2] => { results := [.lit (.bool false)], args := [d1, d2] }
  | _ => none }
def FnExactDivideMazeWrongFalsely : Prop := fnExactDivideMazeRow.holds Try.pinned (OpenSpec.ofChange fnExactDivideMazeWrong)

/-- 'laws.FnExactIsWallTree': WHATEVER THE INPUT: true; the input reads as it did. -/
def fnExactIsWallTreeSpec : ChangeSpec := { name := "fnExactIsWallTree", fn := fun _ => fun
  | [d] => { results := [.lit (.bool true)], args := [d] }
  | _ => none }
def fnExactIsWallTreeRow : OpenClaim := { program := "ytbeajmcjfhbcjaa", sum := "39a905d9b350d210e3c0af7d0d3bcb74fefc45897a03c15cf15fde2c1f00b274", func := "loop.example/g00990/laws.FnExactIsWallTree", spec := "fnExactIsWallTree", unfollowed := true, recurses := true, apart := false }
def FnExactIsWallTreeSaid : Prop := fnExactIsWallTreeRow.holds Try.pinned (OpenSpec.ofChange fnExactIsWallTreeSpec)

/-- ITS FALSE NEIGHBOUR: 'it returns false'. Refute it at one input. -/
def fnExactIsWallTreeWrong : ChangeSpec := { name := "fnExactIsWallTree", fn := fun _ => fun
  | [d] => { results := [.lit (.bool false)], args := [d] }
  | _ => none }
def FnExactIsWallTreeWrongFalsely : Prop := fnExactIsWallTreeRow.holds Try.pinned (OpenSpec.ofChange fnExactIsWallTreeWrong)

/-- 'laws.FnGrown': WHATEVER THE INPUT: true; the input reads as it did. -/
def fnGrownSpec : ChangeSpec := { name := "fnGrown", fn := fun _ => fun
  | [d] => { results := [.lit (.bool true)], args := [d] }
  | _ => none }
def fnGrownRow : OpenClaim := { program := "ytbeajmcjfhbcjaa", sum := "39a905d9b350d210e3c0af7d0d3bcb74fefc45897a03c15cf15fde2c1f00b274", func := "loop.example/g00990/laws.FnGrown", spec := "fnGrown", unfollowed := true, recurses := true, apart := false }
def FnGrownSaid : Prop := fnGrownRow.holds Try.pinned (OpenSpec.ofChange fnGrownSpec)

/-- ITS FALSE NEIGHBOUR: 'it returns false'. Refute it at one input. -/
def fnGrownWrong : ChangeSpec := { name := "fnGrown", fn := fun _ => fun
  | [d] => { results := [.lit (.bool false)], args := [d] }
  | _ => none }
def FnGrownWrongFalsely : Prop := fnGrownRow.holds Try.pinned (OpenSpec.ofChange fnGrownWrong)

/-- 'laws.FnMasks': WHATEVER THE INPUT: true; the input reads as it did. -/
def fnMasksSpec : ChangeSpec := { name := "fnMasks", fn := fun _ => fun
  | [d] => { results := [.lit (.bool true)], args := [d] }
  | _ => none }
def fnMasksRow : OpenClaim := { program := "ytbeajmcjfhbcjaa", sum := "39a905d9b350d210e3c0af7d0d3bcb74fefc45897a03c15cf15fde2c1f00b274", func := "loop.example/g00990/laws.FnMasks", spec := "fnMasks", unfollowed := true, recurses := true, apart := false }
def FnMasksSaid : Prop := fnMasksRow.holds Try.pinned (OpenSpec.ofChange fnMasksSpec)

/-- ITS FALSE NEIGHBOUR: 'it returns false'. Refute it at one input. -/
def fnMasksWrong : ChangeSpec := { name := "fnMasks", fn := fun _ => fun
  | [d] => { results := [.lit (.bool false)], args := [d] }
  | _ => none }
def FnMasksWrongFalsely : Prop := fnMasksRow.holds Try.pinned (OpenSpec.ofChange fnMasksWrong)

/-- 'laws.FnTurned': WHATEVER THE INPUT: true; the input reads as it did. -/
def fnTurnedSpec : ChangeSpec := { name := "fnTurned", fn := fun _ => fun
  | [d] => { results := [.lit (.bool true)], args := [d] }
  | _ => none }
def fnTurnedRow : OpenClaim := { program := "ytbeajmcjfhbcjaa", sum := "39a905d9b350d210e3c0af7d0d3bcb74fefc45897a03c15cf15fde2c1f00b274", func := "loop.example/g00990/laws.FnTurned", spec := "fnTurned", unfollowed := true, recurses := true, apart := false }
def FnTurnedSaid : Prop := fnTurnedRow.holds Try.pinned (OpenSpec.ofChange fnTurnedSpec)

/-- ITS FALSE NEIGHBOUR: 'it returns false'. Refute it at one input. -/
def fnTurnedWrong : ChangeSpec := { name := "fnTurned", fn := fun _ => fun
  | [d] => { results := [.lit (.bool false)], args := [d] }
  | _ => none }
def FnTurnedWrongFalsely : Prop := fnTurnedRow.holds Try.pinned (OpenSpec.ofChange fnTurnedWrong)

/-- 'laws.FnBraids': WHATEVER THE INPUT: true; the input reads as it did. -/
def fnBraidsSpec : ChangeSpec := { name := "fnBraids", fn := fun _ => fun
  | [d] => { results := [.lit (.bool true)], args := [d] }
  | _ => none }
def fnBraidsRow : OpenClaim := { program := "ytbeajmcjfhbcjaa", sum := "39a905d9b350d210e3c0af7d0d3bcb74fefc45897a03c15cf15fde2c1f00b274", func := "loop.example/g00990/laws.FnBraids", spec := "fnBraids", unfollowed := true, recurses := true, apart := false }
def FnBraidsSaid : Prop := fnBraidsRow.holds Try.pinned (OpenSpec.ofChange fnBraidsSpec)

/-- ITS FALSE NEIGHBOUR: 'it returns false'. Refute it at one input. -/
def fnBraidsWrong : ChangeSpec := { name := "fnBraids", fn := fun _ => fun
  | [d] => { results := [.lit (.bool false)], args := [d] }
  | _ => none }
def FnBraidsWrongFalsely : Prop := fnBraidsRow.holds Try.pinned (OpenSpec.ofChange fnBraidsWrong)

/- THE SECOND FORM. 'bulk': how many values and letters a reading holds, each counted each time it is reached (what is shared counts as often as it is met; a slice's spare places count too). A statement '..UptoSaid' is the law's where the arguments, and the package variables that the reading takes, are together of bulk at most 1048576: NARROWER than '..Said'. Prove '..Said' where nothing that the law and all that it calls make is longer than what came in: it says more and counts as full. Else prove '..UptoSaid'. A law counts once. -/
mutual
def uptoBulk {H : Type} : DataW H → Nat
  | .lit (.string bytes) => bytes.length + 1
  | .lit _ => 1
  | .nil => 1
  | .ptr d => uptoBulk d + 1
  | .slice elems spare => uptoBulkAll elems + uptoBulkAll spare + 1
  | .agg parts => uptoBulkAll parts + 1
  | .iface _ d => uptoBulk d + 1
  | .map entries => uptoBulkEntries entries + 1
  | .held _ => 1
def uptoBulkAll {H : Type} : List (DataW H) → Nat
  | [] => 0
  | d :: r => uptoBulk d + uptoBulkAll r
def uptoBulkEntries {H : Type} : List (Lit × DataW H) → Nat
  | [] => 0
  | x :: r => uptoBulkEntry x + uptoBulkEntries r
def uptoBulkEntry {H : Type} : Lit × DataW H → Nat
  | (.string bytes, d) => bytes.length + uptoBulk d + 1
  | (_, d) => uptoBulk d + 1
 end
def uptoSmall : (H : Type) → List (DataW H) → Bool := fun _ ds => decide (uptoBulkAll ds ≤ 1048576)
def OpenSpec.upto (s : _root_.Go.ChangeSpec) : _root_.Go.OpenSpec := { _root_.Go.OpenSpec.ofChange s with cond := some uptoSmall }

/-- 'laws.FnWalls', WHERE WHAT IT READS IS OF BULK AT MOST 1048576: true; the input reads as it did. -/
def fnWallsUptoRow : OpenClaim := { program := "ytbeajmcjfhbcjaa", sum := "39a905d9b350d210e3c0af7d0d3bcb74fefc45897a03c15cf15fde2c1f00b274", func := "loop.example/g00990/laws.FnWalls", spec := "fnWalls", unfollowed := true, recurses := true, apart := false, narrowed := true }
def FnWallsUptoSaid : Prop := fnWallsUptoRow.holds Try.pinned (OpenSpec.upto fnWallsSpec)

/-- 'laws.FnExactArrowsOk', WHERE WHAT IT READS IS OF BULK AT MOST 1048576: true; the input reads as it did. -/
def fnExactArrowsOkUptoRow : OpenClaim := { program := "ytbeajmcjfhbcjaa", sum := "39a905d9b350d210e3c0af7d0d3bcb74fefc45897a03c15cf15fde2c1f00b274", func := "loop.example/g00990/laws.FnExactArrowsOk", spec := "fnExactArrowsOk", unfollowed := true, recurses := true, apart := false, narrowed := true }
def FnExactArrowsOkUptoSaid : Prop := fnExactArrowsOkUptoRow.holds Try.pinned (OpenSpec.upto fnExactArrowsOkSpec)

/-- 'laws.FnExactGrowMaze', WHERE WHAT IT READS IS OF BULK AT MOST 1048576: true; the input reads as it did. -/
def fnExactGrowMazeUptoRow : OpenClaim := { program := "ytbeajmcjfhbcjaa", sum := "39a905d9b350d210e3c0af7d0d3bcb74fefc45897a03c15cf15fde2c1f00b274", func := "loop.example/g00990/laws.FnExactGrowMaze", spec := "fnExactGrowMaze", apart := false, narrowed := true }
def FnExactGrowMazeUptoSaid : Prop := fnExactGrowMazeUptoRow.holds Try.pinned (OpenSpec.upto fnExactGrowMazeSpec)

/-- 'laws.FnExactIsBraid', WHERE WHAT IT READS IS OF BULK AT MOST 1048576: true; the input reads as it did. -/
def fnExactIsBraidUptoRow : OpenClaim := { program := "ytbeajmcjfhbcjaa", sum := "39a905d9b350d210e3c0af7d0d3bcb74fefc45897a03c15cf15fde2c1f00b274", func := "loop.example/g00990/laws.FnExactIsBraid", spec := "fnExactIsBraid", unfollowed := true, recurses := true, apart := false, narrowed := true }
def FnExactIsBraidUptoSaid : Prop := fnExactIsBraidUptoRow.holds Try.pinned (OpenSpec.upto fnExactIsBraidSpec)

/-- 'laws.FnExactCountRooms', WHERE WHAT IT READS IS OF BULK AT MOST 1048576: true; the input reads as it did. -/
def fnExactCountRoomsUptoRow : OpenClaim := { program := "ytbeajmcjfhbcjaa", sum := "39a905d9b350d210e3c0af7d0d3bcb74fefc45897a03c15cf15fde2c1f00b274", func := "loop.example/g00990/laws.FnExactCountRooms", spec := "fnExactCountRooms", recurses := true, apart := false, narrowed := true }
def FnExactCountRoomsUptoSaid : Prop := fnExactCountRoomsUptoRow.holds Try.pinned (OpenSpec.upto fnExactCountRoomsSpec)

/-- 'laws.FnExactHandReaches', WHERE WHAT IT READS IS OF BULK AT MOST 1048576: true; the input reads as it did. -/
def fnExactHandReachesUptoRow : OpenClaim := { program := "ytbeajmcjfhbcjaa", sum := "39a905d9b350d210e3c0af7d0d3bcb74fefc45897a03c15cf15fde2c1f00b274", func := "loop.example/g00990/laws.FnExactHandReaches", spec := "fnExactHandReaches", unfollowed := true, recurses := true, apart := false, narrowed := true }
def FnExactHandReachesUptoSaid : Prop := fnExactHandReachesUptoRow.holds Try.pinned (OpenSpec.upto fnExactHandReachesSpec)

/-- 'laws.FnExactDivideMaze', WHERE WHAT IT READS IS OF BULK AT MOST 1048576: true; the input reads as it did. -/
def fnExactDivideMazeUptoRow : OpenClaim := { program := "ytbeajmcjfhbcjaa", sum := "39a905d9b350d210e3c0af7d0d3bcb74fefc45897a03c15cf15fde2c1f00b274", func := "loop.example/g00990/laws.FnExactDivideMaze", spec := "fnExactDivideMaze", recurses := true, apart := false, narrowed := true }
def FnExactDivideMazeUptoSaid : Prop := fnExactDivideMazeUptoRow.holds Try.pinned (OpenSpec.upto fnExactDivideMazeSpec)

/-- 'laws.FnExactIsWallTree', WHERE WHAT IT READS IS OF BULK AT MOST 1048576: true; the input reads as it did. -/
def fnExactIsWallTreeUptoRow : OpenClaim := { program := "ytbeajmcjfhbcjaa", sum := "39a905d9b350d210e3c0af7d0d3bcb74fefc45897a03c15cf15fde2c1f00b274", func := "loop.example/g00990/laws.FnExactIsWallTree", spec := "fnExactIsWallTree", unfollowed := true, recurses := true, apart := false, narrowed := true }
def FnExactIsWallTreeUptoSaid : Prop := fnExactIsWallTreeUptoRow.holds Try.pinned (OpenSpec.upto fnExactIsWallTreeSpec)

/-- 'laws.FnGrown', WHERE WHAT IT READS IS OF BULK AT MOST 1048576: true; the input reads as it did. -/
def fnGrownUptoRow : OpenClaim := { program := "ytbeajmcjfhbcjaa", sum := "39a905d9b350d210e3c0af7d0d3bcb74fefc45897a03c15cf15fde2c1f00b274", func := "loop.example/g00990/laws.FnGrown", spec := "fnGrown", unfollowed := true, recurses := true, apart := false, narrowed := true }
def FnGrownUptoSaid : Prop := fnGrownUptoRow.holds Try.pinned (OpenSpec.upto fnGrownSpec)

/-- 'laws.FnMasks', WHERE WHAT IT READS IS OF BULK AT MOST 1048576: true; the input reads as it did. -/
def fnMasksUptoRow : OpenClaim := { program := "ytbeajmcjfhbcjaa", sum := "39a905d9b350d210e3c0af7d0d3bcb74fefc45897a03c15cf15fde2c1f00b274", func := "loop.example/g00990/laws.FnMasks", spec := "fnMasks", unfollowed := true, recurses := true, apart := false, narrowed := true }
def FnMasksUptoSaid : Prop := fnMasksUptoRow.holds Try.pinned (OpenSpec.upto fnMasksSpec)

/-- 'laws.FnTurned', WHERE WHAT IT READS IS OF BULK AT MOST 1048576: true; the input reads as it did. -/
def fnTurnedUptoRow : OpenClaim := { program := "ytbeajmcjfhbcjaa", sum := "39a905d9b350d210e3c0af7d0d3bcb74fefc45897a03c15cf15fde2c1f00b274", func := "loop.example/g00990/laws.FnTurned", spec := "fnTurned", unfollowed := true, recurses := true, apart := false, narrowed := true }
def FnTurnedUptoSaid : Prop := fnTurnedUptoRow.holds Try.pinned (OpenSpec.upto fnTurnedSpec)

/-- 'laws.FnBraids', WHERE WHAT IT READS IS OF BULK AT MOST 1048576: true; the input reads as it did. -/
def fnBraidsUptoRow : OpenClaim := { program := "ytbeajmcjfhbcjaa", sum := "39a905d9b350d210e3c0af7d0d3bcb74fefc45897a03c15cf15fde2c1f00b274", func := "loop.example/g00990/laws.FnBraids", spec := "fnBraids", unfollowed := true, recurses := true, apart := false, narrowed := true }
def FnBraidsUptoSaid : Prop := fnBraidsUptoRow.holds Try.pinned (OpenSpec.upto fnBraidsSpec)

end Rows
end Go.Proofs.Ytbeajmcjfhbcjaa
