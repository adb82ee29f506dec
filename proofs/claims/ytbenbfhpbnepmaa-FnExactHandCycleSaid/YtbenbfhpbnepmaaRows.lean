/-
  No cell of these rows narrows 'for every input' (looked for: loops, veiled, ifaces, maps, wideKeys, modest, calm, conditions, laid).
  DERIVED. THE GIVEN ROWS OF THIS SEAT. 12 by the template 'for every input the law returns true; each argument reads behind the call as it read before'; 0 by the template 'total and deterministic' (their statements: YtbenbfhpbnepmaaTotals.lean).
  GIVEN WITH THE SEED: the statements are not yours to turn. If you find one false, say at which input.
  Laid BY PROGRAM, IN A SANDBOX (cutbox-rows.mjs): the forced cells as the released guide's own fill.sh prints them over the translation 931d43cf8592af96… (all of the seat's roots in one cut). By AI agents, Wed Nov 11 2026. No macro, syntax, notation, axiom, sorry.
-/
import Derived.Test.YtbenbfhpbnepmaaChecked
import GoSem.Claim
import GoSem.ClaimJoined
import GoSem.ClaimMapViews
import Derived.JoinedTies
import Derived.KernelRfl
namespace Go.Proofs.Ytbenbfhpbnepmaa
/- THE CELL 'sum', in the pinned program and in every row, IS THE sha256 OF THE DUMP (.gsa) THAT YtbenbfhpbnepmaaProg.lean LOADS. Nothing in Lean hashes anything: it is a label: what it is worth is what the hold of that sum in a sandbox is worth. -/
noncomputable def Try.pinned : Pinned := { name := "ytbenbfhpbnepmaa", sum := "931d43cf8592af96fa00b652b65286170aa1b2ae39fa03e0fe493daa6c158acb", checked := Try.checked }
namespace Rows
def none {H : Type} : Left H := { results := [], args := [] }

/-- 'laws.FnExactWithoutRow': WHATEVER THE INPUT: true; the input reads as it did. -/
def fnExactWithoutRowSpec : ChangeSpec := { name := "fnExactWithoutRow", fn := fun _ => fun
  | [d1, d2] => { results := [.lit (.bool true)], args := [d1, d2] }
  | _ => none }
def fnExactWithoutRowRow : OpenClaim := { program := "ytbenbfhpbnepmaa", sum := "931d43cf8592af96fa00b652b65286170aa1b2ae39fa03e0fe493daa6c158acb", func := "loop.example/g00990/laws.FnExactWithoutRow", spec := "fnExactWithoutRow", apart := false }
def FnExactWithoutRowSaid : Prop := fnExactWithoutRowRow.holds Try.pinned (OpenSpec.ofChange fnExactWithoutRowSpec)

/-- ITS FALSE NEIGHBOUR: 'it returns false'. Refute it at one input. -/
def fnExactWithoutRowWrong : ChangeSpec := { name := "fnExactWithoutRow", fn := fun _ => fun
  | [d1, d2] => { results := [.lit (.bool false)], args := [d1, d2] }
  | _ => none }
def FnExactWithoutRowWrongFalsely : Prop := fnExactWithoutRowRow.holds Try.pinned (OpenSpec.ofChange fnExactWithoutRowWrong)

/-- 'laws.FnExactDeterminant': WHATEVER THE INPUT: true; the input reads as it did. -/
def fnExactDeterminantSpec : ChangeSpec := { name := "fnExactDeterminant", fn := fun _ => fun
  | [d] => { results := [.lit (.bool true)], args := [d] }
  | _ => none }
def fnExactDeterminantRow : OpenClaim := { program := "ytbenbfhpbnepmaa", sum := "931d43cf8592af96fa00b652b65286170aa1b2ae39fa03e0fe493daa6c158acb", func := "loop.example/g00990/laws.FnExactDeterminant", spec := "fnExactDeterminant", apart := false }
def FnExactDeterminantSaid : Prop := fnExactDeterminantRow.holds Try.pinned (OpenSpec.ofChange fnExactDeterminantSpec)

/-- ITS FALSE NEIGHBOUR: 'it returns false'. Refute it at one input. -/
def fnExactDeterminantWrong : ChangeSpec := { name := "fnExactDeterminant", fn := fun _ => fun
  | [d] => { results := [.lit (.bool false)], args := [d] }
  | _ => none }
def FnExactDeterminantWrongFalsely : Prop := fnExactDeterminantRow.holds Try.pinned (OpenSpec.ofChange fnExactDeterminantWrong)

/-- 'laws.FnExactHandStep': WHATEVER THE INPUT: true; the input reads as it did. -/
def fnExactHandStepSpec : ChangeSpec := { name := "fnExactHandStep", fn := fun _ => fun
  | [d1, d2] => { results := [.lit (.bool true)], args := [d1, d2] }
  | _ => none }
def fnExactHandStepRow : OpenClaim := { program := "ytbenbfhpbnepmaa", sum := "931d43cf8592af96fa00b652b65286170aa1b2ae39fa03e0fe493daa6c158acb", func := "loop.example/g00990/laws.FnExactHandStep", spec := "fnExactHandStep", unfollowed := true, recurses := true, apart := false }
def FnExactHandStepSaid : Prop := fnExactHandStepRow.holds Try.pinned (OpenSpec.ofChange fnExactHandStepSpec)

/-- ITS FALSE NEIGHBOUR: 'it returns false'. Refute it at one input. -/
def fnExactHandStepWrong : ChangeSpec := { name := "fnExactHandStep", fn := fun _ => fun
  | [d1, d2] => { results := [.lit (.bool false)], args := [d1, d2] }
  | _ => none }
def FnExactHandStepWrongFalsely : Prop := fnExactHandStepRow.holds Try.pinned (OpenSpec.ofChange fnExactHandStepWrong)

/-- 'laws.FnHalfTurns': WHATEVER THE INPUT: true; the input reads as it did. -/
def fnHalfTurnsSpec : ChangeSpec := { name := "fnHalfTurns", fn := fun _ => fun
  | [d] => { results := [.lit (.bool true)], args := [d] }
  | _ => none }
def fnHalfTurnsRow : OpenClaim := { program := "ytbenbfhpbnepmaa", sum := "931d43cf8592af96fa00b652b65286170aa1b2ae39fa03e0fe493daa6c158acb", func := "loop.example/g00990/laws.FnHalfTurns", spec := "fnHalfTurns", unfollowed := true, recurses := true, apart := false }
def FnHalfTurnsSaid : Prop := fnHalfTurnsRow.holds Try.pinned (OpenSpec.ofChange fnHalfTurnsSpec)

/-- ITS FALSE NEIGHBOUR: 'it returns false'. Refute it at one input. -/
def fnHalfTurnsWrong : ChangeSpec := { name := "fnHalfTurns", fn := fun _ => fun
  | [d] => { results := [.lit (.bool false)], args := [d] }
  | _ => none }
def FnHalfTurnsWrongFalsely : Prop := fnHalfTurnsRow.holds Try.pinned (OpenSpec.ofChange fnHalfTurnsWrong)

/-- 'laws.FnExactIsBraid': WHATEVER THE INPUT: true; the input reads as it did. -/
def fnExactIsBraidSpec : ChangeSpec := { name := "fnExactIsBraid", fn := fun _ => fun
  | [d] => { results := [.lit (.bool true)], args := [d] }
  | _ => none }
def fnExactIsBraidRow : OpenClaim := { program := "ytbenbfhpbnepmaa", sum := "931d43cf8592af96fa00b652b65286170aa1b2ae39fa03e0fe493daa6c158acb", func := "loop.example/g00990/laws.FnExactIsBraid", spec := "fnExactIsBraid", unfollowed := true, recurses := true, apart := false }
def FnExactIsBraidSaid : Prop := fnExactIsBraidRow.holds Try.pinned (OpenSpec.ofChange fnExactIsBraidSpec)

/-- ITS FALSE NEIGHBOUR: 'it returns false'. Refute it at one input. -/
def fnExactIsBraidWrong : ChangeSpec := { name := "fnExactIsBraid", fn := fun _ => fun
  | [d] => { results := [.lit (.bool false)], args := [d] }
  | _ => none }
def FnExactIsBraidWrongFalsely : Prop := fnExactIsBraidRow.holds Try.pinned (OpenSpec.ofChange fnExactIsBraidWrong)

/-- 'laws.FnExactIsTurned': WHATEVER THE INPUT: true; the input reads as it did. -/
def fnExactIsTurnedSpec : ChangeSpec := { name := "fnExactIsTurned", fn := fun _ => fun
  | [d] => { results := [.lit (.bool true)], args := [d] }
  | _ => none }
def fnExactIsTurnedRow : OpenClaim := { program := "ytbenbfhpbnepmaa", sum := "931d43cf8592af96fa00b652b65286170aa1b2ae39fa03e0fe493daa6c158acb", func := "loop.example/g00990/laws.FnExactIsTurned", spec := "fnExactIsTurned", unfollowed := true, recurses := true, apart := false }
def FnExactIsTurnedSaid : Prop := fnExactIsTurnedRow.holds Try.pinned (OpenSpec.ofChange fnExactIsTurnedSpec)

/-- ITS FALSE NEIGHBOUR: 'it returns false'. Refute it at one input. -/
def fnExactIsTurnedWrong : ChangeSpec := { name := "fnExactIsTurned", fn := fun _ => fun
  | [d] => { results := [.lit (.bool false)], args := [d] }
  | _ => none }
def FnExactIsTurnedWrongFalsely : Prop := fnExactIsTurnedRow.holds Try.pinned (OpenSpec.ofChange fnExactIsTurnedWrong)

/-- 'laws.FnExactBraidMaze': WHATEVER THE INPUT: true; the input reads as it did. -/
def fnExactBraidMazeSpec : ChangeSpec := { name := "fnExactBraidMaze", fn := fun _ => fun
  | [d] => { results := [.lit (.bool true)], args := [d] }
  | _ => none }
def fnExactBraidMazeRow : OpenClaim := { program := "ytbenbfhpbnepmaa", sum := "931d43cf8592af96fa00b652b65286170aa1b2ae39fa03e0fe493daa6c158acb", func := "loop.example/g00990/laws.FnExactBraidMaze", spec := "fnExactBraidMaze", apart := false }
def FnExactBraidMazeSaid : Prop := fnExactBraidMazeRow.holds Try.pinned (OpenSpec.ofChange fnExactBraidMazeSpec)

/-- ITS FALSE NEIGHBOUR: 'it returns false'. Refute it at one input. -/
def fnExactBraidMazeWrong : ChangeSpec := { name := "fnExactBraidMaze", fn := fun _ => fun
  | [d] => { results := [.lit (.bool false)], args := [d] }
  | _ => none }
def FnExactBraidMazeWrongFalsely : Prop := fnExactBraidMazeRow.holds Try.pinned (OpenSpec.ofChange fnExactBraidMazeWrong)

/-- 'laws.FnExactCountRooms': WHATEVER THE INPUT: true; the input reads as it did. -/
def fnExactCountRoomsSpec : ChangeSpec := { name := "fnExactCountRooms", fn := fun _ => fun
  | [d] => { results := [.lit (.bool true)], args := [d] }
  | _ => none }
def fnExactCountRoomsRow : OpenClaim := { program := "ytbenbfhpbnepmaa", sum := "931d43cf8592af96fa00b652b65286170aa1b2ae39fa03e0fe493daa6c158acb", func := "loop.example/g00990/laws.FnExactCountRooms", spec := "fnExactCountRooms", recurses := true, apart := false }
def FnExactCountRoomsSaid : Prop := fnExactCountRoomsRow.holds Try.pinned (OpenSpec.ofChange fnExactCountRoomsSpec)

/-- ITS FALSE NEIGHBOUR: 'it returns false'. Refute it at one input. -/
def fnExactCountRoomsWrong : ChangeSpec := { name := "fnExactCountRooms", fn := fun _ => fun
  | [d] => { results := [.lit (.bool false)], args := [d] }
  | _ => none }
def FnExactCountRoomsWrongFalsely : Prop := fnExactCountRoomsRow.holds Try.pinned (OpenSpec.ofChange fnExactCountRoomsWrong)

/-- 'laws.FnExactHandReaches': WHATEVER THE INPUT: true; the input reads as it did. -/
def fnExactHandReachesSpec : ChangeSpec := { name := "fnExactHandReaches", fn := fun _ => fun
  | [d1, d2, d3] => { results := [.lit (.bool true)], args := [d1, d2, d3] }
  | _ => none }
def fnExactHandReachesRow : OpenClaim := { program := "ytbenbfhpbnepmaa", sum := "931d43cf8592af96fa00b652b65286170aa1b2ae39fa03e0fe493daa6c158acb", func := "loop.example/g00990/laws.FnExactHandReaches", spec := "fnExactHandReaches", unfollowed := true, recurses := true, apart := false }
def FnExactHandReachesSaid : Prop := fnExactHandReachesRow.holds Try.pinned (OpenSpec.ofChange fnExactHandReachesSpec)

/-- ITS FALSE NEIGHBOUR: 'it returns false'. Refute it at one input. -/
def fnExactHandReachesWrong : ChangeSpec := { name := "fnExactHandReaches", fn := fun _ => fun
  | [d1, d2, d3] => { results := [.lit (.bool false)], args := [d1, d2, d3] }
  | _ => none }
def FnExactHandReachesWrongFalsely : Prop := fnExactHandReachesRow.holds Try.pinned (OpenSpec.ofChange fnExactHandReachesWrong)

/-- 'laws.FnExactHandCycle': WHATEVER THE INPUT: true; the input reads as it did. -/
def fnExactHandCycleSpec : ChangeSpec := { name := "fnExactHandCycle", fn := fun _ => fun
  | [d1, d2] => { results := [.lit (.bool true)], args := [d1, d2] }
  | _ => none }
def fnExactHandCycleRow : OpenClaim := { program := "ytbenbfhpbnepmaa", sum := "931d43cf8592af96fa00b652b65286170aa1b2ae39fa03e0fe493daa6c158acb", func := "loop.example/g00990/laws.FnExactHandCycle", spec := "fnExactHandCycle", unfollowed := true, recurses := true, apart := false }
def FnExactHandCycleSaid : Prop := fnExactHandCycleRow.holds Try.pinned (OpenSpec.ofChange fnExactHandCycleSpec)

/-- ITS FALSE NEIGHBOUR: 'it returns false'. Refute it at one input. -/
def fnExactHandCycleWrong : ChangeSpec := { name := "fnExactHandCycle", fn := fun _ => fun
  | [d1, d2] => { results := [.lit (.bool false)], args := [d1, d2] }
  | _ => none }
def FnExactHandCycleWrongFalsely : Prop := fnExactHandCycleRow.holds Try.pinned (OpenSpec.ofChange fnExactHandCycleWrong)

/-- 'laws.FnExactTurnMaze': WHATEVER THE INPUT: true; the input reads as it did. -/
def fnExactTurnMazeSpec : ChangeSpec := { name := "fnExactTurnMaze", fn := fun _ => fun
  | [d] => { results := [.lit (.bool true)], args := [d] }
  | _ => none }
def fnExactTurnMazeRow : OpenClaim := { program := "ytbenbfhpbnepmaa", sum := "931d43cf8592af96fa00b652b65286170aa1b2ae39fa03e0fe493daa6c158acb", func := "loop.example/g00990/laws.FnExactTurnMaze", spec := "fnExactTurnMaze", unfollowed := true, recurses := true, apart := false }
def FnExactTurnMazeSaid : Prop := fnExactTurnMazeRow.holds Try.pinned (OpenSpec.ofChange fnExactTurnMazeSpec)

/-- ITS FALSE NEIGHBOUR: 'it returns false'. Refute it at one input. -/
def fnExactTurnMazeWrong : ChangeSpec := { name := "fnExactTurnMaze", fn := fun _ => fun
  | [d] => { results := [.lit (.bool false)], args := [d] }
  | _ => none }
def FnExactTurnMazeWrongFalsely : Prop := fnExactTurnMazeRow.holds Try.pinned (OpenSpec.ofChange fnExactTurnMazeWrong)

/-- 'laws.FnExactFlipMaze': WHATEVER THE INPUT: true; the input reads as it did. -/
def fnExactFlipMazeSpec : ChangeSpec := { name := "fnExactFlipMaze", fn := fun _ => fun
  | [d] => { results := [.lit (.bool true)], args := [d] }
  | _ => none }
def fnExactFlipMazeRow : OpenClaim := { program := "ytbenbfhpbnepmaa", sum := "931d43cf8592af96fa00b652b65286170aa1b2ae39fa03e0fe493daa6c158acb", func := "loop.example/g00990/laws.FnExactFlipMaze", spec := "fnExactFlipMaze", unfollowed := true, recurses := true, apart := false }
def FnExactFlipMazeSaid : Prop := fnExactFlipMazeRow.holds Try.pinned (OpenSpec.ofChange fnExactFlipMazeSpec)

/-- ITS FALSE NEIGHBOUR: 'it returns false'. Refute it at one input. -/
def fnExactFlipMazeWrong : ChangeSpec := { name := "fnExactFlipMaze", fn := fun _ => fun
  | [d] => { results := [.lit (.bool false)], args := [d] }
  | _ => none }
def FnExactFlipMazeWrongFalsely : Prop := fnExactFlipMazeRow.holds Try.pinned (OpenSpec.ofChange fnExactFlipMazeWrong)

/- THE SECOND FORM. 'bulk': how many values and letters a reading holds, each counted each time it is reached (what is shared counts as often as it is met; a slice's spare places count too). A statement '..UptoSaid' is the law's where the arguments, and the package variables that the reading takes, are together of bulk at most 1048576: NARROWER than '..Said'. Prove '..Said' where nothing that the law and all that it calls make is longer than what came in: it says more and counts as full. Else prove '..UptoSaid'. A law counts once. -/
mutual
def uptoBulk {H : Type} : DataW H → Nat
  | .lit (.string bytes) => bytes.length + 1
  | .lit _ => 1
  | .nil => 1
  | .ptr d => uptoBulk d + 1
  | .slice elems spare => uptoBulkAll elems + uptoBulkAll spare + 1
  | .agg parts => uptoBulkAll parts + 1
  | .iface _ d => uptoBulk d + 1
  | .map entries => uptoBulkEntries entries + 1
  | .held _ => 1
def uptoBulkAll {H : Type} : List (DataW H) → Nat
  | [] => 0
  | d :: r => uptoBulk d + uptoBulkAll r
def uptoBulkEntries {H : Type} : List (Lit × DataW H) → Nat
  | [] => 0
  | x :: r => uptoBulkEntry x + uptoBulkEntries r
def uptoBulkEntry {H : Type} : Lit × DataW H → Nat
  | (.string bytes, d) => bytes.length + uptoBulk d + 1
  | (_, d) => uptoBulk d + 1
 end
def uptoSmall : (H : Type) → List (DataW H) → Bool := fun _ ds => decide (uptoBulkAll ds ≤ 1048576)
def OpenSpec.upto (s : _root_.Go.ChangeSpec) : _root_.Go.OpenSpec := { _root_.Go.OpenSpec.ofChange s with cond := some uptoSmall }

/-- 'laws.FnExactWithoutRow', WHERE WHAT IT READS IS OF BULK AT MOST 1048576: true; the input reads as it did. -/
def fnExactWithoutRowUptoRow : OpenClaim := { program := "ytbenbfhpbnepmaa", sum := "931d43cf8592af96fa00b652b65286170aa1b2ae39fa03e0fe493daa6c158acb", func := "loop.example/g00990/laws.FnExactWithoutRow", spec := "fnExactWithoutRow", apart := false, narrowed := true }
def FnExactWithoutRowUptoSaid : Prop := fnExactWithoutRowUptoRow.holds Try.pinned (OpenSpec.upto fnExactWithoutRowSpec)

/-- 'laws.FnExactDeterminant', WHERE WHAT IT READS IS OF BULK AT MOST 1048576: true; the input reads as it did. -/
def fnExactDeterminantUptoRow : OpenClaim := { program := "ytbenbfhpbnepmaa", sum := "931d43cf8592af96fa00b652b65286170aa1b2ae39fa03e0fe493daa6c158acb", func := "loop.example/g00990/laws.FnExactDeterminant", spec := "fnExactDeterminant", apart := false, narrowed := true }
def FnExactDeterminantUptoSaid : Prop := fnExactDeterminantUptoRow.holds Try.pinned (OpenSpec.upto fnExactDeterminantSpec)

/-- 'laws.FnExactHandStep', WHERE WHAT IT READS IS OF BULK AT MOST 1048576: true; the input reads as it did. -/
def fnExactHandStepUptoRow : OpenClaim := { program := "ytbenbfhpbnepmaa", sum := "931d43cf8592af96fa00b652b65286170aa1b2ae39fa03e0fe493daa6c158acb", func := "loop.example/g00990/laws.FnExactHandStep", spec := "fnExactHandStep", unfollowed := true, recurses := true, apart := false, narrowed := true }
def FnExactHandStepUptoSaid : Prop := fnExactHandStepUptoRow.holds Try.pinned (OpenSpec.upto fnExactHandStepSpec)

/-- 'laws.FnHalfTurns', WHERE WHAT IT READS IS OF BULK AT MOST 1048576: true; the input reads as it did. -/
def fnHalfTurnsUptoRow : OpenClaim := { program := "ytbenbfhpbnepmaa", sum := "931d43cf8592af96fa00b652b65286170aa1b2ae39fa03e0fe493daa6c158acb", func := "loop.example/g00990/laws.FnHalfTurns", spec := "fnHalfTurns", unfollowed := true, recurses := true, apart := false, narrowed := true }
def FnHalfTurnsUptoSaid : Prop := fnHalfTurnsUptoRow.holds Try.pinned (OpenSpec.upto fnHalfTurnsSpec)

/-- 'laws.FnExactIsBraid', WHERE WHAT IT READS IS OF BULK AT MOST 1048576: true; the input reads as it did. -/
def fnExactIsBraidUptoRow : OpenClaim := { program := "ytbenbfhpbnepmaa", sum := "931d43cf8592af96fa00b652b65286170aa1b2ae39fa03e0fe493daa6c158acb", func := "loop.example/g00990/laws.FnExactIsBraid", spec := "fnExactIsBraid", unfollowed := true, recurses := true, apart := false, narrowed := true }
def FnExactIsBraidUptoSaid : Prop := fnExactIsBraidUptoRow.holds Try.pinned (OpenSpec.upto fnExactIsBraidSpec)

/-- 'laws.FnExactIsTurned', WHERE WHAT IT READS IS OF BULK AT MOST 1048576: true; the input reads as it did. -/
def fnExactIsTurnedUptoRow : OpenClaim := { program := "ytbenbfhpbnepmaa", sum := "931d43cf8592af96fa00b652b65286170aa1b2ae39fa03e0fe493daa6c158acb", func := "loop.example/g00990/laws.FnExactIsTurned", spec := "fnExactIsTurned", unfollowed := true, recurses := true, apart := false, narrowed := true }
def FnExactIsTurnedUptoSaid : Prop := fnExactIsTurnedUptoRow.holds Try.pinned (OpenSpec.upto fnExactIsTurnedSpec)

/-- 'laws.FnExactBraidMaze', WHERE WHAT IT READS IS OF BULK AT MOST 1048576: true; the input reads as it did. -/
def fnExactBraidMazeUptoRow : OpenClaim := { program := "ytbenbfhpbnepmaa", sum := "931d43cf8592af96fa00b652b65286170aa1b2ae39fa03e0fe493daa6c158acb", func := "loop.example/g00990/laws.FnExactBraidMaze", spec := "fnExactBraidMaze", apart := false, narrowed := true }
def FnExactBraidMazeUptoSaid : Prop := fnExactBraidMazeUptoRow.holds Try.pinned (OpenSpec.upto fnExactBraidMazeSpec)

/-- 'laws.FnExactCountRooms', WHERE WHAT IT READS IS OF BULK AT MOST 1048576: true; the input reads as it did. -/
def fnExactCountRoomsUptoRow : OpenClaim := { program := "ytbenbfhpbnepmaa", sum := "931d43cf8592af96fa00b652b65286170aa1b2ae39fa03e0fe493daa6c158acb", func := "loop.example/g00990/laws.FnExactCountRooms", spec := "fnExactCountRooms", recurses := true, apart := false, narrowed := true }
def FnExactCountRoomsUptoSaid : Prop := fnExactCountRoomsUptoRow.holds Try.pinned (OpenSpec.upto fnExactCountRoomsSpec)

/-- 'laws.FnExactHandReaches', WHERE WHAT IT READS IS OF BULK AT MOST 1048576: true; the input reads as it did. -/
def fnExactHandReachesUptoRow : OpenClaim := { program := "ytbenbfhpbnepmaa", sum := "931d43cf8592af96fa00b652b65286170aa1b2ae39fa03e0fe493daa6c158acb", func := "loop.example/g00990/laws.FnExactHandReaches", spec := "fnExactHandReaches", unfollowed := true, recurses := true, apart := false, narrowed := true }
def FnExactHandReachesUptoSaid : Prop := fnExactHandReachesUptoRow.holds Try.pinned (OpenSpec.upto fnExactHandReachesSpec)

/-- 'laws.FnExactHandCycle', WHERE WHAT IT READS IS OF BULK AT MOST 1048576: true; the input reads as it did. -/
def fnExactHandCycleUptoRow : OpenClaim := { program := "ytbenbfhpbnepmaa", sum := "931d43cf8592af96fa00b652b65286170aa1b2ae39fa03e0fe493daa6c158acb", func := "loop.example/g00990/laws.FnExactHandCycle", spec := "fnExactHandCycle", unfollowed := true, recurses := true, apart := false, narrowed := true }
def FnExactHandCycleUptoSaid : Prop := fnExactHandCycleUptoRow.holds Try.pinned (OpenSpec.upto fnExactHandCycleSpec)

/-- 'laws.FnExactTurnMaze', WHERE WHAT IT READS IS OF BULK AT MOST 1048576: true; the input reads as it did. -/
def fnExactTurnMazeUptoRow : OpenClaim := { program := "ytbenbfhpbnepmaa", sum := "931d43cf8592af96fa00b652b65286170aa1b2ae39fa03e0fe493daa6c158acb", func := "loop.example/g00990/laws.FnExactTurnMaze", spec := "fnExactTurnMaze", unfollowed := true, recurses := true, apart := false, narrowed := true }
def FnExactTurnMazeUptoSaid : Prop := fnExactTurnMazeUptoRow.holds Try.pinned (OpenSpec.upto fnExactTurnMazeSpec)

/-- 'laws.FnExactFlipMaze', WHERE WHAT IT READS IS OF BULK AT MOST 1048576: true; the input reads as it did. -/
def fnExactFlipMazeUptoRow : OpenClaim := { program := "ytbenbfhpbnepmaa", sum := "931d43cf8592af96fa00b652b65286170aa1b2ae39fa03e0fe493daa6c158acb", func := "loop.example/g00990/laws.FnExactFlipMaze", spec := "fnExactFlipMaze", unfollowed := true, recurses := true, apart := false, narrowed := true }
def FnExactFlipMazeUptoSaid : Prop := fnExactFlipMazeUptoRow.holds Try.pinned (OpenSpec.upto fnExactFlipMazeSpec)

end Rows
end Go.Proofs.Ytbenbfhpbnepmaa
