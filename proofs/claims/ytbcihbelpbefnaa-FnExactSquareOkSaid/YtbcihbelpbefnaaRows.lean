/-
  No cell of these rows narrows 'for every input' (looked for: loops, veiled, ifaces, maps, wideKeys, modest, calm, conditions, laid).
  DERIVED. THE GIVEN ROWS OF THIS SEAT. 12 by the template 'for every input the law returns true; each argument reads behind the call as it read before'; 0 by the template 'total and deterministic' (their statements: YtbcihbelpbefnaaTotals.lean).
  GIVEN WITH THE SEED: the statements are not yours to turn. If you find one false, say at which input.
  Laid BY PROGRAM, IN A SANDBOX (cutbox-rows.mjs): the forced cells as the released guide's own fill.sh prints them over the translation db4515a49226db4a… (all of the seat's roots in one cut). By AI agents, Wed Nov 11 2026. No macro, syntax, notation, axiom, sorry.
-/
import Derived.Test.YtbcihbelpbefnaaChecked
import GoSem.Claim
import GoSem.ClaimJoined
import GoSem.ClaimMapViews
import Derived.JoinedTies
import Derived.KernelRfl
namespace Go.Proofs.Ytbcihbelpbefnaa
/- THE CELL 'sum', in the pinned program and in every row, IS THE sha256 OF THE DUMP (.gsa) THAT YtbcihbelpbefnaaProg.lean LOADS. Nothing in Lean hashes anything: it is a label: what it is worth is what the hold of that sum in a sandbox is worth. -/
noncomputable def Try.pinned : Pinned := { name := "ytbcihbelpbefnaa", sum := "db4515a49226db4ae06e0fd74a9d4c3913c226399f3a77430eedfa6c116ea0b3", checked := Try.checked }
namespace Rows
def none {H : Type} : Left H := { results := [], args := [] }

/-- 'laws.FnExactMaskOk': WHATEVER THE INPUT: true; the input reads as it did. -/
def fnExactMaskOkSpec : ChangeSpec := { name := "fnExactMaskOk", fn := fun _ => fun
  | [d1, d2] => { results := [.lit (.bool true)], args := [d1, d2] }
  | _ => none }
def fnExactMaskOkRow : OpenClaim := { program := "ytbcihbelpbefnaa", sum := "db4515a49226db4ae06e0fd74a9d4c3913c226399f3a77430eedfa6c116ea0b3", func := "loop.example/g00990/laws.FnExactMaskOk", spec := "fnExactMaskOk", apart := false }
def FnExactMaskOkSaid : Prop := fnExactMaskOkRow.holds Try.pinned (OpenSpec.ofChange fnExactMaskOkSpec)

/-- ITS FALSE NEIGHBOUR: 'it returns false'. Refute it at one input. -/
def fnExactMaskOkWrong : ChangeSpec := { name := "fnExactMaskOk", fn := fun _ => fun
  | [d1, d2] => { results := [.lit (.bool false)], args := [d1, d2] }
  | _ => none }
def FnExactMaskOkWrongFalsely : Prop := fnExactMaskOkRow.holds Try.pinned (OpenSpec.ofChange fnExactMaskOkWrong)

/-- 'laws.FnExactCountErased': WHATEVER THE INPUT: true; the input reads as it did. -/
def fnExactCountErasedSpec : ChangeSpec := { name := "fnExactCountErased", fn := fun _ => fun
  | [d] => { results := [.lit (.bool true)], args := [d] }
  | _ => none }
def fnExactCountErasedRow : OpenClaim := { program := "ytbcihbelpbefnaa", sum := "db4515a49226db4ae06e0fd74a9d4c3913c226399f3a77430eedfa6c116ea0b3", func := "loop.example/g00990/laws.FnExactCountErased", spec := "fnExactCountErased", apart := false }
def FnExactCountErasedSaid : Prop := fnExactCountErasedRow.holds Try.pinned (OpenSpec.ofChange fnExactCountErasedSpec)

/-- ITS FALSE NEIGHBOUR: 'it returns false'. Refute it at one input. -/
def fnExactCountErasedWrong : ChangeSpec := { name := "fnExactCountErased", fn := fun _ => fun
  | [d] => { results := [.lit (.bool false)], args := [d] }
  | _ => none }
def FnExactCountErasedWrongFalsely : Prop := fnExactCountErasedRow.holds Try.pinned (OpenSpec.ofChange fnExactCountErasedWrong)

/-- 'laws.FnExactSnakeWay': WHATEVER THE INPUT: true; the input reads as it did. -/
def fnExactSnakeWaySpec : ChangeSpec := { name := "fnExactSnakeWay", fn := fun _ => fun
  | [d] => { results := [.lit (.bool true)], args := [d] }
  | _ => none }
def fnExactSnakeWayRow : OpenClaim := { program := "ytbcihbelpbefnaa", sum := "db4515a49226db4ae06e0fd74a9d4c3913c226399f3a77430eedfa6c116ea0b3", func := "loop.example/g00990/laws.FnExactSnakeWay", spec := "fnExactSnakeWay", apart := false }
def FnExactSnakeWaySaid : Prop := fnExactSnakeWayRow.holds Try.pinned (OpenSpec.ofChange fnExactSnakeWaySpec)

/-- ITS FALSE NEIGHBOUR: 'it returns false'. Refute it at one input. -/
def fnExactSnakeWayWrong : ChangeSpec := { name := "fnExactSnakeWay", fn := fun _ => fun
  | [d] => { results := [.lit (.bool false)], args := [d] }
  | _ => none }
def FnExactSnakeWayWrongFalsely : Prop := fnExactSnakeWayRow.holds Try.pinned (OpenSpec.ofChange fnExactSnakeWayWrong)

/-- 'laws.FnExactEraseLoops': WHATEVER THE INPUT: true; the input reads as it did. -/
def fnExactEraseLoopsSpec : ChangeSpec := { name := "fnExactEraseLoops", fn := fun _ => fun
  | [d] => { results := [.lit (.bool true)], args := [d] }
  | _ => none }
def fnExactEraseLoopsRow : OpenClaim := { program := "ytbcihbelpbefnaa", sum := "db4515a49226db4ae06e0fd74a9d4c3913c226399f3a77430eedfa6c116ea0b3", func := "loop.example/g00990/laws.FnExactEraseLoops", spec := "fnExactEraseLoops", apart := false }
def FnExactEraseLoopsSaid : Prop := fnExactEraseLoopsRow.holds Try.pinned (OpenSpec.ofChange fnExactEraseLoopsSpec)

/-- ITS FALSE NEIGHBOUR: 'it returns false'. Refute it at one input. -/
def fnExactEraseLoopsWrong : ChangeSpec := { name := "fnExactEraseLoops", fn := fun _ => fun
  | [d] => { results := [.lit (.bool false)], args := [d] }
  | _ => none }
def FnExactEraseLoopsWrongFalsely : Prop := fnExactEraseLoopsRow.holds Try.pinned (OpenSpec.ofChange fnExactEraseLoopsWrong)

/-- 'laws.FnExactWalkerOk': WHATEVER THE INPUT: true; the input reads as it did. -/
def fnExactWalkerOkSpec : ChangeSpec := { name := "fnExactWalkerOk", fn := fun _ => fun
  | [d1, d2] => { results := [.lit (.bool true)], args := [d1, d2] }
  | _ => none }
def fnExactWalkerOkRow : OpenClaim := { program := "ytbcihbelpbefnaa", sum := "db4515a49226db4ae06e0fd74a9d4c3913c226399f3a77430eedfa6c116ea0b3", func := "loop.example/g00990/laws.FnExactWalkerOk", spec := "fnExactWalkerOk", unfollowed := true, recurses := true, apart := false }
def FnExactWalkerOkSaid : Prop := fnExactWalkerOkRow.holds Try.pinned (OpenSpec.ofChange fnExactWalkerOkSpec)

/-- ITS FALSE NEIGHBOUR: 'it returns false'. Refute it at one input. -/
def fnExactWalkerOkWrong : ChangeSpec := { name := "fnExactWalkerOk", fn := fun _ => fun
  | [d1, d2] => { results := [.lit (.bool false)], args := [d1, d2] }
  | _ => none }
def FnExactWalkerOkWrongFalsely : Prop := fnExactWalkerOkRow.holds Try.pinned (OpenSpec.ofChange fnExactWalkerOkWrong)

/-- 'laws.FnExactSquareOk': WHATEVER THE INPUT: true; the input reads as it did. -/
def fnExactSquareOkSpec : ChangeSpec := { name := "fnExactSquareOk", fn := fun _ => fun
  | [d] => { results := [.lit (.bool true)], args := [d] }
  | _ => none }
def fnExactSquareOkRow : OpenClaim := { program := "ytbcihbelpbefnaa", sum := "db4515a49226db4ae06e0fd74a9d4c3913c226399f3a77430eedfa6c116ea0b3", func := "loop.example/g00990/laws.FnExactSquareOk", spec := "fnExactSquareOk", apart := false }
def FnExactSquareOkSaid : Prop := fnExactSquareOkRow.holds Try.pinned (OpenSpec.ofChange fnExactSquareOkSpec)

/-- ITS FALSE NEIGHBOUR: 'it returns false'. Refute it at one input. -/
def fnExactSquareOkWrong : ChangeSpec := { name := "fnExactSquareOk", fn := fun _ => fun
  | [d] => { results := [.lit (.bool false)], args := [d] }
  | _ => none }
def FnExactSquareOkWrongFalsely : Prop := fnExactSquareOkRow.holds Try.pinned (OpenSpec.ofChange fnExactSquareOkWrong)

/-- 'laws.FnExactFreeCells': WHATEVER THE INPUT: true; the input reads as it did. -/
def fnExactFreeCellsSpec : ChangeSpec := { name := "fnExactFreeCells", fn := fun _ => fun
  | [d1, d2] => { results := [.lit (.bool true)], args := [d1, d2] }
  | _ => none }
def fnExactFreeCellsRow : OpenClaim := { program := "ytbcihbelpbefnaa", sum := "db4515a49226db4ae06e0fd74a9d4c3913c226399f3a77430eedfa6c116ea0b3", func := "loop.example/g00990/laws.FnExactFreeCells", spec := "fnExactFreeCells", unfollowed := true, recurses := true, apart := false }
def FnExactFreeCellsSaid : Prop := fnExactFreeCellsRow.holds Try.pinned (OpenSpec.ofChange fnExactFreeCellsSpec)

/-- ITS FALSE NEIGHBOUR: 'it returns false'. Refute it at one input. -/
def fnExactFreeCellsWrong : ChangeSpec := { name := "fnExactFreeCells", fn := fun _ => fun
  | [d1, d2] => { results := [.lit (.bool false)], args := [d1, d2] }
  | _ => none }
def FnExactFreeCellsWrongFalsely : Prop := fnExactFreeCellsRow.holds Try.pinned (OpenSpec.ofChange fnExactFreeCellsWrong)

/-- 'laws.FnWalls': WHATEVER THE INPUT: true; the input reads as it did. -/
def fnWallsSpec : ChangeSpec := { name := "fnWalls", fn := fun _ => fun
  | [d] => { results := [.lit (.bool true)], args := [d] }
  | _ => none }
def fnWallsRow : OpenClaim := { program := "ytbcihbelpbefnaa", sum := "db4515a49226db4ae06e0fd74a9d4c3913c226399f3a77430eedfa6c116ea0b3", func := "loop.example/g00990/laws.FnWalls", spec := "fnWalls", unfollowed := true, recurses := true, apart := false }
def FnWallsSaid : Prop := fnWallsRow.holds Try.pinned (OpenSpec.ofChange fnWallsSpec)

/-- ITS FALSE NEIGHBOUR: 'it returns false'. Refute it at one input. -/
def fnWallsWrong : ChangeSpec := { name := "fnWalls", fn := fun _ => fun
  | [d] => { results := [.lit (.bool false)], args := [d] }
  | _ => none }
def FnWallsWrongFalsely : Prop := fnWallsRow.holds Try.pinned (OpenSpec.ofChange fnWallsWrong)

/-- 'laws.FnExactMaskedMaze': WHATEVER THE INPUT: true; the input reads as it did. -/
def fnExactMaskedMazeSpec : ChangeSpec := { name := "fnExactMaskedMaze", fn := fun _ => fun
  | [d1, d2] => { results := [.lit (.bool true)], args := [d1, d2] }
  | _ => none }
def fnExactMaskedMazeRow : OpenClaim := { program := "ytbcihbelpbefnaa", sum := "db4515a49226db4ae06e0fd74a9d4c3913c226399f3a77430eedfa6c116ea0b3", func := "loop.example/g00990/laws.FnExactMaskedMaze", spec := "fnExactMaskedMaze", apart := false }
def FnExactMaskedMazeSaid : Prop := fnExactMaskedMazeRow.holds Try.pinned (OpenSpec.ofChange fnExactMaskedMazeSpec)

/-- ITS FALSE NEIGHBOUR: 'it returns false'. Refute it at one input. -/
def fnExactMaskedMazeWrong : ChangeSpec := { name := "fnExactMaskedMaze", fn := fun _ => fun
  | [d1, d2] => { results := [.lit (.bool false)], args := [d1, d2] }
  | _ => none }
def FnExactMaskedMazeWrongFalsely : Prop := fnExactMaskedMazeRow.holds Try.pinned (OpenSpec.ofChange fnExactMaskedMazeWrong)

/-- 'laws.FnExactArrowsOk': WHATEVER THE INPUT: true; the input reads as it did. -/
def fnExactArrowsOkSpec : ChangeSpec := { name := "fnExactArrowsOk", fn := fun _ => fun
  | [d1, d2] => { results := [.lit (.bool true)], args := [d1, d2] }
  | _ => none }
def fnExactArrowsOkRow : OpenClaim := { program := "ytbcihbelpbefnaa", sum := "db4515a49226db4ae06e0fd74a9d4c3913c226399f3a77430eedfa6c116ea0b3", func := "loop.example/g00990/laws.FnExactArrowsOk", spec := "fnExactArrowsOk", unfollowed := true, recurses := true, apart := false }
def FnExactArrowsOkSaid : Prop := fnExactArrowsOkRow.holds Try.pinned (OpenSpec.ofChange fnExactArrowsOkSpec)

/-- ITS FALSE NEIGHBOUR: 'it returns false'. Refute it at one input. -/
def fnExactArrowsOkWrong : ChangeSpec := { name := "fnExactArrowsOk", fn := fun _ => fun
  | [d1, d2] => { results := [.lit (.bool false)], args := [d1, d2] }
  | _ => none }
def FnExactArrowsOkWrongFalsely : Prop := fnExactArrowsOkRow.holds Try.pinned (OpenSpec.ofChange fnExactArrowsOkWrong)

/-- 'laws.FnDeterminants': WHATEVER THE INPUT: true; the input reads as it did. -/
def fnDeterminantsSpec : ChangeSpec := { name := "fnDeterminants", fn := fun _ => fun
  | [d] => { results := [.lit (.bool true)], args := [d] }
  | _ => none }
def fnDeterminantsRow : OpenClaim := { program := "ytbcihbelpbefnaa", sum := "db4515a49226db4ae06e0fd74a9d4c3913c226399f3a77430eedfa6c116ea0b3", func := "loop.example/g00990/laws.FnDeterminants", spec := "fnDeterminants", apart := false }
def FnDeterminantsSaid : Prop := fnDeterminantsRow.holds Try.pinned (OpenSpec.ofChange fnDeterminantsSpec)

/-- ITS FALSE NEIGHBOUR: 'it returns false'. Refute it at one input. -/
def fnDeterminantsWrong : ChangeSpec := { name := "fnDeterminants", fn := fun _ => fun
  | [d] => { results := [.lit (.bool false)], args := [d] }
  | _ => none }
def FnDeterminantsWrongFalsely : Prop := fnDeterminantsRow.holds Try.pinned (OpenSpec.ofChange fnDeterminantsWrong)

/-- 'laws.FnExactGrowMaze': WHATEVER THE INPUT: true; the input reads as it did. -/
def fnExactGrowMazeSpec : ChangeSpec := { name := "fnExactGrowMaze", fn := fun _ => fun
  | [d1, d2] => { results := [.lit (.bool true)], args := [d1, d2] }
  | _ => none }
def fnExactGrowMazeRow : OpenClaim := { program := "ytbcihbelpbefnaa", sum := "db4515a49226db4ae06e0fd74a9d4c3913c226399f3a77430eedfa6c116ea0b3", func := "loop.example/g00990/laws.FnExactGrowMaze", spec := "fnExactGrowMaze", apart := false }
def FnExactGrowMazeSaid : Prop := fnExactGrowMazeRow.holds Try.pinned (OpenSpec.ofChange fnExactGrowMazeSpec)

/-- ITS FALSE NEIGHBOUR: 'it returns false'. Refute it at one input. -/
def fnExactGrowMazeWrong : ChangeSpec := { name := "fnExactGrowMaze", fn := fun _ => fun
  | [d1, d2] => { results := [.lit (.bool false)], args := [d1, d2] }
  | _ => none }
def FnExactGrowMazeWrongFalsely : Prop := fnExactGrowMazeRow.holds Try.pinned (OpenSpec.ofChange fnExactGrowMazeWrong)

/- THE SECOND FORM. 'bulk': how many values and letters a reading holds, each counted each time it is reached (what is shared counts as often as it is met; a slice's spare places count too). A statement '..UptoSaid' is the law's where the arguments, and the package variables that the reading takes, are together of bulk at most 1048576: NARROWER than '..Said'. Prove '..Said' where nothing that the law and all that it calls make is longer than what came in: it says more and counts as full. Else prove '..UptoSaid'. A law counts once. -/
mutual
def uptoBulk {H : Type} : DataW H → Nat
  | .lit (.string bytes) => bytes.length + 1
  | .lit _ => 1
  | .nil => 1
  | .ptr d => uptoBulk d + 1
  | .slice elems spare => uptoBulkAll elems + uptoBulkAll spare + 1
  | .agg parts => uptoBulkAll parts + 1
  | .iface _ d => uptoBulk d + 1
  | .map entries => uptoBulkEntries entries + 1
  | .held _ => 1
def uptoBulkAll {H : Type} : List (DataW H) → Nat
  | [] => 0
  | d :: r => uptoBulk d + uptoBulkAll r
def uptoBulkEntries {H : Type} : List (Lit × DataW H) → Nat
  | [] => 0
  | x :: r => uptoBulkEntry x + uptoBulkEntries r
def uptoBulkEntry {H : Type} : Lit × DataW H → Nat
  | (.string bytes, d) => bytes.length + uptoBulk d + 1
  | (_, d) => uptoBulk d + 1
 end
def uptoSmall : (H : Type) → List (DataW H) → Bool := fun _ ds => decide (uptoBulkAll ds ≤ 1048576)
def OpenSpec.upto (s : _root_.Go.ChangeSpec) : _root_.Go.OpenSpec := { _root_.Go.OpenSpec.ofChange s with cond := some uptoSmall }

/-- 'laws.FnExactMaskOk', WHERE WHAT IT READS IS OF BULK AT MOST 1048576: true; the input reads as it did. -/
def fnExactMaskOkUptoRow : OpenClaim := { program := "ytbcihbelpbefnaa", sum := "db4515a49226db4ae06e0fd74a9d4c3913c226399f3a77430eedfa6c116ea0b3", func := "loop.example/g00990/laws.FnExactMaskOk", spec := "fnExactMaskOk", apart := false, narrowed := true }
def FnExactMaskOkUptoSaid : Prop := fnExactMaskOkUptoRow.holds Try.pinned (OpenSpec.upto fnExactMaskOkSpec)

/-- 'laws.FnExactCountErased', WHERE WHAT IT READS IS OF BULK AT MOST 1048576: true; the input reads as it did. -/
def fnExactCountErasedUptoRow : OpenClaim := { program := "ytbcihbelpbefnaa", sum := "db4515a49226db4ae06e0fd74a9d4c3913c226399f3a77430eedfa6c116ea0b3", func := "loop.example/g00990/laws.FnExactCountErased", spec := "fnExactCountErased", apart := false, narrowed := true }
def FnExactCountErasedUptoSaid : Prop := fnExactCountErasedUptoRow.holds Try.pinned (OpenSpec.upto fnExactCountErasedSpec)

/-- 'laws.FnExactSnakeWay', WHERE WHAT IT READS IS OF BULK AT MOST 1048576: true; the input reads as it did. -/
def fnExactSnakeWayUptoRow : OpenClaim := { program := "ytbcihbelpbefnaa", sum := "db4515a49226db4ae06e0fd74a9d4c3913c226399f3a77430eedfa6c116ea0b3", func := "loop.example/g00990/laws.FnExactSnakeWay", spec := "fnExactSnakeWay", apart := false, narrowed := true }
def FnExactSnakeWayUptoSaid : Prop := fnExactSnakeWayUptoRow.holds Try.pinned (OpenSpec.upto fnExactSnakeWaySpec)

/-- 'laws.FnExactEraseLoops', WHERE WHAT IT READS IS OF BULK AT MOST 1048576: true; the input reads as it did. -/
def fnExactEraseLoopsUptoRow : OpenClaim := { program := "ytbcihbelpbefnaa", sum := "db4515a49226db4ae06e0fd74a9d4c3913c226399f3a77430eedfa6c116ea0b3", func := "loop.example/g00990/laws.FnExactEraseLoops", spec := "fnExactEraseLoops", apart := false, narrowed := true }
def FnExactEraseLoopsUptoSaid : Prop := fnExactEraseLoopsUptoRow.holds Try.pinned (OpenSpec.upto fnExactEraseLoopsSpec)

/-- 'laws.FnExactWalkerOk', WHERE WHAT IT READS IS OF BULK AT MOST 1048576: true; the input reads as it did. -/
def fnExactWalkerOkUptoRow : OpenClaim := { program := "ytbcihbelpbefnaa", sum := "db4515a49226db4ae06e0fd74a9d4c3913c226399f3a77430eedfa6c116ea0b3", func := "loop.example/g00990/laws.FnExactWalkerOk", spec := "fnExactWalkerOk", unfollowed := true, recurses := true, apart := false, narrowed := true }
def FnExactWalkerOkUptoSaid : Prop := fnExactWalkerOkUptoRow.holds Try.pinned (OpenSpec.upto fnExactWalkerOkSpec)

/-- 'laws.FnExactSquareOk', WHERE WHAT IT READS IS OF BULK AT MOST 1048576: true; the input reads as it did. -/
def fnExactSquareOkUptoRow : OpenClaim := { program := "ytbcihbelpbefnaa", sum := "db4515a49226db4ae06e0fd74a9d4c3913c226399f3a77430eedfa6c116ea0b3", func := "loop.example/g00990/laws.FnExactSquareOk", spec := "fnExactSquareOk", apart := false, narrowed := true }
def FnExactSquareOkUptoSaid : Prop := fnExactSquareOkUptoRow.holds Try.pinned (OpenSpec.upto fnExactSquareOkSpec)

/-- 'laws.FnExactFreeCells', WHERE WHAT IT READS IS OF BULK AT MOST 1048576: true; the input reads as it did. -/
def fnExactFreeCellsUptoRow : OpenClaim := { program := "ytbcihbelpbefnaa", sum := "db4515a49226db4ae06e0fd74a9d4c3913c226399f3a77430eedfa6c116ea0b3", func := "loop.example/g00990/laws.FnExactFreeCells", spec := "fnExactFreeCells", unfollowed := true, recurses := true, apart := false, narrowed := true }
def FnExactFreeCellsUptoSaid : Prop := fnExactFreeCellsUptoRow.holds Try.pinned (OpenSpec.upto fnExactFreeCellsSpec)

/-- 'laws.FnWalls', WHERE WHAT IT READS IS OF BULK AT MOST 1048576: true; the input reads as it did. -/
def fnWallsUptoRow : OpenClaim := { program := "ytbcihbelpbefnaa", sum := "db4515a49226db4ae06e0fd74a9d4c3913c226399f3a77430eedfa6c116ea0b3", func := "loop.example/g00990/laws.FnWalls", spec := "fnWalls", unfollowed := true, recurses := true, apart := false, narrowed := true }
def FnWallsUptoSaid : Prop := fnWallsUptoRow.holds Try.pinned (OpenSpec.upto fnWallsSpec)

/-- 'laws.FnExactMaskedMaze', WHERE WHAT IT READS IS OF BULK AT MOST 1048576: true; the input reads as it did. -/
def fnExactMaskedMazeUptoRow : OpenClaim := { program := "ytbcihbelpbefnaa", sum := "db4515a49226db4ae06e0fd74a9d4c3913c226399f3a77430eedfa6c116ea0b3", func := "loop.example/g00990/laws.FnExactMaskedMaze", spec := "fnExactMaskedMaze", apart := false, narrowed := true }
def FnExactMaskedMazeUptoSaid : Prop := fnExactMaskedMazeUptoRow.holds Try.pinned (OpenSpec.upto fnExactMaskedMazeSpec)

/-- 'laws.FnExactArrowsOk', WHERE WHAT IT READS IS OF BULK AT MOST 1048576: true; the input reads as it did. -/
def fnExactArrowsOkUptoRow : OpenClaim := { program := "ytbcihbelpbefnaa", sum := "db4515a49226db4ae06e0fd74a9d4c3913c226399f3a77430eedfa6c116ea0b3", func := "loop.example/g00990/laws.FnExactArrowsOk", spec := "fnExactArrowsOk", unfollowed := true, recurses := true, apart := false, narrowed := true }
def FnExactArrowsOkUptoSaid : Prop := fnExactArrowsOkUptoRow.holds Try.pinned (OpenSpec.upto fnExactArrowsOkSpec)

/-- 'laws.FnDeterminants', WHERE WHAT IT READS IS OF BULK AT MOST 1048576: true; the input reads as it did. -/
def fnDeterminantsUptoRow : OpenClaim := { program := "ytbcihbelpbefnaa", sum := "db4515a49226db4ae06e0fd74a9d4c3913c226399f3a77430eedfa6c116ea0b3", func := "loop.example/g00990/laws.FnDeterminants", spec := "fnDeterminants", apart := false, narrowed := true }
def FnDeterminantsUptoSaid : Prop := fnDeterminantsUptoRow.holds Try.pinned (OpenSpec.upto fnDeterminantsSpec)

/-- 'laws.FnExactGrowMaze', WHERE WHAT IT READS IS OF BULK AT MOST 1048576: true; the input reads as it did. -/
def fnExactGrowMazeUptoRow : OpenClaim := { program := "ytbcihbelpbefnaa", sum := "db4515a49226db4ae06e0fd74a9d4c3913c226399f3a77430eedfa6c116ea0b3", func := "loop.example/g00990/laws.FnExactGrowMaze", spec := "fnExactGrowMaze", apart := false, narrowed := true }
def FnExactGrowMazeUptoSaid : Prop := fnExactGrowMazeUptoRow.holds Try.pinned (OpenSpec.upto fnExactGrowMazeSpec)

end Rows
end Go.Proofs.Ytbcihbelpbefnaa
