/-
  No cell of these rows narrows 'for every input' (looked for: loops, veiled, ifaces, maps, wideKeys, modest, calm, conditions, laid).
  DERIVED. THE GIVEN ROWS OF THIS SEAT. 13 by the template 'for every input the law returns true; each argument reads behind the call as it read before'; 0 by the template 'total and deterministic' (their statements: YtoohcdfokejkdaaTotals.lean).
  GIVEN WITH THE SEED: the statements are not yours to turn. If you find one false, say at which input.
  Laid BY PROGRAM, IN A SANDBOX (cutbox-rows.mjs): the forced cells as the released guide's own fill.sh prints them over the translation 122de9118fa1fe5c… (all of the seat's roots in one cut). By AI agents, Wed Nov 11 2026. No macro, syntax, notation, axiom, sorry.
-/
import Derived.Test.YtoohcdfokejkdaaChecked
import GoSem.Claim
import GoSem.ClaimJoined
import GoSem.ClaimMapViews
import Derived.JoinedTies
import Derived.KernelRfl
namespace Go.Proofs.Ytoohcdfokejkdaa
/- THE CELL 'sum', in the pinned program and in every row, IS THE sha256 OF THE DUMP (.gsa) THAT YtoohcdfokejkdaaProg.lean LOADS. Nothing in Lean hashes anything: it is a label: what it is worth is what the hold of that sum in a sandbox is worth. -/
noncomputable def Try.pinned : Pinned := { name := "ytoohcdfokejkdaa", sum := "122de9118fa1fe5c65693099de2e1b8709b62f657289f933b6218d6319e742e8", checked := Try.checked }
namespace Rows
def none {H : Type} : Left H := { results := [], args := [] }

/-- 'laws.FnDeterminants': WHATEVER THE INPUT: true; the input reads as it did. -/
def fnDeterminantsSpec : ChangeSpec := { name := "fnDeterminants", fn := fun _ => fun
  | [d] => { results := [.lit (.bool true)], args := [d] }
  | _ => none }
def fnDeterminantsRow : OpenClaim := { program := "ytoohcdfokejkdaa", sum := "122de9118fa1fe5c65693099de2e1b8709b62f657289f933b6218d6319e742e8", func := "loop.example/g00990/laws.FnDeterminants", spec := "fnDeterminants", apart := false }
def FnDeterminantsSaid : Prop := fnDeterminantsRow.holds Try.pinned (OpenSpec.ofChange fnDeterminantsSpec)

/-- ITS FALSE NEIGHBOUR: 'it returns false'. Refute it at one input. -/
def fnDeterminantsWrong : ChangeSpec := { name := "fnDeterminants", fn := fun _ => fun
  | [d] => { results := [.lit (.bool false)], args := [d] }
  | _ => none }
def FnDeterminantsWrongFalsely : Prop := fnDeterminantsRow.holds Try.pinned (OpenSpec.ofChange fnDeterminantsWrong)

/-- 'laws.FnExactWithoutRow': WHATEVER THE INPUT: true; the input reads as it did. -/
def fnExactWithoutRowSpec : ChangeSpec := { name := "fnExactWithoutRow", fn := fun _ => fun
  | [d1, d2] => { results := [.lit (.bool true)], args := [d1, d2] }
  | _ => none }
def fnExactWithoutRowRow : OpenClaim := { program := "ytoohcdfokejkdaa", sum := "122de9118fa1fe5c65693099de2e1b8709b62f657289f933b6218d6319e742e8", func := "loop.example/g00990/laws.FnExactWithoutRow", spec := "fnExactWithoutRow", apart := false }
def FnExactWithoutRowSaid : Prop := fnExactWithoutRowRow.holds Try.pinned (OpenSpec.ofChange fnExactWithoutRowSpec)

/-- ITS FALSE NEIGHBOUR: 'it returns false'. Refute it at one input. -/
def fnExactWithoutRowWrong : ChangeSpec := { name := "fnExactWithoutRow", fn := fun _ => fun
  | [d1, d2] => { results := [.lit (.bool false)], args := [d1, d2] }
  | _ => none }
def FnExactWithoutRowWrongFalsely : Prop := fnExactWithoutRowRow.holds Try.pinned (OpenSpec.ofChange fnExactWithoutRowWrong)

/-- 'laws.FnExactLaplaceOf': WHATEVER THE INPUT: true; the input reads as it did. -/
def fnExactLaplaceOfSpec : ChangeSpec := { name := "fnExactLaplaceOf", fn := fun _ => fun
  | [d] => { results := [.lit (.bool true)], args := [d] }
  | _ => none }
def fnExactLaplaceOfRow : OpenClaim := { program := "ytoohcdfokejkdaa", sum := "122de9118fa1fe5c65693099de2e1b8709b62f657289f933b6218d6319e742e8", func := "loop.example/g00990/laws.FnExactLaplaceOf", spec := "fnExactLaplaceOf", apart := false }
def FnExactLaplaceOfSaid : Prop := fnExactLaplaceOfRow.holds Try.pinned (OpenSpec.ofChange fnExactLaplaceOfSpec)

/-- ITS FALSE NEIGHBOUR: 'it returns false'. Refute it at one input. -/
def fnExactLaplaceOfWrong : ChangeSpec := { name := "fnExactLaplaceOf", fn := fun _ => fun
  | [d] => { results := [.lit (.bool false)], args := [d] }
  | _ => none }
def FnExactLaplaceOfWrongFalsely : Prop := fnExactLaplaceOfRow.holds Try.pinned (OpenSpec.ofChange fnExactLaplaceOfWrong)

/-- 'laws.FnCounts': WHATEVER THE INPUT: true; the input reads as it did. -/
def fnCountsSpec : ChangeSpec := { name := "fnCounts", fn := fun _ => fun
  | [d] => { results := [.lit (.bool true)], args := [d] }
  | _ => none }
def fnCountsRow : OpenClaim := { program := "ytoohcdfokejkdaa", sum := "122de9118fa1fe5c65693099de2e1b8709b62f657289f933b6218d6319e742e8", func := "loop.example/g00990/laws.FnCounts", spec := "fnCounts", unfollowed := true, recurses := true, apart := false }
def FnCountsSaid : Prop := fnCountsRow.holds Try.pinned (OpenSpec.ofChange fnCountsSpec)

/-- ITS FALSE NEIGHBOUR: 'it returns false'. Refute it at one input. -/
def fnCountsWrong : ChangeSpec := { name := "fnCounts", fn := fun _ => fun
  | [d] => { results := [.lit (.bool false)], args := [d] }
  | _ => none }
def FnCountsWrongFalsely : Prop := fnCountsRow.holds Try.pinned (OpenSpec.ofChange fnCountsWrong)

/-- 'laws.FnExactCountFixed': WHATEVER THE INPUT: true; the input reads as it did. -/
def fnExactCountFixedSpec : ChangeSpec := { name := "fnExactCountFixed", fn := fun _ => fun
  | [d1, d2, d3] => { results := [.lit (.bool true)], args := [d1, d2, d3] }
  | _ => none }
def fnExactCountFixedRow : OpenClaim := { program := "ytoohcdfokejkdaa", sum := "122de9118fa1fe5c65693099de2e1b8709b62f657289f933b6218d6319e742e8", func := "loop.example/g00990/laws.FnExactCountFixed", spec := "fnExactCountFixed", unfollowed := true, recurses := true, apart := false }
def FnExactCountFixedSaid : Prop := fnExactCountFixedRow.holds Try.pinned (OpenSpec.ofChange fnExactCountFixedSpec)

/-- ITS FALSE NEIGHBOUR: 'it returns false'. Refute it at one input. -/
def fnExactCountFixedWrong : ChangeSpec := { name := "fnExactCountFixed", fn := fun _ => fun
  | [d1, d2, d3] => { results := [.lit (.bool false)], args := [d1, d2, d3] }
  | _ => none }
def FnExactCountFixedWrongFalsely : Prop := fnExactCountFixedRow.holds Try.pinned (OpenSpec.ofChange fnExactCountFixedWrong)

/-- 'laws.FnExactCountAll': WHATEVER THE INPUT: true; the input reads as it did. -/
def fnExactCountAllSpec : ChangeSpec := { name := "fnExactCountAll", fn := fun _ => fun
  | [d] => { results := [.lit (.bool true)], args := [d] }
  | _ => none }
def fnExactCountAllRow : OpenClaim := { program := "ytoohcdfokejkdaa", sum := "122de9118fa1fe5c65693099de2e1b8709b62f657289f933b6218d6319e742e8", func := "loop.example/g00990/laws.FnExactCountAll", spec := "fnExactCountAll", unfollowed := true, recurses := true, apart := false }
def FnExactCountAllSaid : Prop := fnExactCountAllRow.holds Try.pinned (OpenSpec.ofChange fnExactCountAllSpec)

/-- ITS FALSE NEIGHBOUR: 'it returns false'. Refute it at one input. -/
def fnExactCountAllWrong : ChangeSpec := { name := "fnExactCountAll", fn := fun _ => fun
  | [d] => { results := [.lit (.bool false)], args := [d] }
  | _ => none }
def FnExactCountAllWrongFalsely : Prop := fnExactCountAllRow.holds Try.pinned (OpenSpec.ofChange fnExactCountAllWrong)

/-- 'laws.FnExactCountTrees': WHATEVER THE INPUT: true; the input reads as it did. -/
def fnExactCountTreesSpec : ChangeSpec := { name := "fnExactCountTrees", fn := fun _ => fun
  | [d] => { results := [.lit (.bool true)], args := [d] }
  | _ => none }
def fnExactCountTreesRow : OpenClaim := { program := "ytoohcdfokejkdaa", sum := "122de9118fa1fe5c65693099de2e1b8709b62f657289f933b6218d6319e742e8", func := "loop.example/g00990/laws.FnExactCountTrees", spec := "fnExactCountTrees", unfollowed := true, recurses := true, apart := false }
def FnExactCountTreesSaid : Prop := fnExactCountTreesRow.holds Try.pinned (OpenSpec.ofChange fnExactCountTreesSpec)

/-- ITS FALSE NEIGHBOUR: 'it returns false'. Refute it at one input. -/
def fnExactCountTreesWrong : ChangeSpec := { name := "fnExactCountTrees", fn := fun _ => fun
  | [d] => { results := [.lit (.bool false)], args := [d] }
  | _ => none }
def FnExactCountTreesWrongFalsely : Prop := fnExactCountTreesRow.holds Try.pinned (OpenSpec.ofChange fnExactCountTreesWrong)

/-- 'laws.FnNumbered': WHATEVER THE INPUT: true; the input reads as it did. -/
def fnNumberedSpec : ChangeSpec := { name := "fnNumbered", fn := fun _ => fun
  | [d] => { results := [.lit (.bool true)], args := [d] }
  | _ => none }
def fnNumberedRow : OpenClaim := { program := "ytoohcdfokejkdaa", sum := "122de9118fa1fe5c65693099de2e1b8709b62f657289f933b6218d6319e742e8", func := "loop.example/g00990/laws.FnNumbered", spec := "fnNumbered", unfollowed := true, recurses := true, apart := false }
def FnNumberedSaid : Prop := fnNumberedRow.holds Try.pinned (OpenSpec.ofChange fnNumberedSpec)

/-- ITS FALSE NEIGHBOUR: 'it returns false'. Refute it at one input. -/
def fnNumberedWrong : ChangeSpec := { name := "fnNumbered", fn := fun _ => fun
  | [d] => { results := [.lit (.bool false)], args := [d] }
  | _ => none }
def FnNumberedWrongFalsely : Prop := fnNumberedRow.holds Try.pinned (OpenSpec.ofChange fnNumberedWrong)

/-- 'laws.FnExactMazeAt': WHATEVER THE INPUT: true; the input reads as it did. -/
def fnExactMazeAtSpec : ChangeSpec := { name := "fnExactMazeAt", fn := fun _ => fun
  | [d1, d2] => { results := [.lit (.bool true)], args := [d1, d2] }
  | _ => none }
def fnExactMazeAtRow : OpenClaim := { program := "ytoohcdfokejkdaa", sum := "122de9118fa1fe5c65693099de2e1b8709b62f657289f933b6218d6319e742e8", func := "loop.example/g00990/laws.FnExactMazeAt", spec := "fnExactMazeAt", unfollowed := true, recurses := true, apart := false }
def FnExactMazeAtSaid : Prop := fnExactMazeAtRow.holds Try.pinned (OpenSpec.ofChange fnExactMazeAtSpec)

/-- ITS FALSE NEIGHBOUR: 'it returns false'. Refute it at one input. -/
def fnExactMazeAtWrong : ChangeSpec := { name := "fnExactMazeAt", fn := fun _ => fun
  | [d1, d2] => { results := [.lit (.bool false)], args := [d1, d2] }
  | _ => none }
def FnExactMazeAtWrongFalsely : Prop := fnExactMazeAtRow.holds Try.pinned (OpenSpec.ofChange fnExactMazeAtWrong)

/-- 'laws.FnTreeCounts': WHATEVER THE INPUT: true; the input reads as it did. -/
def fnTreeCountsSpec : ChangeSpec := { name := "fnTreeCounts", fn := fun _ => fun
  | [d] => { results := [.lit (.bool true)], args := [d] }
  | _ => none }
def fnTreeCountsRow : OpenClaim := { program := "ytoohcdfokejkdaa", sum := "122de9118fa1fe5c65693099de2e1b8709b62f657289f933b6218d6319e742e8", func := "loop.example/g00990/laws.FnTreeCounts", spec := "fnTreeCounts", unfollowed := true, recurses := true, apart := false }
def FnTreeCountsSaid : Prop := fnTreeCountsRow.holds Try.pinned (OpenSpec.ofChange fnTreeCountsSpec)

/-- ITS FALSE NEIGHBOUR: 'it returns false'. Refute it at one input. -/
def fnTreeCountsWrong : ChangeSpec := { name := "fnTreeCounts", fn := fun _ => fun
  | [d] => { results := [.lit (.bool false)], args := [d] }
  | _ => none }
def FnTreeCountsWrongFalsely : Prop := fnTreeCountsRow.holds Try.pinned (OpenSpec.ofChange fnTreeCountsWrong)

/-- 'laws.FnExactCountWith': WHATEVER THE INPUT: true; the input reads as it did. -/
def fnExactCountWithSpec : ChangeSpec := { name := "fnExactCountWith", fn := fun _ => fun
  | [d1, d2] => { results := [.lit (.bool true)], args := [d1, d2] }
  | _ => none }
def fnExactCountWithRow : OpenClaim := { program := "ytoohcdfokejkdaa", sum := "122de9118fa1fe5c65693099de2e1b8709b62f657289f933b6218d6319e742e8", func := "loop.example/g00990/laws.FnExactCountWith", spec := "fnExactCountWith", unfollowed := true, recurses := true, apart := false }
def FnExactCountWithSaid : Prop := fnExactCountWithRow.holds Try.pinned (OpenSpec.ofChange fnExactCountWithSpec)

/-- ITS FALSE NEIGHBOUR: 'it returns false'. Refute it at one input. -/
def fnExactCountWithWrong : ChangeSpec := { name := "fnExactCountWith", fn := fun _ => fun
  | [d1, d2] => { results := [.lit (.bool false)], args := [d1, d2] }
  | _ => none }
def FnExactCountWithWrongFalsely : Prop := fnExactCountWithRow.holds Try.pinned (OpenSpec.ofChange fnExactCountWithWrong)

/-- 'laws.FnExactNumberOf': WHATEVER THE INPUT: true; the input reads as it did. -/
def fnExactNumberOfSpec : ChangeSpec := { name := "fnExactNumberOf", fn := fun _ => fun
  | [d] => { results := [.lit (.bool true)], args := [d] }
  | _ => none }
def fnExactNumberOfRow : OpenClaim := { program := "ytoohcdfokejkdaa", sum := "122de9118fa1fe5c65693099de2e1b8709b62f657289f933b6218d6319e742e8", func := "loop.example/g00990/laws.FnExactNumberOf", spec := "fnExactNumberOf", unfollowed := true, recurses := true, apart := false }
def FnExactNumberOfSaid : Prop := fnExactNumberOfRow.holds Try.pinned (OpenSpec.ofChange fnExactNumberOfSpec)

/-- ITS FALSE NEIGHBOUR: 'it returns false'. Refute it at one input. -/
def fnExactNumberOfWrong : ChangeSpec := { name := "fnExactNumberOf", fn := fun _ => fun
  | [d] => { results := [.lit (.bool false)], args := [d] }
  | _ => none }
def FnExactNumberOfWrongFalsely : Prop := fnExactNumberOfRow.holds Try.pinned (OpenSpec.ofChange fnExactNumberOfWrong)

/-- 'laws.FnExactNextMaze': WHATEVER THE INPUT: true; the input reads as it did. -/
def fnExactNextMazeSpec : ChangeSpec := { name := "fnExactNextMaze", fn := fun _ => fun
  | [d] => { results := [.lit (.bool true)], args := [d] }
  | _ => none }
def fnExactNextMazeRow : OpenClaim := { program := "ytoohcdfokejkdaa", sum := "122de9118fa1fe5c65693099de2e1b8709b62f657289f933b6218d6319e742e8", func := "loop.example/g00990/laws.FnExactNextMaze", spec := "fnExactNextMaze", unfollowed := true, recurses := true, apart := false }
def FnExactNextMazeSaid : Prop := fnExactNextMazeRow.holds Try.pinned (OpenSpec.ofChange fnExactNextMazeSpec)

/-- ITS FALSE NEIGHBOUR: 'it returns false'. Refute it at one input. -/
def fnExactNextMazeWrong : ChangeSpec := { name := "fnExactNextMaze", fn := fun _ => fun
  | [d] => { results := [.lit (.bool false)], args := [d] }
  | _ => none }
def FnExactNextMazeWrongFalsely : Prop := fnExactNextMazeRow.holds Try.pinned (OpenSpec.ofChange fnExactNextMazeWrong)

/- THE SECOND FORM. 'bulk': how many values and letters a reading holds, each counted each time it is reached (what is shared counts as often as it is met; a slice's spare places count too). A statement '..UptoSaid' is the law's where the arguments, and the package variables that the reading takes, are together of bulk at most 1048576: NARROWER than '..Said'. Prove '..Said' where nothing that the law and all that it calls make is longer than what came in: it says more and counts as full. Else prove '..UptoSaid'. A law counts once. -/
mutual
def uptoBulk {H : Type} : DataW H → Nat
  | .lit (.string bytes) => bytes.length + 1
  | .lit _ => 1
  | .nil => 1
  | .ptr d => uptoBulk d + 1
  | .slice elems spare => uptoBulkAll elems + uptoBulkAll spare + 1
  | .agg parts => uptoBulkAll parts + 1
  | .iface _ d => uptoBulk d + 1
  | .map entries => uptoBulkEntries entries + 1
  | .held _ => 1
def uptoBulkAll {H : Type} : List (DataW H) → Nat
  | [] => 0
  | d :: r => uptoBulk d + uptoBulkAll r
def uptoBulkEntries {H : Type} : List (Lit × DataW H) → Nat
  | [] => 0
  | x :: r => uptoBulkEntry x + uptoBulkEntries r
def uptoBulkEntry {H : Type} : Lit × DataW H → Nat
  | (.string bytes, d) => bytes.length + uptoBulk d + 1
  | (_, d) => uptoBulk d + 1
 end
def uptoSmall : (H : Type) → List (DataW H) → Bool := fun _ ds => decide (uptoBulkAll ds ≤ 1048576)
def OpenSpec.upto (s : _root_.Go.ChangeSpec) : _root_.Go.OpenSpec := { _root_.Go.OpenSpec.ofChange s with cond := some uptoSmall }

/-- 'laws.FnDeterminants', WHERE WHAT IT READS IS OF BULK AT MOST 1048576: true; the input reads as it did. -/
def fnDeterminantsUptoRow : OpenClaim := { program := "ytoohcdfokejkdaa", sum := "122de9118fa1fe5c65693099de2e1b8709b62f657289f933b6218d6319e742e8", func := "loop.example/g00990/laws.FnDeterminants", spec := "fnDeterminants", apart := false, narrowed := true }
def FnDeterminantsUptoSaid : Prop := fnDeterminantsUptoRow.holds Try.pinned (OpenSpec.upto fnDeterminantsSpec)

/-- 'laws.FnExactWithoutRow', WHERE WHAT IT READS IS OF BULK AT MOST 1048576: true; the input reads as it did. -/
def fnExactWithoutRowUptoRow : OpenClaim := { program := "ytoohcdfokejkdaa", sum := "122de9118fa1fe5c65693099de2e1b8709b62f657289f933b6218d6319e742e8", func := "loop.example/g00990/laws.FnExactWithoutRow", spec := "fnExactWithoutRow", apart := false, narrowed := true }
def FnExactWithoutRowUptoSaid : Prop := fnExactWithoutRowUptoRow.holds Try.pinned (OpenSpec.upto fnExactWithoutRowSpec)

/-- 'laws.FnExactLaplaceOf', WHERE WHAT IT READS IS OF BULK AT MOST 1048576: true; the input reads as it did. -/
def fnExactLaplaceOfUptoRow : OpenClaim := { program := "ytoohcdfokejkdaa", sum := "122de9118fa1fe5c65693099de2e1b8709b62f657289f933b6218d6319e742e8", func := "loop.example/g00990/laws.FnExactLaplaceOf", spec := "fnExactLaplaceOf", apart := false, narrowed := true }
def FnExactLaplaceOfUptoSaid : Prop := fnExactLaplaceOfUptoRow.holds Try.pinned (OpenSpec.upto fnExactLaplaceOfSpec)

/-- 'laws.FnCounts', WHERE WHAT IT READS IS OF BULK AT MOST 1048576: true; the input reads as it did. -/
def fnCountsUptoRow : OpenClaim := { program := "ytoohcdfokejkdaa", sum := "122de9118fa1fe5c65693099de2e1b8709b62f657289f933b6218d6319e742e8", func := "loop.example/g00990/laws.FnCounts", spec := "fnCounts", unfollowed := true, recurses := true, apart := false, narrowed := true }
def FnCountsUptoSaid : Prop := fnCountsUptoRow.holds Try.pinned (OpenSpec.upto fnCountsSpec)

/-- 'laws.FnExactCountFixed', WHERE WHAT IT READS IS OF BULK AT MOST 1048576: true; the input reads as it did. -/
def fnExactCountFixedUptoRow : OpenClaim := { program := "ytoohcdfokejkdaa", sum := "122de9118fa1fe5c65693099de2e1b8709b62f657289f933b6218d6319e742e8", func := "loop.example/g00990/laws.FnExactCountFixed", spec := "fnExactCountFixed", unfollowed := true, recurses := true, apart := false, narrowed := true }
def FnExactCountFixedUptoSaid : Prop := fnExactCountFixedUptoRow.holds Try.pinned (OpenSpec.upto fnExactCountFixedSpec)

/-- 'laws.FnExactCountAll', WHERE WHAT IT READS IS OF BULK AT MOST 1048576: true; the input reads as it did. -/
def fnExactCountAllUptoRow : OpenClaim := { program := "ytoohcdfokejkdaa", sum := "122de9118fa1fe5c65693099de2e1b8709b62f657289f933b6218d6319e742e8", func := "loop.example/g00990/laws.FnExactCountAll", spec := "fnExactCountAll", unfollowed := true, recurses := true, apart := false, narrowed := true }
def FnExactCountAllUptoSaid : Prop := fnExactCountAllUptoRow.holds Try.pinned (OpenSpec.upto fnExactCountAllSpec)

/-- 'laws.FnExactCountTrees', WHERE WHAT IT READS IS OF BULK AT MOST 1048576: true; the input reads as it did. -/
def fnExactCountTreesUptoRow : OpenClaim := { program := "ytoohcdfokejkdaa", sum := "122de9118fa1fe5c65693099de2e1b8709b62f657289f933b6218d6319e742e8", func := "loop.example/g00990/laws.FnExactCountTrees", spec := "fnExactCountTrees", unfollowed := true, recurses := true, apart := false, narrowed := true }
def FnExactCountTreesUptoSaid : Prop := fnExactCountTreesUptoRow.holds Try.pinned (OpenSpec.upto fnExactCountTreesSpec)

/-- 'laws.FnNumbered', WHERE WHAT IT READS IS OF BULK AT MOST 1048576: true; the input reads as it did. -/
def fnNumberedUptoRow : OpenClaim := { program := "ytoohcdfokejkdaa", sum := "122de9118fa1fe5c65693099de2e1b8709b62f657289f933b6218d6319e742e8", func := "loop.example/g00990/laws.FnNumbered", spec := "fnNumbered", unfollowed := true, recurses := true, apart := false, narrowed := true }
def FnNumberedUptoSaid : Prop := fnNumberedUptoRow.holds Try.pinned (OpenSpec.upto fnNumberedSpec)

/-- 'laws.FnExactMazeAt', WHERE WHAT IT READS IS OF BULK AT MOST 1048576: true; the input reads as it did. -/
def fnExactMazeAtUptoRow : OpenClaim := { program := "ytoohcdfokejkdaa", sum := "122de9118fa1fe5c65693099de2e1b8709b62f657289f933b6218d6319e742e8", func := "loop.example/g00990/laws.FnExactMazeAt", spec := "fnExactMazeAt", unfollowed := true, recurses := true, apart := false, narrowed := true }
def FnExactMazeAtUptoSaid : Prop := fnExactMazeAtUptoRow.holds Try.pinned (OpenSpec.upto fnExactMazeAtSpec)

/-- 'laws.FnTreeCounts', WHERE WHAT IT READS IS OF BULK AT MOST 1048576: true; the input reads as it did. -/
def fnTreeCountsUptoRow : OpenClaim := { program := "ytoohcdfokejkdaa", sum := "122de9118fa1fe5c65693099de2e1b8709b62f657289f933b6218d6319e742e8", func := "loop.example/g00990/laws.FnTreeCounts", spec := "fnTreeCounts", unfollowed := true, recurses := true, apart := false, narrowed := true }
def FnTreeCountsUptoSaid : Prop := fnTreeCountsUptoRow.holds Try.pinned (OpenSpec.upto fnTreeCountsSpec)

/-- 'laws.FnExactCountWith', WHERE WHAT IT READS IS OF BULK AT MOST 1048576: true; the input reads as it did. -/
def fnExactCountWithUptoRow : OpenClaim := { program := "ytoohcdfokejkdaa", sum := "122de9118fa1fe5c65693099de2e1b8709b62f657289f933b6218d6319e742e8", func := "loop.example/g00990/laws.FnExactCountWith", spec := "fnExactCountWith", unfollowed := true, recurses := true, apart := false, narrowed := true }
def FnExactCountWithUptoSaid : Prop := fnExactCountWithUptoRow.holds Try.pinned (OpenSpec.upto fnExactCountWithSpec)

/-- 'laws.FnExactNumberOf', WHERE WHAT IT READS IS OF BULK AT MOST 1048576: true; the input reads as it did. -/
def fnExactNumberOfUptoRow : OpenClaim := { program := "ytoohcdfokejkdaa", sum := "122de9118fa1fe5c65693099de2e1b8709b62f657289f933b6218d6319e742e8", func := "loop.example/g00990/laws.FnExactNumberOf", spec := "fnExactNumberOf", unfollowed := true, recurses := true, apart := false, narrowed := true }
def FnExactNumberOfUptoSaid : Prop := fnExactNumberOfUptoRow.holds Try.pinned (OpenSpec.upto fnExactNumberOfSpec)

/-- 'laws.FnExactNextMaze', WHERE WHAT IT READS IS OF BULK AT MOST 1048576: true; the input reads as it did. -/
def fnExactNextMazeUptoRow : OpenClaim := { program := "ytoohcdfokejkdaa", sum := "122de9118fa1fe5c65693099de2e1b8709b62f657289f933b6218d6319e742e8", func := "loop.example/g00990/laws.FnExactNextMaze", spec := "fnExactNextMaze", unfollowed := true, recurses := true, apart := false, narrowed := true }
def FnExactNextMazeUptoSaid : Prop := fnExactNextMazeUptoRow.holds Try.pinned (OpenSpec.upto fnExactNextMazeSpec)

end Rows
end Go.Proofs.Ytoohcdfokejkdaa
