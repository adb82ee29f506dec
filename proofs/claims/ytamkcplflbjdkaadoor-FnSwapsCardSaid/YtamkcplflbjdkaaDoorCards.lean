/-
  DERIVED. GIVEN WITH THE SEED: THE CARDS: each row of YtamkcplflbjdkaaDoorRows.lean that lists a variable, with what it lists TIED to the program's text (the seventh form; the later family's looks); each row that meets fmt, with fmt's text TOLD by the authors' own Lean function (tested against real Go, not proved from fmt's source: count such statements apart). THE CARD IS WHAT COUNTS. Prove the row's statement (the work); the ties are given (YtamkcplflbjdkaaDoorTie.lean); close each card by the builder's one call (the guide's Derived/Test/ToyasCard.lean, 'card_holds'). Laid BY PROGRAM, IN A SANDBOX (cutbox-door.mjs). By AI agents, Wed Nov 11 2026. No macro, syntax, notation, axiom, sorry.
-/
import Derived.Test.YtamkcplflbjdkaaDoorRows
import GoSem.ClaimSeven
namespace Go.Proofs.YtamkcplflbjdkaaDoor
namespace Rows

/-- THE TIED CARD OF 'laws.FnSwaps'. -/
def fnSwapsCard : Claim7 := { stood := { row := fnSwapsRow, standIns := [], harness := (true, "a443541a8c62d0183dabfadcf0d7b384322c91e9d2976fe4d3e49a1d4b44cc0e"), looks := false }, kinds := [], alts := [], laidByText := true, laidKinds := [.data, .data], laidTests := true, laidLooks := .later }
def FnSwapsCardSaid : Prop := Claim7.holds Tryd.pinned (.plain (OpenSpec.ofChange fnSwapsSpec)) fnSwapsCard

/-- THE SECOND FORM's CARD OF 'laws.FnSwaps'. -/
def fnSwapsUptoCard : Claim7 := { stood := { row := fnSwapsUptoRow, standIns := [], harness := (true, "a443541a8c62d0183dabfadcf0d7b384322c91e9d2976fe4d3e49a1d4b44cc0e"), looks := false }, kinds := [], alts := [], laidByText := true, laidKinds := [.data, .data], laidTests := true, laidLooks := .later }
def FnSwapsUptoCardSaid : Prop := Claim7.holds Tryd.pinned (.plain (OpenSpec.upto fnSwapsSpec)) fnSwapsUptoCard
end Rows
end Go.Proofs.YtamkcplflbjdkaaDoor
