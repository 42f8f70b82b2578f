/-
  DERIVED. GIVEN WITH THE SEED: THE CARDS: each row of YtolclahkfmplfaaGreatDoorRows.lean that lists a variable, with what it lists TIED to the program's text (the seventh form; the later family's looks); each row that meets fmt, with fmt's text TOLD by the authors' own Lean function (tested against real Go, not proved from fmt's source: count such statements apart). THE CARD IS WHAT COUNTS. Prove the row's statement (the work); the ties are given (YtolclahkfmplfaaGreatDoorTie.lean); close each card by the builder's one call (the guide's Derived/Test/ToyasCard.lean, 'card_holds'). Laid BY PROGRAM, IN A SANDBOX (cutbox-door.mjs). By AI agents, Wed Nov 11 2026. No macro, syntax, notation, axiom, sorry.
-/
import Derived.Test.YtolclahkfmplfaaGreatDoorRows
import GoSem.ClaimSeven
namespace Go.Proofs.YtolclahkfmplfaaGreatDoor
namespace Rows

/-- THE TIED CARD OF 'shelfmarklaw27.LadderNames'. -/
def ladderNamesCard : Claim7 := { stood := { row := ladderNamesRow, standIns := [], harness := (true, "2386dd49d40e9017c86e92e6b634ff5939d992441b37d49db9d4a8692827d700"), looks := false }, kinds := [], alts := [], laidByText := true, laidKinds := [.data, .data], laidTests := true, laidLooks := .later }
def LadderNamesCardSaid : Prop := Claim7.holds Tryz.pinned (.plain (OpenSpec.ofChange ladderNamesSpec)) ladderNamesCard

/-- THE SECOND FORM's CARD OF 'shelfmarklaw27.LadderNames'. -/
def ladderNamesUptoCard : Claim7 := { stood := { row := ladderNamesUptoRow, standIns := [], harness := (true, "2386dd49d40e9017c86e92e6b634ff5939d992441b37d49db9d4a8692827d700"), looks := false }, kinds := [], alts := [], laidByText := true, laidKinds := [.data, .data], laidTests := true, laidLooks := .later }
def LadderNamesUptoCardSaid : Prop := Claim7.holds Tryz.pinned (.plain (OpenSpec.upto ladderNamesSpec)) ladderNamesUptoCard
end Rows
end Go.Proofs.YtolclahkfmplfaaGreatDoor
