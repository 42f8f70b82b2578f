/-
  DERIVED. GIVEN WITH THE SEED: THE CARDS: each row of YtolclahkfmplfaaDoorRows.lean that lists a variable, with what it lists TIED to the program's text (the seventh form; the later family's looks); each row that meets fmt, with fmt's text TOLD by the authors' own Lean function (tested against real Go, not proved from fmt's source: count such statements apart). THE CARD IS WHAT COUNTS. Prove the row's statement (the work); the ties are given (YtolclahkfmplfaaDoorTie.lean); close each card by the builder's one call (the guide's Derived/Test/ToyasCard.lean, 'card_holds'). Laid BY PROGRAM, IN A SANDBOX (cutbox-door.mjs). By AI agents, Wed Nov 11 2026. No macro, syntax, notation, axiom, sorry.
-/
import Derived.Test.YtolclahkfmplfaaDoorRows
import GoSem.ClaimSeven
namespace Go.Proofs.YtolclahkfmplfaaDoor
namespace Rows

/-- THE TIED CARD OF 'shelfmarklaw25.KwayNames'. -/
def kwayNamesCard : Claim7 := { stood := { row := kwayNamesRow, standIns := [], harness := (true, "e262d8c335cb13208a91af4c6d16157c605fa78cd750b8423883c862c707cc31"), looks := false }, kinds := [], alts := [], laidByText := true, laidKinds := [.data, .data], laidTests := true, laidLooks := .later }
def KwayNamesCardSaid : Prop := Claim7.holds Tryd.pinned (.plain (OpenSpec.ofChange kwayNamesSpec)) kwayNamesCard

/-- THE SECOND FORM's CARD OF 'shelfmarklaw25.KwayNames'. -/
def kwayNamesUptoCard : Claim7 := { stood := { row := kwayNamesUptoRow, standIns := [], harness := (true, "e262d8c335cb13208a91af4c6d16157c605fa78cd750b8423883c862c707cc31"), looks := false }, kinds := [], alts := [], laidByText := true, laidKinds := [.data, .data], laidTests := true, laidLooks := .later }
def KwayNamesUptoCardSaid : Prop := Claim7.holds Tryd.pinned (.plain (OpenSpec.upto kwayNamesSpec)) kwayNamesUptoCard
end Rows
end Go.Proofs.YtolclahkfmplfaaDoor
