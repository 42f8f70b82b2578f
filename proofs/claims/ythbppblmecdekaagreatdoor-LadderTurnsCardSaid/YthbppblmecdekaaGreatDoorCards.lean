/-
  DERIVED. GIVEN WITH THE SEED: THE CARDS: each row of YthbppblmecdekaaGreatDoorRows.lean that lists a variable, with what it lists TIED to the program's text (the seventh form; the later family's looks); each row that meets fmt, with fmt's text TOLD by the authors' own Lean function (tested against real Go, not proved from fmt's source: count such statements apart). THE CARD IS WHAT COUNTS. Prove the row's statement (the work); the ties are given (YthbppblmecdekaaGreatDoorTie.lean); close each card by the builder's one call (the guide's Derived/Test/ToyasCard.lean, 'card_holds'). Laid BY PROGRAM, IN A SANDBOX (cutbox-door.mjs). By AI agents, Wed Nov 11 2026. No macro, syntax, notation, axiom, sorry.
-/
import Derived.Test.YthbppblmecdekaaGreatDoorRows
import GoSem.ClaimSeven
namespace Go.Proofs.YthbppblmecdekaaGreatDoor
namespace Rows

/-- THE TIED CARD OF 'shelfmarklaw27.LadderTells'. -/
def ladderTellsCard : Claim7 := { stood := { row := ladderTellsRow, standIns := [], harness := (true, "ee474fec8d95d72065f1655c4680c565a2e9a5b473198f169b78f58dcb3fabcc"), looks := false }, kinds := [], alts := [], laidByText := true, laidKinds := [.data, .data], laidTests := true, laidLooks := .later }
def LadderTellsCardSaid : Prop := Claim7.holds Tryz.pinned (.plain (OpenSpec.ofChange ladderTellsSpec)) ladderTellsCard

/-- THE TIED CARD OF 'shelfmarklaw27.LadderTurns'. -/
def ladderTurnsCard : Claim7 := { stood := { row := ladderTurnsRow, standIns := [], harness := (true, "ee474fec8d95d72065f1655c4680c565a2e9a5b473198f169b78f58dcb3fabcc"), looks := false }, kinds := [], alts := [], laidByText := true, laidKinds := [.data, .data], laidTests := true, laidLooks := .later }
def LadderTurnsCardSaid : Prop := Claim7.holds Tryz.pinned (.plain (OpenSpec.ofChange ladderTurnsSpec)) ladderTurnsCard

/-- THE TIED CARD OF 'shelfmarklaw27.LadderNames'. -/
def ladderNamesCard : Claim7 := { stood := { row := ladderNamesRow, standIns := [], harness := (true, "ee474fec8d95d72065f1655c4680c565a2e9a5b473198f169b78f58dcb3fabcc"), looks := false }, kinds := [], alts := [], laidByText := true, laidKinds := [.data, .data], laidTests := true, laidLooks := .later }
def LadderNamesCardSaid : Prop := Claim7.holds Tryz.pinned (.plain (OpenSpec.ofChange ladderNamesSpec)) ladderNamesCard

/-- THE SECOND FORM's CARD OF 'shelfmarklaw27.LadderTells'. -/
def ladderTellsUptoCard : Claim7 := { stood := { row := ladderTellsUptoRow, standIns := [], harness := (true, "ee474fec8d95d72065f1655c4680c565a2e9a5b473198f169b78f58dcb3fabcc"), looks := false }, kinds := [], alts := [], laidByText := true, laidKinds := [.data, .data], laidTests := true, laidLooks := .later }
def LadderTellsUptoCardSaid : Prop := Claim7.holds Tryz.pinned (.plain (OpenSpec.upto ladderTellsSpec)) ladderTellsUptoCard

/-- THE SECOND FORM's CARD OF 'shelfmarklaw27.LadderTurns'. -/
def ladderTurnsUptoCard : Claim7 := { stood := { row := ladderTurnsUptoRow, standIns := [], harness := (true, "ee474fec8d95d72065f1655c4680c565a2e9a5b473198f169b78f58dcb3fabcc"), looks := false }, kinds := [], alts := [], laidByText := true, laidKinds := [.data, .data], laidTests := true, laidLooks := .later }
def LadderTurnsUptoCardSaid : Prop := Claim7.holds Tryz.pinned (.plain (OpenSpec.upto ladderTurnsSpec)) ladderTurnsUptoCard

/-- THE SECOND FORM's CARD OF 'shelfmarklaw27.LadderNames'. -/
def ladderNamesUptoCard : Claim7 := { stood := { row := ladderNamesUptoRow, standIns := [], harness := (true, "ee474fec8d95d72065f1655c4680c565a2e9a5b473198f169b78f58dcb3fabcc"), looks := false }, kinds := [], alts := [], laidByText := true, laidKinds := [.data, .data], laidTests := true, laidLooks := .later }
def LadderNamesUptoCardSaid : Prop := Claim7.holds Tryz.pinned (.plain (OpenSpec.upto ladderNamesSpec)) ladderNamesUptoCard
end Rows
end Go.Proofs.YthbppblmecdekaaGreatDoor
