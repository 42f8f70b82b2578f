/-
  DERIVED. GIVEN WITH THE SEED: THE CARDS: each row of YtokomclcgegfkaaDoorRows.lean that lists a variable, with what it lists TIED to the program's text (the seventh form; the later family's looks); each row that meets fmt, with fmt's text TOLD by the authors' own Lean function (tested against real Go, not proved from fmt's source: count such statements apart). THE CARD IS WHAT COUNTS. Prove the row's statement (the work); the ties are given (YtokomclcgegfkaaDoorTie.lean); close each card by the builder's one call (the guide's Derived/Test/ToyasCard.lean, 'card_holds'). Laid BY PROGRAM, IN A SANDBOX (cutbox-door.mjs). By AI agents, Wed Nov 11 2026. No macro, syntax, notation, axiom, sorry.
-/
import Derived.Test.YtokomclcgegfkaaDoorRows
import GoSem.ClaimSeven
namespace Go.Proofs.YtokomclcgegfkaaDoor
namespace Rows

/-- THE TIED CARD OF 'shelfmarklaw23.BoundNames'. -/
def boundNamesCard : Claim7 := { stood := { row := boundNamesRow, standIns := [], harness := (true, "3b0b9c2e6a7982c886ea9285f6f8d6b0a8cc6d56a7e7235a20bbd908682490d8"), looks := false }, kinds := [], alts := [], laidByText := true, laidKinds := [.data, .data], laidTests := true, laidLooks := .later }
def BoundNamesCardSaid : Prop := Claim7.holds Tryd.pinned (.plain (OpenSpec.ofChange boundNamesSpec)) boundNamesCard

/-- THE TIED CARD OF 'shelfmarklaw23.BoundRanks'. -/
def boundRanksCard : Claim7 := { stood := { row := boundRanksRow, standIns := [], harness := (true, "3b0b9c2e6a7982c886ea9285f6f8d6b0a8cc6d56a7e7235a20bbd908682490d8"), looks := false }, kinds := [], alts := [], laidByText := true, laidKinds := [.data, .data], laidTests := true, laidLooks := .later }
def BoundRanksCardSaid : Prop := Claim7.holds Tryd.pinned (.plain (OpenSpec.ofChange boundRanksSpec)) boundRanksCard

/-- THE TIED CARD OF 'shelfmarklaw23.BoundBack'. -/
def boundBackCard : Claim7 := { stood := { row := boundBackRow, standIns := [], harness := (true, "3b0b9c2e6a7982c886ea9285f6f8d6b0a8cc6d56a7e7235a20bbd908682490d8"), looks := false }, kinds := [], alts := [], laidByText := true, laidKinds := [.data, .data], laidTests := true, laidLooks := .later }
def BoundBackCardSaid : Prop := Claim7.holds Tryd.pinned (.plain (OpenSpec.ofChange boundBackSpec)) boundBackCard

/-- THE TIED CARD OF 'shelfmarklaw23.BoundTells'. -/
def boundTellsCard : Claim7 := { stood := { row := boundTellsRow, standIns := [], harness := (true, "3b0b9c2e6a7982c886ea9285f6f8d6b0a8cc6d56a7e7235a20bbd908682490d8"), looks := false }, kinds := [], alts := [], laidByText := true, laidKinds := [.data, .data], laidTests := true, laidLooks := .later }
def BoundTellsCardSaid : Prop := Claim7.holds Tryd.pinned (.plain (OpenSpec.ofChange boundTellsSpec)) boundTellsCard

/-- THE TIED CARD OF 'shelfmarklaw24.RunTells'. -/
def runTellsCard : Claim7 := { stood := { row := runTellsRow, standIns := [], harness := (true, "3b0b9c2e6a7982c886ea9285f6f8d6b0a8cc6d56a7e7235a20bbd908682490d8"), looks := false }, kinds := [], alts := [], laidByText := true, laidKinds := [.data, .data], laidTests := true, laidLooks := .later }
def RunTellsCardSaid : Prop := Claim7.holds Tryd.pinned (.plain (OpenSpec.ofChange runTellsSpec)) runTellsCard

/-- THE TIED CARD OF 'shelfmarklaw24.RunWhole'. -/
def runWholeCard : Claim7 := { stood := { row := runWholeRow, standIns := [], harness := (true, "3b0b9c2e6a7982c886ea9285f6f8d6b0a8cc6d56a7e7235a20bbd908682490d8"), looks := false }, kinds := [], alts := [], laidByText := true, laidKinds := [.data, .data], laidTests := true, laidLooks := .later }
def RunWholeCardSaid : Prop := Claim7.holds Tryd.pinned (.plain (OpenSpec.ofChange runWholeSpec)) runWholeCard

/-- THE TIED CARD OF 'shelfmarklaw25.KwayTells'. -/
def kwayTellsCard : Claim7 := { stood := { row := kwayTellsRow, standIns := [], harness := (true, "3b0b9c2e6a7982c886ea9285f6f8d6b0a8cc6d56a7e7235a20bbd908682490d8"), looks := false }, kinds := [], alts := [], laidByText := true, laidKinds := [.data, .data], laidTests := true, laidLooks := .later }
def KwayTellsCardSaid : Prop := Claim7.holds Tryd.pinned (.plain (OpenSpec.ofChange kwayTellsSpec)) kwayTellsCard

/-- THE TIED CARD OF 'shelfmarklaw25.KwayNewest'. -/
def kwayNewestCard : Claim7 := { stood := { row := kwayNewestRow, standIns := [], harness := (true, "3b0b9c2e6a7982c886ea9285f6f8d6b0a8cc6d56a7e7235a20bbd908682490d8"), looks := false }, kinds := [], alts := [], laidByText := true, laidKinds := [.data, .data], laidTests := true, laidLooks := .later }
def KwayNewestCardSaid : Prop := Claim7.holds Tryd.pinned (.plain (OpenSpec.ofChange kwayNewestSpec)) kwayNewestCard

/-- THE TIED CARD OF 'shelfmarklaw25.KwayNames'. -/
def kwayNamesCard : Claim7 := { stood := { row := kwayNamesRow, standIns := [], harness := (true, "3b0b9c2e6a7982c886ea9285f6f8d6b0a8cc6d56a7e7235a20bbd908682490d8"), looks := false }, kinds := [], alts := [], laidByText := true, laidKinds := [.data, .data], laidTests := true, laidLooks := .later }
def KwayNamesCardSaid : Prop := Claim7.holds Tryd.pinned (.plain (OpenSpec.ofChange kwayNamesSpec)) kwayNamesCard

/-- THE TIED CARD OF 'shelfmarklaw24.RunBack'. -/
def runBackCard : Claim7 := { stood := { row := runBackRow, standIns := [], harness := (true, "3b0b9c2e6a7982c886ea9285f6f8d6b0a8cc6d56a7e7235a20bbd908682490d8"), looks := false }, kinds := [], alts := [], laidByText := true, laidKinds := [.data, .data], laidTests := true, laidLooks := .later }
def RunBackCardSaid : Prop := Claim7.holds Tryd.pinned (.plain (OpenSpec.ofChange runBackSpec)) runBackCard

/-- THE TIED CARD OF 'shelfmarklaw24.RunNames'. -/
def runNamesCard : Claim7 := { stood := { row := runNamesRow, standIns := [], harness := (true, "3b0b9c2e6a7982c886ea9285f6f8d6b0a8cc6d56a7e7235a20bbd908682490d8"), looks := false }, kinds := [], alts := [], laidByText := true, laidKinds := [.data, .data], laidTests := true, laidLooks := .later }
def RunNamesCardSaid : Prop := Claim7.holds Tryd.pinned (.plain (OpenSpec.ofChange runNamesSpec)) runNamesCard

/-- THE SECOND FORM's CARD OF 'shelfmarklaw23.BoundNames'. -/
def boundNamesUptoCard : Claim7 := { stood := { row := boundNamesUptoRow, standIns := [], harness := (true, "3b0b9c2e6a7982c886ea9285f6f8d6b0a8cc6d56a7e7235a20bbd908682490d8"), looks := false }, kinds := [], alts := [], laidByText := true, laidKinds := [.data, .data], laidTests := true, laidLooks := .later }
def BoundNamesUptoCardSaid : Prop := Claim7.holds Tryd.pinned (.plain (OpenSpec.upto boundNamesSpec)) boundNamesUptoCard

/-- THE SECOND FORM's CARD OF 'shelfmarklaw23.BoundRanks'. -/
def boundRanksUptoCard : Claim7 := { stood := { row := boundRanksUptoRow, standIns := [], harness := (true, "3b0b9c2e6a7982c886ea9285f6f8d6b0a8cc6d56a7e7235a20bbd908682490d8"), looks := false }, kinds := [], alts := [], laidByText := true, laidKinds := [.data, .data], laidTests := true, laidLooks := .later }
def BoundRanksUptoCardSaid : Prop := Claim7.holds Tryd.pinned (.plain (OpenSpec.upto boundRanksSpec)) boundRanksUptoCard

/-- THE SECOND FORM's CARD OF 'shelfmarklaw23.BoundBack'. -/
def boundBackUptoCard : Claim7 := { stood := { row := boundBackUptoRow, standIns := [], harness := (true, "3b0b9c2e6a7982c886ea9285f6f8d6b0a8cc6d56a7e7235a20bbd908682490d8"), looks := false }, kinds := [], alts := [], laidByText := true, laidKinds := [.data, .data], laidTests := true, laidLooks := .later }
def BoundBackUptoCardSaid : Prop := Claim7.holds Tryd.pinned (.plain (OpenSpec.upto boundBackSpec)) boundBackUptoCard

/-- THE SECOND FORM's CARD OF 'shelfmarklaw23.BoundTells'. -/
def boundTellsUptoCard : Claim7 := { stood := { row := boundTellsUptoRow, standIns := [], harness := (true, "3b0b9c2e6a7982c886ea9285f6f8d6b0a8cc6d56a7e7235a20bbd908682490d8"), looks := false }, kinds := [], alts := [], laidByText := true, laidKinds := [.data, .data], laidTests := true, laidLooks := .later }
def BoundTellsUptoCardSaid : Prop := Claim7.holds Tryd.pinned (.plain (OpenSpec.upto boundTellsSpec)) boundTellsUptoCard

/-- THE SECOND FORM's CARD OF 'shelfmarklaw24.RunTells'. -/
def runTellsUptoCard : Claim7 := { stood := { row := runTellsUptoRow, standIns := [], harness := (true, "3b0b9c2e6a7982c886ea9285f6f8d6b0a8cc6d56a7e7235a20bbd908682490d8"), looks := false }, kinds := [], alts := [], laidByText := true, laidKinds := [.data, .data], laidTests := true, laidLooks := .later }
def RunTellsUptoCardSaid : Prop := Claim7.holds Tryd.pinned (.plain (OpenSpec.upto runTellsSpec)) runTellsUptoCard

/-- THE SECOND FORM's CARD OF 'shelfmarklaw24.RunWhole'. -/
def runWholeUptoCard : Claim7 := { stood := { row := runWholeUptoRow, standIns := [], harness := (true, "3b0b9c2e6a7982c886ea9285f6f8d6b0a8cc6d56a7e7235a20bbd908682490d8"), looks := false }, kinds := [], alts := [], laidByText := true, laidKinds := [.data, .data], laidTests := true, laidLooks := .later }
def RunWholeUptoCardSaid : Prop := Claim7.holds Tryd.pinned (.plain (OpenSpec.upto runWholeSpec)) runWholeUptoCard

/-- THE SECOND FORM's CARD OF 'shelfmarklaw25.KwayTells'. -/
def kwayTellsUptoCard : Claim7 := { stood := { row := kwayTellsUptoRow, standIns := [], harness := (true, "3b0b9c2e6a7982c886ea9285f6f8d6b0a8cc6d56a7e7235a20bbd908682490d8"), looks := false }, kinds := [], alts := [], laidByText := true, laidKinds := [.data, .data], laidTests := true, laidLooks := .later }
def KwayTellsUptoCardSaid : Prop := Claim7.holds Tryd.pinned (.plain (OpenSpec.upto kwayTellsSpec)) kwayTellsUptoCard

/-- THE SECOND FORM's CARD OF 'shelfmarklaw25.KwayNewest'. -/
def kwayNewestUptoCard : Claim7 := { stood := { row := kwayNewestUptoRow, standIns := [], harness := (true, "3b0b9c2e6a7982c886ea9285f6f8d6b0a8cc6d56a7e7235a20bbd908682490d8"), looks := false }, kinds := [], alts := [], laidByText := true, laidKinds := [.data, .data], laidTests := true, laidLooks := .later }
def KwayNewestUptoCardSaid : Prop := Claim7.holds Tryd.pinned (.plain (OpenSpec.upto kwayNewestSpec)) kwayNewestUptoCard

/-- THE SECOND FORM's CARD OF 'shelfmarklaw25.KwayNames'. -/
def kwayNamesUptoCard : Claim7 := { stood := { row := kwayNamesUptoRow, standIns := [], harness := (true, "3b0b9c2e6a7982c886ea9285f6f8d6b0a8cc6d56a7e7235a20bbd908682490d8"), looks := false }, kinds := [], alts := [], laidByText := true, laidKinds := [.data, .data], laidTests := true, laidLooks := .later }
def KwayNamesUptoCardSaid : Prop := Claim7.holds Tryd.pinned (.plain (OpenSpec.upto kwayNamesSpec)) kwayNamesUptoCard

/-- THE SECOND FORM's CARD OF 'shelfmarklaw24.RunBack'. -/
def runBackUptoCard : Claim7 := { stood := { row := runBackUptoRow, standIns := [], harness := (true, "3b0b9c2e6a7982c886ea9285f6f8d6b0a8cc6d56a7e7235a20bbd908682490d8"), looks := false }, kinds := [], alts := [], laidByText := true, laidKinds := [.data, .data], laidTests := true, laidLooks := .later }
def RunBackUptoCardSaid : Prop := Claim7.holds Tryd.pinned (.plain (OpenSpec.upto runBackSpec)) runBackUptoCard

/-- THE SECOND FORM's CARD OF 'shelfmarklaw24.RunNames'. -/
def runNamesUptoCard : Claim7 := { stood := { row := runNamesUptoRow, standIns := [], harness := (true, "3b0b9c2e6a7982c886ea9285f6f8d6b0a8cc6d56a7e7235a20bbd908682490d8"), looks := false }, kinds := [], alts := [], laidByText := true, laidKinds := [.data, .data], laidTests := true, laidLooks := .later }
def RunNamesUptoCardSaid : Prop := Claim7.holds Tryd.pinned (.plain (OpenSpec.upto runNamesSpec)) runNamesUptoCard
end Rows
end Go.Proofs.YtokomclcgegfkaaDoor
