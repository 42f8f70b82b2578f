/-
  DERIVED. GIVEN WITH THE SEED: THE CARDS: each row of YthbppblmecdekaaDoorRows.lean that lists a variable, with what it lists TIED to the program's text (the seventh form; the later family's looks); each row that meets fmt, with fmt's text TOLD by the authors' own Lean function (tested against real Go, not proved from fmt's source: count such statements apart). THE CARD IS WHAT COUNTS. Prove the row's statement (the work); the ties are given (YthbppblmecdekaaDoorTie.lean); close each card by the builder's one call (the guide's Derived/Test/ToyasCard.lean, 'card_holds'). Laid BY PROGRAM, IN A SANDBOX (cutbox-door.mjs). By AI agents, Wed Nov 11 2026. No macro, syntax, notation, axiom, sorry.
-/
import Derived.Test.YthbppblmecdekaaDoorRows
import GoSem.ClaimSeven
namespace Go.Proofs.YthbppblmecdekaaDoor
namespace Rows

/-- THE TIED CARD OF 'shelfmarklaw26.RungsAdds'. -/
def rungsAddsCard : Claim7 := { stood := { row := rungsAddsRow, standIns := [], harness := (true, "e5dd11c3f1dcce9d734a2aad97eebcc6df8bcc982d64af87acb879b1a1845d98"), looks := false }, kinds := [], alts := [], laidByText := true, laidKinds := [.data, .data], laidTests := true, laidLooks := .later }
def RungsAddsCardSaid : Prop := Claim7.holds Tryd.pinned (.plain (OpenSpec.ofChange rungsAddsSpec)) rungsAddsCard

/-- THE TIED CARD OF 'shelfmarklaw26.RungsTells'. -/
def rungsTellsCard : Claim7 := { stood := { row := rungsTellsRow, standIns := [], harness := (true, "e5dd11c3f1dcce9d734a2aad97eebcc6df8bcc982d64af87acb879b1a1845d98"), looks := false }, kinds := [], alts := [], laidByText := true, laidKinds := [.data, .data], laidTests := true, laidLooks := .later }
def RungsTellsCardSaid : Prop := Claim7.holds Tryd.pinned (.plain (OpenSpec.ofChange rungsTellsSpec)) rungsTellsCard

/-- THE TIED CARD OF 'shelfmarklaw26.RungsPairs'. -/
def rungsPairsCard : Claim7 := { stood := { row := rungsPairsRow, standIns := [], harness := (true, "e5dd11c3f1dcce9d734a2aad97eebcc6df8bcc982d64af87acb879b1a1845d98"), looks := false }, kinds := [], alts := [], laidByText := true, laidKinds := [.data, .data], laidTests := true, laidLooks := .later }
def RungsPairsCardSaid : Prop := Claim7.holds Tryd.pinned (.plain (OpenSpec.ofChange rungsPairsSpec)) rungsPairsCard

/-- THE TIED CARD OF 'shelfmarklaw26.RungsNames'. -/
def rungsNamesCard : Claim7 := { stood := { row := rungsNamesRow, standIns := [], harness := (true, "e5dd11c3f1dcce9d734a2aad97eebcc6df8bcc982d64af87acb879b1a1845d98"), looks := false }, kinds := [], alts := [], laidByText := true, laidKinds := [.data, .data], laidTests := true, laidLooks := .later }
def RungsNamesCardSaid : Prop := Claim7.holds Tryd.pinned (.plain (OpenSpec.ofChange rungsNamesSpec)) rungsNamesCard

/-- THE TIED CARD OF 'shelfmarklaw27.LadderGets'. -/
def ladderGetsCard : Claim7 := { stood := { row := ladderGetsRow, standIns := [], harness := (true, "e5dd11c3f1dcce9d734a2aad97eebcc6df8bcc982d64af87acb879b1a1845d98"), looks := false }, kinds := [], alts := [], laidByText := true, laidKinds := [.data, .data], laidTests := true, laidLooks := .later }
def LadderGetsCardSaid : Prop := Claim7.holds Tryd.pinned (.plain (OpenSpec.ofChange ladderGetsSpec)) ladderGetsCard

/-- THE TIED CARD OF 'shelfmarklaw27.LadderNear'. -/
def ladderNearCard : Claim7 := { stood := { row := ladderNearRow, standIns := [], harness := (true, "e5dd11c3f1dcce9d734a2aad97eebcc6df8bcc982d64af87acb879b1a1845d98"), looks := false }, kinds := [], alts := [], laidByText := true, laidKinds := [.data, .data], laidTests := true, laidLooks := .later }
def LadderNearCardSaid : Prop := Claim7.holds Tryd.pinned (.plain (OpenSpec.ofChange ladderNearSpec)) ladderNearCard

/-- THE TIED CARD OF 'shelfmarklaw27.LadderWalks'. -/
def ladderWalksCard : Claim7 := { stood := { row := ladderWalksRow, standIns := [], harness := (true, "e5dd11c3f1dcce9d734a2aad97eebcc6df8bcc982d64af87acb879b1a1845d98"), looks := false }, kinds := [], alts := [], laidByText := true, laidKinds := [.data, .data], laidTests := true, laidLooks := .later }
def LadderWalksCardSaid : Prop := Claim7.holds Tryd.pinned (.plain (OpenSpec.ofChange ladderWalksSpec)) ladderWalksCard

/-- THE TIED CARD OF 'shelfmarklaw25.KwayNames'. -/
def kwayNamesCard : Claim7 := { stood := { row := kwayNamesRow, standIns := [], harness := (true, "e5dd11c3f1dcce9d734a2aad97eebcc6df8bcc982d64af87acb879b1a1845d98"), looks := false }, kinds := [], alts := [], laidByText := true, laidKinds := [.data, .data], laidTests := true, laidLooks := .later }
def KwayNamesCardSaid : Prop := Claim7.holds Tryd.pinned (.plain (OpenSpec.ofChange kwayNamesSpec)) kwayNamesCard

/-- THE SECOND FORM's CARD OF 'shelfmarklaw26.RungsAdds'. -/
def rungsAddsUptoCard : Claim7 := { stood := { row := rungsAddsUptoRow, standIns := [], harness := (true, "e5dd11c3f1dcce9d734a2aad97eebcc6df8bcc982d64af87acb879b1a1845d98"), looks := false }, kinds := [], alts := [], laidByText := true, laidKinds := [.data, .data], laidTests := true, laidLooks := .later }
def RungsAddsUptoCardSaid : Prop := Claim7.holds Tryd.pinned (.plain (OpenSpec.upto rungsAddsSpec)) rungsAddsUptoCard

/-- THE SECOND FORM's CARD OF 'shelfmarklaw26.RungsTells'. -/
def rungsTellsUptoCard : Claim7 := { stood := { row := rungsTellsUptoRow, standIns := [], harness := (true, "e5dd11c3f1dcce9d734a2aad97eebcc6df8bcc982d64af87acb879b1a1845d98"), looks := false }, kinds := [], alts := [], laidByText := true, laidKinds := [.data, .data], laidTests := true, laidLooks := .later }
def RungsTellsUptoCardSaid : Prop := Claim7.holds Tryd.pinned (.plain (OpenSpec.upto rungsTellsSpec)) rungsTellsUptoCard

/-- THE SECOND FORM's CARD OF 'shelfmarklaw26.RungsPairs'. -/
def rungsPairsUptoCard : Claim7 := { stood := { row := rungsPairsUptoRow, standIns := [], harness := (true, "e5dd11c3f1dcce9d734a2aad97eebcc6df8bcc982d64af87acb879b1a1845d98"), looks := false }, kinds := [], alts := [], laidByText := true, laidKinds := [.data, .data], laidTests := true, laidLooks := .later }
def RungsPairsUptoCardSaid : Prop := Claim7.holds Tryd.pinned (.plain (OpenSpec.upto rungsPairsSpec)) rungsPairsUptoCard

/-- THE SECOND FORM's CARD OF 'shelfmarklaw26.RungsNames'. -/
def rungsNamesUptoCard : Claim7 := { stood := { row := rungsNamesUptoRow, standIns := [], harness := (true, "e5dd11c3f1dcce9d734a2aad97eebcc6df8bcc982d64af87acb879b1a1845d98"), looks := false }, kinds := [], alts := [], laidByText := true, laidKinds := [.data, .data], laidTests := true, laidLooks := .later }
def RungsNamesUptoCardSaid : Prop := Claim7.holds Tryd.pinned (.plain (OpenSpec.upto rungsNamesSpec)) rungsNamesUptoCard

/-- THE SECOND FORM's CARD OF 'shelfmarklaw27.LadderGets'. -/
def ladderGetsUptoCard : Claim7 := { stood := { row := ladderGetsUptoRow, standIns := [], harness := (true, "e5dd11c3f1dcce9d734a2aad97eebcc6df8bcc982d64af87acb879b1a1845d98"), looks := false }, kinds := [], alts := [], laidByText := true, laidKinds := [.data, .data], laidTests := true, laidLooks := .later }
def LadderGetsUptoCardSaid : Prop := Claim7.holds Tryd.pinned (.plain (OpenSpec.upto ladderGetsSpec)) ladderGetsUptoCard

/-- THE SECOND FORM's CARD OF 'shelfmarklaw27.LadderNear'. -/
def ladderNearUptoCard : Claim7 := { stood := { row := ladderNearUptoRow, standIns := [], harness := (true, "e5dd11c3f1dcce9d734a2aad97eebcc6df8bcc982d64af87acb879b1a1845d98"), looks := false }, kinds := [], alts := [], laidByText := true, laidKinds := [.data, .data], laidTests := true, laidLooks := .later }
def LadderNearUptoCardSaid : Prop := Claim7.holds Tryd.pinned (.plain (OpenSpec.upto ladderNearSpec)) ladderNearUptoCard

/-- THE SECOND FORM's CARD OF 'shelfmarklaw27.LadderWalks'. -/
def ladderWalksUptoCard : Claim7 := { stood := { row := ladderWalksUptoRow, standIns := [], harness := (true, "e5dd11c3f1dcce9d734a2aad97eebcc6df8bcc982d64af87acb879b1a1845d98"), looks := false }, kinds := [], alts := [], laidByText := true, laidKinds := [.data, .data], laidTests := true, laidLooks := .later }
def LadderWalksUptoCardSaid : Prop := Claim7.holds Tryd.pinned (.plain (OpenSpec.upto ladderWalksSpec)) ladderWalksUptoCard

/-- THE SECOND FORM's CARD OF 'shelfmarklaw25.KwayNames'. -/
def kwayNamesUptoCard : Claim7 := { stood := { row := kwayNamesUptoRow, standIns := [], harness := (true, "e5dd11c3f1dcce9d734a2aad97eebcc6df8bcc982d64af87acb879b1a1845d98"), looks := false }, kinds := [], alts := [], laidByText := true, laidKinds := [.data, .data], laidTests := true, laidLooks := .later }
def KwayNamesUptoCardSaid : Prop := Claim7.holds Tryd.pinned (.plain (OpenSpec.upto kwayNamesSpec)) kwayNamesUptoCard
end Rows
end Go.Proofs.YthbppblmecdekaaDoor
