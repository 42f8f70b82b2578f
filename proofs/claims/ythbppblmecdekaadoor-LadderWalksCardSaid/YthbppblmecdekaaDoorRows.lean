/-
  NARROWER THAN 'FOR EVERY INPUT', by the rows' own cells (each row's printed sentence says how): RungsAdds: laid · RungsTells: laid · RungsPairs: laid · RungsNames: laid · LadderGets: laid · LadderNear: laid · LadderWalks: laid · KwayNames: laid.
  DERIVED. THE GIVEN ROWS OF THIS SEAT. 8 by the template 'for every input the law returns true; each argument reads behind the call as it read before'; 0 by the template 'total and deterministic' (their statements: YthbppblmecdekaaDoorTotals.lean).
  GIVEN WITH THE SEED: the statements are not yours to turn. If you find one false, say at which input.
  Laid BY PROGRAM, IN A SANDBOX (cutbox-rows.mjs): the forced cells as the released guide's own fill.sh prints them over the translation 864922b71fd89ed7… (all of the seat's roots in one cut). By AI agents, Wed Nov 11 2026. No macro, syntax, notation, axiom, sorry.
-/
import Derived.Test.YthbppblmecdekaaDoorChecked
import GoSem.Claim
import GoSem.ClaimJoined
import GoSem.ClaimMapViews
import Derived.JoinedTies
import Derived.KernelRfl
namespace Go.Proofs.YthbppblmecdekaaDoor
/- THE CELL 'sum', in the pinned program and in every row, IS THE sha256 OF THE DUMP (.gsa) THAT YthbppblmecdekaaDoorProg.lean LOADS. Nothing in Lean hashes anything: it is a label: what it is worth is what the hold of that sum in a sandbox is worth. -/
noncomputable def Tryd.pinned : Pinned := { name := "ythbppblmecdekaadoor", sum := "864922b71fd89ed72298abfb86651593c1d5704eb287bf89afa46c82b4b411d0", checked := Tryd.checked }
namespace Rows
def none {H : Type} : Left H := { results := [], args := [] }

/- WHAT THE LISTED PACKAGE-LEVEL VARIABLES READ AS WHEN THE CALL BEGINS. Each datum BY PROGRAM (the guide's laid-datum.mjs) off the statement by which the dump's own 'gosem.cut.vars' lays the variable. In a bare row this is a premise. The card (YthbppblmecdekaaDoorCards.lean) ties it to the program's text. -/
def laid_math_bits_deBruijn32tab {H : Type} : DataW H := .agg [.lit (.int .u8 0), .lit (.int .u8 1), .lit (.int .u8 28), .lit (.int .u8 2), .lit (.int .u8 29), .lit (.int .u8 14), .lit (.int .u8 24), .lit (.int .u8 3), .lit (.int .u8 30), .lit (.int .u8 22), .lit (.int .u8 20), .lit (.int .u8 15), .lit (.int .u8 25), .lit (.int .u8 17), .lit (.int .u8 4), .lit (.int .u8 8), .lit (.int .u8 31), .lit (.int .u8 27), .lit (.int .u8 13), .lit (.int .u8 23), .lit (.int .u8 21), .lit (.int .u8 19), .lit (.int .u8 16), .lit (.int .u8 7), .lit (.int .u8 26), .lit (.int .u8 12), .lit (.int .u8 18), .lit (.int .u8 6), .lit (.int .u8 11), .lit (.int .u8 5), .lit (.int .u8 10), .lit (.int .u8 9)]
def laid_math_bits_deBruijn64tab {H : Type} : DataW H := .agg [.lit (.int .u8 0), .lit (.int .u8 1), .lit (.int .u8 56), .lit (.int .u8 2), .lit (.int .u8 57), .lit (.int .u8 49), .lit (.int .u8 28), .lit (.int .u8 3), .lit (.int .u8 61), .lit (.int .u8 58), .lit (.int .u8 42), .lit (.int .u8 50), .lit (.int .u8 38), .lit (.int .u8 29), .lit (.int .u8 17), .lit (.int .u8 4), .lit (.int .u8 62), .lit (.int .u8 47), .lit (.int .u8 59), .lit (.int .u8 36), .lit (.int .u8 45), .lit (.int .u8 43), .lit (.int .u8 51), .lit (.int .u8 22), .lit (.int .u8 53), .lit (.int .u8 39), .lit (.int .u8 33), .lit (.int .u8 30), .lit (.int .u8 24), .lit (.int .u8 18), .lit (.int .u8 12), .lit (.int .u8 5), .lit (.int .u8 63), .lit (.int .u8 55), .lit (.int .u8 48), .lit (.int .u8 27), .lit (.int .u8 60), .lit (.int .u8 41), .lit (.int .u8 37), .lit (.int .u8 16), .lit (.int .u8 46), .lit (.int .u8 35), .lit (.int .u8 44), .lit (.int .u8 21), .lit (.int .u8 52), .lit (.int .u8 32), .lit (.int .u8 23), .lit (.int .u8 11), .lit (.int .u8 54), .lit (.int .u8 26), .lit (.int .u8 40), .lit (.int .u8 15), .lit (.int .u8 34), .lit (.int .u8 20), .lit (.int .u8 31), .lit (.int .u8 10), .lit (.int .u8 25), .lit (.int .u8 14), .lit (.int .u8 19), .lit (.int .u8 9), .lit (.int .u8 13), .lit (.int .u8 8), .lit (.int .u8 7), .lit (.int .u8 6)]

/-- 'shelfmarklaw26.RungsAdds': WHATEVER THE INPUT: true; the input reads as it did. -/
def rungsAddsSpec : ChangeSpec := { name := "rungsAdds", fn := fun _ => fun
  | [d1, d2, d3] => { results := [.lit (.bool true)], args := [d1, d2, d3] }
  | _ => none }
def rungsAddsRow : OpenClaim := { program := "ythbppblmecdekaadoor", sum := "864922b71fd89ed72298abfb86651593c1d5704eb287bf89afa46c82b4b411d0", func := "shelfmark/shelfmarklaw26.RungsAdds", spec := "rungsAdds", unfollowed := true, recurses := true, named := ["math/bits.deBruijn32tab", "math/bits.deBruijn64tab"], apart := false, laid := [("math/bits.deBruijn32tab", laid_math_bits_deBruijn32tab), ("math/bits.deBruijn64tab", laid_math_bits_deBruijn64tab)] }
def RungsAddsSaid : Prop := rungsAddsRow.holds Tryd.pinned (OpenSpec.ofChange rungsAddsSpec)

/-- ITS FALSE NEIGHBOUR: 'it returns false'. Refute it at one input. -/
def rungsAddsWrong : ChangeSpec := { name := "rungsAdds", fn := fun _ => fun
  | [d1, d2, d3] => { results := [.lit (.bool false)], args := [d1, d2, d3] }
  | _ => none }
def RungsAddsWrongFalsely : Prop := rungsAddsRow.holds Tryd.pinned (OpenSpec.ofChange rungsAddsWrong)

/-- 'shelfmarklaw26.RungsTells': WHATEVER THE INPUT: true; the input reads as it did. -/
def rungsTellsSpec : ChangeSpec := { name := "rungsTells", fn := fun _ => fun
  | [d1, d2, d3] => { results := [.lit (.bool true)], args := [d1, d2, d3] }
  | _ => none }
def rungsTellsRow : OpenClaim := { program := "ythbppblmecdekaadoor", sum := "864922b71fd89ed72298abfb86651593c1d5704eb287bf89afa46c82b4b411d0", func := "shelfmark/shelfmarklaw26.RungsTells", spec := "rungsTells", unfollowed := true, recurses := true, named := ["math/bits.deBruijn32tab", "math/bits.deBruijn64tab"], apart := false, laid := [("math/bits.deBruijn32tab", laid_math_bits_deBruijn32tab), ("math/bits.deBruijn64tab", laid_math_bits_deBruijn64tab)] }
def RungsTellsSaid : Prop := rungsTellsRow.holds Tryd.pinned (OpenSpec.ofChange rungsTellsSpec)

/-- ITS FALSE NEIGHBOUR: 'it returns false'. Refute it at one input. -/
def rungsTellsWrong : ChangeSpec := { name := "rungsTells", fn := fun _ => fun
  | [d1, d2, d3] => { results := [.lit (.bool false)], args := [d1, d2, d3] }
  | _ => none }
def RungsTellsWrongFalsely : Prop := rungsTellsRow.holds Tryd.pinned (OpenSpec.ofChange rungsTellsWrong)

/-- 'shelfmarklaw26.RungsPairs': WHATEVER THE INPUT: true; the input reads as it did. -/
def rungsPairsSpec : ChangeSpec := { name := "rungsPairs", fn := fun _ => fun
  | [d1, d2, d3] => { results := [.lit (.bool true)], args := [d1, d2, d3] }
  | _ => none }
def rungsPairsRow : OpenClaim := { program := "ythbppblmecdekaadoor", sum := "864922b71fd89ed72298abfb86651593c1d5704eb287bf89afa46c82b4b411d0", func := "shelfmark/shelfmarklaw26.RungsPairs", spec := "rungsPairs", unfollowed := true, recurses := true, named := ["math/bits.deBruijn32tab", "math/bits.deBruijn64tab"], apart := false, laid := [("math/bits.deBruijn32tab", laid_math_bits_deBruijn32tab), ("math/bits.deBruijn64tab", laid_math_bits_deBruijn64tab)] }
def RungsPairsSaid : Prop := rungsPairsRow.holds Tryd.pinned (OpenSpec.ofChange rungsPairsSpec)

/-- ITS FALSE NEIGHBOUR: 'it returns false'. Refute it at one input. -/
def rungsPairsWrong : ChangeSpec := { name := "rungsPairs", fn := fun _ => fun
  | [d1, d2, d3] => { results := [.lit (.bool false)], args := [d1, d2, d3] }
  | _ => none }
def RungsPairsWrongFalsely : Prop := rungsPairsRow.holds Tryd.pinned (OpenSpec.ofChange rungsPairsWrong)

/-- 'shelfmarklaw26.RungsNames': WHATEVER THE INPUT: true; the input reads as it did. -/
def rungsNamesSpec : ChangeSpec := { name := "rungsNames", fn := fun _ => fun
  | [] => { results := [.lit (.bool true)], args := [] }
  | _ => none }
def rungsNamesRow : OpenClaim := { program := "ythbppblmecdekaadoor", sum := "864922b71fd89ed72298abfb86651593c1d5704eb287bf89afa46c82b4b411d0", func := "shelfmark/shelfmarklaw26.RungsNames", spec := "rungsNames", unfollowed := true, recurses := true, named := ["math/bits.deBruijn32tab", "math/bits.deBruijn64tab"], apart := false, laid := [("math/bits.deBruijn32tab", laid_math_bits_deBruijn32tab), ("math/bits.deBruijn64tab", laid_math_bits_deBruijn64tab)] }
def RungsNamesSaid : Prop := rungsNamesRow.holds Tryd.pinned (OpenSpec.ofChange rungsNamesSpec)

/-- ITS FALSE NEIGHBOUR: 'it returns false'. Refute it at one input. -/
def rungsNamesWrong : ChangeSpec := { name := "rungsNames", fn := fun _ => fun
  | [] => { results := [.lit (.bool false)], args := [] }
  | _ => none }
def RungsNamesWrongFalsely : Prop := rungsNamesRow.holds Tryd.pinned (OpenSpec.ofChange rungsNamesWrong)

/-- 'shelfmarklaw27.LadderGets': WHATEVER THE INPUT: true; the input reads as it did. -/
def ladderGetsSpec : ChangeSpec := { name := "ladderGets", fn := fun _ => fun
  | [d1, d2, d3, d4] => { results := [.lit (.bool true)], args := [d1, d2, d3, d4] }
  | _ => none }
def ladderGetsRow : OpenClaim := { program := "ythbppblmecdekaadoor", sum := "864922b71fd89ed72298abfb86651593c1d5704eb287bf89afa46c82b4b411d0", func := "shelfmark/shelfmarklaw27.LadderGets", spec := "ladderGets", unfollowed := true, recurses := true, named := ["math/bits.deBruijn32tab", "math/bits.deBruijn64tab"], apart := false, laid := [("math/bits.deBruijn32tab", laid_math_bits_deBruijn32tab), ("math/bits.deBruijn64tab", laid_math_bits_deBruijn64tab)] }
def LadderGetsSaid : Prop := ladderGetsRow.holds Tryd.pinned (OpenSpec.ofChange ladderGetsSpec)

/-- ITS FALSE NEIGHBOUR: 'it returns false'. Refute it at one input. -/
def ladderGetsWrong : ChangeSpec := { name := "ladderGets", fn := fun _ => fun
  | [d1, d2, d3, d4] => { results := [.lit (.bool false)], args := [d1, d2, d3, d4] }
  | _ => none }
def LadderGetsWrongFalsely : Prop := ladderGetsRow.holds Tryd.pinned (OpenSpec.ofChange ladderGetsWrong)

/-- 'shelfmarklaw27.LadderNear': WHATEVER THE INPUT: true; the input reads as it did. -/
def ladderNearSpec : ChangeSpec := { name := "ladderNear", fn := fun _ => fun
  | [d1, d2] => { results := [.lit (.bool true)], args := [d1, d2] }
  | _ => none }
def ladderNearRow : OpenClaim := { program := "ythbppblmecdekaadoor", sum := "864922b71fd89ed72298abfb86651593c1d5704eb287bf89afa46c82b4b411d0", func := "shelfmark/shelfmarklaw27.LadderNear", spec := "ladderNear", unfollowed := true, recurses := true, named := ["math/bits.deBruijn32tab", "math/bits.deBruijn64tab"], apart := false, laid := [("math/bits.deBruijn32tab", laid_math_bits_deBruijn32tab), ("math/bits.deBruijn64tab", laid_math_bits_deBruijn64tab)] }
def LadderNearSaid : Prop := ladderNearRow.holds Tryd.pinned (OpenSpec.ofChange ladderNearSpec)

/-- ITS FALSE NEIGHBOUR: 'it returns false'. Refute it at one input. -/
def ladderNearWrong : ChangeSpec := { name := "ladderNear", fn := fun _ => fun
  | [d1, d2] => { results := [.lit (.bool false)], args := [d1, d2] }
  | _ => none }
def LadderNearWrongFalsely : Prop := ladderNearRow.holds Tryd.pinned (OpenSpec.ofChange ladderNearWrong)

/-- 'shelfmarklaw27.LadderWalks': WHATEVER THE INPUT: true; the input reads as it did. -/
def ladderWalksSpec : ChangeSpec := { name := "ladderWalks", fn := fun _ => fun
  | [d1, d2] => { results := [.lit (.bool true)], args := [d1, d2] }
  | _ => none }
def ladderWalksRow : OpenClaim := { program := "ythbppblmecdekaadoor", sum := "864922b71fd89ed72298abfb86651593c1d5704eb287bf89afa46c82b4b411d0", func := "shelfmark/shelfmarklaw27.LadderWalks", spec := "ladderWalks", unfollowed := true, recurses := true, named := ["math/bits.deBruijn32tab", "math/bits.deBruijn64tab"], apart := false, laid := [("math/bits.deBruijn32tab", laid_math_bits_deBruijn32tab), ("math/bits.deBruijn64tab", laid_math_bits_deBruijn64tab)] }
def LadderWalksSaid : Prop := ladderWalksRow.holds Tryd.pinned (OpenSpec.ofChange ladderWalksSpec)

/-- ITS FALSE NEIGHBOUR: 'it returns false'. Refute it at one input. -/
def ladderWalksWrong : ChangeSpec := { name := "ladderWalks", fn := fun _ => fun
  | [d1, d2] => { results := [.lit (.bool false)], args := [d1, d2] }
  | _ => none }
def LadderWalksWrongFalsely : Prop := ladderWalksRow.holds Tryd.pinned (OpenSpec.ofChange ladderWalksWrong)

/-- 'shelfmarklaw25.KwayNames': WHATEVER THE INPUT: true; the input reads as it did. -/
def kwayNamesSpec : ChangeSpec := { name := "kwayNames", fn := fun _ => fun
  | [] => { results := [.lit (.bool true)], args := [] }
  | _ => none }
def kwayNamesRow : OpenClaim := { program := "ythbppblmecdekaadoor", sum := "864922b71fd89ed72298abfb86651593c1d5704eb287bf89afa46c82b4b411d0", func := "shelfmark/shelfmarklaw25.KwayNames", spec := "kwayNames", unfollowed := true, recurses := true, named := ["math/bits.deBruijn32tab", "math/bits.deBruijn64tab"], apart := false, laid := [("math/bits.deBruijn32tab", laid_math_bits_deBruijn32tab), ("math/bits.deBruijn64tab", laid_math_bits_deBruijn64tab)] }
def KwayNamesSaid : Prop := kwayNamesRow.holds Tryd.pinned (OpenSpec.ofChange kwayNamesSpec)

/-- ITS FALSE NEIGHBOUR: 'it returns false'. Refute it at one input. -/
def kwayNamesWrong : ChangeSpec := { name := "kwayNames", fn := fun _ => fun
  | [] => { results := [.lit (.bool false)], args := [] }
  | _ => none }
def KwayNamesWrongFalsely : Prop := kwayNamesRow.holds Tryd.pinned (OpenSpec.ofChange kwayNamesWrong)

/- THE SECOND FORM. 'bulk': how many values and letters a reading holds, each counted each time it is reached (what is shared counts as often as it is met; a slice's spare places count too). A statement '..UptoSaid' is the law's where the arguments, and the package variables that the reading takes, are together of bulk at most 1048576: NARROWER than '..Said'. Prove '..Said' where nothing that the law and all that it calls make is longer than what came in: it says more and counts as full. Else prove '..UptoSaid'. A law counts once. -/
mutual
def uptoBulk {H : Type} : DataW H → Nat
  | .lit (.string bytes) => bytes.length + 1
  | .lit _ => 1
  | .nil => 1
  | .ptr d => uptoBulk d + 1
  | .slice elems spare => uptoBulkAll elems + uptoBulkAll spare + 1
  | .agg parts => uptoBulkAll parts + 1
  | .iface _ d => uptoBulk d + 1
  | .map entries => uptoBulkEntries entries + 1
  | .held _ => 1
def uptoBulkAll {H : Type} : List (DataW H) → Nat
  | [] => 0
  | d :: r => uptoBulk d + uptoBulkAll r
def uptoBulkEntries {H : Type} : List (Lit × DataW H) → Nat
  | [] => 0
  | x :: r => uptoBulkEntry x + uptoBulkEntries r
def uptoBulkEntry {H : Type} : Lit × DataW H → Nat
  | (.string bytes, d) => bytes.length + uptoBulk d + 1
  | (_, d) => uptoBulk d + 1
 end
def uptoSmall : (H : Type) → List (DataW H) → Bool := fun _ ds => decide (uptoBulkAll ds ≤ 1048576)
def OpenSpec.upto (s : _root_.Go.ChangeSpec) : _root_.Go.OpenSpec := { _root_.Go.OpenSpec.ofChange s with cond := some uptoSmall }

/-- 'shelfmarklaw26.RungsAdds', WHERE WHAT IT READS IS OF BULK AT MOST 1048576: true; the input reads as it did. -/
def rungsAddsUptoRow : OpenClaim := { program := "ythbppblmecdekaadoor", sum := "864922b71fd89ed72298abfb86651593c1d5704eb287bf89afa46c82b4b411d0", func := "shelfmark/shelfmarklaw26.RungsAdds", spec := "rungsAdds", unfollowed := true, recurses := true, named := ["math/bits.deBruijn32tab", "math/bits.deBruijn64tab"], apart := false, laid := [("math/bits.deBruijn32tab", laid_math_bits_deBruijn32tab), ("math/bits.deBruijn64tab", laid_math_bits_deBruijn64tab)], narrowed := true }
def RungsAddsUptoSaid : Prop := rungsAddsUptoRow.holds Tryd.pinned (OpenSpec.upto rungsAddsSpec)

/-- 'shelfmarklaw26.RungsTells', WHERE WHAT IT READS IS OF BULK AT MOST 1048576: true; the input reads as it did. -/
def rungsTellsUptoRow : OpenClaim := { program := "ythbppblmecdekaadoor", sum := "864922b71fd89ed72298abfb86651593c1d5704eb287bf89afa46c82b4b411d0", func := "shelfmark/shelfmarklaw26.RungsTells", spec := "rungsTells", unfollowed := true, recurses := true, named := ["math/bits.deBruijn32tab", "math/bits.deBruijn64tab"], apart := false, laid := [("math/bits.deBruijn32tab", laid_math_bits_deBruijn32tab), ("math/bits.deBruijn64tab", laid_math_bits_deBruijn64tab)], narrowed := true }
def RungsTellsUptoSaid : Prop := rungsTellsUptoRow.holds Tryd.pinned (OpenSpec.upto rungsTellsSpec)

/-- 'shelfmarklaw26.RungsPairs', WHERE WHAT IT READS IS OF BULK AT MOST 1048576: true; the input reads as it did. -/
def rungsPairsUptoRow : OpenClaim := { program := "ythbppblmecdekaadoor", sum := "864922b71fd89ed72298abfb86651593c1d5704eb287bf89afa46c82b4b411d0", func := "shelfmark/shelfmarklaw26.RungsPairs", spec := "rungsPairs", unfollowed := true, recurses := true, named := ["math/bits.deBruijn32tab", "math/bits.deBruijn64tab"], apart := false, laid := [("math/bits.deBruijn32tab", laid_math_bits_deBruijn32tab), ("math/bits.deBruijn64tab", laid_math_bits_deBruijn64tab)], narrowed := true }
def RungsPairsUptoSaid : Prop := rungsPairsUptoRow.holds Tryd.pinned (OpenSpec.upto rungsPairsSpec)

/-- 'shelfmarklaw26.RungsNames', WHERE WHAT IT READS IS OF BULK AT MOST 1048576: true; the input reads as it did. -/
def rungsNamesUptoRow : OpenClaim := { program := "ythbppblmecdekaadoor", sum := "864922b71fd89ed72298abfb86651593c1d5704eb287bf89afa46c82b4b411d0", func := "shelfmark/shelfmarklaw26.RungsNames", spec := "rungsNames", unfollowed := true, recurses := true, named := ["math/bits.deBruijn32tab", "math/bits.deBruijn64tab"], apart := false, laid := [("math/bits.deBruijn32tab", laid_math_bits_deBruijn32tab), ("math/bits.deBruijn64tab", laid_math_bits_deBruijn64tab)], narrowed := true }
def RungsNamesUptoSaid : Prop := rungsNamesUptoRow.holds Tryd.pinned (OpenSpec.upto rungsNamesSpec)

/-- 'shelfmarklaw27.LadderGets', WHERE WHAT IT READS IS OF BULK AT MOST 1048576: true; the input reads as it did. -/
def ladderGetsUptoRow : OpenClaim := { program := "ythbppblmecdekaadoor", sum := "864922b71fd89ed72298abfb86651593c1d5704eb287bf89afa46c82b4b411d0", func := "shelfmark/shelfmarklaw27.LadderGets", spec := "ladderGets", unfollowed := true, recurses := true, named := ["math/bits.deBruijn32tab", "math/bits.deBruijn64tab"], apart := false, laid := [("math/bits.deBruijn32tab", laid_math_bits_deBruijn32tab), ("math/bits.deBruijn64tab", laid_math_bits_deBruijn64tab)], narrowed := true }
def LadderGetsUptoSaid : Prop := ladderGetsUptoRow.holds Tryd.pinned (OpenSpec.upto ladderGetsSpec)

/-- 'shelfmarklaw27.LadderNear', WHERE WHAT IT READS IS OF BULK AT MOST 1048576: true; the input reads as it did. -/
def ladderNearUptoRow : OpenClaim := { program := "ythbppblmecdekaadoor", sum := "864922b71fd89ed72298abfb86651593c1d5704eb287bf89afa46c82b4b411d0", func := "shelfmark/shelfmarklaw27.LadderNear", spec := "ladderNear", unfollowed := true, recurses := true, named := ["math/bits.deBruijn32tab", "math/bits.deBruijn64tab"], apart := false, laid := [("math/bits.deBruijn32tab", laid_math_bits_deBruijn32tab), ("math/bits.deBruijn64tab", laid_math_bits_deBruijn64tab)], narrowed := true }
def LadderNearUptoSaid : Prop := ladderNearUptoRow.holds Tryd.pinned (OpenSpec.upto ladderNearSpec)

/-- 'shelfmarklaw27.LadderWalks', WHERE WHAT IT READS IS OF BULK AT MOST 1048576: true; the input reads as it did. -/
def ladderWalksUptoRow : OpenClaim := { program := "ythbppblmecdekaadoor", sum := "864922b71fd89ed72298abfb86651593c1d5704eb287bf89afa46c82b4b411d0", func := "shelfmark/shelfmarklaw27.LadderWalks", spec := "ladderWalks", unfollowed := true, recurses := true, named := ["math/bits.deBruijn32tab", "math/bits.deBruijn64tab"], apart := false, laid := [("math/bits.deBruijn32tab", laid_math_bits_deBruijn32tab), ("math/bits.deBruijn64tab", laid_math_bits_deBruijn64tab)], narrowed := true }
def LadderWalksUptoSaid : Prop := ladderWalksUptoRow.holds Tryd.pinned (OpenSpec.upto ladderWalksSpec)

/-- 'shelfmarklaw25.KwayNames', WHERE WHAT IT READS IS OF BULK AT MOST 1048576: true; the input reads as it did. -/
def kwayNamesUptoRow : OpenClaim := { program := "ythbppblmecdekaadoor", sum := "864922b71fd89ed72298abfb86651593c1d5704eb287bf89afa46c82b4b411d0", func := "shelfmark/shelfmarklaw25.KwayNames", spec := "kwayNames", unfollowed := true, recurses := true, named := ["math/bits.deBruijn32tab", "math/bits.deBruijn64tab"], apart := false, laid := [("math/bits.deBruijn32tab", laid_math_bits_deBruijn32tab), ("math/bits.deBruijn64tab", laid_math_bits_deBruijn64tab)], narrowed := true }
def KwayNamesUptoSaid : Prop := kwayNamesUptoRow.holds Tryd.pinned (OpenSpec.upto kwayNamesSpec)

end Rows
end Go.Proofs.YthbppblmecdekaaDoor
