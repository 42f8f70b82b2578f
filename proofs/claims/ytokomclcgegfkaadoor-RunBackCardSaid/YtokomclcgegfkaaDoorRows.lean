/-
  NARROWER THAN 'FOR EVERY INPUT', by the rows' own cells (each row's printed sentence says how): BoundNames: laid · BoundRanks: laid · BoundBack: laid · BoundTells: laid · RunTells: laid · RunWhole: laid · KwayTells: laid · KwayNewest: laid · KwayNames: laid · RunBack: laid · RunNames: laid.
  DERIVED. THE GIVEN ROWS OF THIS SEAT. 11 by the template 'for every input the law returns true; each argument reads behind the call as it read before'; 0 by the template 'total and deterministic' (their statements: YtokomclcgegfkaaDoorTotals.lean).
  GIVEN WITH THE SEED: the statements are not yours to turn. If you find one false, say at which input.
  Laid BY PROGRAM, IN A SANDBOX (cutbox-rows.mjs): the forced cells as the released guide's own fill.sh prints them over the translation e3e9f208ffcb73f7… (all of the seat's roots in one cut). By AI agents, Wed Nov 11 2026. No macro, syntax, notation, axiom, sorry.
-/
import Derived.Test.YtokomclcgegfkaaDoorChecked
import GoSem.Claim
import GoSem.ClaimJoined
import GoSem.ClaimMapViews
import Derived.JoinedTies
import Derived.KernelRfl
namespace Go.Proofs.YtokomclcgegfkaaDoor
/- THE CELL 'sum', in the pinned program and in every row, IS THE sha256 OF THE DUMP (.gsa) THAT YtokomclcgegfkaaDoorProg.lean LOADS. Nothing in Lean hashes anything: it is a label: what it is worth is what the hold of that sum in a sandbox is worth. -/
noncomputable def Tryd.pinned : Pinned := { name := "ytokomclcgegfkaadoor", sum := "e3e9f208ffcb73f71e086e6cac2456ffcf24f7ec63e5ac2f669c1db8e7af76e3", checked := Tryd.checked }
namespace Rows
def none {H : Type} : Left H := { results := [], args := [] }

/- WHAT THE LISTED PACKAGE-LEVEL VARIABLES READ AS WHEN THE CALL BEGINS. Each datum BY PROGRAM (the guide's laid-datum.mjs) off the statement by which the dump's own 'gosem.cut.vars' lays the variable. In a bare row this is a premise. The card (YtokomclcgegfkaaDoorCards.lean) ties it to the program's text. -/
def laid_math_bits_deBruijn32tab {H : Type} : DataW H := .agg [.lit (.int .u8 0), .lit (.int .u8 1), .lit (.int .u8 28), .lit (.int .u8 2), .lit (.int .u8 29), .lit (.int .u8 14), .lit (.int .u8 24), .lit (.int .u8 3), .lit (.int .u8 30), .lit (.int .u8 22), .lit (.int .u8 20), .lit (.int .u8 15), .lit (.int .u8 25), .lit (.int .u8 17), .lit (.int .u8 4), .lit (.int .u8 8), .lit (.int .u8 31), .lit (.int .u8 27), .lit (.int .u8 13), .lit (.int .u8 23), .lit (.int .u8 21), .lit (.int .u8 19), .lit (.int .u8 16), .lit (.int .u8 7), .lit (.int .u8 26), .lit (.int .u8 12), .lit (.int .u8 18), .lit (.int .u8 6), .lit (.int .u8 11), .lit (.int .u8 5), .lit (.int .u8 10), .lit (.int .u8 9)]
def laid_math_bits_deBruijn64tab {H : Type} : DataW H := .agg [.lit (.int .u8 0), .lit (.int .u8 1), .lit (.int .u8 56), .lit (.int .u8 2), .lit (.int .u8 57), .lit (.int .u8 49), .lit (.int .u8 28), .lit (.int .u8 3), .lit (.int .u8 61), .lit (.int .u8 58), .lit (.int .u8 42), .lit (.int .u8 50), .lit (.int .u8 38), .lit (.int .u8 29), .lit (.int .u8 17), .lit (.int .u8 4), .lit (.int .u8 62), .lit (.int .u8 47), .lit (.int .u8 59), .lit (.int .u8 36), .lit (.int .u8 45), .lit (.int .u8 43), .lit (.int .u8 51), .lit (.int .u8 22), .lit (.int .u8 53), .lit (.int .u8 39), .lit (.int .u8 33), .lit (.int .u8 30), .lit (.int .u8 24), .lit (.int .u8 18), .lit (.int .u8 12), .lit (.int .u8 5), .lit (.int .u8 63), .lit (.int .u8 55), .lit (.int .u8 48), .lit (.int .u8 27), .lit (.int .u8 60), .lit (.int .u8 41), .lit (.int .u8 37), .lit (.int .u8 16), .lit (.int .u8 46), .lit (.int .u8 35), .lit (.int .u8 44), .lit (.int .u8 21), .lit (.int .u8 52), .lit (.int .u8 32), .lit (.int .u8 23), .lit (.int .u8 11), .lit (.int .u8 54), .lit (.int .u8 26), .lit (.int .u8 40), .lit (.int .u8 15), .lit (.int .u8 34), .lit (.int .u8 20), .lit (.int .u8 31), .lit (.int .u8 10), .lit (.int .u8 25), .lit (.int .u8 14), .lit (.int .u8 19), .lit (.int .u8 9), .lit (.int .u8 13), .lit (.int .u8 8), .lit (.int .u8 7), .lit (.int .u8 6)]

/-- 'shelfmarklaw23.BoundNames': WHATEVER THE INPUT: true; the input reads as it did. -/
def boundNamesSpec : ChangeSpec := { name := "boundNames", fn := fun _ => fun
  | [] => { results := [.lit (.bool true)], args := [] }
  | _ => none }
def boundNamesRow : OpenClaim := { program := "ytokomclcgegfkaadoor", sum := "e3e9f208ffcb73f71e086e6cac2456ffcf24f7ec63e5ac2f669c1db8e7af76e3", func := "shelfmark/shelfmarklaw23.BoundNames", spec := "boundNames", unfollowed := true, recurses := true, named := ["math/bits.deBruijn32tab", "math/bits.deBruijn64tab"], apart := false, laid := [("math/bits.deBruijn32tab", laid_math_bits_deBruijn32tab), ("math/bits.deBruijn64tab", laid_math_bits_deBruijn64tab)] }
def BoundNamesSaid : Prop := boundNamesRow.holds Tryd.pinned (OpenSpec.ofChange boundNamesSpec)

/-- ITS FALSE NEIGHBOUR: 'it returns false'. Refute it at one input. -/
def boundNamesWrong : ChangeSpec := { name := "boundNames", fn := fun _ => fun
  | [] => { results := [.lit (.bool false)], args := [] }
  | _ => none }
def BoundNamesWrongFalsely : Prop := boundNamesRow.holds Tryd.pinned (OpenSpec.ofChange boundNamesWrong)

/-- 'shelfmarklaw23.BoundRanks': WHATEVER THE INPUT: true; the input reads as it did. -/
def boundRanksSpec : ChangeSpec := { name := "boundRanks", fn := fun _ => fun
  | [d1, d2] => { results := [.lit (.bool true)], args := [d1, d2] }
  | _ => none }
def boundRanksRow : OpenClaim := { program := "ytokomclcgegfkaadoor", sum := "e3e9f208ffcb73f71e086e6cac2456ffcf24f7ec63e5ac2f669c1db8e7af76e3", func := "shelfmark/shelfmarklaw23.BoundRanks", spec := "boundRanks", unfollowed := true, recurses := true, named := ["math/bits.deBruijn32tab", "math/bits.deBruijn64tab"], apart := false, laid := [("math/bits.deBruijn32tab", laid_math_bits_deBruijn32tab), ("math/bits.deBruijn64tab", laid_math_bits_deBruijn64tab)] }
def BoundRanksSaid : Prop := boundRanksRow.holds Tryd.pinned (OpenSpec.ofChange boundRanksSpec)

/-- ITS FALSE NEIGHBOUR: 'it returns false'. Refute it at one input. -/
def boundRanksWrong : ChangeSpec := { name := "boundRanks", fn := fun _ => fun
  | [d1, d2] => { results := [.lit (.bool false)], args := [d1, d2] }
  | _ => none }
def BoundRanksWrongFalsely : Prop := boundRanksRow.holds Tryd.pinned (OpenSpec.ofChange boundRanksWrong)

/-- 'shelfmarklaw23.BoundBack': WHATEVER THE INPUT: true; the input reads as it did. -/
def boundBackSpec : ChangeSpec := { name := "boundBack", fn := fun _ => fun
  | [d1, d2] => { results := [.lit (.bool true)], args := [d1, d2] }
  | _ => none }
def boundBackRow : OpenClaim := { program := "ytokomclcgegfkaadoor", sum := "e3e9f208ffcb73f71e086e6cac2456ffcf24f7ec63e5ac2f669c1db8e7af76e3", func := "shelfmark/shelfmarklaw23.BoundBack", spec := "boundBack", unfollowed := true, recurses := true, named := ["math/bits.deBruijn32tab", "math/bits.deBruijn64tab"], apart := false, laid := [("math/bits.deBruijn32tab", laid_math_bits_deBruijn32tab), ("math/bits.deBruijn64tab", laid_math_bits_deBruijn64tab)] }
def BoundBackSaid : Prop := boundBackRow.holds Tryd.pinned (OpenSpec.ofChange boundBackSpec)

/-- ITS FALSE NEIGHBOUR: 'it returns false'. Refute it at one input. -/
def boundBackWrong : ChangeSpec := { name := "boundBack", fn := fun _ => fun
  | [d1, d2] => { results := [.lit (.bool false)], args := [d1, d2] }
  | _ => none }
def BoundBackWrongFalsely : Prop := boundBackRow.holds Tryd.pinned (OpenSpec.ofChange boundBackWrong)

/-- 'shelfmarklaw23.BoundTells': WHATEVER THE INPUT: true; the input reads as it did. -/
def boundTellsSpec : ChangeSpec := { name := "boundTells", fn := fun _ => fun
  | [d1, d2, d3] => { results := [.lit (.bool true)], args := [d1, d2, d3] }
  | _ => none }
def boundTellsRow : OpenClaim := { program := "ytokomclcgegfkaadoor", sum := "e3e9f208ffcb73f71e086e6cac2456ffcf24f7ec63e5ac2f669c1db8e7af76e3", func := "shelfmark/shelfmarklaw23.BoundTells", spec := "boundTells", unfollowed := true, recurses := true, named := ["math/bits.deBruijn32tab", "math/bits.deBruijn64tab"], apart := false, laid := [("math/bits.deBruijn32tab", laid_math_bits_deBruijn32tab), ("math/bits.deBruijn64tab", laid_math_bits_deBruijn64tab)] }
def BoundTellsSaid : Prop := boundTellsRow.holds Tryd.pinned (OpenSpec.ofChange boundTellsSpec)

/-- ITS FALSE NEIGHBOUR: 'it returns false'. Refute it at one input. -/
def boundTellsWrong : ChangeSpec := { name := "boundTells", fn := fun _ => fun
  | [d1, d2, d3] => { results := [.lit (.bool false)], args := [d1, d2, d3] }
  | _ => none }
def BoundTellsWrongFalsely : Prop := boundTellsRow.holds Tryd.pinned (OpenSpec.ofChange boundTellsWrong)

/-- 'shelfmarklaw24.RunTells': WHATEVER THE INPUT: true; the input reads as it did. -/
def runTellsSpec : ChangeSpec := { name := "runTells", fn := fun _ => fun
  | [d1, d2] => { results := [.lit (.bool true)], args := [d1, d2] }
  | _ => none }
def runTellsRow : OpenClaim := { program := "ytokomclcgegfkaadoor", sum := "e3e9f208ffcb73f71e086e6cac2456ffcf24f7ec63e5ac2f669c1db8e7af76e3", func := "shelfmark/shelfmarklaw24.RunTells", spec := "runTells", unfollowed := true, recurses := true, named := ["math/bits.deBruijn32tab", "math/bits.deBruijn64tab"], apart := false, laid := [("math/bits.deBruijn32tab", laid_math_bits_deBruijn32tab), ("math/bits.deBruijn64tab", laid_math_bits_deBruijn64tab)] }
def RunTellsSaid : Prop := runTellsRow.holds Tryd.pinned (OpenSpec.ofChange runTellsSpec)

/-- ITS FALSE NEIGHBOUR: 'it returns false'. Refute it at one input. -/
def runTellsWrong : ChangeSpec := { name := "runTells", fn := fun _ => fun
  | [d1, d2] => { results := [.lit (.bool false)], args := [d1, d2] }
  | _ => none }
def RunTellsWrongFalsely : Prop := runTellsRow.holds Tryd.pinned (OpenSpec.ofChange runTellsWrong)

/-- 'shelfmarklaw24.RunWhole': WHATEVER THE INPUT: true; the input reads as it did. -/
def runWholeSpec : ChangeSpec := { name := "runWhole", fn := fun _ => fun
  | [d1, d2] => { results := [.lit (.bool true)], args := [d1, d2] }
  | _ => none }
def runWholeRow : OpenClaim := { program := "ytokomclcgegfkaadoor", sum := "e3e9f208ffcb73f71e086e6cac2456ffcf24f7ec63e5ac2f669c1db8e7af76e3", func := "shelfmark/shelfmarklaw24.RunWhole", spec := "runWhole", unfollowed := true, recurses := true, named := ["math/bits.deBruijn32tab", "math/bits.deBruijn64tab"], apart := false, laid := [("math/bits.deBruijn32tab", laid_math_bits_deBruijn32tab), ("math/bits.deBruijn64tab", laid_math_bits_deBruijn64tab)] }
def RunWholeSaid : Prop := runWholeRow.holds Tryd.pinned (OpenSpec.ofChange runWholeSpec)

/-- ITS FALSE NEIGHBOUR: 'it returns false'. Refute it at one input. -/
def runWholeWrong : ChangeSpec := { name := "runWhole", fn := fun _ => fun
  | [d1, d2] => { results := [.lit (.bool false)], args := [d1, d2] }
  | _ => none }
def RunWholeWrongFalsely : Prop := runWholeRow.holds Tryd.pinned (OpenSpec.ofChange runWholeWrong)

/-- 'shelfmarklaw25.KwayTells': WHATEVER THE INPUT: true; the input reads as it did. -/
def kwayTellsSpec : ChangeSpec := { name := "kwayTells", fn := fun _ => fun
  | [d1, d2] => { results := [.lit (.bool true)], args := [d1, d2] }
  | _ => none }
def kwayTellsRow : OpenClaim := { program := "ytokomclcgegfkaadoor", sum := "e3e9f208ffcb73f71e086e6cac2456ffcf24f7ec63e5ac2f669c1db8e7af76e3", func := "shelfmark/shelfmarklaw25.KwayTells", spec := "kwayTells", unfollowed := true, recurses := true, named := ["math/bits.deBruijn32tab", "math/bits.deBruijn64tab"], apart := false, laid := [("math/bits.deBruijn32tab", laid_math_bits_deBruijn32tab), ("math/bits.deBruijn64tab", laid_math_bits_deBruijn64tab)] }
def KwayTellsSaid : Prop := kwayTellsRow.holds Tryd.pinned (OpenSpec.ofChange kwayTellsSpec)

/-- ITS FALSE NEIGHBOUR: 'it returns false'. Refute it at one input. -/
def kwayTellsWrong : ChangeSpec := { name := "kwayTells", fn := fun _ => fun
  | [d1, d2] => { results := [.lit (.bool false)], args := [d1, d2] }
  | _ => none }
def KwayTellsWrongFalsely : Prop := kwayTellsRow.holds Tryd.pinned (OpenSpec.ofChange kwayTellsWrong)

/-- 'shelfmarklaw25.KwayNewest': WHATEVER THE INPUT: true; the input reads as it did. -/
def kwayNewestSpec : ChangeSpec := { name := "kwayNewest", fn := fun _ => fun
  | [d1, d2] => { results := [.lit (.bool true)], args := [d1, d2] }
  | _ => none }
def kwayNewestRow : OpenClaim := { program := "ytokomclcgegfkaadoor", sum := "e3e9f208ffcb73f71e086e6cac2456ffcf24f7ec63e5ac2f669c1db8e7af76e3", func := "shelfmark/shelfmarklaw25.KwayNewest", spec := "kwayNewest", unfollowed := true, recurses := true, named := ["math/bits.deBruijn32tab", "math/bits.deBruijn64tab"], apart := false, laid := [("math/bits.deBruijn32tab", laid_math_bits_deBruijn32tab), ("math/bits.deBruijn64tab", laid_math_bits_deBruijn64tab)] }
def KwayNewestSaid : Prop := kwayNewestRow.holds Tryd.pinned (OpenSpec.ofChange kwayNewestSpec)

/-- ITS FALSE NEIGHBOUR: 'it returns false'. Refute it at one input. -/
def kwayNewestWrong : ChangeSpec := { name := "kwayNewest", fn := fun _ => fun
  | [d1, d2] => { results := [.lit (.bool false)], args := [d1, d2] }
  | _ => none }
def KwayNewestWrongFalsely : Prop := kwayNewestRow.holds Tryd.pinned (OpenSpec.ofChange kwayNewestWrong)

/-- 'shelfmarklaw25.KwayNames': WHATEVER THE INPUT: true; the input reads as it did. -/
def kwayNamesSpec : ChangeSpec := { name := "kwayNames", fn := fun _ => fun
  | [] => { results := [.lit (.bool true)], args := [] }
  | _ => none }
def kwayNamesRow : OpenClaim := { program := "ytokomclcgegfkaadoor", sum := "e3e9f208ffcb73f71e086e6cac2456ffcf24f7ec63e5ac2f669c1db8e7af76e3", func := "shelfmark/shelfmarklaw25.KwayNames", spec := "kwayNames", unfollowed := true, recurses := true, named := ["math/bits.deBruijn32tab", "math/bits.deBruijn64tab"], apart := false, laid := [("math/bits.deBruijn32tab", laid_math_bits_deBruijn32tab), ("math/bits.deBruijn64tab", laid_math_bits_deBruijn64tab)] }
def KwayNamesSaid : Prop := kwayNamesRow.holds Tryd.pinned (OpenSpec.ofChange kwayNamesSpec)

/-- ITS FALSE NEIGHBOUR: 'it returns false'. Refute it at one input. -/
def kwayNamesWrong : ChangeSpec := { name := "kwayNames", fn := fun _ => fun
  | [] => { results := [.lit (.bool false)], args := [] }
  | _ => none }
def KwayNamesWrongFalsely : Prop := kwayNamesRow.holds Tryd.pinned (OpenSpec.ofChange kwayNamesWrong)

/-- 'shelfmarklaw24.RunBack': WHATEVER THE INPUT: true; the input reads as it did. -/
def runBackSpec : ChangeSpec := { name := "runBack", fn := fun _ => fun
  | [d1, d2] => { results := [.lit (.bool true)], args := [d1, d2] }
  | _ => none }
def runBackRow : OpenClaim := { program := "ytokomclcgegfkaadoor", sum := "e3e9f208ffcb73f71e086e6cac2456ffcf24f7ec63e5ac2f669c1db8e7af76e3", func := "shelfmark/shelfmarklaw24.RunBack", spec := "runBack", unfollowed := true, recurses := true, named := ["math/bits.deBruijn32tab", "math/bits.deBruijn64tab"], apart := false, laid := [("math/bits.deBruijn32tab", laid_math_bits_deBruijn32tab), ("math/bits.deBruijn64tab", laid_math_bits_deBruijn64tab)] }
def RunBackSaid : Prop := runBackRow.holds Tryd.pinned (OpenSpec.ofChange runBackSpec)

/-- ITS FALSE NEIGHBOUR: 'it returns false'. Refute it at one input. -/
def runBackWrong : ChangeSpec := { name := "runBack", fn := fun _ => fun
  | [d1, d2] => { results := [.lit (.bool false)], args := [d1, d2] }
  | _ => none }
def RunBackWrongFalsely : Prop := runBackRow.holds Tryd.pinned (OpenSpec.ofChange runBackWrong)

/-- 'shelfmarklaw24.RunNames': WHATEVER THE INPUT: true; the input reads as it did. -/
def runNamesSpec : ChangeSpec := { name := "runNames", fn := fun _ => fun
  | [] => { results := [.lit (.bool true)], args := [] }
  | _ => none }
def runNamesRow : OpenClaim := { program := "ytokomclcgegfkaadoor", sum := "e3e9f208ffcb73f71e086e6cac2456ffcf24f7ec63e5ac2f669c1db8e7af76e3", func := "shelfmark/shelfmarklaw24.RunNames", spec := "runNames", unfollowed := true, recurses := true, named := ["math/bits.deBruijn32tab", "math/bits.deBruijn64tab"], apart := false, laid := [("math/bits.deBruijn32tab", laid_math_bits_deBruijn32tab), ("math/bits.deBruijn64tab", laid_math_bits_deBruijn64tab)] }
def RunNamesSaid : Prop := runNamesRow.holds Tryd.pinned (OpenSpec.ofChange runNamesSpec)

/-- ITS FALSE NEIGHBOUR: 'it returns false'. Refute it at one input. -/
def runNamesWrong : ChangeSpec := { name := "runNames", fn := fun _ => fun
  | [] => { results := [.lit (.bool false)], args := [] }
  | _ => none }
def RunNamesWrongFalsely : Prop := runNamesRow.holds Tryd.pinned (OpenSpec.ofChange runNamesWrong)

/- THE SECOND FORM. 'bulk': how many values and letters a reading holds, each counted each time it is reached (what is shared counts as often as it is met; a slice's spare places count too). A statement '..UptoSaid' is the law's where the arguments, and the package variables that the reading takes, are together of bulk at most 1048576: NARROWER than '..Said'. Prove '..Said' where nothing that the law and all that it calls make is longer than what came in: it says more and counts as full. Else prove '..UptoSaid'. A law counts once. -/
mutual
def uptoBulk {H : Type} : DataW H → Nat
  | .lit (.string bytes) => bytes.length + 1
  | .lit _ => 1
  | .nil => 1
  | .ptr d => uptoBulk d + 1
  | .slice elems spare => uptoBulkAll elems + uptoBulkAll spare + 1
  | .agg parts => uptoBulkAll parts + 1
  | .iface _ d => uptoBulk d + 1
  | .map entries => uptoBulkEntries entries + 1
  | .held _ => 1
def uptoBulkAll {H : Type} : List (DataW H) → Nat
  | [] => 0
  | d :: r => uptoBulk d + uptoBulkAll r
def uptoBulkEntries {H : Type} : List (Lit × DataW H) → Nat
  | [] => 0
  | x :: r => uptoBulkEntry x + uptoBulkEntries r
def uptoBulkEntry {H : Type} : Lit × DataW H → Nat
  | (.string bytes, d) => bytes.length + uptoBulk d + 1
  | (_, d) => uptoBulk d + 1
 end
def uptoSmall : (H : Type) → List (DataW H) → Bool := fun _ ds => decide (uptoBulkAll ds ≤ 1048576)
def OpenSpec.upto (s : _root_.Go.ChangeSpec) : _root_.Go.OpenSpec := { _root_.Go.OpenSpec.ofChange s with cond := some uptoSmall }

/-- 'shelfmarklaw23.BoundNames', WHERE WHAT IT READS IS OF BULK AT MOST 1048576: true; the input reads as it did. -/
def boundNamesUptoRow : OpenClaim := { program := "ytokomclcgegfkaadoor", sum := "e3e9f208ffcb73f71e086e6cac2456ffcf24f7ec63e5ac2f669c1db8e7af76e3", func := "shelfmark/shelfmarklaw23.BoundNames", spec := "boundNames", unfollowed := true, recurses := true, named := ["math/bits.deBruijn32tab", "math/bits.deBruijn64tab"], apart := false, laid := [("math/bits.deBruijn32tab", laid_math_bits_deBruijn32tab), ("math/bits.deBruijn64tab", laid_math_bits_deBruijn64tab)], narrowed := true }
def BoundNamesUptoSaid : Prop := boundNamesUptoRow.holds Tryd.pinned (OpenSpec.upto boundNamesSpec)

/-- 'shelfmarklaw23.BoundRanks', WHERE WHAT IT READS IS OF BULK AT MOST 1048576: true; the input reads as it did. -/
def boundRanksUptoRow : OpenClaim := { program := "ytokomclcgegfkaadoor", sum := "e3e9f208ffcb73f71e086e6cac2456ffcf24f7ec63e5ac2f669c1db8e7af76e3", func := "shelfmark/shelfmarklaw23.BoundRanks", spec := "boundRanks", unfollowed := true, recurses := true, named := ["math/bits.deBruijn32tab", "math/bits.deBruijn64tab"], apart := false, laid := [("math/bits.deBruijn32tab", laid_math_bits_deBruijn32tab), ("math/bits.deBruijn64tab", laid_math_bits_deBruijn64tab)], narrowed := true }
def BoundRanksUptoSaid : Prop := boundRanksUptoRow.holds Tryd.pinned (OpenSpec.upto boundRanksSpec)

/-- 'shelfmarklaw23.BoundBack', WHERE WHAT IT READS IS OF BULK AT MOST 1048576: true; the input reads as it did. -/
def boundBackUptoRow : OpenClaim := { program := "ytokomclcgegfkaadoor", sum := "e3e9f208ffcb73f71e086e6cac2456ffcf24f7ec63e5ac2f669c1db8e7af76e3", func := "shelfmark/shelfmarklaw23.BoundBack", spec := "boundBack", unfollowed := true, recurses := true, named := ["math/bits.deBruijn32tab", "math/bits.deBruijn64tab"], apart := false, laid := [("math/bits.deBruijn32tab", laid_math_bits_deBruijn32tab), ("math/bits.deBruijn64tab", laid_math_bits_deBruijn64tab)], narrowed := true }
def BoundBackUptoSaid : Prop := boundBackUptoRow.holds Tryd.pinned (OpenSpec.upto boundBackSpec)

/-- 'shelfmarklaw23.BoundTells', WHERE WHAT IT READS IS OF BULK AT MOST 1048576: true; the input reads as it did. -/
def boundTellsUptoRow : OpenClaim := { program := "ytokomclcgegfkaadoor", sum := "e3e9f208ffcb73f71e086e6cac2456ffcf24f7ec63e5ac2f669c1db8e7af76e3", func := "shelfmark/shelfmarklaw23.BoundTells", spec := "boundTells", unfollowed := true, recurses := true, named := ["math/bits.deBruijn32tab", "math/bits.deBruijn64tab"], apart := false, laid := [("math/bits.deBruijn32tab", laid_math_bits_deBruijn32tab), ("math/bits.deBruijn64tab", laid_math_bits_deBruijn64tab)], narrowed := true }
def BoundTellsUptoSaid : Prop := boundTellsUptoRow.holds Tryd.pinned (OpenSpec.upto boundTellsSpec)

/-- 'shelfmarklaw24.RunTells', WHERE WHAT IT READS IS OF BULK AT MOST 1048576: true; the input reads as it did. -/
def runTellsUptoRow : OpenClaim := { program := "ytokomclcgegfkaadoor", sum := "e3e9f208ffcb73f71e086e6cac2456ffcf24f7ec63e5ac2f669c1db8e7af76e3", func := "shelfmark/shelfmarklaw24.RunTells", spec := "runTells", unfollowed := true, recurses := true, named := ["math/bits.deBruijn32tab", "math/bits.deBruijn64tab"], apart := false, laid := [("math/bits.deBruijn32tab", laid_math_bits_deBruijn32tab), ("math/bits.deBruijn64tab", laid_math_bits_deBruijn64tab)], narrowed := true }
def RunTellsUptoSaid : Prop := runTellsUptoRow.holds Tryd.pinned (OpenSpec.upto runTellsSpec)

/-- 'shelfmarklaw24.RunWhole', WHERE WHAT IT READS IS OF BULK AT MOST 1048576: true; the input reads as it did. -/
def runWholeUptoRow : OpenClaim := { program := "ytokomclcgegfkaadoor", sum := "e3e9f208ffcb73f71e086e6cac2456ffcf24f7ec63e5ac2f669c1db8e7af76e3", func := "shelfmark/shelfmarklaw24.RunWhole", spec := "runWhole", unfollowed := true, recurses := true, named := ["math/bits.deBruijn32tab", "math/bits.deBruijn64tab"], apart := false, laid := [("math/bits.deBruijn32tab", laid_math_bits_deBruijn32tab), ("math/bits.deBruijn64tab", laid_math_bits_deBruijn64tab)], narrowed := true }
def RunWholeUptoSaid : Prop := runWholeUptoRow.holds Tryd.pinned (OpenSpec.upto runWholeSpec)

/-- 'shelfmarklaw25.KwayTells', WHERE WHAT IT READS IS OF BULK AT MOST 1048576: true; the input reads as it did. -/
def kwayTellsUptoRow : OpenClaim := { program := "ytokomclcgegfkaadoor", sum := "e3e9f208ffcb73f71e086e6cac2456ffcf24f7ec63e5ac2f669c1db8e7af76e3", func := "shelfmark/shelfmarklaw25.KwayTells", spec := "kwayTells", unfollowed := true, recurses := true, named := ["math/bits.deBruijn32tab", "math/bits.deBruijn64tab"], apart := false, laid := [("math/bits.deBruijn32tab", laid_math_bits_deBruijn32tab), ("math/bits.deBruijn64tab", laid_math_bits_deBruijn64tab)], narrowed := true }
def KwayTellsUptoSaid : Prop := kwayTellsUptoRow.holds Tryd.pinned (OpenSpec.upto kwayTellsSpec)

/-- 'shelfmarklaw25.KwayNewest', WHERE WHAT IT READS IS OF BULK AT MOST 1048576: true; the input reads as it did. -/
def kwayNewestUptoRow : OpenClaim := { program := "ytokomclcgegfkaadoor", sum := "e3e9f208ffcb73f71e086e6cac2456ffcf24f7ec63e5ac2f669c1db8e7af76e3", func := "shelfmark/shelfmarklaw25.KwayNewest", spec := "kwayNewest", unfollowed := true, recurses := true, named := ["math/bits.deBruijn32tab", "math/bits.deBruijn64tab"], apart := false, laid := [("math/bits.deBruijn32tab", laid_math_bits_deBruijn32tab), ("math/bits.deBruijn64tab", laid_math_bits_deBruijn64tab)], narrowed := true }
def KwayNewestUptoSaid : Prop := kwayNewestUptoRow.holds Tryd.pinned (OpenSpec.upto kwayNewestSpec)

/-- 'shelfmarklaw25.KwayNames', WHERE WHAT IT READS IS OF BULK AT MOST 1048576: true; the input reads as it did. -/
def kwayNamesUptoRow : OpenClaim := { program := "ytokomclcgegfkaadoor", sum := "e3e9f208ffcb73f71e086e6cac2456ffcf24f7ec63e5ac2f669c1db8e7af76e3", func := "shelfmark/shelfmarklaw25.KwayNames", spec := "kwayNames", unfollowed := true, recurses := true, named := ["math/bits.deBruijn32tab", "math/bits.deBruijn64tab"], apart := false, laid := [("math/bits.deBruijn32tab", laid_math_bits_deBruijn32tab), ("math/bits.deBruijn64tab", laid_math_bits_deBruijn64tab)], narrowed := true }
def KwayNamesUptoSaid : Prop := kwayNamesUptoRow.holds Tryd.pinned (OpenSpec.upto kwayNamesSpec)

/-- 'shelfmarklaw24.RunBack', WHERE WHAT IT READS IS OF BULK AT MOST 1048576: true; the input reads as it did. -/
def runBackUptoRow : OpenClaim := { program := "ytokomclcgegfkaadoor", sum := "e3e9f208ffcb73f71e086e6cac2456ffcf24f7ec63e5ac2f669c1db8e7af76e3", func := "shelfmark/shelfmarklaw24.RunBack", spec := "runBack", unfollowed := true, recurses := true, named := ["math/bits.deBruijn32tab", "math/bits.deBruijn64tab"], apart := false, laid := [("math/bits.deBruijn32tab", laid_math_bits_deBruijn32tab), ("math/bits.deBruijn64tab", laid_math_bits_deBruijn64tab)], narrowed := true }
def RunBackUptoSaid : Prop := runBackUptoRow.holds Tryd.pinned (OpenSpec.upto runBackSpec)

/-- 'shelfmarklaw24.RunNames', WHERE WHAT IT READS IS OF BULK AT MOST 1048576: true; the input reads as it did. -/
def runNamesUptoRow : OpenClaim := { program := "ytokomclcgegfkaadoor", sum := "e3e9f208ffcb73f71e086e6cac2456ffcf24f7ec63e5ac2f669c1db8e7af76e3", func := "shelfmark/shelfmarklaw24.RunNames", spec := "runNames", unfollowed := true, recurses := true, named := ["math/bits.deBruijn32tab", "math/bits.deBruijn64tab"], apart := false, laid := [("math/bits.deBruijn32tab", laid_math_bits_deBruijn32tab), ("math/bits.deBruijn64tab", laid_math_bits_deBruijn64tab)], narrowed := true }
def RunNamesUptoSaid : Prop := runNamesUptoRow.holds Tryd.pinned (OpenSpec.upto runNamesSpec)

end Rows
end Go.Proofs.YtokomclcgegfkaaDoor
