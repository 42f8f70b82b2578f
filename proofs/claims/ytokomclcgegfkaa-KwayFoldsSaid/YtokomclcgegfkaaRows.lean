/-
  No cell of these rows narrows 'for every input' (looked for: loops, veiled, ifaces, maps, wideKeys, modest, calm, conditions, laid).
  DERIVED. THE GIVEN ROWS OF THIS SEAT. 5 by the template 'for every input the law returns true; each argument reads behind the call as it read before'; 0 by the template 'total and deterministic' (their statements: YtokomclcgegfkaaTotals.lean).
  GIVEN WITH THE SEED: the statements are not yours to turn. If you find one false, say at which input.
  Laid BY PROGRAM, IN A SANDBOX (cutbox-rows.mjs): the forced cells as the released guide's own fill.sh prints them over the translation 486cc541d2e85b55… (all of the seat's roots in one cut). By AI agents, Wed Nov 11 2026. No macro, syntax, notation, axiom, sorry.
-/
import Derived.Test.YtokomclcgegfkaaChecked
import GoSem.Claim
import GoSem.ClaimJoined
import GoSem.ClaimMapViews
import Derived.JoinedTies
import Derived.KernelRfl
namespace Go.Proofs.Ytokomclcgegfkaa
/- THE CELL 'sum', in the pinned program and in every row, IS THE sha256 OF THE DUMP (.gsa) THAT YtokomclcgegfkaaProg.lean LOADS. Nothing in Lean hashes anything: it is a label: what it is worth is what the hold of that sum in a sandbox is worth. -/
noncomputable def Try.pinned : Pinned := { name := "ytokomclcgegfkaa", sum := "486cc541d2e85b55430fa73be34ca82ef3d886c93958d4d2d2c9db77ea81f0da", checked := Try.checked }
namespace Rows
def none {H : Type} : Left H := { results := [], args := [] }

/-- 'shelfmarklaw23.BoundBuilds': WHATEVER THE INPUT: true; the input reads as it did. -/
def boundBuildsSpec : ChangeSpec := { name := "boundBuilds", fn := fun _ => fun
  | [d] => { results := [.lit (.bool true)], args := [d] }
  | _ => none }
def boundBuildsRow : OpenClaim := { program := "ytokomclcgegfkaa", sum := "486cc541d2e85b55430fa73be34ca82ef3d886c93958d4d2d2c9db77ea81f0da", func := "shelfmark/shelfmarklaw23.BoundBuilds", spec := "boundBuilds", unfollowed := true, recurses := true, apart := false }
def BoundBuildsSaid : Prop := boundBuildsRow.holds Try.pinned (OpenSpec.ofChange boundBuildsSpec)

/-- ITS FALSE NEIGHBOUR: 'it returns false'. Refute it at one input. -/
def boundBuildsWrong : ChangeSpec := { name := "boundBuilds", fn := fun _ => fun
  | [d] => { results := [.lit (.bool false)], args := [d] }
  | _ => none }
def BoundBuildsWrongFalsely : Prop := boundBuildsRow.holds Try.pinned (OpenSpec.ofChange boundBuildsWrong)

/-- 'shelfmarklaw24.RunMakes': WHATEVER THE INPUT: true; the input reads as it did. -/
def runMakesSpec : ChangeSpec := { name := "runMakes", fn := fun _ => fun
  | [d1, d2] => { results := [.lit (.bool true)], args := [d1, d2] }
  | _ => none }
def runMakesRow : OpenClaim := { program := "ytokomclcgegfkaa", sum := "486cc541d2e85b55430fa73be34ca82ef3d886c93958d4d2d2c9db77ea81f0da", func := "shelfmark/shelfmarklaw24.RunMakes", spec := "runMakes", unfollowed := true, recurses := true, apart := false }
def RunMakesSaid : Prop := runMakesRow.holds Try.pinned (OpenSpec.ofChange runMakesSpec)

/-- ITS FALSE NEIGHBOUR: 'it returns false'. Refute it at one input. -/
def runMakesWrong : ChangeSpec := { name := "runMakes", fn := fun _ => fun
  | [d1, d2] => { results := [.lit (.bool false)], args := [d1, d2] }
  | _ => none }
def RunMakesWrongFalsely : Prop := runMakesRow.holds Try.pinned (OpenSpec.ofChange runMakesWrong)

/-- 'shelfmarklaw25.KwayTwo': WHATEVER THE INPUT: true; the input reads as it did. -/
def kwayTwoSpec : ChangeSpec := { name := "kwayTwo", fn := fun _ => fun
  | [d1, d2, d3] => { results := [.lit (.bool true)], args := [d1, d2, d3] }
  | _ => none }
def kwayTwoRow : OpenClaim := { program := "ytokomclcgegfkaa", sum := "486cc541d2e85b55430fa73be34ca82ef3d886c93958d4d2d2c9db77ea81f0da", func := "shelfmark/shelfmarklaw25.KwayTwo", spec := "kwayTwo", unfollowed := true, recurses := true, apart := false }
def KwayTwoSaid : Prop := kwayTwoRow.holds Try.pinned (OpenSpec.ofChange kwayTwoSpec)

/-- ITS FALSE NEIGHBOUR: 'it returns false'. Refute it at one input. -/
def kwayTwoWrong : ChangeSpec := { name := "kwayTwo", fn := fun _ => fun
  | [d1, d2, d3] => { results := [.lit (.bool false)], args := [d1, d2, d3] }
  | _ => none }
def KwayTwoWrongFalsely : Prop := kwayTwoRow.holds Try.pinned (OpenSpec.ofChange kwayTwoWrong)

/-- 'shelfmarklaw25.KwayFolds': WHATEVER THE INPUT: true; the input reads as it did. -/
def kwayFoldsSpec : ChangeSpec := { name := "kwayFolds", fn := fun _ => fun
  | [d] => { results := [.lit (.bool true)], args := [d] }
  | _ => none }
def kwayFoldsRow : OpenClaim := { program := "ytokomclcgegfkaa", sum := "486cc541d2e85b55430fa73be34ca82ef3d886c93958d4d2d2c9db77ea81f0da", func := "shelfmark/shelfmarklaw25.KwayFolds", spec := "kwayFolds", unfollowed := true, recurses := true, apart := false }
def KwayFoldsSaid : Prop := kwayFoldsRow.holds Try.pinned (OpenSpec.ofChange kwayFoldsSpec)

/-- ITS FALSE NEIGHBOUR: 'it returns false'. Refute it at one input. -/
def kwayFoldsWrong : ChangeSpec := { name := "kwayFolds", fn := fun _ => fun
  | [d] => { results := [.lit (.bool false)], args := [d] }
  | _ => none }
def KwayFoldsWrongFalsely : Prop := kwayFoldsRow.holds Try.pinned (OpenSpec.ofChange kwayFoldsWrong)

/-- 'shelfmarklaw25.KwaySizes': WHATEVER THE INPUT: true; the input reads as it did. -/
def kwaySizesSpec : ChangeSpec := { name := "kwaySizes", fn := fun _ => fun
  | [d] => { results := [.lit (.bool true)], args := [d] }
  | _ => none }
def kwaySizesRow : OpenClaim := { program := "ytokomclcgegfkaa", sum := "486cc541d2e85b55430fa73be34ca82ef3d886c93958d4d2d2c9db77ea81f0da", func := "shelfmark/shelfmarklaw25.KwaySizes", spec := "kwaySizes", unfollowed := true, recurses := true, apart := false }
def KwaySizesSaid : Prop := kwaySizesRow.holds Try.pinned (OpenSpec.ofChange kwaySizesSpec)

/-- ITS FALSE NEIGHBOUR: 'it returns false'. Refute it at one input. -/
def kwaySizesWrong : ChangeSpec := { name := "kwaySizes", fn := fun _ => fun
  | [d] => { results := [.lit (.bool false)], args := [d] }
  | _ => none }
def KwaySizesWrongFalsely : Prop := kwaySizesRow.holds Try.pinned (OpenSpec.ofChange kwaySizesWrong)

/- THE SECOND FORM. 'bulk': how many values and letters a reading holds, each counted each time it is reached (what is shared counts as often as it is met; a slice's spare places count too). A statement '..UptoSaid' is the law's where the arguments, and the package variables that the reading takes, are together of bulk at most 1048576: NARROWER than '..Said'. Prove '..Said' where nothing that the law and all that it calls make is longer than what came in: it says more and counts as full. Else prove '..UptoSaid'. A law counts once. -/
mutual
def uptoBulk {H : Type} : DataW H → Nat
  | .lit (.string bytes) => bytes.length + 1
  | .lit _ => 1
  | .nil => 1
  | .ptr d => uptoBulk d + 1
  | .slice elems spare => uptoBulkAll elems + uptoBulkAll spare + 1
  | .agg parts => uptoBulkAll parts + 1
  | .iface _ d => uptoBulk d + 1
  | .map entries => uptoBulkEntries entries + 1
  | .held _ => 1
def uptoBulkAll {H : Type} : List (DataW H) → Nat
  | [] => 0
  | d :: r => uptoBulk d + uptoBulkAll r
def uptoBulkEntries {H : Type} : List (Lit × DataW H) → Nat
  | [] => 0
  | x :: r => uptoBulkEntry x + uptoBulkEntries r
def uptoBulkEntry {H : Type} : Lit × DataW H → Nat
  | (.string bytes, d) => bytes.length + uptoBulk d + 1
  | (_, d) => uptoBulk d + 1
 end
def uptoSmall : (H : Type) → List (DataW H) → Bool := fun _ ds => decide (uptoBulkAll ds ≤ 1048576)
def OpenSpec.upto (s : _root_.Go.ChangeSpec) : _root_.Go.OpenSpec := { _root_.Go.OpenSpec.ofChange s with cond := some uptoSmall }

/-- 'shelfmarklaw23.BoundBuilds', WHERE WHAT IT READS IS OF BULK AT MOST 1048576: true; the input reads as it did. -/
def boundBuildsUptoRow : OpenClaim := { program := "ytokomclcgegfkaa", sum := "486cc541d2e85b55430fa73be34ca82ef3d886c93958d4d2d2c9db77ea81f0da", func := "shelfmark/shelfmarklaw23.BoundBuilds", spec := "boundBuilds", unfollowed := true, recurses := true, apart := false, narrowed := true }
def BoundBuildsUptoSaid : Prop := boundBuildsUptoRow.holds Try.pinned (OpenSpec.upto boundBuildsSpec)

/-- 'shelfmarklaw24.RunMakes', WHERE WHAT IT READS IS OF BULK AT MOST 1048576: true; the input reads as it did. -/
def runMakesUptoRow : OpenClaim := { program := "ytokomclcgegfkaa", sum := "486cc541d2e85b55430fa73be34ca82ef3d886c93958d4d2d2c9db77ea81f0da", func := "shelfmark/shelfmarklaw24.RunMakes", spec := "runMakes", unfollowed := true, recurses := true, apart := false, narrowed := true }
def RunMakesUptoSaid : Prop := runMakesUptoRow.holds Try.pinned (OpenSpec.upto runMakesSpec)

/-- 'shelfmarklaw25.KwayTwo', WHERE WHAT IT READS IS OF BULK AT MOST 1048576: true; the input reads as it did. -/
def kwayTwoUptoRow : OpenClaim := { program := "ytokomclcgegfkaa", sum := "486cc541d2e85b55430fa73be34ca82ef3d886c93958d4d2d2c9db77ea81f0da", func := "shelfmark/shelfmarklaw25.KwayTwo", spec := "kwayTwo", unfollowed := true, recurses := true, apart := false, narrowed := true }
def KwayTwoUptoSaid : Prop := kwayTwoUptoRow.holds Try.pinned (OpenSpec.upto kwayTwoSpec)

/-- 'shelfmarklaw25.KwayFolds', WHERE WHAT IT READS IS OF BULK AT MOST 1048576: true; the input reads as it did. -/
def kwayFoldsUptoRow : OpenClaim := { program := "ytokomclcgegfkaa", sum := "486cc541d2e85b55430fa73be34ca82ef3d886c93958d4d2d2c9db77ea81f0da", func := "shelfmark/shelfmarklaw25.KwayFolds", spec := "kwayFolds", unfollowed := true, recurses := true, apart := false, narrowed := true }
def KwayFoldsUptoSaid : Prop := kwayFoldsUptoRow.holds Try.pinned (OpenSpec.upto kwayFoldsSpec)

/-- 'shelfmarklaw25.KwaySizes', WHERE WHAT IT READS IS OF BULK AT MOST 1048576: true; the input reads as it did. -/
def kwaySizesUptoRow : OpenClaim := { program := "ytokomclcgegfkaa", sum := "486cc541d2e85b55430fa73be34ca82ef3d886c93958d4d2d2c9db77ea81f0da", func := "shelfmark/shelfmarklaw25.KwaySizes", spec := "kwaySizes", unfollowed := true, recurses := true, apart := false, narrowed := true }
def KwaySizesUptoSaid : Prop := kwaySizesUptoRow.holds Try.pinned (OpenSpec.upto kwaySizesSpec)

end Rows
end Go.Proofs.Ytokomclcgegfkaa
