/- Cargs ArgsS ArgsT: texts of the claim, in this order. -/
import Derived.Test.YthdcllnmnmemdaaDoorWb3
import Derived.Test.YthdcllnmnmemdaaDoorCards
import Derived.Test.YthdcllnmnmemdaaDoorTie
import Derived.Lib.LaidTab
import Derived.Lib.TrailingZeros
import Derived.Shelf.Spec.TrailingZeros
import Derived.Stop.LaidErr
import Derived.Deep.DeepHandedRow
import Derived.Test.YthdcllnmnmemdaaDoorWb6
import Derived.Test.YthdcllnmnmemdaaDoorWb12
/- The table of math/bits out of the row's list; a run read as data; a world for the witness. -/
namespace Go.Proofs.YthdcllnmnmemdaaDoor
open Go Go.ChangeShapes Go.WideShapes Go.ChangeAt Go.RowKit
set_option maxRecDepth 100000

theorem gTab : Tryd.prog.globalNamed "math/bits.deBruijn64tab" = some 1 := by kernel_rfl
theorem gTabType : (Tryd.prog.globals[1]?).map (·.type) = some 188 := by kernel_rfl
theorem cellsTab : Tryd.prog.cellsOf 188 = 64 := by kernel_rfl
theorem cellsU8 : Tryd.prog.cellsOf 5 = 1 := by kernel_rfl
def tabZ : List Int := Lib.deBruijn64tab.map fun n : Nat => (n : Int)
theorem tabZ_is : (Rows.laid_math_bits_deBruijn64tab : DataW Unit) = Lib.tabData .u8 tabZ := by kernel_rfl
theorem tab_at {W : World} (h : laidMetH Tryd.prog [("math/bits.deBruijn32tab", Rows.laid_math_bits_deBruijn32tab), ("math/bits.deBruijn64tab", Rows.laid_math_bits_deBruijn64tab)] W) : TabAt 1 Lib.deBruijn64tab W := by
  have h1 : laidMet Tryd.prog [("math/bits.deBruijn32tab", Rows.laid_math_bits_deBruijn32tab), ("math/bits.deBruijn64tab", Rows.laid_math_bits_deBruijn64tab)] W := h
  have h2 := laidMet.tail h1
  have h3 : laidMet Tryd.prog [("math/bits.deBruijn64tab", Lib.tabData .u8 tabZ)] W := by rw [← tabZ_is]; exact h2
  have h4 : Lib.TabIs Tryd.prog W "math/bits.deBruijn64tab" .u8 tabZ := Lib.tabIs_of_head (rest := []) gTab gTabType Tryd.underlying188 Tryd.underlying5 cellsU8 cellsTab h3
  intro j hj
  have := h4.cell gTab j (by simpa [tabZ] using hj)
  rw [this]
  congr 2
  simp only [tabZ, List.getD_eq_getElem?_getD, List.getElem?_map]
  rw [List.getElem?_eq_getElem hj]
  rfl

theorem dec_ents {H : Type} {enc : TypeId × Value → H} {w : World} (fuel : Nat) (cs : List Value) (y : DataW H × List MemPlace) (h : DataW.trod enc Tryd.prog w 0 (fun _ => true) true fuel 59 cs = some y) :
    ∃ (A : Option Addr) (l : List Ent) (c : Nat), cs = [.slice A l.length c] ∧ l.length ≤ c ∧ c ≤ maxLen ∧ Sl w A (l.flatMap Ent.cells) := by
  have hv : ∃ a len cap, cs = [.slice a len cap] := by
    rcases Go.Deep.open_slice Tryd.underlying59 h with ⟨h1, _⟩ | ⟨a, len, cap, _, _, _, _, h1, _⟩
    · exact ⟨_, _, _, h1⟩
    · exact ⟨_, _, _, h1⟩
  obtain ⟨a, len, cap, rfl⟩ := hv
  obtain ⟨A, l, c, h1, h2, h3, h4, _⟩ := read_slice (v := .slice a len cap) Ent.cells (fun _ => True) Ent.cells_length (by omega) Tryd.underlying59 (by kernel_rfl)
    (fun fuel cs y h => dec_ent Tryd.underlying27 Tryd.underlying2 Tryd.underlying4 (by kernel_rfl) (by kernel_rfl) (by kernel_rfl) fuel cs y h) ⟨_, _, _, rfl⟩ h
  exact ⟨A, l, c, by rw [h1], h2, h3, h4⟩
theorem read_run {H : Type} {enc : TypeId × Value → H} {w : World} {base : Nat} {v : Value} {d : DataW H} {p : List MemPlace} (hok : Value.okWide Tryd.prog w .any base 61 v)
    (h : DataW.Trod enc Tryd.prog w 0 (fun _ => true) true 61 v d p) : ∃ (A : Option Addr) (l : List Ent) (c : Nat), v = .agg #[.slice A l.length c] ∧ l.length ≤ c ∧ c ≤ maxLen ∧ Sl w A (l.flatMap Ent.cells) := by
  obtain ⟨cs, rfl, _⟩ := okWide_struct Tryd.underlying61 hok
  obtain ⟨fuel, hf⟩ := h
  obtain ⟨xs, n, _, _, hlen, hxl, hg⟩ := DataW.trod_struct Tryd.underlying61 hf
  rw [show Tryd.prog.cellsOf 61 = 1 from by kernel_rfl] at hlen
  obtain ⟨cl⟩ := cs
  match cl, hlen with
  | [c0], _ =>
    match xs, hxl with
    | [x0], _ =>
      have h0 : DataW.trod enc Tryd.prog w 0 (fun _ => true) true n 59 (List.take (Tryd.prog.cellsOf 59) (List.drop 0 [c0])) = some x0 := hg 0 _ rfl
      rw [show Tryd.prog.cellsOf 59 = 1 from by kernel_rfl] at h0
      obtain ⟨A, l, c, e, h2, h3, h4⟩ := dec_ents _ _ _ h0
      simp at e
      subst e
      exact ⟨A, l, c, rfl, h2, h3, h4⟩

def put32 : Obj → Obj
  | .cells _ t frozen => .cells (Lib.deBruijn32tab.map fun n : Nat => Value.int .u8 (n : Int)).toArray t frozen
  | o => o
def put64 : Obj → Obj
  | .cells _ t frozen => .cells (Lib.deBruijn64tab.map fun n : Nat => Value.int .u8 (n : Int)).toArray t frozen
  | o => o
/-- the settled world, the tables as their initialisers lay them -/
noncomputable def laidWorld (os : Os) : World :=
  { World.holding Tryd.prog os ⟨#[], #[], []⟩ with heap := ((World.holding Tryd.prog os ⟨#[], #[], []⟩).heap.modify 0 put32).modify 1 put64 }
end Go.Proofs.YthdcllnmnmemdaaDoor

/- Runs read as data (beside Cargs). -/
namespace Go.Proofs.YthdcllnmnmemdaaDoor
open Go Go.ChangeShapes Go.WideShapes Go.ChangeAt Go.RowKit
set_option maxRecDepth 100000

/-- runs -/
theorem dec_run {H : Type} {enc : TypeId × Value → H} {w : World} (fuel : Nat) (cs : List Value) (y : DataW H × List MemPlace) (h : DataW.trod enc Tryd.prog w 0 (fun _ => true) true fuel 61 cs = some y) :
    ∃ r : Rm, cs = [r.v] ∧ r.Ok w := by
  obtain ⟨xs, n, _, _, hlen, hxl, hg⟩ := DataW.trod_struct Tryd.underlying61 h
  rw [show Tryd.prog.cellsOf 61 = 1 from by kernel_rfl] at hlen
  match cs, hlen with
  | [c0], _ =>
    match xs, hxl with
    | [x0], _ =>
      have h0 : DataW.trod enc Tryd.prog w 0 (fun _ => true) true n 59 (List.take (Tryd.prog.cellsOf 59) (List.drop 0 [c0])) = some x0 := hg 0 _ rfl
      rw [show Tryd.prog.cellsOf 59 = 1 from by kernel_rfl] at h0
      obtain ⟨A, l, c, e, h2, h3, h4⟩ := dec_ents _ _ _ h0
      simp at e
      subst e
      exact ⟨⟨l, A, c⟩, rfl, h4, h2, h3⟩
theorem read_runs {H : Type} {enc : TypeId × Value → H} {w : World} {base : Nat} {v : Value} {d : DataW H} {p : List MemPlace} (hok : Value.okWide Tryd.prog w .any base 22 v)
    (h : DataW.Trod enc Tryd.prog w 0 (fun _ => true) true 22 v d p) : ∃ (B : Option Addr) (Rs : List Rm) (c : Nat), v = .slice B Rs.length c ∧ Rs.length ≤ c ∧ c ≤ maxLen ∧ RunsAt w B Rs := by
  obtain ⟨fuel, hf⟩ := h
  obtain ⟨B, Rs, c, h1, h2, h3, h4, h5⟩ := read_slice (s := 1) (fun r : Rm => [r.v]) (fun r => r.Ok w) (fun _ => rfl) (by omega) Tryd.underlying22 (by kernel_rfl) (fun fuel cs y h => dec_run fuel cs y h) (okWide_slice Tryd.underlying22 hok) hf
  have hm : Rs.flatMap (fun r => [r.v]) = Rs.map Rm.v := by
    clear h1 h2 h4 h5
    induction Rs with
    | nil => rfl
    | cons r Rs ih => rw [List.flatMap_cons, ih]; rfl
  rw [hm] at h4
  exact ⟨B, Rs, c, h1, h2, h3, h4, h5⟩
end Go.Proofs.YthdcllnmnmemdaaDoor

/- Rungs read as data. -/
namespace Go.Proofs.YthdcllnmnmemdaaDoor
open Go Go.ChangeShapes Go.WideShapes Go.ChangeAt Go.RowKit
set_option maxRecDepth 100000

theorem wf_u64g {n : Int} (h : (Lit.int .u64 n).wf = true) : 0 ≤ n ∧ n ≤ 18446744073709551615 := by
  simp only [Lit.wf, Bool.and_eq_true, decide_eq_true_eq] at h
  exact h
theorem read_rungs {H : Type} {enc : TypeId × Value → H} {w : World} {base : Nat} {v : Value} {d : DataW H} {p : List MemPlace} (hok : Value.okWide Tryd.prog w .any base 25 v)
    (h : DataW.Trod enc Tryd.prog w 0 (fun _ => true) true 25 v d p) : ∃ (B : Option Addr) (Rs : List Rm) (c : Nat) (n : Int), v = .agg #[.slice B Rs.length c, .int .u64 n] ∧ Rs.length ≤ c ∧ c ≤ maxLen ∧ RunsAt w B Rs ∧ 0 ≤ n ∧ n ≤ 18446744073709551615 := by
  obtain ⟨cs, rfl, _⟩ := okWide_struct Tryd.underlying25 hok
  obtain ⟨fuel, hf⟩ := h
  obtain ⟨xs, m, _, _, hlen, hxl, hg⟩ := DataW.trod_struct Tryd.underlying25 hf
  rw [show Tryd.prog.cellsOf 25 = 2 from by kernel_rfl] at hlen
  obtain ⟨cl⟩ := cs
  match cl, hlen with
  | [c0, c1], _ =>
    match xs, hxl with
    | [x0, x1], _ =>
      have h0 : DataW.trod enc Tryd.prog w 0 (fun _ => true) true m 22 (List.take (Tryd.prog.cellsOf 22) (List.drop 0 [c0, c1])) = some x0 := hg 0 _ rfl
      have h1 : DataW.trod enc Tryd.prog w 0 (fun _ => true) true m 23 (List.take (Tryd.prog.cellsOf 23) (List.drop 1 [c0, c1])) = some x1 := hg 1 _ rfl
      rw [show Tryd.prog.cellsOf 22 = 1 from by kernel_rfl] at h0
      rw [show Tryd.prog.cellsOf 23 = 1 from by kernel_rfl] at h1
      obtain ⟨n, e1, _, f1⟩ := DataW.trod_int Tryd.underlying23 h1
      have hv : ∃ a len cap, List.take 1 (List.drop 0 [c0, c1]) = [.slice a len cap] := by
        rcases Go.Deep.open_slice Tryd.underlying22 h0 with ⟨h1, _⟩ | ⟨a, len, cap, _, _, _, _, h1, _⟩
        · exact ⟨_, _, _, h1⟩
        · exact ⟨_, _, _, h1⟩
      obtain ⟨a, len, cap, e0⟩ := hv
      simp at e0 e1
      subst e0 e1
      obtain ⟨B, Rs, c, h2, h3, h4, h5, h6⟩ := read_slice (v := .slice a len cap) (s := 1) (fun r : Rm => [r.v]) (fun r => r.Ok w) (fun _ => rfl) (by omega) Tryd.underlying22 (by kernel_rfl) (fun fuel cs y h => dec_run fuel cs y h) ⟨_, _, _, rfl⟩ h0
      have hm : Rs.flatMap (fun r => [r.v]) = Rs.map Rm.v := by
        clear h2 h3 h5 h6
        induction Rs with
        | nil => rfl
        | cons r Rs ih => rw [List.flatMap_cons, ih]; rfl
      rw [hm] at h5
      obtain ⟨g1, g2⟩ := wf_u64g f1
      exact ⟨B, Rs, c, n, by rw [h2], h3, h4, ⟨h5, h6⟩, g1, g2⟩
end Go.Proofs.YthdcllnmnmemdaaDoor
