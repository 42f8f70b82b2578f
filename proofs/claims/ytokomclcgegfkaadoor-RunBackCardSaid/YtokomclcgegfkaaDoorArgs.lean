/- The arguments of this seat's laws, read as data. -/
import Derived.Test.YtokomclcgegfkaaDoorProg
import Derived.Test.YtokomclcgegfkaaDoorRow
namespace Go.Proofs.YtokomclcgegfkaaDoor
open Go Go.ChangeShapes Go.WideShapes Go.ChangeAt Go.RowKit
set_option maxRecDepth 100000

theorem own : ownKnob Tryd.prog.godebug = none := by kernel_rfl
theorem laidOut : laidOutB Tryd.prog = true := by kernel_rfl

theorem read_ents {H : Type} {enc : TypeId × Value → H} {w : World} {base : Nat} {v : Value} {d : DataW H} {p : List MemPlace} (hok : Value.okWide Tryd.prog w .any base 22 v)
    (h : DataW.Trod enc Tryd.prog w 0 (fun _ => true) true 22 v d p) : ∃ (A : Option Addr) (l : List Ent) (c : Nat), v = .slice A l.length c ∧ l.length ≤ c ∧ c ≤ maxLen ∧ Sl w A (l.flatMap Ent.cells) := by
  obtain ⟨fuel, hf⟩ := h
  obtain ⟨A, l, c, h1, h2, h3, h4, _⟩ := read_slice Ent.cells (fun _ => True) Ent.cells_length (by omega) Tryd.underlying22 (by kernel_rfl)
    (fun fuel cs y h => dec_ent Tryd.underlying29 Tryd.underlying2 Tryd.underlying4 (by kernel_rfl) (by kernel_rfl) (by kernel_rfl) fuel cs y h) (okWide_slice Tryd.underlying22 hok) hf
  exact ⟨A, l, c, h1, h2, h3, h4⟩

theorem read_prs {H : Type} {enc : TypeId × Value → H} {w : World} {base : Nat} {v : Value} {d : DataW H} {p : List MemPlace} (hok : Value.okWide Tryd.prog w .any base 54 v)
    (h : DataW.Trod enc Tryd.prog w 0 (fun _ => true) true 54 v d p) : ∃ (A : Option Addr) (l : List Pr) (c : Nat), v = .slice A l.length c ∧ l.length ≤ c ∧ c ≤ maxLen ∧ Sl w A (l.flatMap Pr.cells) := by
  obtain ⟨fuel, hf⟩ := h
  obtain ⟨A, l, c, h1, h2, h3, h4, _⟩ := read_slice Pr.cells (fun _ => True) Pr.cells_length (by omega) Tryd.underlying54 (by kernel_rfl)
    (fun fuel cs y h => dec_pr Tryd.underlying61 Tryd.underlying2 (by kernel_rfl) (by kernel_rfl) fuel cs y h) (okWide_slice Tryd.underlying54 hok) hf
  exact ⟨A, l, c, h1, h2, h3, h4⟩

theorem read_ent {H : Type} {enc : TypeId × Value → H} {w : World} {base : Nat} {v : Value} {d : DataW H} {p : List MemPlace} (hok : Value.okWide Tryd.prog w .any base 29 v)
    (h : DataW.Trod enc Tryd.prog w 0 (fun _ => true) true 29 v d p) : ∃ x : Ent, v = .agg #[.int .i64 x.key, .int .i64 x.val, .bool x.dead] := by
  obtain ⟨cs, rfl, _⟩ := okWide_struct Tryd.underlying29 hok
  obtain ⟨fuel, hf⟩ := h
  obtain ⟨x, hx, _⟩ := dec_ent Tryd.underlying29 Tryd.underlying2 Tryd.underlying4 (by kernel_rfl) (by kernel_rfl) (by kernel_rfl) fuel _ _ hf
  refine ⟨x, ?_⟩
  obtain ⟨l⟩ := cs
  simp only [Value.cells] at hx
  simp only [Value.agg.injEq]
  rw [show l = x.cells from hx]
  rfl
end Go.Proofs.YtokomclcgegfkaaDoor
