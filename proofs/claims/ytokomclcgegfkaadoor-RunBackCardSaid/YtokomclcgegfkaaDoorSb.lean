/- What a region that draws its order keeps: all that was there in the base world is as it was. No program in sight. -/
import Derived.Test.YtokomclcgegfkaaDoorLib
namespace Go.Proofs.YtokomclcgegfkaaDoor
open Go Go.RowKit

/-- the facts of a later world: old cells, old marks, old blocks -/
theorem wfacts {W w1 : World} {B : Nat} (hb : Below B W w1) : (∀ b o, b < B → w1.cell? ⟨b, o, none⟩ = W.cell? ⟨b, o, none⟩) ∧ (∀ b o, b < B → w1.frozen? ⟨b, o, none⟩ = W.frozen? ⟨b, o, none⟩) ∧ (∀ b, b < W.heap.size → b < w1.heap.size) :=
  ⟨(bcell hb).1, (bcell hb).2, fun _ h => Nat.lt_of_lt_of_le h hb.size⟩
theorem undrew {B : Nat} {w W : World} (h : Below B w W.drew) : Below B w W := ⟨h.os, h.tape, h.output, h.size, h.block⟩

/-- all that was there in w is in W as it was -/
abbrev SB (w W : World) : Prop := (∀ b o, b < w.heap.size → W.cell? ⟨b, o, none⟩ = w.cell? ⟨b, o, none⟩) ∧ (∀ b o, b < w.heap.size → W.frozen? ⟨b, o, none⟩ = w.frozen? ⟨b, o, none⟩) ∧ w.heap.size ≤ W.heap.size ∧ Below w.heap.size w W
section
variable {w W W' : World}
theorem SB.of (h : Below w.heap.size w W) : SB w W := ⟨(bcell h).1, (bcell h).2, h.size, h⟩
theorem SB.bel (h : SB w W) : Below w.heap.size w W := h.2.2.2
theorem SB.init : SB w w.drew := SB.of (Below.refl _ _).drew
theorem SB.init0 : SB w w := SB.of (Below.refl _ _)
theorem SB.below (hb : Below W.heap.size W W') (h : SB w W) : SB w W' := SB.of (bext h.bel hb)
theorem SB.drew (h : SB w W) : SB w W.drew := SB.of h.bel.drew
theorem SB.undrew (h : SB w W.drew) : SB w W := SB.of (_root_.Go.Proofs.YtokomclcgegfkaaDoor.undrew h.bel)
theorem SB.alloc (x : Obj) (h : SB w W) : SB w (W.alloc x) := SB.of (h.bel.alloc h.bel.size x)
theorem SB.allocD (x : Obj) (h : SB w W.drew) : SB w (W.alloc x).drew := (SB.alloc x h.undrew).drew
theorem SB.le (hb : Below W.heap.size W W') (h : SB w W) : w.heap.size ≤ W'.heap.size := Nat.le_trans h.2.2.1 hb.size
theorem SB.re {x : Obj} (y : Obj) (hw : w.heap.size ≤ W.heap.size) (h : SB w (W.alloc x)) : SB w (W.alloc y) :=
  SB.of ⟨h.bel.os, h.bel.tape, h.bel.output, by simp; omega, fun b hb => (Below.heap_alloc W y b (by omega)).trans ((Below.heap_alloc W x b (by omega)).symm.trans (h.bel.block b hb))⟩
theorem SB.re2 {x z : Obj} (y : Obj) (hw : w.heap.size ≤ W.heap.size) (h : SB w ((W.alloc x).alloc z)) : SB w ((W.alloc y).alloc z) :=
  SB.of ⟨h.bel.os, h.bel.tape, h.bel.output, by simp; omega, fun b hb => ((Below.heap_alloc (W.alloc y) z b (by simp; omega)).trans (Below.heap_alloc W y b (by omega))).trans (((Below.heap_alloc (W.alloc x) z b (by simp; omega)).trans (Below.heap_alloc W x b (by omega))).symm.trans (h.bel.block b hb))⟩
theorem SB.re2D {x z : Obj} (y : Obj) (hw : w.heap.size ≤ W.heap.size) (h : SB w ((W.alloc x).alloc z).drew) : SB w ((W.alloc y).alloc z).drew := (SB.re2 y hw h.undrew).drew
theorem SB.reD {x : Obj} (y : Obj) (hw : w.heap.size ≤ W.heap.size) (h : SB w (W.alloc x).drew) : SB w (W.alloc y).drew := (SB.re y hw h.undrew).drew
theorem SB.set {g : Nat} (hg : w.heap.size ≤ g) (i : Nat) (y : Value) (h : SB w W) : SB w (W.setCell ⟨g, i, none⟩ y) := SB.of (h.bel.setCell (p := ⟨g, i, none⟩) hg y)
theorem SB.two {g : Nat} (hg : w.heap.size ≤ g) (y0 y1 : Value) (h : SB w W) : SB w ((W.setCell ⟨g, 0, none⟩ y0).setCell ⟨g, 1, none⟩ y1) := SB.set hg _ _ (SB.set hg _ _ h)
theorem SB.three {g : Nat} (hg : w.heap.size ≤ g) (y0 y1 y2 : Value) (h : SB w W) : SB w (((W.setCell ⟨g, 0, none⟩ y0).setCell ⟨g, 1, none⟩ y1).setCell ⟨g, 2, none⟩ y2) := SB.set hg _ _ (SB.two hg _ _ h)
theorem SB.four {g : Nat} (hg : w.heap.size ≤ g) (y0 y1 y2 y3 : Value) (h : SB w W) : SB w ((((W.setCell ⟨g, 0, none⟩ y0).setCell ⟨g, 1, none⟩ y1).setCell ⟨g, 2, none⟩ y2).setCell ⟨g, 3, none⟩ y3) := SB.set hg _ _ (SB.three hg _ _ _ h)
end

/-! ### a cell that is written -/
theorem cell_other {w : World} {g g' i j : Nat} (v : Value) (h : g' ≠ g) : (w.setCell ⟨g, i, none⟩ v).cell? ⟨g', j, none⟩ = w.cell? ⟨g', j, none⟩ := World.cell?_of_block (a := ⟨g', j, none⟩) (Below.heap_setCell w ⟨g, i, none⟩ v g' h)
theorem cell_same {w : World} {g i : Nat} {u : Value} (v : Value) (h : w.cell? ⟨g, i, none⟩ = some u) : (w.setCell ⟨g, i, none⟩ v).cell? ⟨g, i, none⟩ = some v := by
  have hg : g < w.heap.size := World.block_lt_of_cell? w _ h
  unfold World.cell? at h ⊢
  simp only [World.setCell, Array.getElem?_modify]
  cases ho : w.heap[g]? with
  | none => rw [ho] at h; cases h
  | some o =>
    rw [ho] at h
    cases o with
    | cells cs t fr =>
      simp at h ⊢
      have hi : i < cs.size := by
        rcases Nat.lt_or_ge i cs.size with h2 | h2
        · exact h2
        · rw [Array.getElem?_eq_none h2] at h; cases h
      simp [hi]
    | _ => simp at h

/-! ### a slice that has just been built -/
theorem sl_new1 (W : World) (t : TypeId) (cs : Array Value) : Sl (W.alloc (.cells cs t)) (some ⟨W.heap.size, 0, none⟩) cs.toList :=
  (Blk.new W t cs).sl 0 _ (by intro j u hu; simpa using hu)
theorem sl_new1D (W : World) (t : TypeId) (cs : Array Value) : Sl (W.alloc (.cells cs t)).drew (some ⟨W.heap.size, 0, none⟩) cs.toList := sl_new1 W t cs
theorem sl_old (W : World) (x : Obj) (t : TypeId) (cs : Array Value) : Sl ((W.alloc (.cells cs t)).alloc x) (some ⟨W.heap.size, 0, none⟩) cs.toList :=
  ((Blk.new W t cs).alloc x).sl 0 _ (by intro j u hu; simpa using hu)
theorem sl_new2 (W : World) (x : Obj) (t : TypeId) (cs : Array Value) : Sl ((W.alloc x).alloc (.cells cs t)) (some ⟨W.heap.size + 1, 0, none⟩) cs.toList := by
  have := sl_new1 (W.alloc x) t cs
  rwa [World.size_alloc] at this
end Go.Proofs.YtokomclcgegfkaaDoor
