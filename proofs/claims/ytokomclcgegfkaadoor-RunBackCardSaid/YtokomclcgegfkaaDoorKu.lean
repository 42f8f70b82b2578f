/- Small facts on runs in new memory (as in Ktw, for seats without KwayTwo). -/
import Derived.Test.YtokomclcgegfkaaDoorKt
namespace Go.Proofs.YtokomclcgegfkaaDoor
open Go Go.RowKit
set_option maxRecDepth 100000

/-- a run of the call's own, in a box at g -/
structure BoxAt (w : World) (B g : Nat) (l : List Ent) (A : Option Addr) (c : Nat) : Prop where
  cell : w.cell? ⟨g, 0, none⟩ = some (.slice A l.length c)
  own : w.ownsRow B 29 3 (.slice A l.length c) l.length (l.flatMap Ent.cells)
  lc : l.length ≤ c
  cm : c ≤ maxLen
  lt : g < w.heap.size
theorem GivesTwin.form {l : List Ent} {w : World} {r : Ending} {w' : World} (h : GivesTwin l w r w') : ∃ A c B, Hid (B = w.heap.size) ∧ r = .returned (.agg #[.slice A l.length c]) ∧ (w'.ownsRow B 29 3 (.slice A l.length c) l.length (l.flatMap Ent.cells) ∧ l.length ≤ c ∧ c ≤ maxLen) ∧ Below w.heap.size w w' := by
  obtain ⟨A, c, h1, h2, h3⟩ := h
  obtain ⟨A', c', h4, h5, h6⟩ := own_form h2
  obtain ⟨rfl, rfl⟩ : A = A' ∧ c = c' := by simpa using h4
  exact ⟨A, c, _, rfl, h1, ⟨h2, h5, h6⟩, h3⟩
theorem GivesRun.form {t : TypeId} {m : List Ent} {e : Int} {w : World} {r : Ending} {w' : World} (h : GivesRun t m e w r w') : ∃ A c B, Hid (B = w.heap.size) ∧ r = .returned (.tuple #[.agg #[.slice A m.length c], .int .i64 e]) ∧ (w'.ownsRow B t 3 (.slice A m.length c) m.length (m.flatMap Ent.cells) ∧ m.length ≤ c ∧ c ≤ maxLen) ∧ Below w.heap.size w w' := by
  obtain ⟨A, c, h1, h2, h3⟩ := h
  obtain ⟨A', c', h4, h5, h6⟩ := own_form h2
  obtain ⟨rfl, rfl⟩ : A = A' ∧ c = c' := by simpa using h4
  exact ⟨A, c, _, rfl, h1, ⟨h2, h5, h6⟩, h3⟩
theorem drew_hs (w : World) : w.drew.heap.size = w.heap.size := rfl
theorem own_al {w : World} {B s n : Nat} {e : TypeId} {v : Value} {xs : List Value} (h : w.ownsRow B e s v n xs) (o : Obj) : (w.alloc o).ownsRow B e s v n xs := h.alloc o
theorem own_dr {w : World} {B s n : Nat} {e : TypeId} {v : Value} {xs : List Value} (h : w.ownsRow B e s v n xs) : w.drew.ownsRow B e s v n xs := h

end Go.Proofs.YtokomclcgegfkaaDoor
