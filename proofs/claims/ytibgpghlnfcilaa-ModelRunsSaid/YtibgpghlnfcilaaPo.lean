/- Plain facts: what the references tell is what a map answers. No program in sight. -/
import Derived.Test.YtibgpghlnfcilaaPs
namespace Go.Proofs.Ytibgpghlnfcilaa
open Go Go.RowKit

theorem bel_min {l : List Pr} {a : Int} (h : ∀ q ∈ l, a ≤ q.key) : bel l a = 0 := by
  unfold bel; rw [List.countP_eq_zero]; intro q hq; have := h q hq; simp; omega
theorem upk_max {l : List Pr} {b : Int} (h : ∀ q ∈ l, q.key ≤ b) : upk l b = l.length := by
  unfold upk; rw [List.countP_eq_length]; intro q hq; simpa using h q hq
theorem one_ceil (l : List Pr) (key : Int) : oneA l (bel l key) = (if bel l key < l.length then ⟨l[bel l key]!, 0, []⟩ else noAns) ∧ oneE l (bel l key) = (if bel l key < l.length then 0 else 6) := by
  unfold oneA oneE
  by_cases h : bel l key < l.length
  · rw [if_pos ⟨by omega, by omega⟩, if_pos h, if_pos ⟨by omega, by omega⟩, if_pos h]
    exact ⟨rfl, rfl⟩
  · rw [if_neg (by omega), if_neg h, if_neg (by omega), if_neg h]
    exact ⟨rfl, rfl⟩
theorem one_floor (l : List Pr) (key : Int) : oneA l ((upk l key : Int) - 1) = (if 0 < upk l key then ⟨l[upk l key - 1]!, 0, []⟩ else noAns) ∧ oneE l ((upk l key : Int) - 1) = (if 0 < upk l key then 0 else 6) := by
  have hle := upk_le l key
  unfold oneA oneE
  by_cases h : 0 < upk l key
  · rw [if_pos ⟨by omega, by omega⟩, if_pos h, if_pos ⟨by omega, by omega⟩, if_pos h]
    refine ⟨?_, rfl⟩
    rw [show ((upk l key : Int) - 1).toNat = upk l key - 1 by omega]
  · rw [if_neg (by omega), if_neg h, if_neg (by omega), if_neg h]
    exact ⟨rfl, rfl⟩
/-- Get by a ceiling whose key it is -/
theorem get_ceil {l : List Pr} (h : Ris l) (key : Int) : has l key = (decide (bel l key < l.length) && decide ((if bel l key < l.length then l[bel l key]! else ⟨0, 0⟩).key = key)) := by
  rw [Bool.eq_iff_iff, has_iff h]
  simp only [Bool.and_eq_true, decide_eq_true_eq]
  constructor
  · rintro ⟨hb, he⟩
    rw [if_pos hb, getElem!_pos l _ hb]
    exact ⟨hb, he⟩
  · rintro ⟨hb, he⟩
    rw [if_pos hb, getElem!_pos l _ hb] at he
    exact ⟨hb, he⟩
end Go.Proofs.Ytibgpghlnfcilaa
