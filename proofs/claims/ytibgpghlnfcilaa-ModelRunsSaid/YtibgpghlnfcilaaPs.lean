/- Plain facts: scans, ceilings and floors are ranks. No program in sight. -/
import Derived.Test.YtibgpghlnfcilaaPb
namespace Go.Proofs.Ytibgpghlnfcilaa
open Go Go.RowKit

theorem ris_ge {l : List Pr} (h : Ris l) (a : Int) : l.filter (fun p => decide (a ≤ p.key)) = l.drop (bel l a) := by
  induction l with
  | nil => simp [bel]
  | cons p l ih =>
    obtain ⟨h1, h2⟩ := ris_cons.1 h
    by_cases hp : a ≤ p.key
    · have hn : ∀ q ∈ p :: l, a ≤ q.key := by
        intro q hq
        rcases List.mem_cons.1 hq with rfl | hq
        · exact hp
        · have := h1 q hq; omega
      have hu : bel (p :: l) a = 0 := by unfold bel; rw [List.countP_eq_zero]; intro q hq; have := hn q hq; simp; omega
      rw [hu, List.drop_zero, List.filter_eq_self]
      intro q hq
      simpa using hn q hq
    · have hu : bel (p :: l) a = bel l a + 1 := by unfold bel; rw [List.countP_cons_of_pos (by simp; omega)]
      rw [List.filter_cons_of_neg (by simpa using hp), ih h2, hu, List.drop_succ_cons]
theorem ris_le {l : List Pr} (h : Ris l) (b : Int) : l.filter (fun p => decide (p.key ≤ b)) = l.take (upk l b) := by
  induction l with
  | nil => simp [upk]
  | cons p l ih =>
    obtain ⟨h1, h2⟩ := ris_cons.1 h
    by_cases hp : p.key ≤ b
    · have hb : upk (p :: l) b = upk l b + 1 := by unfold upk; rw [List.countP_cons_of_pos (by simpa using hp)]
      rw [List.filter_cons_of_pos (by simpa using hp), ih h2, hb, List.take_succ_cons]
    · have hn : ∀ q ∈ p :: l, ¬ q.key ≤ b := by
        intro q hq
        rcases List.mem_cons.1 hq with rfl | hq
        · exact hp
        · have := h1 q hq; omega
      have hb : upk (p :: l) b = 0 := by unfold upk; rw [List.countP_eq_zero]; intro q hq; simpa using hn q hq
      rw [hb, List.take_zero, List.filter_eq_nil_iff]
      intro q hq
      simpa using hn q hq
theorem scan_filter {l : List Pr} (h : Ris l) (a b : Int) : l.filter (fun p => decide (a ≤ p.key) && decide (p.key ≤ b)) = (l.drop (bel l a)).take (upk l b - bel l a) := by
  have e : l.filter (fun p => decide (a ≤ p.key) && decide (p.key ≤ b)) = (l.filter (fun p => decide (p.key ≤ b))).filter (fun p => decide (a ≤ p.key)) := by rw [List.filter_filter]
  rw [e, ris_le h, ris_ge (h.sub (List.take_sublist _ _))]
  have hb : bel (l.take (upk l b)) a = min (bel l a) (upk l b) := by
    have hle := upk_le l b
    by_cases hc : bel l a ≤ upk l b
    · rw [Nat.min_eq_left hc]
      refine count_split _ _ _ (by rw [List.length_take]; omega) ?_ ?_
      · intro i hi hlt
        rw [List.getElem_take]
        rw [List.length_take] at hi
        simpa using (bel_iff h a i (by omega)).2 hlt
      · intro i hi hge
        rw [List.getElem_take]
        rw [List.length_take] at hi
        have := mt (bel_iff h a i (by omega)).1 (by omega)
        simpa using this
    · rw [Nat.min_eq_right (by omega)]
      refine count_split _ _ _ (by rw [List.length_take]; omega) ?_ ?_
      · intro i hi hlt
        rw [List.getElem_take]
        rw [List.length_take] at hi
        simpa using (bel_iff h a i (by omega)).2 (by omega)
      · intro i hi hge
        rw [List.length_take] at hi
        omega
  rw [hb, List.drop_take]
  by_cases hc : bel l a ≤ upk l b
  · rw [Nat.min_eq_left hc]
  · rw [Nat.min_eq_right (by omega), Nat.sub_self, List.take_zero, show upk l b - bel l a = 0 by omega, List.take_zero]
end Go.Proofs.Ytibgpghlnfcilaa
