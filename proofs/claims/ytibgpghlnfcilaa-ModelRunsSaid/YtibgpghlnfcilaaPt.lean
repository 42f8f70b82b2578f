/- Plain facts: the references' searches are ranks. No program in sight. -/
import Derived.Test.YtibgpghlnfcilaaPn
namespace Go.Proofs.Ytibgpghlnfcilaa
open Go Go.RowKit

/-- a filter by a rising bound cuts a rising list -/
theorem ris_parts {l : List Pr} (h : Ris l) (a : Int) : l.filter (fun p => decide (p.key < a)) = l.take (bel l a) := by
  induction l with
  | nil => simp [bel]
  | cons p l ih =>
    obtain ⟨h1, h2⟩ := ris_cons.1 h
    by_cases hp : p.key < a
    · have hb : bel (p :: l) a = bel l a + 1 := by unfold bel; rw [List.countP_cons_of_pos (by simpa using hp)]
      rw [List.filter_cons_of_pos (by simpa using hp), ih h2, hb, List.take_succ_cons]
    · have hn : ∀ q ∈ p :: l, ¬ q.key < a := by
        intro q hq
        rcases List.mem_cons.1 hq with rfl | hq
        · exact hp
        · have := h1 q hq; omega
      have hb : bel (p :: l) a = 0 := by unfold bel; rw [List.countP_eq_zero]; intro q hq; simpa using hn q hq
      rw [hb, List.take_zero, List.filter_eq_nil_iff]
      intro q hq
      simpa using hn q hq
theorem ris_parts_gt {l : List Pr} (h : Ris l) (b : Int) : l.filter (fun p => decide (b < p.key)) = l.drop (upk l b) := by
  induction l with
  | nil => simp [upk]
  | cons p l ih =>
    obtain ⟨h1, h2⟩ := ris_cons.1 h
    by_cases hp : b < p.key
    · have hn : ∀ q ∈ p :: l, b < q.key := by
        intro q hq
        rcases List.mem_cons.1 hq with rfl | hq
        · exact hp
        · have := h1 q hq; omega
      have hu : upk (p :: l) b = 0 := by unfold upk; rw [List.countP_eq_zero]; intro q hq; have := hn q hq; simp; omega
      rw [hu, List.drop_zero, List.filter_eq_self]
      intro q hq
      simpa using hn q hq
    · have hu : upk (p :: l) b = upk l b + 1 := by unfold upk; rw [List.countP_cons_of_pos (by simp; omega)]
      rw [List.filter_cons_of_neg (by simpa using hp), ih h2, hu, List.drop_succ_cons]
theorem filter_or_ris {l : List Pr} (h : Ris l) (a b : Int) : l.filter (fun p => decide (p.key < a) || decide (b < p.key)) = l.take (bel l a) ++ l.drop (max (bel l a) (upk l b)) := by
  have e : l = l.take (bel l a) ++ l.drop (bel l a) := (List.take_append_drop _ _).symm
  have hd : ∀ q ∈ l.drop (bel l a), a ≤ q.key := by
    intro q hq
    obtain ⟨i, hi, rfl⟩ := List.getElem_of_mem hq
    rw [List.getElem_drop]
    simp at hi
    have := mt (bel_iff h a (bel l a + i) (by omega)).1 (by omega)
    omega
  conv => lhs; rw [e]
  rw [List.filter_append]
  congr 1
  · rw [List.filter_eq_self]
    intro q hq
    have := take_lt h a q hq
    simp [this]
  · have h2 : (l.drop (bel l a)).filter (fun p => decide (p.key < a) || decide (b < p.key)) = (l.drop (bel l a)).filter (fun p => decide (b < p.key)) := by
      refine List.filter_congr fun q hq => ?_
      have := hd q hq
      simp
      omega
    rw [h2, ris_parts_gt (h.sub (List.drop_sublist _ _))]
    rw [List.drop_drop]
    congr 1
    have hu : upk (l.drop (bel l a)) b = upk l b - min (bel l a) (upk l b) := by
      have h3 : upk l b = upk (l.take (bel l a)) b + upk (l.drop (bel l a)) b := by
        unfold upk
        rw [← List.countP_append, List.take_append_drop]
      by_cases hc : bel l a ≤ upk l b
      · have h4 : upk (l.take (bel l a)) b = bel l a := by
          unfold upk
          have hl : (l.take (bel l a)).length = bel l a := by rw [List.length_take]; have := bel_le l a; omega
          refine (List.countP_eq_length.2 ?_).trans hl
          intro q hq
          obtain ⟨i, hi, rfl⟩ := List.getElem_of_mem hq
          rw [List.getElem_take]
          have hi' : i < bel l a := by rw [hl] at hi; exact hi
          have := (upk_iff h b i (by have := bel_le l a; omega)).2 (by omega)
          simpa using this
        omega
      · have h4 : upk (l.drop (bel l a)) b = 0 := by
          unfold upk
          rw [List.countP_eq_zero]
          intro q hq
          obtain ⟨i, hi, rfl⟩ := List.getElem_of_mem hq
          rw [List.getElem_drop]
          simp at hi
          have := mt (upk_iff h b (bel l a + i) (by omega)).1 (by omega)
          simp; omega
        omega
    rw [hu]
    omega
end Go.Proofs.Ytibgpghlnfcilaa
