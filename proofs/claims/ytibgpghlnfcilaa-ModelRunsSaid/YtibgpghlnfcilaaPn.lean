/- Plain facts of maps' operations: that pairs stay a map's, and how many there are. No program in sight. -/
import Derived.Test.YtibgpghlnfcilaaPm
namespace Go.Proofs.Ytibgpghlnfcilaa
open Go Go.RowKit

theorem take_lt {l : List Pr} (h : Ris l) (k : Int) : ∀ q ∈ l.take (bel l k), q.key < k := by
  intro q hq
  obtain ⟨i, hi, rfl⟩ := List.getElem_of_mem hq
  rw [List.getElem_take]
  simp at hi
  exact (bel_iff h k i (by omega)).2 (by omega)
theorem drop_gt {l : List Pr} (h : Ris l) (k : Int) : ∀ q ∈ l.drop (upk l k), k < q.key := by
  intro q hq
  obtain ⟨i, hi, rfl⟩ := List.getElem_of_mem hq
  rw [List.getElem_drop]
  simp at hi
  have := mt (upk_iff h k (upk l k + i) (by omega)).1 (by omega)
  omega
theorem ris_put {l : List Pr} (h : Ris l) (p : Pr) : Ris (putL l p) := by
  unfold putL
  rw [ris_iff, List.pairwise_append, List.pairwise_cons]
  refine ⟨(ris_iff _).1 (h.sub (List.take_sublist _ _)), ⟨fun q hq => drop_gt h p.key q hq, (ris_iff _).1 (h.sub (List.drop_sublist _ _))⟩, fun a ha b hb => ?_⟩
  have h1 := take_lt h p.key a ha
  rcases List.mem_cons.1 hb with rfl | hb
  · exact h1
  · have := drop_gt h p.key b hb
    omega
theorem put_len (l : List Pr) (p : Pr) : (putL l p).length ≤ l.length + 1 := by
  have h1 := bel_le l p.key
  have h2 := bel_upk l p.key
  unfold putL
  simp
  omega
theorem ris_puts {m : List Pr} : ∀ {l : List Pr}, Ris l → Ris (m.foldl putL l) := by
  induction m with
  | nil => intro l h; exact h
  | cons p m ih => intro l h; exact ih (ris_put h p)
theorem puts_len {m : List Pr} : ∀ {l : List Pr}, (m.foldl putL l).length ≤ l.length + m.length := by
  induction m with
  | nil => intro l; simp
  | cons p m ih =>
    intro l
    have h1 := ih (l := putL l p)
    have h2 := put_len l p
    simp only [List.foldl_cons, List.length_cons]
    omega
theorem ris_cut {l : List Pr} (h : Ris l) (a b : Nat) (hab : a ≤ b) : Ris (l.take a ++ l.drop b) := by
  refine h.sub ?_
  have e : l = l.take a ++ l.drop a := (List.take_append_drop a l).symm
  conv => rhs; rw [e]
  refine List.Sublist.append_left ?_ _
  have : l.drop b = (l.drop a).drop (b - a) := by rw [List.drop_drop]; congr 1; omega
  rw [this]
  exact List.drop_sublist _ _
theorem ris_left {l : List Pr} (h : Ris l) (o : Opn) (ho : o.kind = 12 → Ris o.pairs) : Ris (leftL l o) := by
  unfold leftL
  split
  · exact ris_put h _
  · split
    · exact ris_cut h _ _ (by omega)
    · split
      · exact ris_cut h _ _ (Nat.le_max_left _ _)
      · split
        · rename_i h12; exact ho h12
        · exact ris_puts h
theorem turn_ris {l : List Pr} (h : Ris l) (most : Int) (o : Opn) : Ris (turnL most l o) := by
  unfold turnL
  split
  · rename_i he
    refine ris_left h o fun h12 => ?_
    unfold turnE at he
    rw [if_neg (by omega)] at he
    by_cases hr : Ris o.pairs
    · exact hr
    · rw [if_pos ⟨.inl h12, hr⟩] at he; cases he
  · exact Ris.nil
theorem left_len (l : List Pr) (o : Opn) : (leftL l o).length ≤ l.length + 1 + o.pairs.length := by
  unfold leftL
  split
  · have := put_len l ⟨o.key, o.val⟩; omega
  · split
    · simp; omega
    · split
      · simp; omega
      · split
        · omega
        · have := puts_len (m := o.pairs) (l := l); omega
theorem turn_len (most : Int) (l : List Pr) (o : Opn) : (turnL most l o).length ≤ l.length + 1 + o.pairs.length := by
  unfold turnL
  split
  · exact left_len l o
  · simp
theorem do_ris (most : Int) (l : List Pr) (o : Opn) : Ris (doL most l o) := by
  unfold doL
  split
  · exact Ris.nil
  · rename_i h
    have hc : checkE most l = 0 := by
      by_cases hc : checkE most l = 0
      · exact hc
      · unfold doE at h; rw [if_pos hc] at h; omega
    have hr : Ris l := by
      unfold checkE at hc
      split at hc
      · cases hc
      · split at hc
        · cases hc
        · rename_i h2
          exact Decidable.byContradiction fun h3 => h2 (.inr h3)
    split
    · exact hr
    · exact turn_ris hr most o
theorem do_len (most : Int) (l : List Pr) (o : Opn) : (doL most l o).length ≤ l.length + 1 + o.pairs.length := by
  unfold doL
  split
  · simp
  · split
    · omega
    · exact turn_len most l o
theorem check_ok {most : Int} {l : List Pr} (h : checkE most l = 0) : 1 ≤ most ∧ most ≤ 16384 ∧ l.length ≤ most ∧ Ris l := by
  unfold checkE at h
  split at h
  · cases h
  · split at h
    · cases h
    · rename_i h1 h2
      refine ⟨by omega, by omega, by omega, Decidable.byContradiction fun h3 => h2 (.inr h3)⟩
end Go.Proofs.Ytibgpghlnfcilaa
