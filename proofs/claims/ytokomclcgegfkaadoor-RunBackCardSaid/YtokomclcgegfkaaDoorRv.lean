/- The plain law behind RunWhole: what Get, Pairs, Next and Last answer together. -/
import Derived.Test.YtokomclcgegfkaaDoorRr
namespace Go.Proofs.YtokomclcgegfkaaDoor
open Go Go.RowKit
set_option maxRecDepth 100000

theorem ris_le {m : List Ent} (h : RisE m) {i j : Nat} (hij : i ≤ j) (hj : j < m.length) : (m[i]'(by omega)).key ≤ (m[j]'hj).key := by
  by_cases he : i = j
  · subst he; exact Int.le_refl _
  · exact Int.le_of_lt (List.pairwise_iff_getElem.1 h i j (by omega) hj (by omega))
theorem nx_yes {l : List Ent} {key : Int} (h : chkE l = 0) (hB : belK (inL l) key < (inL l).length) : nxE l key = 0 ∧ nxX l key = (inL l)[belK (inL l) key]'hB := by
  have hl := inL_length l
  rw [← hl] at *
  unfold nxE nxX
  rw [if_pos h, if_pos h, ← bel_in, if_neg (by rw [← inL_length l]; omega), List.getD_eq_getElem?_getD, List.getElem?_eq_getElem hB]
  exact ⟨rfl, rfl⟩
theorem nx_no {l : List Ent} {key : Int} (h : chkE l = 0) (hB : ¬ belK (inL l) key < (inL l).length) : nxE l key = 6 ∧ nxX l key = zeroE := by
  have hB2 := belK_le (inL l) key
  unfold nxE nxX
  rw [if_pos h, if_pos h, ← bel_in, if_pos (by rw [← inL_length l]; omega), List.getD_eq_getElem?_getD, List.getElem?_eq_none (by omega)]
  exact ⟨rfl, rfl⟩
theorem ls_yes {l : List Ent} {key : Int} (h : chkE l = 0) (hB : 0 < belK (inL l) key) : lsE l key = 0 ∧ lsX l key = (inL l)[belK (inL l) key - 1]'(by have := belK_le (inL l) key; omega) := by
  have hB2 := belK_le (inL l) key
  unfold lsE lsX inAt
  rw [if_pos h, if_pos h, ← bel_in, if_neg (by omega), if_neg (by omega), List.getD_eq_getElem?_getD, List.getElem?_eq_getElem (by omega)]
  exact ⟨rfl, rfl⟩
theorem ls_no {l : List Ent} {key : Int} (h : chkE l = 0) (hB : ¬ 0 < belK (inL l) key) : lsE l key = 6 := by
  unfold lsE
  rw [if_pos h, ← bel_in, if_pos (by omega)]
theorem gt_in {l : List Ent} (h : chkE l = 0) (key : Int) : gtE l key = (if (look (inL l) key).isSome then 0 else 6) ∧ gtX l key = (look (inL l) key).getD zeroE := by
  unfold gtE gtX
  rw [if_pos h, if_pos h, look_in h]
  exact ⟨rfl, rfl⟩
/-- an entry's rank says whether its key is below -/
theorem in_rank {l : List Ent} (h : chkE l = 0) (key : Int) {i : Nat} (hi : i < l.length) : ∃ (j : Nat) (hj : j < (inL l).length), (inL l)[j]'hj = l[i]'hi ∧ ((l[i]'hi).key < key ↔ j < belK (inL l) key) := by
  have hm : l[i]'hi ∈ inL l := (inL_perm l).mem_iff.2 (List.getElem_mem hi)
  obtain ⟨j, hj, he⟩ := List.getElem_of_mem hm
  exact ⟨j, hj, he, by rw [← he]; exact ris_count key (chk_ris h) j hj⟩
theorem mem_plain {m : List Ent} {k v : Int} : (⟨k, v⟩ : Pr) ∈ plainE m ↔ (⟨k, v, false⟩ : Ent) ∈ m := by
  unfold plainE liveE
  rw [List.mem_map]
  constructor
  · rintro ⟨⟨k', v', d'⟩, he, hq⟩
    obtain ⟨h1, h2⟩ := List.mem_filter.1 he
    injection hq with h3 h4
    subst h3 h4
    cases d'
    · exact h1
    · simp at h2
  · intro hq
    exact ⟨_, List.mem_filter.2 ⟨hq, rfl⟩, rfl⟩
structure WholeOk (l : List Ent) (key : Int) : Prop where
  lo : ∀ i (h : i < l.length), key ≤ (l[i]'h).key → nxE l key = 0 ∧ (nxX l key).key ≤ (l[i]'h).key
  hi : ∀ i (h : i < l.length), (l[i]'h).key < key → lsE l key = 0 ∧ (l[i]'h).key ≤ (lsX l key).key
  met : decide ((⟨key, (gtX l key).val⟩ : Pr) ∈ prL l) = (decide (gtE l key = 0) && !(gtX l key).dead)
  there : decide (gtE l key = 0) = (decide (nxE l key = 0) && decide ((nxX l key).key = key))
  same : gtE l key = 0 → gtX l key = nxX l key
  last : lsE l key = 0 → (lsX l key).key < key
theorem whole {l : List Ent} (h : chkE l = 0) (key : Int) : WholeOk l key := by
  have hr := chk_ris h
  have hBl := belK_le (inL l) key
  have hiff : ((⟨key, (gtX l key).val⟩ : Pr) ∈ prL l) ↔ (gtE l key = 0 ∧ (gtX l key).dead = false) := by
    obtain ⟨h1, h2⟩ := gt_in h key
    rw [h1, h2]
    unfold prL
    rw [if_pos h, mem_plain]
    cases ho : look (inL l) key with
    | none =>
      have hn := look_isNone ho
      exact ⟨fun hm => absurd rfl (hn _ hm), fun hm => by simp at hm⟩
    | some e =>
      obtain ⟨hk, hm⟩ := look_key ho
      obtain ⟨k, v, d⟩ := e
      obtain rfl : k = key := hk
      refine ⟨fun hx => ⟨rfl, ?_⟩, fun hx => ?_⟩
      · have := look_mem hr hx
        rw [show (⟨k, ((some ⟨k, v, d⟩).getD zeroE : Ent).val, false⟩ : Ent).key = k from rfl, ho] at this
        simp at this
        exact this
      · have : d = false := hx.2
        subst this
        exact hm
  have hmet : decide ((⟨key, (gtX l key).val⟩ : Pr) ∈ prL l) = (decide (gtE l key = 0) && !(gtX l key).dead) := by
    rw [Bool.eq_iff_iff]
    simp [hiff]
  refine ⟨fun i hi hk => ?_, fun i hi hk => ?_, hmet, ?_, fun hg => ?_, fun hg => ?_⟩
  · obtain ⟨j, hj, he, hi2⟩ := in_rank h key hi
    have hB : belK (inL l) key ≤ j := by
      by_cases hx : j < belK (inL l) key
      · have := hi2.2 hx; omega
      · omega
    obtain ⟨h1, h2⟩ := nx_yes (key := key) h (by omega)
    exact ⟨h1, by rw [h2, ← he]; exact ris_le hr hB hj⟩
  · obtain ⟨j, hj, he, hi2⟩ := in_rank h key hi
    have hB := hi2.1 hk
    obtain ⟨h1, h2⟩ := ls_yes (key := key) h (by omega)
    exact ⟨h1, by rw [h2, ← he]; exact ris_le hr (by omega) (by omega)⟩
  · obtain ⟨h1, _⟩ := gt_in h key
    rw [h1]
    cases ho : look (inL l) key with
    | none =>
      have hn := look_isNone ho
      by_cases hB : belK (inL l) key < (inL l).length
      · obtain ⟨h3, h4⟩ := nx_yes (key := key) h hB
        rw [h3, h4, decide_eq_false (hn _ (List.getElem_mem hB))]
        rfl
      · rw [(nx_no (key := key) h hB).1]; rfl
    | some e =>
      obtain ⟨hk, hm⟩ := look_key ho
      obtain ⟨j, hj, he⟩ := List.getElem_of_mem hm
      have h5 := ris_count key hr j hj
      rw [he, hk] at h5
      have h6 : belK (inL l) key ≤ j := by
        by_cases hx : j < belK (inL l) key
        · have := h5.2 hx; omega
        · omega
      have hB : belK (inL l) key < (inL l).length := by omega
      obtain ⟨h3, h4⟩ := nx_yes (key := key) h hB
      have h7 := ris_le hr h6 hj
      have h8 := ris_count key hr _ hB
      rw [he, hk] at h7
      have h9 : ((inL l)[belK (inL l) key]'hB).key = key := by omega
      rw [h3, h4, decide_eq_true h9]
      rfl
  · obtain ⟨h1, h2⟩ := gt_in h key
    rw [h1] at hg
    rw [h2]
    cases ho : look (inL l) key with
    | none => rw [ho] at hg; simp at hg
    | some e =>
      obtain ⟨hk, hm⟩ := look_key ho
      obtain ⟨j, hj, he⟩ := List.getElem_of_mem hm
      have h5 := ris_count key hr j hj
      rw [he, hk] at h5
      have h6 : belK (inL l) key ≤ j := by
        by_cases hx : j < belK (inL l) key
        · have := h5.2 hx; omega
        · omega
      have hB : belK (inL l) key < (inL l).length := by omega
      obtain ⟨h3, h4⟩ := nx_yes (key := key) h hB
      rw [h4]
      have h8 := ris_count key hr _ hB
      have hjB : belK (inL l) key = j := by
        by_cases hx : belK (inL l) key = j
        · exact hx
        · have := List.pairwise_iff_getElem.1 hr (belK (inL l) key) j hB hj (by omega)
          rw [he, hk] at this
          omega
      show e = _
      rw [← he]
      congr 1
      exact hjB.symm
  · by_cases hB : 0 < belK (inL l) key
    · obtain ⟨h3, h4⟩ := ls_yes (key := key) h hB
      rw [h4]
      exact (ris_count key hr _ _).2 (by omega)
    · rw [ls_no h hB] at hg; cases hg
theorem ls_bad {l : List Ent} {key : Int} (h : ¬ chkE l = 0) : gtE l key = chkE l ∧ prL l = [] := by
  unfold gtE prL
  rw [if_neg h, if_neg h]
  exact ⟨rfl, rfl⟩
end Go.Proofs.YtokomclcgegfkaaDoor
