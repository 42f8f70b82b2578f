/- Merging is putting each pair, one by one: on lists. No program in sight. -/
import Derived.Test.YtibgpghlnfcilaaPr2
namespace Go.Proofs.Ytibgpghlnfcilaa
open Go Go.RowKit

def opPut (p : Pr) : Opn := ⟨2, p.key, p.val, 0, 0, []⟩
def opMerge (o : List Pr) : Opn := ⟨13, 0, 0, 0, 0, o⟩
theorem put_doE {most : Int} {l : List Pr} (hc : checkE most l = 0) (p : Pr) : doE most l (opPut p) = if most < (putL l p).length then 9 else 0 := by
  simp [doE, hc, known, opPut, turnE, leftL]
theorem put_doL {most : Int} {l : List Pr} (hc : checkE most l = 0) (p : Pr) (h : ¬ most < (putL l p).length) : doL most l (opPut p) = putL l p := by
  have he : doE most l (opPut p) = 0 := by rw [put_doE hc, if_neg h]
  have ht : turnE most l (opPut p) = 0 := by
    simp [opPut, turnE, leftL]
    exact Int.not_lt.1 h
  unfold doL
  rw [if_neg (by rw [he]; simp), if_neg (by simp [known, opPut])]
  unfold turnL
  rw [if_pos ht]
  simp [leftL, opPut]
theorem put_ge {l : List Pr} (h : Ris l) (p : Pr) : l.length ≤ (putL l p).length := by
  have h1 := bel_le l p.key
  have h2 := upk_bel h p.key
  have h3 := upk_le l p.key
  unfold putL
  simp
  omega
theorem puts_ge : ∀ (o : List Pr) {l : List Pr}, Ris l → l.length ≤ (o.foldl putL l).length
  | [], _, _ => Nat.le_refl _
  | p :: o, l, h => Nat.le_trans (put_ge h p) (puts_ge o (ris_put h p))
theorem step_put {most : Int} {l : List Pr} (hc : checkE most l = 0) (p : Pr) : stepL most l (opPut p) = if most < (putL l p).length then l else putL l p := by
  unfold stepL
  rw [put_doE hc]
  split
  · simp
  · rename_i h; simp [put_doL hc p h]

theorem puts_room {most : Int} : ∀ (o : List Pr) {l : List Pr}, checkE most l = 0 → ((o.foldl putL l).length : Int) ≤ most → runL most l (o.map opPut) = o.foldl putL l ∧ ∀ e ∈ runE most l (o.map opPut), e = 0
  | [], _, _, _ => ⟨rfl, by simp [runE]⟩
  | p :: o, l, hc, h => by
    have hr := (check_ok hc).2.2.2
    have hg := puts_ge o (ris_put hr p)
    simp only [List.foldl_cons] at h
    have hlt : ¬ most < (putL l p).length := by omega
    have hs : stepL most l (opPut p) = putL l p := by rw [step_put hc, if_neg hlt]
    obtain ⟨h1, h2⟩ := puts_room o (l := putL l p) (hs ▸ step_check hc _) h
    refine ⟨?_, ?_⟩
    · simp only [List.map_cons, runL, List.foldl_cons]; rw [hs]; exact h1
    · intro e he
      simp only [List.map_cons, runE] at he
      rcases List.mem_cons.1 he with rfl | he
      · rw [put_doE hc, if_neg hlt]
      · rw [hs] at he; exact h2 e he
theorem puts_stay {most : Int} : ∀ (o : List Pr) {l : List Pr}, checkE most l = 0 → (l.length : Int) = most → ((runL most l (o.map opPut)).length : Int) = most
  | [], _, _, h => h
  | p :: o, l, hc, h => by
    have hr := (check_ok hc).2.2.2
    have hg := put_ge hr p
    simp only [List.map_cons, runL]
    refine puts_stay o (step_check hc _) ?_
    rw [step_put hc]
    split <;> omega
theorem puts_full {most : Int} : ∀ (o : List Pr) {l : List Pr}, checkE most l = 0 → most < (o.foldl putL l).length → (9 ∈ runE most l (o.map opPut)) ∧ ((runL most l (o.map opPut)).length : Int) = most
  | [], l, hc, h => by have := (check_ok hc).2.2.1; simp at h; omega
  | p :: o, l, hc, h => by
    simp only [List.foldl_cons] at h
    simp only [List.map_cons, runL, runE]
    by_cases hp : most < (putL l p).length
    · have hl := put_len l p
      have h3 := (check_ok hc).2.2.1
      refine ⟨?_, ?_⟩
      · rw [put_doE hc, if_pos hp]; simp
      · rw [step_put hc, if_pos hp]; exact puts_stay o hc (by omega)
    · have hs : stepL most l (opPut p) = putL l p := by rw [step_put hc, if_neg hp]
      rw [hs]
      obtain ⟨h1, h2⟩ := puts_full o (l := putL l p) (hs ▸ step_check hc _) h
      exact ⟨List.mem_cons_of_mem _ h1, h2⟩

/-- what a merge does, where pairs may be a map's -/
theorem merge_doE {most : Int} {l : List Pr} (hc : checkE most l = 0) (o : List Pr) : doE most l (opMerge o) = if ¬ Ris o then 130 else if most < (o.foldl putL l).length then 9 else 0 := by
  by_cases hr : Ris o <;> simp [doE, hc, known, opMerge, turnE, leftL, hr]
theorem merge_doL {most : Int} {l : List Pr} {o : List Pr} (h : doE most l (opMerge o) = 0) : doL most l (opMerge o) = o.foldl putL l ∧ doA most l (opMerge o) = ⟨⟨0, 0⟩, (o.foldl putL l).length, []⟩ := by
  have hc := do_ok_check h
  have ht : turnE most l (opMerge o) = 0 := by simpa [doE, hc, known, opMerge] using h
  have hk : known (opMerge o) = false := by simp [known, opMerge]
  constructor
  · unfold doL
    rw [if_neg (by rw [h]; simp), hk]
    simp [turnL, ht, leftL, opMerge]
    intro hh; exact absurd ht hh
  · unfold doA
    rw [if_neg (by rw [h]; simp), hk]
    simp [turnN, ht, leftL, opMerge]
    intro hh; exact absurd ht hh
end Go.Proofs.Ytibgpghlnfcilaa
