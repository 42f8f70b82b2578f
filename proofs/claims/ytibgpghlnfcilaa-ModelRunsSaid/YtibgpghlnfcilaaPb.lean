/- Plain facts: two rising lists in one are puts, one by one. No program in sight. -/
import Derived.Test.YtibgpghlnfcilaaPt
namespace Go.Proofs.Ytibgpghlnfcilaa
open Go Go.RowKit

/-- two lists, the second one's where both have a key -/
def bothL : List Pr → List Pr → List Pr
  | [], b => b
  | x :: a, [] => x :: bothL a []
  | x :: a, y :: b => if x.key < y.key then x :: bothL a (y :: b) else if x.key = y.key then y :: bothL a b else y :: bothL (x :: a) b
termination_by a b => a.length + b.length

theorem both_nil : ∀ (a : List Pr), bothL a [] = a
  | [] => by rw [bothL]
  | x :: a => by rw [bothL, both_nil a]
theorem put_front {P D : List Pr} {q : Pr} (h : ∀ p ∈ P, p.key < q.key) : putL (P ++ D) q = P ++ putL D q := by
  have hb : bel (P ++ D) q.key = P.length + bel D q.key := by
    unfold bel
    rw [List.countP_append, List.countP_eq_length.2 (by intro p hp; simpa using h p hp)]
  have hu : upk (P ++ D) q.key = P.length + upk D q.key := by
    unfold upk
    rw [List.countP_append, List.countP_eq_length.2 (by intro p hp; have := h p hp; simp; omega)]
  unfold putL
  rw [hb, hu, List.take_append, List.drop_append, List.take_of_length_le (by omega), List.drop_eq_nil_of_le (by omega)]
  simp
theorem puts_front : ∀ (b : List Pr) {P D : List Pr}, (∀ p ∈ P, ∀ q ∈ b, p.key < q.key) → b.foldl putL (P ++ D) = P ++ b.foldl putL D
  | [], _, _, _ => rfl
  | q :: b, P, D, h => by
    rw [List.foldl_cons, List.foldl_cons, put_front (fun p hp => h p hp q (by simp)), puts_front b (fun p hp q' hq => h p hp q' (by simp [hq]))]
theorem both_cons (y : Pr) (b : List Pr) : ∀ (a : List Pr), Ris a → bothL a (y :: b) = a.take (bel a y.key) ++ y :: bothL (a.drop (upk a y.key)) b
  | [], _ => by rw [bothL]; simp [bel, upk]; cases b <;> rw [bothL]
  | x :: a, h => by
    obtain ⟨h1, h2⟩ := ris_cons.1 h
    rw [bothL]
    by_cases c1 : x.key < y.key
    · have hb : bel (x :: a) y.key = bel a y.key + 1 := by unfold bel; rw [List.countP_cons_of_pos (by simpa using c1)]
      have hu : upk (x :: a) y.key = upk a y.key + 1 := by unfold upk; rw [List.countP_cons_of_pos (by simp; omega)]
      rw [if_pos c1, both_cons y b a h2, hb, hu, List.take_succ_cons, List.drop_succ_cons]
      rfl
    · rw [if_neg c1]
      have hn : ∀ q ∈ a, y.key < q.key ∨ (x.key = y.key ∧ y.key < q.key) ∨ y.key ≤ x.key := fun q hq => .inr (.inr (by omega))
      have hb : bel (x :: a) y.key = 0 := by
        unfold bel
        rw [List.countP_eq_zero]
        intro q hq
        rcases List.mem_cons.1 hq with rfl | hq
        · simpa using c1
        · have := h1 q hq; simp; omega
      by_cases c2 : x.key = y.key
      · have hu : upk (x :: a) y.key = 1 := by
          unfold upk
          rw [List.countP_cons_of_pos (by simp; omega), List.countP_eq_zero.2 (by intro q hq; have := h1 q hq; simp; omega)]
        rw [if_pos c2, hb, hu]
        rfl
      · have hu : upk (x :: a) y.key = 0 := by
          unfold upk
          rw [List.countP_eq_zero]
          intro q hq
          rcases List.mem_cons.1 hq with rfl | hq
          · simp; omega
          · have := h1 q hq; simp; omega
        rw [if_neg c2, hb, hu]
        rfl
theorem both_puts : ∀ (b : List Pr) {a : List Pr}, Ris a → Ris b → bothL a b = b.foldl putL a
  | [], a, _, _ => both_nil a
  | y :: b, a, ha, hb => by
    obtain ⟨h1, h2⟩ := ris_cons.1 hb
    rw [both_cons y b a ha, List.foldl_cons, both_puts b (ha.sub (List.drop_sublist _ _)) h2]
    have e : putL a y = (a.take (bel a y.key) ++ [y]) ++ a.drop (upk a y.key) := by unfold putL; simp
    rw [e, puts_front b]
    · simp
    · intro p hp q hq
      have hyq := h1 q hq
      rcases List.mem_append.1 hp with hp | hp
      · have := take_lt ha y.key p hp; omega
      · obtain rfl : p = y := by simpa using hp
        exact hyq
theorem both_one {l : List Pr} (h : Ris l) (p : Pr) : bothL (l.filter (fun q => decide (q.key < p.key) || decide (p.key < q.key))) [p] = putL l p := by
  rw [filter_or_ris h]
  have hle := bel_upk l p.key
  rw [Nat.max_eq_right hle, both_puts [p] (ris_cut h _ _ hle) (by rw [ris_iff]; simp)]
  show putL _ p = _
  rw [put_front (fun q hq => take_lt h p.key q hq)]
  have hd := drop_gt h p.key
  have hb : bel (l.drop (upk l p.key)) p.key = 0 := by unfold bel; rw [List.countP_eq_zero]; intro q hq; have := hd q hq; simp; omega
  have hu : upk (l.drop (upk l p.key)) p.key = 0 := by unfold upk; rw [List.countP_eq_zero]; intro q hq; have := hd q hq; simp; omega
  unfold putL
  rw [hb, hu]
  simp
end Go.Proofs.Ytibgpghlnfcilaa
