/- Plain facts: how Lower goes down Eytzinger's tree and back. No program in sight. -/
import Derived.Test.YtokomclcgegfkaaDoorEytz
import Derived.Lib.TrailingZeros
namespace Go.Proofs.YtokomclcgegfkaaDoor
open Go

/-- where a way down ends: places from 1 on -/
def low (n : Nat) (t : Nat → Bool) (m : Nat) : Nat := if h : 1 ≤ m ∧ m ≤ n then low n t (2 * m + (if t (m - 1) then 1 else 0)) else m
termination_by n + 1 - m
decreasing_by split <;> omega
theorem low_in {n : Nat} {t : Nat → Bool} {m : Nat} (h1 : 1 ≤ m) (h2 : m ≤ n) : low n t m = low n t (2 * m + (if t (m - 1) then 1 else 0)) := by rw [low, dif_pos ⟨h1, h2⟩]
theorem low_out {n : Nat} {t : Nat → Bool} {m : Nat} (h : ¬ m ≤ n) : low n t m = m := by rw [low, dif_neg (by omega)]
/-- back over all turns to the right, and the last one to the left -/
def anc (m : Nat) : Nat := if h : m % 2 = 1 then anc (m / 2) else m / 2
termination_by m
decreasing_by omega
theorem anc_odd {m : Nat} (h : m % 2 = 1) : anc m = anc (m / 2) := by rw [anc, dif_pos h]
theorem anc_even {m : Nat} (h : m % 2 ≠ 1) : anc m = m / 2 := by rw [anc, dif_neg h]
theorem anc_left (m : Nat) : anc (2 * m) = m := by rw [anc_even (by omega)]; omega
theorem anc_right (m : Nat) : anc (2 * m + 1) = anc m := by rw [anc_odd (by omega)]; congr 1; omega
theorem anc_le (m : Nat) : anc m ≤ m / 2 := by
  induction m using Nat.strongRecOn with
  | _ m ih =>
    by_cases h : m % 2 = 1
    · rw [anc_odd h]; have := ih (m / 2) (by omega); omega
    · rw [anc_even h]; omega
theorem anc_shift : ∀ (f m : Nat), m < 2 ^ f - 1 → anc m = m / 2 ^ (Lib.ctzFrom f (2 ^ f - 1 - m) + 1)
  | 0, m, h => by simp at h
  | f + 1, m, h => by
    have h2 : 2 ^ (f + 1) = 2 * 2 ^ f := by rw [Nat.pow_succ, Nat.mul_comm]
    have hp : 0 < 2 ^ f := Nat.pow_pos (by omega)
    unfold Lib.ctzFrom
    by_cases hm : m % 2 = 1
    · rw [if_neg (by omega), anc_odd hm, anc_shift f (m / 2) (by omega), show (2 ^ (f + 1) - 1 - m) / 2 = 2 ^ f - 1 - m / 2 by omega, Nat.div_div_eq_div_mul]
      congr 1
      rw [show 1 + Lib.ctzFrom f (2 ^ f - 1 - m / 2) + 1 = (Lib.ctzFrom f (2 ^ f - 1 - m / 2) + 1) + 1 by omega, Nat.pow_succ 2 (Lib.ctzFrom f (2 ^ f - 1 - m / 2) + 1), Nat.mul_comm]
    · rw [if_pos (by omega), anc_even hm]
theorem anc_ctz {m : Nat} (h : m < 18446744073709551615) : anc m = m / 2 ^ (Lib.ctz 64 (18446744073709551615 - m) + 1) := by
  have := anc_shift 64 m (by simpa using h)
  unfold Lib.ctz
  rw [if_neg (by omega)]
  simpa using this

/-- where a way stands -/
def WayAt (n : Nat) (t : Nat → Bool) (m : Nat) : Prop :=
  1 ≤ m ∧ ∃ pre post : List Nat, inord n 0 = pre ++ inord n (m - 1) ++ post ∧ (∀ x ∈ pre, t x = true) ∧ (∀ x ∈ post, t x = false) ∧ post.head? = (if anc m = 0 then none else some (anc m - 1))
theorem WayAt.start (n : Nat) (t : Nat → Bool) : WayAt n t 1 := by
  refine ⟨Nat.le_refl _, [], [], by simp, by simp, by simp, ?_⟩
  have : anc 1 = 0 := by have := anc_le 1; omega
  rw [this]
  rfl
theorem WayAt.step {n : Nat} {t : Nat → Bool} {m : Nat} (hp : (inord n 0).Pairwise (fun a b => t b = true → t a = true)) (h : WayAt n t m) (hm : m ≤ n) : WayAt n t (2 * m + (if t (m - 1) then 1 else 0)) := by
  obtain ⟨h1, pre, post, he, hpre, hpost, hh⟩ := h
  have hin := inord_in (show m - 1 < n by omega)
  rw [hin] at he
  rw [he] at hp
  cases ht : t (m - 1)
  · refine ⟨by omega, pre, (m - 1) :: inord n (2 * (m - 1) + 2) ++ post, ?_, hpre, ?_, ?_⟩
    · rw [he, show 2 * m + (if false = true then 1 else 0) - 1 = 2 * (m - 1) + 1 by simp; omega]; simp
    · intro x hx
      rcases List.mem_append.1 hx with hx | hx
      · rcases List.mem_cons.1 hx with rfl | hx
        · exact ht
        · have h3 := (List.pairwise_append.1 hp).1
          have h4 := (List.pairwise_append.1 h3).2.1
          have h5 := (List.pairwise_append.1 h4).2.1
          have h6 := (List.pairwise_cons.1 h5).1 x hx
          cases htx : t x
          · rfl
          · have := h6 htx; rw [ht] at this; cases this
      · exact hpost x hx
    · rw [show 2 * m + (if false = true then 1 else 0) = 2 * m from rfl, anc_left, if_neg (by omega)]; rfl
  · rw [if_pos rfl]
    refine ⟨by omega, pre ++ inord n (2 * (m - 1) + 1) ++ [m - 1], post, ?_, ?_, hpost, ?_⟩
    · rw [he, show 2 * m + 1 - 1 = 2 * (m - 1) + 2 by omega]; simp
    · intro x hx
      rcases List.mem_append.1 hx with hx | hx
      · rcases List.mem_append.1 hx with hx | hx
        · exact hpre x hx
        · have h3 := (List.pairwise_append.1 hp).1
          have h4 := (List.pairwise_append.1 h3).2.1
          exact (List.pairwise_append.1 h4).2.2 x hx (m - 1) (by simp) ht
      · obtain rfl : x = m - 1 := by simpa using hx
        exact ht
    · rw [anc_right]; exact hh
theorem WayAt.done {n : Nat} {t : Nat → Bool} {m : Nat} (h : WayAt n t m) (hm : ¬ m ≤ n) : (inord n 0)[(inord n 0).countP t]? = (if anc m = 0 then none else some (anc m - 1)) := by
  obtain ⟨h1, pre, post, he, hpre, hpost, hh⟩ := h
  rw [inord_out (show ¬ m - 1 < n by omega), List.append_nil] at he
  have hc : (inord n 0).countP t = pre.length := by
    rw [he, List.countP_append, List.countP_eq_length.2 hpre, List.countP_eq_zero.2 (fun x hx => by rw [hpost x hx]; simp)]
    omega
  rw [hc, he, List.getElem?_append_right (Nat.le_refl _), Nat.sub_self, ← hh]
  cases post <;> rfl
theorem WayAt.lt {n : Nat} {t : Nat → Bool} {m : Nat} (h : WayAt n t m) (hm : ¬ m ≤ n) (h0 : anc m ≠ 0) : anc m - 1 < n := by
  have := h.done hm
  rw [if_neg h0] at this
  exact inord_lt (List.mem_of_getElem? this)
end Go.Proofs.YtokomclcgegfkaaDoor
