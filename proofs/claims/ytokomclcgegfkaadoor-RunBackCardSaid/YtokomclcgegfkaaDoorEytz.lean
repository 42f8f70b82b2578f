/- Eytzinger's layout as plain mathematics: the places in order, the way from each to the next, that they are just the places below n. -/
namespace Go.Proofs.YtokomclcgegfkaaDoor

def inord (n a : Nat) : List Nat := if _h : a < n then inord n (2 * a + 1) ++ a :: inord n (2 * a + 2) else []
termination_by n - a
decreasing_by all_goals omega

def lm (n a : Nat) : Nat := if h : 2 * a + 1 < n then lm n (2 * a + 1) else a
termination_by n - a
decreasing_by omega

def upo (a : Nat) : Option Nat := if a = 0 then none else if a % 2 = 1 then some ((a - 1) / 2) else upo ((a - 1) / 2)
termination_by a
decreasing_by omega

def nx (n a : Nat) : Option Nat := if 2 * a + 2 < n then some (lm n (2 * a + 2)) else upo a

theorem inord_in {n a : Nat} (h : a < n) : inord n a = inord n (2 * a + 1) ++ a :: inord n (2 * a + 2) := by rw [inord]; simp [h]
theorem inord_out {n a : Nat} (h : ¬ a < n) : inord n a = [] := by rw [inord]; simp [h]
theorem lm_in {n a : Nat} (h : 2 * a + 1 < n) : lm n a = lm n (2 * a + 1) := by rw [lm]; simp [h]
theorem lm_out {n a : Nat} (h : ¬ 2 * a + 1 < n) : lm n a = a := by rw [lm]; simp [h]
theorem upo_zero : upo 0 = none := by rw [upo]; simp
theorem upo_odd {a : Nat} (h : a % 2 = 1) : upo a = some ((a - 1) / 2) := by rw [upo, if_neg (by omega), if_pos h]
theorem upo_even {a : Nat} (h0 : a ≠ 0) (h : a % 2 ≠ 1) : upo a = upo ((a - 1) / 2) := by rw [upo, if_neg h0, if_neg h]

theorem inord_ne {n a : Nat} (h : a < n) : inord n a ≠ [] := by rw [inord_in h]; simp

theorem inord_head (n a : Nat) (h : a < n) : (inord n a).head? = some (lm n a) := by
  induction a using lm.induct (n := n) with
  | case1 a h1 ih =>
    rw [inord_in h, lm_in h1, List.head?_append, ih h1]
    rfl
  | case2 a h1 =>
    rw [inord_in h, lm_out h1, inord_out h1]
    rfl

theorem inord_zero_get {n a : Nat} (h : a < n) (h0 : 0 < (inord n a).length) : (inord n a)[0]'h0 = lm n a := by
  have := inord_head n a h
  rw [List.head?_eq_getElem?, List.getElem?_eq_getElem h0] at this
  exact Option.some.inj this

/-- from each place under a the way leads to the next one under a, or out of it, upward -/
theorem nx_under (n : Nat) : ∀ (m a : Nat), n - a ≤ m → a < n → ∀ (k : Nat) (x : Nat), (inord n a)[k]? = some x → nx n x = ((inord n a)[k + 1]?).or (upo a) := by
  intro m
  induction m with
  | zero => intro a hm h; omega
  | succ m ih =>
    intro a hm h k x hx
    have hl : ∀ k x, (inord n (2 * a + 1))[k]? = some x → nx n x = ((inord n (2 * a + 1))[k + 1]?).or (some a) := by
      intro k x hx
      by_cases h1 : 2 * a + 1 < n
      · have := ih (2 * a + 1) (by omega) h1 k x hx
        rw [this, upo_odd (by omega)]
        congr 2
        omega
      · rw [inord_out h1] at hx; simp at hx
    have hr : ∀ k x, (inord n (2 * a + 2))[k]? = some x → nx n x = ((inord n (2 * a + 2))[k + 1]?).or (upo a) := by
      intro k x hx
      by_cases h1 : 2 * a + 2 < n
      · have := ih (2 * a + 2) (by omega) h1 k x hx
        rw [this, upo_even (a := 2 * a + 2) (by omega) (by omega)]
        congr 2
        omega
      · rw [inord_out h1] at hx; simp at hx
    rw [inord_in h] at hx ⊢
    rcases Nat.lt_trichotomy k (inord n (2 * a + 1)).length with hk | hk | hk
    · rw [List.getElem?_append_left hk] at hx
      rw [hl k x hx]
      by_cases hk1 : k + 1 < (inord n (2 * a + 1)).length
      · rw [List.getElem?_append_left hk1, List.getElem?_eq_getElem hk1]; rfl
      · have : k + 1 = (inord n (2 * a + 1)).length := by omega
        rw [List.getElem?_append_right (by omega), this, Nat.sub_self, List.getElem?_eq_none (by omega)]
        rfl
    · rw [List.getElem?_append_right (by omega), hk, Nat.sub_self] at hx
      simp at hx
      subst hx
      rw [List.getElem?_append_right (by omega), hk]
      have : (inord n (2 * a + 1)).length + 1 - (inord n (2 * a + 1)).length = 1 := by omega
      rw [this]
      simp only [List.getElem?_cons_succ]
      unfold nx
      by_cases h2 : 2 * a + 2 < n
      · rw [if_pos h2]
        have h0 : 0 < (inord n (2 * a + 2)).length := by
          have := inord_ne h2
          cases hh : inord n (2 * a + 2) with
          | nil => exact absurd hh this
          | cons => simp
        rw [List.getElem?_eq_getElem h0, inord_zero_get h2 h0]
        rfl
      · rw [if_neg h2, inord_out h2]
        rfl
    · rw [List.getElem?_append_right (by omega)] at hx
      obtain ⟨j, rfl⟩ : ∃ j, k = (inord n (2 * a + 1)).length + 1 + j := ⟨k - (inord n (2 * a + 1)).length - 1, by omega⟩
      have e1 : (inord n (2 * a + 1)).length + 1 + j - (inord n (2 * a + 1)).length = j + 1 := by omega
      have e2 : (inord n (2 * a + 1)).length + 1 + j + 1 - (inord n (2 * a + 1)).length = j + 1 + 1 := by omega
      rw [e1, List.getElem?_cons_succ] at hx
      rw [List.getElem?_append_right (by omega), e2, List.getElem?_cons_succ]
      exact hr j x hx

theorem nx_next {n k x : Nat} (hx : (inord n 0)[k]? = some x) : nx n x = (inord n 0)[k + 1]? := by
  by_cases h : 0 < n
  · rw [nx_under n n 0 (by omega) h k x hx, upo_zero, Option.or_none]
  · rw [inord_out h] at hx; simp at hx

/-! ### they are just the places below n -/

theorem mem_inord (n : Nat) : ∀ (m a : Nat), n - a ≤ m → ∀ x, x ∈ inord n a ↔ x < n ∧ ∃ d, (x + 1) / 2 ^ d = a + 1 := by
  intro m
  induction m with
  | zero =>
    intro a hm x
    rw [inord_out (by omega)]
    simp only [List.not_mem_nil, false_iff, not_and, not_exists]
    intro hx d he
    have := Nat.div_le_self (x + 1) (2 ^ d)
    omega
  | succ m ih =>
    intro a hm x
    by_cases h : a < n
    · rw [inord_in h, List.mem_append, List.mem_cons, ih (2 * a + 1) (by omega), ih (2 * a + 2) (by omega)]
      constructor
      · rintro (⟨hx, d, he⟩ | rfl | ⟨hx, d, he⟩)
        · refine ⟨hx, d + 1, ?_⟩
          rw [Nat.pow_succ, ← Nat.div_div_eq_div_mul, he]; omega
        · exact ⟨h, 0, by simp⟩
        · refine ⟨hx, d + 1, ?_⟩
          rw [Nat.pow_succ, ← Nat.div_div_eq_div_mul, he]; omega
      · rintro ⟨hx, d, he⟩
        cases d with
        | zero => right; left; simp at he; exact he
        | succ d =>
          rw [Nat.pow_succ, ← Nat.div_div_eq_div_mul] at he
          have : (x + 1) / 2 ^ d = 2 * a + 1 + 1 ∨ (x + 1) / 2 ^ d = 2 * a + 2 + 1 := by omega
          rcases this with h1 | h1
          · exact .inl ⟨hx, d, h1⟩
          · exact .inr (.inr ⟨hx, d, h1⟩)
    · rw [inord_out h]
      simp only [List.not_mem_nil, false_iff, not_and, not_exists]
      intro hx d he
      have := Nat.div_le_self (x + 1) (2 ^ d)
      omega

theorem reach_one (x : Nat) : ∃ d, (x + 1) / 2 ^ d = 1 := by
  induction x using Nat.strongRecOn with
  | _ x ih =>
    cases x with
    | zero => exact ⟨0, rfl⟩
    | succ x =>
      obtain ⟨d, hd⟩ := ih ((x + 2) / 2 - 1) (by omega)
      refine ⟨d + 1, ?_⟩
      rw [Nat.pow_succ, Nat.mul_comm, ← Nat.div_div_eq_div_mul]
      rw [show (x + 2) / 2 - 1 + 1 = (x + 2) / 2 by omega] at hd
      exact hd

theorem mem_inord_zero (n x : Nat) : x ∈ inord n 0 ↔ x < n := by
  rw [mem_inord n n 0 (by omega)]
  exact ⟨fun h => h.1, fun h => ⟨h, reach_one x⟩⟩

theorem far_div {y d e c : Nat} (hde : d < e) (h1 : y / 2 ^ d = c) : y / 2 ^ e ≤ c / 2 := by
  obtain ⟨j, rfl⟩ : ∃ j, e = d + 1 + j := ⟨e - d - 1, by omega⟩
  rw [Nat.pow_add, Nat.pow_succ, ← Nat.div_div_eq_div_mul, ← Nat.div_div_eq_div_mul, h1]
  exact Nat.div_le_self _ _

theorem nodup_inord (n : Nat) : ∀ (m a : Nat), n - a ≤ m → (inord n a).Nodup := by
  intro m
  induction m with
  | zero => intro a hm; rw [inord_out (by omega)]; exact List.nodup_nil
  | succ m ih =>
    intro a hm
    by_cases h : a < n
    · rw [inord_in h, List.nodup_append]
      refine ⟨ih _ (by omega), List.nodup_cons.2 ⟨?_, ih _ (by omega)⟩, ?_⟩
      · rw [mem_inord n m _ (by omega)]
        rintro ⟨_, d, he⟩
        have := Nat.div_le_self (a + 1) (2 ^ d)
        omega
      · intro x hx y hy hxy
        subst hxy
        rw [mem_inord n m _ (by omega)] at hx
        obtain ⟨_, d, hd⟩ := hx
        rcases List.mem_cons.1 hy with rfl | hy
        · have := Nat.div_le_self (x + 1) (2 ^ d)
          omega
        · rw [mem_inord n m _ (by omega)] at hy
          obtain ⟨_, e, he⟩ := hy
          rcases Nat.lt_trichotomy d e with hde | hde | hde
          · have := far_div hde hd; omega
          · subst hde; omega
          · have := far_div hde he; omega
    · rw [inord_out h]; exact List.nodup_nil

theorem inord_perm (n : Nat) : (inord n 0).Perm (List.range n) := by
  rw [List.perm_ext_iff_of_nodup (nodup_inord n n 0 (by omega)) List.nodup_range]
  intro x
  rw [mem_inord_zero, List.mem_range]

theorem inord_length (n : Nat) : (inord n 0).length = n := by rw [(inord_perm n).length_eq, List.length_range]

theorem inord_lt {n x : Nat} (h : x ∈ inord n 0) : x < n := (mem_inord_zero n x).1 h

theorem inord_sub (n : Nat) : ∀ a, (inord n a).Sublist (inord n 0) := by
  intro a
  induction a using Nat.strongRecOn with
  | _ a ih =>
    by_cases h0 : a = 0
    · subst h0; exact List.Sublist.refl _
    · refine List.Sublist.trans ?_ (ih ((a - 1) / 2) (by omega))
      by_cases hp : (a - 1) / 2 < n
      · rw [inord_in hp]
        rcases Nat.mod_two_eq_zero_or_one a with h | h
        · rw [show 2 * ((a - 1) / 2) + 2 = a by omega]
          exact (List.sublist_cons_self _ _).trans (List.sublist_append_right _ _)
        · rw [show 2 * ((a - 1) / 2) + 1 = a by omega]
          exact List.sublist_append_left _ _
      · rw [inord_out (a := a) (by omega)]; exact List.nil_sublist _
theorem inord_le (n a : Nat) : (inord n a).length ≤ n := by have := (inord_sub n a).length_le; rwa [inord_length] at this

/-- of each place the rank of what stands there -/
def ranks (n : Nat) : List Nat := (List.range n).map fun at_ => (inord n 0).idxOf at_
theorem ranks_length (n : Nat) : (ranks n).length = n := by simp [ranks]
theorem ranks_get {n a : Nat} (h : a < n) : (ranks n)[a]'(by rw [ranks_length]; exact h) = (inord n 0).idxOf a := by simp [ranks]
theorem ranks_lt {n a : Nat} (h : a < n) : (inord n 0).idxOf a < n := by
  have := List.idxOf_lt_length_iff.2 ((mem_inord_zero n a).2 h)
  rwa [inord_length] at this
theorem inord_idx {n a : Nat} (h : a < n) : (inord n 0)[(inord n 0).idxOf a]'(by rw [inord_length]; exact ranks_lt h) = a := List.getElem_idxOf _
theorem idx_inord {n k : Nat} (h : k < (inord n 0).length) : (inord n 0).idxOf ((inord n 0)[k]'h) = k := (nodup_inord n n 0 (by omega)).idxOf_getElem k h
end Go.Proofs.YtokomclcgegfkaaDoor
