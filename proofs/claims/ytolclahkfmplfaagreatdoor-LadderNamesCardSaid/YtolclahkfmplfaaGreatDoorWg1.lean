/- Fl Lib Sb Ez: texts of the claim, in this order. -/
import Derived.Laws.ComplexArith
import Derived.WalkKit
import Derived.WalkSpells
import Derived.Deep.QuietTactic
import Derived.BigQuiet
import Derived.Lib.Hide
import Derived.Laws.OwnMore
import Derived.Laws.MakeOwn
import Derived.Laws.Entries
import Derived.OwnWalk
import Derived.Test.YtolclahkfmplfaaGreatDoorProg
/- Whole numbers as binary64 words: products and sums that stay below 2^53 are exact. No program in sight. -/
namespace Go.Proofs.YtolclahkfmplfaaGreatDoor
open Go Ieee

def bias : Nat := 1074
theorem least : double.leastPlace = -(bias : Int) := by decide
/-- a word stands for a whole number -/
def Holds (x : Nat) (z : Int) : Prop := ∃ (s : Bool) (m p : Nat), double.read x = .number s m ((p : Int) - (bias : Int)) ∧ signed s m p = z * ((2 ^ bias : Nat) : Int)
def sg (s : Bool) : Int := if s then -1 else 1
theorem signed_sg (s : Bool) (m p : Nat) : signed s m p = sg s * ((m * 2 ^ p : Nat) : Int) := by
  unfold signed sg; rw [Nat.shiftLeft_eq]; cases s <;> simp
theorem sg_abs (s : Bool) (n : Nat) : (sg s * (n : Int)).natAbs = n := by unfold sg; cases s <;> simp
theorem cut_exact (neg : Bool) (n d k : Nat) (hd : d ≤ n.log2 + 2) (h : n = k * 2 ^ d) : Toward.even.cut neg n d = k := by
  have hp : 0 < 2 ^ d := Nat.pow_pos (by omega)
  unfold Toward.cut
  simp only [Nat.min_eq_left hd, Nat.shiftLeft_eq, Nat.one_mul]
  rw [h, Nat.mul_mod_left, Nat.mul_div_cancel _ hp]
  have h1 : ¬ 2 ^ d < 2 * 0 := by omega
  have h2 : (2 ^ d == 2 * 0) = false := by simp
  simp [h2]
theorem log2_scale {m a p q : Nat} (hm : m ≠ 0) (ha : a ≠ 0) (h : m * 2 ^ p = a * 2 ^ q) : m.log2 + p = a.log2 + q := by
  have m1 := Nat.log2_self_le hm
  have m2 := Nat.lt_log2_self (n := m)
  have a1 := Nat.log2_self_le ha
  have a2 := Nat.lt_log2_self (n := a)
  have pp : 0 < 2 ^ p := Nat.pow_pos (by omega)
  have pq : 0 < 2 ^ q := Nat.pow_pos (by omega)
  have x1 : 2 ^ (m.log2 + p) ≤ m * 2 ^ p := by rw [Nat.pow_add]; exact Nat.mul_le_mul_right _ m1
  have x2 : m * 2 ^ p < 2 ^ (m.log2 + p + 1) := by rw [show m.log2 + p + 1 = m.log2 + 1 + p by omega, Nat.pow_add]; exact Nat.mul_lt_mul_of_pos_right m2 pp
  have y1 : 2 ^ (a.log2 + q) ≤ a * 2 ^ q := by rw [Nat.pow_add]; exact Nat.mul_le_mul_right _ a1
  have y2 : a * 2 ^ q < 2 ^ (a.log2 + q + 1) := by rw [show a.log2 + q + 1 = a.log2 + 1 + q by omega, Nat.pow_add]; exact Nat.mul_lt_mul_of_pos_right a2 pq
  rw [h] at x1 x2
  have z1 := (Nat.pow_lt_pow_iff_right (a := 2) (by omega)).1 (Nat.lt_of_le_of_lt x1 y2)
  have z2 := (Nat.pow_lt_pow_iff_right (a := 2) (by omega)).1 (Nat.lt_of_le_of_lt y1 x2)
  omega
theorem read_word (s : Bool) (r k : Nat) (h1 : 2 ^ 52 ≤ k) (h2 : k < 2 ^ 53) (h3 : r ≤ 1100) : double.read (double.word s (r * 2 ^ 52 + k)) = .number s k (-(bias : Int) + r) := by
  have e1 : double.signWeight = 9223372036854775808 := by decide
  have e2 : double.binade = 4503599627370496 := by decide
  have e3 : double.infRung = 9218868437227405312 := by decide
  have e4 := least
  have hw : double.word s (r * 2 ^ 52 + k) = (if s then 9223372036854775808 else 0) + (r * 4503599627370496 + k) := by
    unfold Format.word; rw [e1]; cases s <;> simp
  unfold Format.read
  rw [hw, e1, e2, e3, e4]
  have hk1 : 4503599627370496 ≤ k := h1
  have hk2 : k < 9007199254740992 := h2
  have hm : ((if s then 9223372036854775808 else 0) + (r * 4503599627370496 + k)) % 9223372036854775808 = r * 4503599627370496 + k := by cases s <;> simp <;> omega
  have hd : ((if s then 9223372036854775808 else 0) + (r * 4503599627370496 + k)) / 9223372036854775808 % 2 = (if s then 1 else 0) := by cases s <;> simp <;> omega
  simp only [hm, hd]
  rw [if_neg (by omega), if_pos (by omega)]
  have q1 : (r * 4503599627370496 + k) % 4503599627370496 = k - 4503599627370496 := by omega
  have q2 : (r * 4503599627370496 + k) / 4503599627370496 = r + 1 := by omega
  rw [q1, q2]
  have q3 : 4503599627370496 + (k - 4503599627370496) = k := by omega
  rw [q3]
  cases s <;> simp
theorem read_zero (s : Bool) : double.read (double.word s 0) = .number s 0 (((0 : Nat) : Int) - (bias : Int)) := by cases s <;> decide
theorem holds_nearest (s : Bool) (m p Q : Nat) (z : Int) (hz : z.natAbs < 2 ^ 53) (h : signed s m p = z * ((2 ^ Q : Nat) : Int)) : Holds (double.nearest s m ((p : Int) - (Q : Int))) z := by
  unfold Format.nearest
  by_cases hm : m = 0
  · rw [if_pos hm]
    refine ⟨s, 0, 0, read_zero s, ?_⟩
    subst hm
    rw [signed_sg] at h ⊢
    have hp : ((2 ^ Q : Nat) : Int) ≠ 0 := by exact_mod_cast Nat.ne_of_gt (Nat.pow_pos (n := Q) (show 0 < 2 by omega))
    have hz0 : z = 0 := by
      rw [Nat.zero_mul] at h
      have h2 : z * ((2 ^ Q : Nat) : Int) = 0 := by rw [← h]; simp
      rcases Int.mul_eq_zero.1 h2 with h3 | h3
      · exact h3
      · exact absurd h3 hp
    rw [hz0]; simp
  · rw [if_neg hm]
    obtain ⟨a, ha⟩ : ∃ a, z.natAbs = a := ⟨_, rfl⟩
    rw [ha] at hz
    have hpow : 0 < 2 ^ Q := Nat.pow_pos (by omega)
    have hma : m * 2 ^ p = a * 2 ^ Q := by
      have h1 := congrArg Int.natAbs h
      rw [signed_sg, sg_abs, Int.natAbs_mul, ha, Int.natAbs_natCast] at h1
      exact h1
    have ha0 : a ≠ 0 := by
      rintro rfl
      rw [Nat.zero_mul] at hma
      rcases Nat.mul_eq_zero.1 hma with h1 | h1
      · exact hm h1
      · exact absurd h1 (Nat.ne_of_gt (Nat.pow_pos (by omega)))
    have hlog := log2_scale hm ha0 hma
    have hL : a.log2 ≤ 52 := by have := (Nat.log2_lt ha0 (k := 53)).2 hz; omega
    obtain ⟨L, hLe⟩ : ∃ L, a.log2 = L := ⟨_, rfl⟩
    rw [hLe] at hlog hL
    have a1 : 2 ^ L ≤ a := by rw [← hLe]; exact Nat.log2_self_le ha0
    have a2 : a < 2 ^ (L + 1) := by rw [← hLe]; exact Nat.lt_log2_self
    have hb : bias = 1074 := rfl
    have hlast : max ((p : Int) - (Q : Int) + (m.log2 : Nat) - (double.fractionBits : Nat)) double.leastPlace = (L : Int) - 52 := by
      rw [least, show double.fractionBits = 52 from rfl, hb]; omega
    simp only [hlast]
    obtain ⟨K, hK⟩ : ∃ K, a * 2 ^ (52 - L) = K := ⟨_, rfl⟩
    have hK1 : 2 ^ 52 ≤ K := by
      rw [← hK]
      calc 2 ^ 52 = 2 ^ L * 2 ^ (52 - L) := by rw [← Nat.pow_add]; congr 1; omega
        _ ≤ _ := Nat.mul_le_mul_right _ a1
    have hK2 : K < 2 ^ 53 := by
      rw [← hK]
      calc a * 2 ^ (52 - L) < 2 ^ (L + 1) * 2 ^ (52 - L) := Nat.mul_lt_mul_of_pos_right a2 (Nat.pow_pos (by omega))
        _ = 2 ^ 53 := by rw [← Nat.pow_add]; congr 1; omega
    have hkept : Toward.even.cut s (m <<< ((p : Int) - (Q : Int) - ((L : Int) - 52)).toNat) (((L : Int) - 52) - ((p : Int) - (Q : Int))).toNat = K := by
      rw [Nat.shiftLeft_eq]
      by_cases hc : Q + L ≤ p + 52
      · rw [show (((L : Int) - 52) - ((p : Int) - (Q : Int))).toNat = 0 by omega]
        refine cut_exact _ _ _ _ (Nat.zero_le _) ?_
        rw [Nat.pow_zero, Nat.mul_one, show ((p : Int) - (Q : Int) - ((L : Int) - 52)).toNat = p + 52 - (Q + L) by omega, ← hK]
        have e : m * 2 ^ (p + 52 - (Q + L)) * 2 ^ (Q + L) = a * 2 ^ (52 - L) * 2 ^ (Q + L) := by
          rw [Nat.mul_assoc, ← Nat.pow_add, Nat.mul_assoc, ← Nat.pow_add, show p + 52 - (Q + L) + (Q + L) = p + 52 by omega, show 52 - L + (Q + L) = Q + 52 by omega, Nat.pow_add, Nat.pow_add, ← Nat.mul_assoc, hma, Nat.mul_assoc]
        exact Nat.eq_of_mul_eq_mul_right (Nat.pow_pos (by omega)) e
      · rw [show ((p : Int) - (Q : Int) - ((L : Int) - 52)).toNat = 0 by omega, show (((L : Int) - 52) - ((p : Int) - (Q : Int))).toNat = Q + L - (p + 52) by omega, Nat.pow_zero, Nat.mul_one]
        refine cut_exact _ _ _ _ (by omega) ?_
        rw [← hK, Nat.mul_assoc, ← Nat.pow_add, show 52 - L + (Q + L - (p + 52)) = Q - p by omega]
        have e : m * 2 ^ p = a * 2 ^ (Q - p) * 2 ^ p := by rw [hma, Nat.mul_assoc, ← Nat.pow_add]; congr 2; omega
        exact Nat.eq_of_mul_eq_mul_right (Nat.pow_pos (by omega)) e
    rw [hkept, show ((L : Int) - 52 - double.leastPlace).toNat = L + 1022 by rw [least, hb]; omega]
    have e2 : double.binade = 2 ^ 52 := by decide
    have e3 : double.infRung = 9218868437227405312 := by decide
    have hmin : min ((L + 1022) * double.binade + K) double.infRung = (L + 1022) * 2 ^ 52 + K := by
      rw [e2, e3]
      exact Nat.min_eq_left (Nat.le_trans (Nat.add_le_add (Nat.mul_le_mul_right _ (show L + 1022 ≤ 1074 by omega)) (Nat.le_of_lt hK2)) (by decide))
    rw [hmin]
    refine ⟨s, K, L + 1022, ?_, ?_⟩
    · rw [read_word s (L + 1022) K hK1 hK2 (by omega), show -(bias : Int) + ((L + 1022 : Nat) : Int) = ((L + 1022 : Nat) : Int) - (bias : Int) by omega]
    · rw [signed_sg] at h ⊢
      have e4 : K * 2 ^ (L + 1022) = a * 2 ^ bias := by
        rw [← hK, Nat.mul_assoc, ← Nat.pow_add, show 52 - L + (L + 1022) = bias by rw [hb]; omega]
      have e5 : sg s * (a : Int) = z := by
        have h1 : (sg s * (a : Int)) * ((2 ^ Q : Nat) : Int) = z * ((2 ^ Q : Nat) : Int) := by
          rw [← h, hma, Int.mul_assoc]; push_cast; rfl
        exact Int.eq_of_mul_eq_mul_right (by have := Nat.ne_of_gt hpow; exact_mod_cast this) h1
      rw [e4, ← e5, Int.mul_assoc]
      push_cast; rfl
theorem holds_int (n : Int) (h : n.natAbs < 2 ^ 53) : Holds (floatOfInt .f64 n) n := by
  have h1 : floatOfInt .f64 n = double.nearest (decide (n < 0)) n.natAbs (((0 : Nat) : Int) - ((0 : Nat) : Int)) := rfl
  rw [h1]
  refine holds_nearest _ _ 0 0 n h ?_
  rw [signed_sg]
  unfold sg
  by_cases h2 : n < 0
  · rw [decide_eq_true h2, if_pos rfl]; simp; omega
  · rw [decide_eq_false h2, if_neg (by simp)]; simp; omega
theorem signed_opp (s : Bool) (m p : Nat) : signed (!s) m p = - signed s m p := by rw [signed_sg, signed_sg]; cases s <;> simp [sg]
theorem signed_prod (s t : Bool) (m n p q : Nat) : signed (s ^^ t) (m * n) (p + q) = signed s m p * signed t n q := by
  rw [signed_sg, signed_sg, signed_sg]
  have e : ((m * n * 2 ^ (p + q) : Nat) : Int) = ((m * 2 ^ p : Nat) : Int) * ((n * 2 ^ q : Nat) : Int) := by
    rw [← Int.natCast_mul]; congr 1; rw [Nat.pow_add]; ac_rfl
  rw [e]
  generalize ((m * 2 ^ p : Nat) : Int) = u
  generalize ((n * 2 ^ q : Nat) : Int) = v
  cases s <;> cases t <;> simp [sg, Int.neg_mul, Int.mul_neg]
theorem signed_base (s : Bool) (m p b : Nat) (h : b ≤ p) : signed s m (p - b) * ((2 ^ b : Nat) : Int) = signed s m p := by
  rw [signed_sg, signed_sg, Int.mul_assoc, ← Int.natCast_mul, Nat.mul_assoc, ← Nat.pow_add, Nat.sub_add_cancel h]
theorem holds_mul {x y : Nat} {a b : Int} (hx : Holds x a) (hy : Holds y b) (h : (a * b).natAbs < 2 ^ 53) : ∃ r, floatBits .mul .f64 x y = some r ∧ Holds r (a * b) := by
  obtain ⟨s, m, p, h1, h2⟩ := hx
  obtain ⟨t, n, q, h3, h4⟩ := hy
  refine ⟨double.nearest (s ^^ t) (m * n) ((p : Int) - (bias : Int) + ((q : Int) - (bias : Int))), ?_, ?_⟩
  · show double.mul x y = _
    unfold Format.mul
    rw [h1, h3]; rfl
  · rw [show (p : Int) - (bias : Int) + ((q : Int) - (bias : Int)) = ((p + q : Nat) : Int) - ((bias + bias : Nat) : Int) by omega]
    refine holds_nearest _ _ _ _ _ h ?_
    rw [signed_prod, h2, h4, Nat.pow_add, Int.natCast_mul]
    generalize ((2 ^ bias : Nat) : Int) = t
    ac_rfl
theorem sum_holds {s t : Bool} {m n p q : Nat} {a b : Int} (h2 : signed s m p = a * ((2 ^ bias : Nat) : Int)) (h4 : signed t n q = b * ((2 ^ bias : Nat) : Int)) (h : (a + b).natAbs < 2 ^ 53) :
    ∃ r, ((Datum.number s m ((p : Int) - (bias : Int))).sum (.number t n ((q : Int) - (bias : Int)))).map double.write = some r ∧ Holds r (a + b) := by
  obtain ⟨c, hc⟩ : ∃ c, min p q = c := ⟨_, rfl⟩
  have hbase : min ((p : Int) - (bias : Int)) ((q : Int) - (bias : Int)) = (c : Int) - (bias : Int) := by omega
  obtain ⟨T, hT⟩ : ∃ T, signed s m (p - c) + signed t n (q - c) = T := ⟨_, rfl⟩
  have hT2 : T * ((2 ^ c : Nat) : Int) = (a + b) * ((2 ^ bias : Nat) : Int) := by
    rw [← hT, Int.add_mul, signed_base _ _ _ _ (by omega), signed_base _ _ _ _ (by omega), h2, h4, Int.add_mul]
  refine ⟨double.nearest (if T = 0 then s && t else decide (T < 0)) T.natAbs ((c : Int) - (bias : Int)), ?_, ?_⟩
  · unfold Datum.sum
    simp only [hbase]
    rw [show ((p : Int) - (bias : Int) - ((c : Int) - (bias : Int))).toNat = p - c by omega, show ((q : Int) - (bias : Int) - ((c : Int) - (bias : Int))).toNat = q - c by omega, hT]
    rfl
  · refine holds_nearest _ _ _ _ _ h ?_
    rw [← hT2, signed_sg]
    unfold sg
    by_cases h0 : T = 0
    · subst h0; simp
    · rw [if_neg h0]
      by_cases h5 : T < 0
      · rw [decide_eq_true h5, if_pos rfl, Int.natCast_mul, ← Int.mul_assoc]; congr 1; omega
      · rw [decide_eq_false h5, if_neg (by simp), Int.natCast_mul, ← Int.mul_assoc]; congr 1; omega
theorem holds_add {x y : Nat} {a b : Int} (hx : Holds x a) (hy : Holds y b) (h : (a + b).natAbs < 2 ^ 53) : ∃ r, floatBits .add .f64 x y = some r ∧ Holds r (a + b) := by
  obtain ⟨s, m, p, h1, h2⟩ := hx
  obtain ⟨t, n, q, h3, h4⟩ := hy
  obtain ⟨r, h5, h6⟩ := sum_holds h2 h4 h
  refine ⟨r, ?_, h6⟩
  show double.add x y = _
  unfold Format.add
  rw [h1, h3]; exact h5
theorem holds_sub {x y : Nat} {a b : Int} (hx : Holds x a) (hy : Holds y b) (h : (a - b).natAbs < 2 ^ 53) : ∃ r, floatBits .sub .f64 x y = some r ∧ Holds r (a - b) := by
  obtain ⟨s, m, p, h1, h2⟩ := hx
  obtain ⟨t, n, q, h3, h4⟩ := hy
  have h4' : signed (!t) n q = (-b) * ((2 ^ bias : Nat) : Int) := by rw [signed_opp, h4, Int.neg_mul]
  obtain ⟨r, h5, h6⟩ := sum_holds h2 h4' (by rw [← Int.sub_eq_add_neg]; exact h)
  refine ⟨r, ?_, by rw [Int.sub_eq_add_neg]; exact h6⟩
  show double.sub x y = _
  unfold Format.sub
  rw [h1, h3]; exact h5
theorem compare_scale {a b : Int} {n : Nat} (h : 0 < n) : compare (a * (n : Int)) (b * (n : Int)) = compare a b := by
  have hn : (0 : Int) < (n : Int) := by omega
  rcases Int.lt_trichotomy a b with h1 | h1 | h1
  · rw [Int.compare_eq_lt.2 h1, Int.compare_eq_lt.2 (Int.mul_lt_mul_of_pos_right h1 hn)]
  · subst h1; simp
  · rw [Int.compare_eq_gt.2 h1, Int.compare_eq_gt.2 (Int.mul_lt_mul_of_pos_right h1 hn)]
theorem holds_order {x y : Nat} {a b : Int} (hx : Holds x a) (hy : Holds y b) : double.order x y = some (compare a b) := by
  obtain ⟨s, m, p, h1, h2⟩ := hx
  obtain ⟨t, n, q, h3, h4⟩ := hy
  unfold Format.order
  rw [h1, h3]
  unfold Datum.order
  obtain ⟨c, hc⟩ : ∃ c, min p q = c := ⟨_, rfl⟩
  have hbase : min ((p : Int) - (bias : Int)) ((q : Int) - (bias : Int)) = (c : Int) - (bias : Int) := by omega
  simp only [hbase]
  rw [show ((p : Int) - (bias : Int) - ((c : Int) - (bias : Int))).toNat = p - c by omega, show ((q : Int) - (bias : Int) - ((c : Int) - (bias : Int))).toNat = q - c by omega]
  congr 1
  rw [← compare_scale (n := 2 ^ c) (Nat.pow_pos (by omega)), signed_base _ _ _ _ (by omega), signed_base _ _ _ _ (by omega), h2, h4, compare_scale (Nat.pow_pos (by omega))]
theorem holds_zero : Holds 0 0 := ⟨false, 0, 0, by decide, by simp [signed]⟩
theorem xor_rung (x : Nat) : (x ^^^ 2 ^ 63) % 2 ^ 63 = x % 2 ^ 63 := by
  rw [Nat.xor_mod_two_pow, Nat.mod_self, Nat.xor_zero]
theorem xor_sign (x : Nat) : ((x ^^^ 2 ^ 63) / 2 ^ 63 % 2 == 1) = !(x / 2 ^ 63 % 2 == 1) := by
  rw [← Nat.shiftRight_eq_div_pow, Nat.shiftRight_xor_distrib, Nat.shiftRight_eq_div_pow, Nat.shiftRight_eq_div_pow, Nat.div_self (by decide)]
  generalize x / 2 ^ 63 = y
  have h : (y ^^^ 1) % 2 = (y % 2) ^^^ 1 := Nat.xor_mod_two_pow (n := 1)
  rw [h]
  rcases Nat.mod_two_eq_zero_or_one y with h | h <;> simp [h]
theorem read_neg {x : Nat} {s : Bool} {m : Nat} {e : Int} (h : double.read x = .number s m e) : double.read (Op.negFloat .f64 x) = .number (!s) m e := by
  have e1 : double.signWeight = 2 ^ 63 := by decide
  have e2 : Op.negFloat .f64 x = x ^^^ 2 ^ 63 := rfl
  unfold Format.read at h ⊢
  rw [e2, e1, xor_rung, xor_sign]
  rw [e1] at h
  generalize (x / 2 ^ 63 % 2 == 1) = a at h ⊢
  generalize x % 2 ^ 63 = r at h ⊢
  simp only at h ⊢
  split at h
  · rename_i h1
    rw [if_pos h1]
    injection h with q1 q2 q3
    subst q1 q2 q3
    rfl
  · rename_i h1
    rw [if_neg h1]
    split at h
    · rename_i h2
      rw [if_pos h2]
      injection h with q1 q2 q3
      subst q1 q2 q3
      rfl
    · split at h
      · cases h
      · cases h
theorem holds_neg {x : Nat} {a : Int} (h : Holds x a) : Holds (Op.negFloat .f64 x) (-a) := by
  obtain ⟨s, m, p, h1, h2⟩ := h
  exact ⟨!s, m, p, read_neg h1, by rw [signed_opp, h2, Int.neg_mul]⟩
theorem holds_cmul {a b c d : Nat} {A B C D : Int} (ha : Holds a A) (hb : Holds b B) (hc : Holds c C) (hd : Holds d D) (h1 : (A * C).natAbs < 2 ^ 53) (h2 : (B * D).natAbs < 2 ^ 53) (h3 : (A * C - B * D).natAbs < 2 ^ 53) (h4 : (A * D).natAbs < 2 ^ 53) (h5 : (B * C).natAbs < 2 ^ 53) (h6 : (A * D + B * C).natAbs < 2 ^ 53) :
    ∃ re im, cMulBits a b c d = some (re, im) ∧ Holds im (A * D + B * C) := by
  obtain ⟨ac, e1, g1⟩ := holds_mul ha hc h1
  obtain ⟨bd, e2, g2⟩ := holds_mul hb hd h2
  obtain ⟨re, e3, g3⟩ := holds_sub g1 g2 h3
  obtain ⟨ad, e4, g4⟩ := holds_mul ha hd h4
  obtain ⟨bc, e5, g5⟩ := holds_mul hb hc h5
  obtain ⟨im, e6, g6⟩ := holds_add g4 g5 h6
  refine ⟨re, im, ?_, g6⟩
  unfold cMulBits
  rw [e1, Option.bind_some, e2, Option.bind_some, e3, Option.bind_some, e4, Option.bind_some, e5, Option.bind_some, e6]
  rfl
end Go.Proofs.YtolclahkfmplfaaGreatDoor

/- Words and small laws on memory that all proofs of this seat use; no program in sight. -/
namespace Go.Proofs.YtolclahkfmplfaaGreatDoor
open Go Go.RowKit

/-- an entry of a run, as data -/
structure Ent where
  key : Int
  val : Int
  dead : Bool
  deriving DecidableEq

/-- a pair, as data -/
structure Pr where
  key : Int
  val : Int
  deriving DecidableEq

def Ent.cells (e : Ent) : List Value := [.int .i64 e.key, .int .i64 e.val, .bool e.dead]
def Pr.cells (e : Pr) : List Value := [.int .i64 e.key, .int .i64 e.val]

/-- the slice's address A reads, in w, as these cells -/
def Sl (w : World) (A : Option Addr) (xs : List Value) : Prop :=
  xs = [] ∨ ∃ b off, A = some ⟨b, off, none⟩ ∧ b < w.heap.size ∧ ∀ j u, xs[j]? = some u → w.cell? ⟨b, off + j, none⟩ = some u

theorem Sl.below {w w' : World} {A : Option Addr} {xs : List Value} (h : Sl w A xs) (hb : Below w.heap.size w w') : Sl w' A xs := by
  rcases h with h | ⟨b, off, hA, hlt, hc⟩
  · exact .inl h
  · exact .inr ⟨b, off, hA, Nat.lt_of_lt_of_le hlt hb.size, fun j u hu => (hb.cell (p := ⟨b, off + j, none⟩) hlt).trans (hc j u hu)⟩

theorem flat_get {α : Type} (enc : α → List Value) (s : Nat) (hs : ∀ x, (enc x).length = s) (l : List α) (i j : Nat) (hi : i < l.length) (hj : j < s) :
    (l.flatMap enc)[i * s + j]? = (enc (l[i]'hi))[j]? := by
  induction l generalizing i with
  | nil => simp at hi
  | cons x l ih =>
    rw [List.flatMap_cons]
    cases i with
    | zero => rw [List.getElem?_append_left (by rw [hs]; omega)]; simp
    | succ i =>
      have : (i + 1) * s + j = s + (i * s + j) := by rw [Nat.succ_mul]; omega
      rw [this, List.getElem?_append_right (by rw [hs]; omega), hs]
      have : s + (i * s + j) - s = i * s + j := by omega
      rw [this, ih i (by simpa using hi)]
      rfl

theorem flat_length {α : Type} (enc : α → List Value) (s : Nat) (hs : ∀ x, (enc x).length = s) (l : List α) : (l.flatMap enc).length = l.length * s := by
  induction l with
  | nil => simp
  | cons x l ih => rw [List.flatMap_cons, List.length_append, hs, ih, List.length_cons, Nat.succ_mul]; omega

theorem Ent.cells_length (e : Ent) : e.cells.length = 3 := rfl
theorem Pr.cells_length (e : Pr) : e.cells.length = 2 := rfl

/-- element i of a slice of entries -/
theorem Sl.ent {w : World} {A : Option Addr} {l : List Ent} (h : Sl w A (l.flatMap Ent.cells)) (i : Nat) (hi : i < l.length) :
    ∃ b off, A = some ⟨b, off, none⟩ ∧ b < w.heap.size ∧ w.cell? ⟨b, off + i * 3, none⟩ = some (.int .i64 (l[i]'hi).key) ∧
      w.cell? ⟨b, off + i * 3 + 1, none⟩ = some (.int .i64 (l[i]'hi).val) ∧ w.cell? ⟨b, off + i * 3 + 2, none⟩ = some (.bool (l[i]'hi).dead) := by
  rcases h with h | ⟨b, off, hA, hlt, hc⟩
  · have := flat_length Ent.cells 3 Ent.cells_length l
    rw [h] at this
    simp at this
    omega
  · refine ⟨b, off, hA, hlt, ?_, ?_, ?_⟩
    · exact hc _ _ ((flat_get Ent.cells 3 Ent.cells_length l i 0 hi (by omega)).trans rfl)
    · exact hc _ _ ((flat_get Ent.cells 3 Ent.cells_length l i 1 hi (by omega)).trans rfl)
    · exact hc _ _ ((flat_get Ent.cells 3 Ent.cells_length l i 2 hi (by omega)).trans rfl)

theorem Sl.pr {w : World} {A : Option Addr} {l : List Pr} (h : Sl w A (l.flatMap Pr.cells)) (i : Nat) (hi : i < l.length) :
    ∃ b off, A = some ⟨b, off, none⟩ ∧ b < w.heap.size ∧ w.cell? ⟨b, off + i * 2, none⟩ = some (.int .i64 (l[i]'hi).key) ∧
      w.cell? ⟨b, off + i * 2 + 1, none⟩ = some (.int .i64 (l[i]'hi).val) := by
  rcases h with h | ⟨b, off, hA, hlt, hc⟩
  · have := flat_length Pr.cells 2 Pr.cells_length l
    rw [h] at this
    simp at this
    omega
  · refine ⟨b, off, hA, hlt, ?_, ?_⟩
    · exact hc _ _ ((flat_get Pr.cells 2 Pr.cells_length l i 0 hi (by omega)).trans rfl)
    · exact hc _ _ ((flat_get Pr.cells 2 Pr.cells_length l i 1 hi (by omega)).trans rfl)

def intV (n : Int) : Value := .int .i64 n
def natV (n : Nat) : Value := .int .i64 (n : Int)

/-- a slice of one-cell elements -/
theorem Sl.one {α : Type} {w : World} {A : Option Addr} {f : α → Value} {l : List α} (h : Sl w A (l.map f)) (i : Nat) (hi : i < l.length) :
    ∃ b off, A = some ⟨b, off, none⟩ ∧ b < w.heap.size ∧ w.cell? ⟨b, off + i, none⟩ = some (f (l[i]'hi)) := by
  rcases h with h | ⟨b, off, hA, hlt, hc⟩
  · have : (l.map f).length = 0 := by rw [h]; rfl
    simp at this
    subst this
    simp at hi
  · exact ⟨b, off, hA, hlt, hc i _ (by rw [List.getElem?_map, List.getElem?_eq_getElem hi]; rfl)⟩

/-- the same, read in a later world: the block lies below the elder heap's end -/
theorem Sl.entB {w w' : World} {A : Option Addr} {l : List Ent} (h : Sl w A (l.flatMap Ent.cells)) (hb : Below w.heap.size w w') (i : Nat) (hi : i < l.length) :
    ∃ b off, A = some ⟨b, off, none⟩ ∧ b < w.heap.size ∧ w'.cell? ⟨b, off + i * 3, none⟩ = some (.int .i64 (l[i]'hi).key) ∧
      w'.cell? ⟨b, off + i * 3 + 1, none⟩ = some (.int .i64 (l[i]'hi).val) ∧ w'.cell? ⟨b, off + i * 3 + 2, none⟩ = some (.bool (l[i]'hi).dead) := by
  obtain ⟨b, off, hA, hlt, c1, c2, c3⟩ := h.ent i hi
  exact ⟨b, off, hA, hlt, (hb.cell (p := ⟨b, _, none⟩) hlt).trans c1, (hb.cell (p := ⟨b, _, none⟩) hlt).trans c2, (hb.cell (p := ⟨b, _, none⟩) hlt).trans c3⟩
theorem Sl.prB {w w' : World} {A : Option Addr} {l : List Pr} (h : Sl w A (l.flatMap Pr.cells)) (hb : Below w.heap.size w w') (i : Nat) (hi : i < l.length) :
    ∃ b off, A = some ⟨b, off, none⟩ ∧ b < w.heap.size ∧ w'.cell? ⟨b, off + i * 2, none⟩ = some (.int .i64 (l[i]'hi).key) ∧
      w'.cell? ⟨b, off + i * 2 + 1, none⟩ = some (.int .i64 (l[i]'hi).val) := by
  obtain ⟨b, off, hA, hlt, c1, c2⟩ := h.pr i hi
  exact ⟨b, off, hA, hlt, (hb.cell (p := ⟨b, _, none⟩) hlt).trans c1, (hb.cell (p := ⟨b, _, none⟩) hlt).trans c2⟩
theorem Sl.oneB {α : Type} {w w' : World} {A : Option Addr} {f : α → Value} {l : List α} (h : Sl w A (l.map f)) (hb : Below w.heap.size w w') (i : Nat) (hi : i < l.length) :
    ∃ b off, A = some ⟨b, off, none⟩ ∧ b < w.heap.size ∧ w'.cell? ⟨b, off + i, none⟩ = some (f (l[i]'hi)) := by
  obtain ⟨b, off, hA, hlt, c1⟩ := h.one i hi
  exact ⟨b, off, hA, hlt, (hb.cell (p := ⟨b, _, none⟩) hlt).trans c1⟩

/-- block g is just the cells cs, none frozen -/
def Blk (w : World) (g : Nat) (t : TypeId) (cs : Array Value) : Prop := w.heap[g]? = some (.cells cs t (0, 0))

section
variable {w w' : World} {g : Nat} {t : TypeId} {cs : Array Value}
theorem Blk.lt (h : Blk w g t cs) : g < w.heap.size := by
  rcases Nat.lt_or_ge g w.heap.size with hlt | hge
  · exact hlt
  · unfold Blk at h; rw [Array.getElem?_eq_none hge] at h; cases h
theorem Blk.cell (h : Blk w g t cs) (i : Nat) : w.cell? ⟨g, i, none⟩ = cs[i]? := cell_of_row w g i cs t (0, 0) h
theorem Blk.frozen (h : Blk w g t cs) (i : Nat) : w.frozen? ⟨g, i, none⟩ = false := by
  unfold Blk at h
  simp [World.frozen?, h]
theorem Blk.new (w : World) (t : TypeId) (cs : Array Value) : Blk (w.alloc (.cells cs t)) w.heap.size t cs := heap_alloc_new w _
theorem Blk.drewN (h : Blk w g t cs) (n : Nat) : Blk (w.drewN n) g t cs := h
theorem Blk.alloc (h : Blk w g t cs) (o : Obj) : Blk (w.alloc o) g t cs := (Below.heap_alloc w o g h.lt).trans h
theorem Blk.set_ (h : Blk w g t cs) (i : Nat) (u : Value) : Blk (w.setCell ⟨g, i, none⟩ u) g t (cs.setIfInBounds i u) := by
  unfold Blk at h ⊢
  simp [World.setCell, Array.getElem?_modify, h]
theorem Blk.far (h : Blk w g t cs) {p : Addr} (hp : g ≠ p.block) (u : Value) : Blk (w.setCell p u) g t cs := (Below.heap_setCell w p u g hp).trans h
theorem Blk.of (h : Blk w g t cs) (he : w'.heap[g]? = w.heap[g]?) : Blk w' g t cs := he.trans h
theorem Blk.below {B : Nat} (h : Blk w g t cs) (hb : Below B w w') (hg : g < B) : Blk w' g t cs := (hb.block g hg).trans h
theorem Blk.sl (h : Blk w g t cs) (o : Nat) (xs : List Value) (hx : ∀ j u, xs[j]? = some u → cs[o + j]? = some u) : Sl w (some ⟨g, o, none⟩) xs :=
  .inr ⟨g, o, rfl, h.lt, fun j u hu => (h.cell _).trans (hx j u hu)⟩
end

/-! ### a slice of the call's own -/
section
variable {w : World} {B B' s n c : Nat} {e : TypeId} {A : Option Addr} {v : Value} {xs : List Value}
theorem own_form (h : w.ownsRow B e s v n xs) : ∃ A c, v = .slice A n c ∧ n ≤ c ∧ c ≤ maxLen := by
  rcases h.2 with ⟨rfl, rfl⟩ | ⟨g, cap, cur, rfl, _, _, hn, hm, _⟩
  · exact ⟨none, 0, rfl, Nat.le_refl _, Nat.zero_le _⟩
  · exact ⟨_, cap, rfl, hn, hm⟩
theorem own_sl (h : w.ownsRow B e s (.slice A n c) n xs) : Sl w A xs := by
  rcases h.2 with ⟨hv, hn⟩ | ⟨g, cap, cur, hv, _, hg, _, _, _, ht⟩
  · left; have := h.1; rw [hn] at this; exact List.eq_nil_of_length_eq_zero (by simpa using this)
  · obtain ⟨rfl, rfl⟩ : A = some ⟨g, 0, none⟩ ∧ c = cap := by simpa using hv
    refine .inr ⟨g, 0, rfl, (Array.getElem?_eq_some_iff.1 hg).1, fun j u hu => ?_⟩
    rw [Nat.zero_add, cell_of_row w g j cur e (0, 0) hg]
    rw [← ht, List.getElem?_take] at hu
    split at hu
    · simpa using hu
    · cases hu
theorem own_base (h : w.ownsRow B e s (.slice A n c) n xs) : ∀ a, A = some a → B ≤ a.block := by
  intro a ha
  exact (h.lt a.block (by simp [Value.ownBlock, ha])).1
theorem own_mono (h : w.ownsRow B e s v n xs) (hB : B' ≤ B) : w.ownsRow B' e s v n xs := by
  refine ⟨h.1, ?_⟩
  rcases h.2 with h2 | ⟨g, cap, cur, hv, hg, r⟩
  · exact .inl h2
  · exact .inr ⟨g, cap, cur, hv, by omega, r⟩
theorem own_below {w' : World} (h : w.ownsRow B e s v n xs) (hb : Below w.heap.size w w') : w'.ownsRow B e s v n xs := by
  refine ⟨h.1, ?_⟩
  rcases h.2 with h2 | ⟨g, cap, cur, hv, hg, hh, r⟩
  · exact .inl h2
  · exact .inr ⟨g, cap, cur, hv, hg, (hb.block g (Array.getElem?_eq_some_iff.1 hh).1).trans hh, r⟩
theorem own_far {p : Addr} (h : w.ownsRow B e s v n xs) (hp : v.ownBlock ≠ some p.block) (u : Value) : (w.setCell p u).ownsRow B e s v n xs := by
  refine ⟨h.1, ?_⟩
  rcases h.2 with h2 | ⟨g, cap, cur, rfl, hg, hh, r⟩
  · exact .inl h2
  · exact .inr ⟨g, cap, cur, rfl, hg, (Below.heap_setCell w p u g (fun e => hp (by simp [Value.ownBlock, e]))).trans hh, r⟩
/-- what is owned reads as a row: the block, whole -/
theorem own_blk (h : w.ownsRow B e s v n xs) (hn : 0 < n) : ∃ g cap cur, v = .slice (some ⟨g, 0, none⟩) n cap ∧ B ≤ g ∧ Blk w g e cur ∧ n ≤ cap ∧ cap ≤ maxLen ∧ cur.size = cap * s ∧ cur.toList.take (n * s) = xs := by
  rcases h.2 with ⟨_, rfl⟩ | h2
  · omega
  · exact h2
end

section
variable {P : Program} (w : World)
theorem run_append_nilsrc (base : Nat) (t ty e : TypeId) (i : TypeInfo) (size : Nat) (ht : P.underlying t = some (.slice e)) (hi : P.info? e = some i)
    (v : Value) (n : Nat) (xs : List Value) (hown : w.ownsRow base e size v n xs) (A : Option Addr) (c : Nat) : (Builtin.append_ #[t, t] ty #[v, .slice A 0 c]).run P w = .ok v w := by
  cases A with
  | none =>
    rcases hown.2 with ⟨rfl, rfl⟩ | ⟨g, cap, cur, rfl, _, _, hnc, _⟩
    · simp [Builtin.append_, run_underlying ht, sizeOf, typeInfo, hi, Builtin.lenOf, Builtin.firstCells]
    · simp [Builtin.append_, run_underlying ht, sizeOf, typeInfo, hi, Builtin.lenOf, Builtin.firstCells, hnc, storeCells]
  | some a =>
    rcases hown.2 with ⟨rfl, rfl⟩ | ⟨g, cap, cur, rfl, _, _, hnc, _⟩
    · simp [Builtin.append_, run_underlying ht, sizeOf, typeInfo, hi, Builtin.lenOf, Builtin.firstCells, loadCells, loadCellsFrom]
    · simp [Builtin.append_, run_underlying ht, sizeOf, typeInfo, hi, Builtin.lenOf, Builtin.firstCells, hnc, storeCells, loadCells, loadCellsFrom]

/-- append onto a row of the call's own, whatever slice it is that is appended -/
theorem run_append_sl (base : Nat) (t ty e : TypeId) (i : TypeInfo) (z : Value) (size bytes : Nat) (ht : P.underlying t = some (.slice e)) (hi : P.info? e = some i) (hz : i.zero = some z)
    (hsize : i.size = size) (hby : i.bytes = bytes) (hzs : z.cells.size = size) (hsz : 0 < size)
    (v : Value) (n : Nat) (xs : List Value) (hown : w.ownsRow base e size v n xs)
    (A : Option Addr) (m c : Nat) (news : List Value) (hr : Sl w A news) (hl : news.length = m * size) (h1 : ∀ u ∈ news, u.oneCell' = true)
    (h63 : n + m ≤ maxLen) (hbytes : (n + m) * bytes ≤ 140737488355328) (hbase : base ≤ w.heap.size) :
    ∃ v' w', (Builtin.append_ #[t, t] ty #[v, .slice A m c]).run P w = .ok v' w' ∧ w'.ownsRow base e size v' (n + m) (xs ++ news) ∧ w.grownBy w' v.ownBlock := by
  by_cases hm : m = 0
  · subst hm
    have hn : news = [] := List.eq_nil_of_length_eq_zero (by simpa using hl)
    subst hn
    exact ⟨v, w, run_append_nilsrc w base t ty e i size ht hi v n xs hown A c, by simpa using hown, World.grownBy.refl w _⟩
  · rcases hr with hr | ⟨b, off, rfl, hlt, hc⟩
    · subst hr
      rw [List.length_nil] at hl
      have := Nat.mul_pos (Nat.pos_of_ne_zero hm) hsz
      omega
    · obtain ⟨v', w', hrun, h2, h3, _⟩ := run_append_own (P := P) w base t ty e i z size bytes ht hi hz hsize hby hzs hsz v n xs hown ⟨b, off, none⟩ m c news hl
        (fun j u hu => by rw [Addr.add_lit]; exact hc j u hu) h1 h63 hbytes hbase
      exact ⟨v', w', hrun, h2, h3⟩

theorem wpList_append_sl {ops : Array Oper} {rest : List Oper} {o : Oper} {a : Act} {Q : Exit → Act → World → Prop} (hgd : o.guard = none) (s x : Operand) (t : TypeId)
    (ho : o.op = .call { callee := .builtin .append, args := #[s, x], argTypes := #[t, t] })
    (base : Nat) (e : TypeId) (i : TypeInfo) (z : Value) (size bytes : Nat) (ht : P.underlying t = some (.slice e)) (hi : P.info? e = some i) (hz : i.zero = some z)
    (hsize : i.size = size) (hby : i.bytes = bytes) (hzs : z.cells.size = size) (hsz : 0 < size)
    (v : Value) (n : Nat) (xs : List Value) (hs : a.eval s = v) (hown : w.ownsRow base e size v n xs)
    (A : Option Addr) (m c : Nat) (news : List Value) (hx : a.eval x = .slice A m c) (hr : Sl w A news) (hl : news.length = m * size) (h1 : ∀ u ∈ news, u.oneCell' = true)
    (h63 : n + m ≤ maxLen) (hbytes : (n + m) * bytes ≤ 140737488355328) (hbase : base ≤ w.heap.size)
    (h : ∀ v' w', w'.ownsRow base e size v' (n + m) (xs ++ news) → w.grownBy w' v.ownBlock → wpList P ops Q rest (a.put o.dst v') w') : wpList P ops Q (o :: rest) a w := by
  refine wpList_plain hgd fun K hK => ?_
  obtain ⟨v', w', hrun, h2, h3⟩ := run_append_sl (P := P) w base t o.type e i z size bytes ht hi hz hsize hby hzs hsz v n xs hown A m c news hr hl h1 h63 hbytes hbase
  unfold Oper.wp execOp
  simp only [ho, resolve, invoke, builtin, Sem.run_bind, Sem.run_pure, Result.andThen_ok, List.map_toArray, List.map_cons, List.map_nil, hs, hx, hrun]
  exact hK _ _ (h v' w' h2 h3)
end

theorem step_append_sl {P : Program} (w : World) {ops : Array Oper} {o : Oper} {a : Act} {K : Act → World → Prop} {Q : Exit → Act → World → Prop} {E : Prop} (hgd : o.guard = none) (s x : Operand) (t : TypeId)
    (ho : o.op = .call { callee := .builtin .append, args := #[s, x], argTypes := #[t, t] })
    (base : Nat) (e : TypeId) (i : TypeInfo) (z : Value) (size bytes : Nat) (ht : P.underlying t = some (.slice e)) (hi : P.info? e = some i) (hz : i.zero = some z)
    (hsize : i.size = size) (hby : i.bytes = bytes) (hzs : z.cells.size = size) (hsz : 0 < size)
    (v : Value) (n : Nat) (xs : List Value) (hs : a.eval s = v) (hown : w.ownsRow base e size v n xs)
    (A : Option Addr) (m c : Nat) (news : List Value) (hx : a.eval x = .slice A m c) (hr : Sl w A news) (hl : news.length = m * size) (h1 : ∀ u ∈ news, u.oneCell' = true)
    (h63 : n + m ≤ maxLen) (hbytes : (n + m) * bytes ≤ 140737488355328) (hbase : base ≤ w.heap.size)
    (h : ∀ v' w', w'.ownsRow base e size v' (n + m) (xs ++ news) → w.grownBy w' v.ownBlock → K (a.put o.dst v') w') :
    if Region.wanted o (yielded ops a.tmps) = true then Oper.wp P o a w K Q else E := by
  have hw : Region.wanted o (yielded ops a.tmps) = true := by simp [Region.wanted, hgd]
  rw [if_pos hw]
  obtain ⟨v', w', hrun, h2, h3⟩ := run_append_sl (P := P) w base t o.type e i z size bytes ht hi hz hsize hby hzs hsz v n xs hown A m c news hr hl h1 h63 hbytes hbase
  unfold Oper.wp execOp
  simp only [ho, resolve, invoke, builtin, Sem.run_bind, Sem.run_pure, Result.andThen_ok, List.map_toArray, List.map_cons, List.map_nil, hs, hx, hrun]
  exact h v' w' h2 h3

theorem grown_cell {w w' : World} {row : Option Nat} {p : Addr} {v : Value} (hg : w.grownBy w' row) (h : w.cell? p = some v) (hne : some p.block ≠ row) : w'.cell? p = some v :=
  (World.cell?_of_block (hg.block p.block (World.block_lt_of_cell? w p h) hne)).trans h
theorem grown_frozen {w w' : World} {row : Option Nat} {p : Addr} (hg : w.grownBy w' row) (hlt : p.block < w.heap.size) (h : w.frozen? p = false) (hne : some p.block ≠ row) : w'.frozen? p = false :=
  (World.frozen?_of_block (hg.block p.block hlt hne)).trans h
theorem alloc_cell {w : World} {p : Addr} {v : Value} (h : w.cell? p = some v) (o : Obj) : (w.alloc o).cell? p = some v :=
  (World.cell?_of_block (Below.heap_alloc w o p.block (World.block_lt_of_cell? w p h))).trans h
theorem alloc_frozen {w : World} {p : Addr} (hlt : p.block < w.heap.size) (h : w.frozen? p = false) (o : Obj) : (w.alloc o).frozen? p = false :=
  (World.frozen?_of_block (Below.heap_alloc w o p.block hlt)).trans h

theorem take_set3 {cur : Array Value} {k : Nat} {xs : List Value} (a b c : Value) (h : k * 3 + 3 ≤ cur.size) (hx : cur.toList.take (k * 3) = xs) :
    (((cur.setIfInBounds (k * 3) a).setIfInBounds (k * 3 + 1) b).setIfInBounds (k * 3 + 2) c).toList.take ((k + 1) * 3) = xs ++ [a, b, c] := by
  have hl : xs.length = k * 3 := by rw [← hx, List.length_take, Array.length_toList]; omega
  refine List.ext_getElem? fun i => ?_
  rw [List.getElem?_take]
  by_cases h1 : i < k * 3
  · rw [if_pos (by omega), List.getElem?_append_left (by omega), ← hx, List.getElem?_take, if_pos h1]
    simp only [Array.toList_setIfInBounds]
    rw [List.getElem?_set_ne (by omega), List.getElem?_set_ne (by omega), List.getElem?_set_ne (by omega)]
  · rw [List.getElem?_append_right (by omega), hl]
    by_cases h2 : i < (k + 1) * 3
    · rw [if_pos h2]
      simp only [Array.toList_setIfInBounds]
      obtain ⟨j, rfl⟩ : ∃ j, i = k * 3 + j := ⟨i - k * 3, by omega⟩
      have hj : j = 0 ∨ j = 1 ∨ j = 2 := by omega
      rw [Nat.add_sub_cancel_left]
      rcases hj with rfl | rfl | rfl
      · rw [List.getElem?_set_ne (by omega), List.getElem?_set_ne (by omega), Nat.add_zero, List.getElem?_set_self (by simpa using by omega)]; rfl
      · rw [List.getElem?_set_ne (by omega), List.getElem?_set_self (by simpa using by omega)]; rfl
      · rw [List.getElem?_set_self (by simpa using by omega)]; rfl
    · rw [if_neg h2, List.getElem?_eq_none (by simp; omega)]

/-- make of elements of several cells -/
theorem run_make_rowN {P : Program} (t e : TypeId) (i : TypeInfo) (z : Value) (ht : P.underlying t = some (.slice e)) (hi : P.info? e = some i) (hz : i.zero = some z)
    (n : Nat) (hbytes : i.bytes * n ≤ 281474976710656) (h63 : n ≤ 9223372036854775807) (w : World) :
    (Instr.makeSlice t (.int .i64 (n : Int)) (.int .i64 (n : Int))).run P w = .ok (.slice (some ⟨w.heap.size, 0, none⟩) n n) (w.alloc (.cells (madeCells z.cells (n * i.size)) e)) := by
  have hb : (i.bytes : Int) * (n : Int) ≤ 281474976710656 := by
    have h : ((i.bytes * n : Nat) : Int) ≤ 281474976710656 := by omega
    rwa [Int.natCast_mul] at h
  have hr := run_make (P := P) w t e i z ht hi hz .i64 .i64 n n (by omega) (by omega) hb (by omega)
  simp only [Int.toNat_natCast] at hr
  exact hr

/-- keys rise -/
def rises (ks : List Int) : Bool := decide (ks.Pairwise (· < ·))

theorem rises_iff (ks : List Int) : rises ks = true ↔ ∀ i (h : i + 1 < ks.length), ks[i]'(by omega) < ks[i + 1]'h := by
  unfold rises
  rw [decide_eq_true_iff]
  constructor
  · intro h i hi
    exact (List.pairwise_iff_getElem.1 h) i (i + 1) (by omega) hi (by omega)
  · intro h
    rw [List.pairwise_iff_getElem]
    intro i j hi hj hij
    induction j with
    | zero => omega
    | succ j ih =>
      have hj' := h j hj
      by_cases e : i = j
      · subst e; exact hj'
      · exact Int.lt_trans (ih (by omega) (by omega)) hj'

theorem rises_of_chain {ks : List Int} (h : ∀ i (h : i + 1 < ks.length), ks[i]'(by omega) < ks[i + 1]'h) : rises ks = true := (rises_iff ks).2 h
theorem rises_false {ks : List Int} {i : Nat} (hi : i + 1 < ks.length) (h : ks[i + 1]'hi ≤ ks[i]'(by omega)) : rises ks = false := by
  rw [Bool.eq_false_iff]
  intro hr
  have := (rises_iff ks).1 hr i hi
  omega

theorem bdrew {B : Nat} {a w : World} (h : Below B a w) (n : Nat) : Below B a (w.drewN n) := ⟨h.os, h.tape, h.output, h.size, h.block⟩
theorem bdrew1 {B : Nat} {a w : World} (h : Below B a w) : Below B a w.drew := h.drew
theorem bext {a b c : World} (h : Below a.heap.size a b) (k : Below b.heap.size b c) : Below a.heap.size a c := h.trans (k.mono h.size)
/-- the keys rise up to place k -/
def RiseTo (ks : List Int) (k : Nat) : Prop := ∀ i (h : i + 1 < ks.length), i + 1 < k → ks[i]'(by omega) < ks[i + 1]'h
theorem RiseTo.start (ks : List Int) : RiseTo ks 1 := fun _ _ h => absurd h (by omega)
theorem RiseTo.step {ks : List Int} {k : Nat} (h : RiseTo ks k) (hk : 1 ≤ k) (hlt : k < ks.length) (hx : ks[k - 1]'(by omega) < ks[k]'hlt) : RiseTo ks (k + 1) := by
  intro i hi hik
  by_cases e : i + 1 = k
  · subst e; simpa using hx
  · exact h i hi (by omega)
theorem RiseTo.all {ks : List Int} {k : Nat} (h : RiseTo ks k) (hk : ks.length ≤ k) : rises ks = true := rises_of_chain fun i hi => h i hi (by omega)
theorem RiseTo.no {ks : List Int} {k : Nat} (hk : 1 ≤ k) (hlt : k < ks.length) (hx : ks[k]'hlt ≤ ks[k - 1]'(by omega)) : rises ks = false := by
  obtain ⟨j, rfl⟩ : ∃ j, k = j + 1 := ⟨k - 1, by omega⟩
  exact rises_false hlt (by simpa using hx)

theorem bcell {W w1 : World} {B : Nat} (hb : Below B W w1) : (∀ b o, b < B → w1.cell? ⟨b, o, none⟩ = W.cell? ⟨b, o, none⟩) ∧ (∀ b o, b < B → w1.frozen? ⟨b, o, none⟩ = W.frozen? ⟨b, o, none⟩) :=
  ⟨fun b o h => hb.cell (p := ⟨b, o, none⟩) h, fun b o h => hb.frozen (p := ⟨b, o, none⟩) h⟩
theorem ret_int {k : IntKind} {a b : Int} (h : a = b) : Ending.returned (.int k a) = .returned (.int k b) := by rw [h]
theorem ret_bool {a b : Bool} (h : a = b) : Ending.returned (.bool a) = .returned (.bool b) := by rw [h]
end Go.Proofs.YtolclahkfmplfaaGreatDoor

/- What a region that draws its order keeps: all that was there in the base world is as it was. No program in sight. -/
namespace Go.Proofs.YtolclahkfmplfaaGreatDoor
open Go Go.RowKit

/-- the facts of a later world: old cells, old marks, old blocks -/
theorem wfacts {W w1 : World} {B : Nat} (hb : Below B W w1) : (∀ b o, b < B → w1.cell? ⟨b, o, none⟩ = W.cell? ⟨b, o, none⟩) ∧ (∀ b o, b < B → w1.frozen? ⟨b, o, none⟩ = W.frozen? ⟨b, o, none⟩) ∧ (∀ b, b < W.heap.size → b < w1.heap.size) :=
  ⟨(bcell hb).1, (bcell hb).2, fun _ h => Nat.lt_of_lt_of_le h hb.size⟩
theorem undrew {B : Nat} {w W : World} (h : Below B w W.drew) : Below B w W := ⟨h.os, h.tape, h.output, h.size, h.block⟩

/-- all that was there in w is in W as it was -/
abbrev SB (w W : World) : Prop := (∀ b o, b < w.heap.size → W.cell? ⟨b, o, none⟩ = w.cell? ⟨b, o, none⟩) ∧ (∀ b o, b < w.heap.size → W.frozen? ⟨b, o, none⟩ = w.frozen? ⟨b, o, none⟩) ∧ w.heap.size ≤ W.heap.size ∧ Below w.heap.size w W
section
variable {w W W' : World}
theorem SB.of (h : Below w.heap.size w W) : SB w W := ⟨(bcell h).1, (bcell h).2, h.size, h⟩
theorem SB.bel (h : SB w W) : Below w.heap.size w W := h.2.2.2
theorem SB.init : SB w w.drew := SB.of (Below.refl _ _).drew
theorem SB.init0 : SB w w := SB.of (Below.refl _ _)
theorem SB.below (hb : Below W.heap.size W W') (h : SB w W) : SB w W' := SB.of (bext h.bel hb)
theorem SB.drew (h : SB w W) : SB w W.drew := SB.of h.bel.drew
theorem SB.undrew (h : SB w W.drew) : SB w W := SB.of (_root_.Go.Proofs.YtolclahkfmplfaaGreatDoor.undrew h.bel)
theorem SB.alloc (x : Obj) (h : SB w W) : SB w (W.alloc x) := SB.of (h.bel.alloc h.bel.size x)
theorem SB.allocD (x : Obj) (h : SB w W.drew) : SB w (W.alloc x).drew := (SB.alloc x h.undrew).drew
theorem SB.le (hb : Below W.heap.size W W') (h : SB w W) : w.heap.size ≤ W'.heap.size := Nat.le_trans h.2.2.1 hb.size
theorem SB.re {x : Obj} (y : Obj) (hw : w.heap.size ≤ W.heap.size) (h : SB w (W.alloc x)) : SB w (W.alloc y) :=
  SB.of ⟨h.bel.os, h.bel.tape, h.bel.output, by simp; omega, fun b hb => (Below.heap_alloc W y b (by omega)).trans ((Below.heap_alloc W x b (by omega)).symm.trans (h.bel.block b hb))⟩
theorem SB.re2 {x z : Obj} (y : Obj) (hw : w.heap.size ≤ W.heap.size) (h : SB w ((W.alloc x).alloc z)) : SB w ((W.alloc y).alloc z) :=
  SB.of ⟨h.bel.os, h.bel.tape, h.bel.output, by simp; omega, fun b hb => ((Below.heap_alloc (W.alloc y) z b (by simp; omega)).trans (Below.heap_alloc W y b (by omega))).trans (((Below.heap_alloc (W.alloc x) z b (by simp; omega)).trans (Below.heap_alloc W x b (by omega))).symm.trans (h.bel.block b hb))⟩
theorem SB.re2D {x z : Obj} (y : Obj) (hw : w.heap.size ≤ W.heap.size) (h : SB w ((W.alloc x).alloc z).drew) : SB w ((W.alloc y).alloc z).drew := (SB.re2 y hw h.undrew).drew
theorem SB.reD {x : Obj} (y : Obj) (hw : w.heap.size ≤ W.heap.size) (h : SB w (W.alloc x).drew) : SB w (W.alloc y).drew := (SB.re y hw h.undrew).drew
theorem SB.set {g : Nat} (hg : w.heap.size ≤ g) (i : Nat) (y : Value) (h : SB w W) : SB w (W.setCell ⟨g, i, none⟩ y) := SB.of (h.bel.setCell (p := ⟨g, i, none⟩) hg y)
theorem SB.two {g : Nat} (hg : w.heap.size ≤ g) (y0 y1 : Value) (h : SB w W) : SB w ((W.setCell ⟨g, 0, none⟩ y0).setCell ⟨g, 1, none⟩ y1) := SB.set hg _ _ (SB.set hg _ _ h)
theorem SB.three {g : Nat} (hg : w.heap.size ≤ g) (y0 y1 y2 : Value) (h : SB w W) : SB w (((W.setCell ⟨g, 0, none⟩ y0).setCell ⟨g, 1, none⟩ y1).setCell ⟨g, 2, none⟩ y2) := SB.set hg _ _ (SB.two hg _ _ h)
theorem SB.four {g : Nat} (hg : w.heap.size ≤ g) (y0 y1 y2 y3 : Value) (h : SB w W) : SB w ((((W.setCell ⟨g, 0, none⟩ y0).setCell ⟨g, 1, none⟩ y1).setCell ⟨g, 2, none⟩ y2).setCell ⟨g, 3, none⟩ y3) := SB.set hg _ _ (SB.three hg _ _ _ h)
end

/-! ### a cell that is written -/
theorem cell_other {w : World} {g g' i j : Nat} (v : Value) (h : g' ≠ g) : (w.setCell ⟨g, i, none⟩ v).cell? ⟨g', j, none⟩ = w.cell? ⟨g', j, none⟩ := World.cell?_of_block (a := ⟨g', j, none⟩) (Below.heap_setCell w ⟨g, i, none⟩ v g' h)
theorem cell_same {w : World} {g i : Nat} {u : Value} (v : Value) (h : w.cell? ⟨g, i, none⟩ = some u) : (w.setCell ⟨g, i, none⟩ v).cell? ⟨g, i, none⟩ = some v := by
  have hg : g < w.heap.size := World.block_lt_of_cell? w _ h
  unfold World.cell? at h ⊢
  simp only [World.setCell, Array.getElem?_modify]
  cases ho : w.heap[g]? with
  | none => rw [ho] at h; cases h
  | some o =>
    rw [ho] at h
    cases o with
    | cells cs t fr =>
      simp at h ⊢
      have hi : i < cs.size := by
        rcases Nat.lt_or_ge i cs.size with h2 | h2
        · exact h2
        · rw [Array.getElem?_eq_none h2] at h; cases h
      simp [hi]
    | _ => simp at h

/-! ### a slice that has just been built -/
theorem sl_new1 (W : World) (t : TypeId) (cs : Array Value) : Sl (W.alloc (.cells cs t)) (some ⟨W.heap.size, 0, none⟩) cs.toList :=
  (Blk.new W t cs).sl 0 _ (by intro j u hu; simpa using hu)
theorem sl_new1D (W : World) (t : TypeId) (cs : Array Value) : Sl (W.alloc (.cells cs t)).drew (some ⟨W.heap.size, 0, none⟩) cs.toList := sl_new1 W t cs
theorem sl_old (W : World) (x : Obj) (t : TypeId) (cs : Array Value) : Sl ((W.alloc (.cells cs t)).alloc x) (some ⟨W.heap.size, 0, none⟩) cs.toList :=
  ((Blk.new W t cs).alloc x).sl 0 _ (by intro j u hu; simpa using hu)
theorem sl_new2 (W : World) (x : Obj) (t : TypeId) (cs : Array Value) : Sl ((W.alloc x).alloc (.cells cs t)) (some ⟨W.heap.size + 1, 0, none⟩) cs.toList := by
  have := sl_new1 (W.alloc x) t cs
  rwa [World.size_alloc] at this
end Go.Proofs.YtolclahkfmplfaaGreatDoor

/- Contracts: what entries may be, whether keys rise (bound.fair, bound.rising and what they call). -/
namespace Go.Proofs.YtolclahkfmplfaaGreatDoor
open Go Go.RowKit
set_option maxRecDepth 100000

theorem ent_stood : Tryz.prog.stoodInHeld 46 = false := by kernel_rfl
theorem ent_guard : Tryz.prog.eqGuardType Tryz.prog.depth 46 = false := by kernel_rfl
def neE (a b : Ent) : Bool := decide (a ≠ b)
theorem run_neq_ent (a b : Ent) (w : World) :
    (binOp .neq 46 (.agg #[.int .i64 a.key, .int .i64 a.val, .bool a.dead]) (.agg #[.int .i64 b.key, .int .i64 b.val, .bool b.dead])).run Tryz.prog w = .ok (.bool (neE a b)) w := by
  have h1 := ent_stood
  have h2 := ent_guard
  have h3 := Tryz.underlying46
  obtain ⟨k, v, d⟩ := a
  obtain ⟨k', v', d'⟩ := b
  simp only [go_sem, h1, h3]
  simp [go_sem, neE]
  by_cases hk : k = k' <;> by_cases hv : v = v' <;> by_cases hd : d = d' <;> simp [hk, hv, hd]

def badEnt (e : Ent) : Bool := e.dead && (e.val != 0)

set_option maxHeartbeats 400000 in
theorem fair1_any (e : Ent) (w : World) :
    Calls Tryz.prog 93 #[.agg #[.int .i64 e.key, .int .i64 e.val, .bool e.dead]] w fun r w' => r = .returned (.bool (badEnt e)) ∧ Below w.heap.size w w' := by
  obtain ⟨k, v, d⟩ := e
  cases d
  · go_enter Tryz.func93, Tryz.ntmps93
    go_wp2
    go_ret
    exact ⟨rfl, (Below.refl _ _).alloc (Nat.le_refl _) _⟩
  · go_enter Tryz.func93, Tryz.ntmps93
    go_wp2
    go_ret
    exact ⟨rfl, (Below.refl _ _).alloc (Nat.le_refl _) _⟩

set_option maxHeartbeats 400000 in
theorem indexFair_any (A : Option Addr) (l : List Ent) (c : Nat) (w : World) (hA : Sl w A (l.flatMap Ent.cells)) (hl : l.length ≤ 4611686018427387903) :
    Calls Tryz.prog 104 #[.slice A l.length c, .func (.func 93) #[] #[]] w
      fun r w' => (∃ n : Int, r = .returned (.int .i64 n) ∧ decide (n ≥ 0) = l.any badEnt) ∧ Below w.heap.size w w' := by
  go_enter Tryz.func104, Tryz.ntmps104
  go_wp2
  go_loopw [8] (fun i wr => ∃ k : Nat, k ≤ l.length ∧ i = .int .i64 k ∧ Below w.heap.size w wr ∧ (l.take k).any badEnt = false) (fun i _ => l.length - (intOf i).toNat)
  case atStart => exact ⟨0, Nat.zero_le _, rfl, Below.refl _ _, rfl⟩
  case round =>
    obtain ⟨k, hk, rfl, hb, hn⟩ := hrel
    by_cases hlt : k < l.length
    · obtain ⟨b, off, rfl, hbl, c1, c2, c3⟩ := (hA.below hb).ent k hlt
      go_wp2_with (go_at_call 93; refine (fair1_any (l[k]'hlt) _).mono ?_; rintro e w1 ⟨rfl, hb1⟩)
      · have hbad : badEnt (l[k]'hlt) = true := by assumption
        go_ret
        refine ⟨⟨(k : Int), rfl, ?_⟩, hb.trans (hb1.mono hb.size)⟩
        rw [List.any_eq_true.2 ⟨_, List.getElem_mem hlt, hbad⟩]
        simp
      · have hbad : badEnt (l[k]'hlt) = false := by assumption
        go_roundw
        case rel => exact ⟨k + 1, by omega, by go_num, hb.trans (hb1.mono hb.size), by rw [List.take_succ_eq_append_getElem hlt, List.any_append, hn]; simp [hbad]⟩
        case measure => simp [intOf]; omega
    · go_wp2
      go_ret
      refine ⟨⟨-1, rfl, ?_⟩, hb⟩
      rw [List.take_of_length_le (by omega)] at hn
      rw [hn]; rfl

set_option maxHeartbeats 400000 in
theorem containsFair_any (A : Option Addr) (l : List Ent) (c : Nat) (w : World) (hA : Sl w A (l.flatMap Ent.cells)) (hl : l.length ≤ 4611686018427387903) :
    Calls Tryz.prog 92 #[.slice A l.length c, .func (.func 93) #[] #[]] w
      fun r w' => r = .returned (.bool (l.any badEnt)) ∧ Below w.heap.size w w' := by
  go_enter Tryz.func92, Tryz.ntmps92
  go_wp2_with (go_at_call 104; refine (indexFair_any A l c _ hA hl).mono ?_; rintro e w1 ⟨⟨n, rfl, hn⟩, hb⟩; have hH := Lib.hid hn; clear hn)
  go_ret
  exact ⟨ret_bool (by rw [← hH.out]), hb⟩

def fairE (l : List Ent) : Int := if l.length > 65536 then 4 else if l.any badEnt then 8 else 0

set_option maxHeartbeats 400000 in
theorem fair_any (A : Option Addr) (l : List Ent) (c : Nat) (w : World) (hA : Sl w A (l.flatMap Ent.cells)) (hl : l.length ≤ 4611686018427387903) :
    Calls Tryz.prog 72 #[.slice A l.length c] w fun r w' => r = .returned (.int .i64 (fairE l)) ∧ Below w.heap.size w w' := by
  by_cases h1 : l.length > 65536
  · go_enter Tryz.func72, Tryz.ntmps72
    go_wp2
    go_ret
    exact ⟨ret_int (by unfold fairE; rw [if_pos h1]), Below.refl _ _⟩
  · go_enter Tryz.func72, Tryz.ntmps72
    go_wp2_with (go_at_call 92; refine (containsFair_any A l c _ hA hl).mono ?_; rintro e w1 ⟨rfl, hb⟩)
    · have h2 : l.any badEnt = true := by assumption
      go_ret
      exact ⟨ret_int (by unfold fairE; rw [if_neg h1, if_pos h2]), hb⟩
    · have h2 : l.any badEnt = false := by assumption
      go_ret
      exact ⟨ret_int (by unfold fairE; rw [if_neg h1, h2]; rfl), hb⟩

def riseE (l : List Ent) : Int := if rises (l.map Ent.key) then 0 else 130

set_option maxHeartbeats 1000000 in
theorem rising_any (A : Option Addr) (l : List Ent) (c : Nat) (w : World) (hA : Sl w A (l.flatMap Ent.cells)) (hl : l.length ≤ 4611686018427387903) :
    Calls Tryz.prog 73 #[.slice A l.length c] w fun r w' => r = .returned (.int .i64 (riseE l)) ∧ Below w.heap.size w w' := by
  go_enter Tryz.func73, Tryz.ntmps73
  go_wp2
  go_loopw [3] (fun i wr => ∃ k : Nat, 1 ≤ k ∧ i = .int .i64 k ∧ Below w.heap.size w wr ∧ Hid (RiseTo (l.map Ent.key) k)) (fun i _ => l.length - (intOf i).toNat)
  case atStart => exact ⟨1, Nat.le_refl _, rfl, Below.refl _ _, RiseTo.start _⟩
  case round =>
    obtain ⟨k, hk, rfl, hb, hn⟩ := hrel
    by_cases hlt : k < l.length
    · obtain ⟨b, off, rfl, hbl, c1, c2, c3⟩ := (hA.below hb).ent k hlt
      obtain ⟨b', off', e, _, d1, d2, d3⟩ := (hA.below hb).ent (k - 1) (by omega)
      simp only [Option.some.injEq, Addr.mk.injEq] at e
      obtain ⟨rfl, rfl, _⟩ := e
      have i0 : (0 : Int) ≤ (k : Int) := by omega
      have i1 : (k : Int) < (l.length : Int) := by omega
      have i2 : (0 : Int) ≤ (k : Int) - 1 := by omega
      have i3 : (k : Int) - 1 < (l.length : Int) := by omega
      clear c2 c3 d2 d3 hA
      go_wp2
      go_quiet (fail)
      go_wp2
      · have hx : (l[k]'hlt).key ≤ (l[k - 1]'(by omega)).key := by assumption
        go_ret
        refine ⟨ret_int ?_, bdrew hb _⟩
        unfold riseE
        rw [RiseTo.no hk (by simpa using hlt) (by simpa using hx)]
        rfl
      · have hx : (l[k - 1]'(by omega)).key < (l[k]'hlt).key := by assumption
        go_roundw
        case rel => exact ⟨k + 1, by omega, by go_num, bdrew hb _, hn.out.step hk (by simpa using hlt) (by simpa using hx)⟩
        case measure => simp [intOf]; omega
    · go_wp2
      go_ret
      refine ⟨ret_int ?_, hb⟩
      unfold riseE
      rw [hn.out.all (by simp; omega)]
      rfl
end Go.Proofs.YtolclahkfmplfaaGreatDoor
