/- Cargs ArgsS ArgsT Fl Cp Ca Cb Cc: texts of the claim, in this order. -/
import Derived.Test.YthbppblmecdekaaDoorWb3
import Derived.Test.YthbppblmecdekaaDoorCards
import Derived.Test.YthbppblmecdekaaDoorTie
import Derived.Lib.LaidTab
import Derived.Lib.TrailingZeros
import Derived.Shelf.Spec.TrailingZeros
import Derived.Stop.LaidErr
import Derived.Deep.DeepHandedRow
import Derived.Test.YthbppblmecdekaaDoorWb6
import Derived.Test.YthbppblmecdekaaDoorWb13
import Derived.Laws.ComplexArith
import Derived.Test.YthbppblmecdekaaDoorWb2
import Derived.Test.YthbppblmecdekaaDoorWb1
import Derived.Test.YthbppblmecdekaaDoorWb14
import Derived.Test.YthbppblmecdekaaDoorWb9
import Derived.WalkMore
import Derived.ScopeJumps
/- The table of math/bits out of the row's list; a run read as data; a world for the witness. -/
namespace Go.Proofs.YthbppblmecdekaaDoor
open Go Go.ChangeShapes Go.WideShapes Go.ChangeAt Go.RowKit
set_option maxRecDepth 100000

theorem gTab : Tryd.prog.globalNamed "math/bits.deBruijn64tab" = some 1 := by kernel_rfl
theorem gTabType : (Tryd.prog.globals[1]?).map (·.type) = some 190 := by kernel_rfl
theorem cellsTab : Tryd.prog.cellsOf 190 = 64 := by kernel_rfl
theorem cellsU8 : Tryd.prog.cellsOf 5 = 1 := by kernel_rfl
def tabZ : List Int := Lib.deBruijn64tab.map fun n : Nat => (n : Int)
theorem tabZ_is : (Rows.laid_math_bits_deBruijn64tab : DataW Unit) = Lib.tabData .u8 tabZ := by kernel_rfl
theorem tab_at {W : World} (h : laidMetH Tryd.prog [("math/bits.deBruijn32tab", Rows.laid_math_bits_deBruijn32tab), ("math/bits.deBruijn64tab", Rows.laid_math_bits_deBruijn64tab)] W) : TabAt 1 Lib.deBruijn64tab W := by
  have h1 : laidMet Tryd.prog [("math/bits.deBruijn32tab", Rows.laid_math_bits_deBruijn32tab), ("math/bits.deBruijn64tab", Rows.laid_math_bits_deBruijn64tab)] W := h
  have h2 := laidMet.tail h1
  have h3 : laidMet Tryd.prog [("math/bits.deBruijn64tab", Lib.tabData .u8 tabZ)] W := by rw [← tabZ_is]; exact h2
  have h4 : Lib.TabIs Tryd.prog W "math/bits.deBruijn64tab" .u8 tabZ := Lib.tabIs_of_head (rest := []) gTab gTabType Tryd.underlying190 Tryd.underlying5 cellsU8 cellsTab h3
  intro j hj
  have := h4.cell gTab j (by simpa [tabZ] using hj)
  rw [this]
  congr 2
  simp only [tabZ, List.getD_eq_getElem?_getD, List.getElem?_map]
  rw [List.getElem?_eq_getElem hj]
  rfl

theorem dec_ents {H : Type} {enc : TypeId × Value → H} {w : World} (fuel : Nat) (cs : List Value) (y : DataW H × List MemPlace) (h : DataW.trod enc Tryd.prog w 0 (fun _ => true) true fuel 59 cs = some y) :
    ∃ (A : Option Addr) (l : List Ent) (c : Nat), cs = [.slice A l.length c] ∧ l.length ≤ c ∧ c ≤ maxLen ∧ Sl w A (l.flatMap Ent.cells) := by
  have hv : ∃ a len cap, cs = [.slice a len cap] := by
    rcases Go.Deep.open_slice Tryd.underlying59 h with ⟨h1, _⟩ | ⟨a, len, cap, _, _, _, _, h1, _⟩
    · exact ⟨_, _, _, h1⟩
    · exact ⟨_, _, _, h1⟩
  obtain ⟨a, len, cap, rfl⟩ := hv
  obtain ⟨A, l, c, h1, h2, h3, h4, _⟩ := read_slice (v := .slice a len cap) Ent.cells (fun _ => True) Ent.cells_length (by omega) Tryd.underlying59 (by kernel_rfl)
    (fun fuel cs y h => dec_ent Tryd.underlying27 Tryd.underlying2 Tryd.underlying4 (by kernel_rfl) (by kernel_rfl) (by kernel_rfl) fuel cs y h) ⟨_, _, _, rfl⟩ h
  exact ⟨A, l, c, by rw [h1], h2, h3, h4⟩
theorem read_run {H : Type} {enc : TypeId × Value → H} {w : World} {base : Nat} {v : Value} {d : DataW H} {p : List MemPlace} (hok : Value.okWide Tryd.prog w .any base 61 v)
    (h : DataW.Trod enc Tryd.prog w 0 (fun _ => true) true 61 v d p) : ∃ (A : Option Addr) (l : List Ent) (c : Nat), v = .agg #[.slice A l.length c] ∧ l.length ≤ c ∧ c ≤ maxLen ∧ Sl w A (l.flatMap Ent.cells) := by
  obtain ⟨cs, rfl, _⟩ := okWide_struct Tryd.underlying61 hok
  obtain ⟨fuel, hf⟩ := h
  obtain ⟨xs, n, _, _, hlen, hxl, hg⟩ := DataW.trod_struct Tryd.underlying61 hf
  rw [show Tryd.prog.cellsOf 61 = 1 from by kernel_rfl] at hlen
  obtain ⟨cl⟩ := cs
  match cl, hlen with
  | [c0], _ =>
    match xs, hxl with
    | [x0], _ =>
      have h0 : DataW.trod enc Tryd.prog w 0 (fun _ => true) true n 59 (List.take (Tryd.prog.cellsOf 59) (List.drop 0 [c0])) = some x0 := hg 0 _ rfl
      rw [show Tryd.prog.cellsOf 59 = 1 from by kernel_rfl] at h0
      obtain ⟨A, l, c, e, h2, h3, h4⟩ := dec_ents _ _ _ h0
      simp at e
      subst e
      exact ⟨A, l, c, rfl, h2, h3, h4⟩

def put32 : Obj → Obj
  | .cells _ t frozen => .cells (Lib.deBruijn32tab.map fun n : Nat => Value.int .u8 (n : Int)).toArray t frozen
  | o => o
def put64 : Obj → Obj
  | .cells _ t frozen => .cells (Lib.deBruijn64tab.map fun n : Nat => Value.int .u8 (n : Int)).toArray t frozen
  | o => o
/-- the settled world, the tables as their initialisers lay them -/
noncomputable def laidWorld (os : Os) : World :=
  { World.holding Tryd.prog os ⟨#[], #[], []⟩ with heap := ((World.holding Tryd.prog os ⟨#[], #[], []⟩).heap.modify 0 put32).modify 1 put64 }
end Go.Proofs.YthbppblmecdekaaDoor

/- Runs read as data (beside Cargs). -/
namespace Go.Proofs.YthbppblmecdekaaDoor
open Go Go.ChangeShapes Go.WideShapes Go.ChangeAt Go.RowKit
set_option maxRecDepth 100000

/-- runs -/
theorem dec_run {H : Type} {enc : TypeId × Value → H} {w : World} (fuel : Nat) (cs : List Value) (y : DataW H × List MemPlace) (h : DataW.trod enc Tryd.prog w 0 (fun _ => true) true fuel 61 cs = some y) :
    ∃ r : Rm, cs = [r.v] ∧ r.Ok w := by
  obtain ⟨xs, n, _, _, hlen, hxl, hg⟩ := DataW.trod_struct Tryd.underlying61 h
  rw [show Tryd.prog.cellsOf 61 = 1 from by kernel_rfl] at hlen
  match cs, hlen with
  | [c0], _ =>
    match xs, hxl with
    | [x0], _ =>
      have h0 : DataW.trod enc Tryd.prog w 0 (fun _ => true) true n 59 (List.take (Tryd.prog.cellsOf 59) (List.drop 0 [c0])) = some x0 := hg 0 _ rfl
      rw [show Tryd.prog.cellsOf 59 = 1 from by kernel_rfl] at h0
      obtain ⟨A, l, c, e, h2, h3, h4⟩ := dec_ents _ _ _ h0
      simp at e
      subst e
      exact ⟨⟨l, A, c⟩, rfl, h4, h2, h3⟩
theorem read_runs {H : Type} {enc : TypeId × Value → H} {w : World} {base : Nat} {v : Value} {d : DataW H} {p : List MemPlace} (hok : Value.okWide Tryd.prog w .any base 22 v)
    (h : DataW.Trod enc Tryd.prog w 0 (fun _ => true) true 22 v d p) : ∃ (B : Option Addr) (Rs : List Rm) (c : Nat), v = .slice B Rs.length c ∧ Rs.length ≤ c ∧ c ≤ maxLen ∧ RunsAt w B Rs := by
  obtain ⟨fuel, hf⟩ := h
  obtain ⟨B, Rs, c, h1, h2, h3, h4, h5⟩ := read_slice (s := 1) (fun r : Rm => [r.v]) (fun r => r.Ok w) (fun _ => rfl) (by omega) Tryd.underlying22 (by kernel_rfl) (fun fuel cs y h => dec_run fuel cs y h) (okWide_slice Tryd.underlying22 hok) hf
  have hm : Rs.flatMap (fun r => [r.v]) = Rs.map Rm.v := by
    clear h1 h2 h4 h5
    induction Rs with
    | nil => rfl
    | cons r Rs ih => rw [List.flatMap_cons, ih]; rfl
  rw [hm] at h4
  exact ⟨B, Rs, c, h1, h2, h3, h4, h5⟩
end Go.Proofs.YthbppblmecdekaaDoor

/- Rungs read as data. -/
namespace Go.Proofs.YthbppblmecdekaaDoor
open Go Go.ChangeShapes Go.WideShapes Go.ChangeAt Go.RowKit
set_option maxRecDepth 100000

theorem wf_u64g {n : Int} (h : (Lit.int .u64 n).wf = true) : 0 ≤ n ∧ n ≤ 18446744073709551615 := by
  simp only [Lit.wf, Bool.and_eq_true, decide_eq_true_eq] at h
  exact h
theorem read_rungs {H : Type} {enc : TypeId × Value → H} {w : World} {base : Nat} {v : Value} {d : DataW H} {p : List MemPlace} (hok : Value.okWide Tryd.prog w .any base 25 v)
    (h : DataW.Trod enc Tryd.prog w 0 (fun _ => true) true 25 v d p) : ∃ (B : Option Addr) (Rs : List Rm) (c : Nat) (n : Int), v = .agg #[.slice B Rs.length c, .int .u64 n] ∧ Rs.length ≤ c ∧ c ≤ maxLen ∧ RunsAt w B Rs ∧ 0 ≤ n ∧ n ≤ 18446744073709551615 := by
  obtain ⟨cs, rfl, _⟩ := okWide_struct Tryd.underlying25 hok
  obtain ⟨fuel, hf⟩ := h
  obtain ⟨xs, m, _, _, hlen, hxl, hg⟩ := DataW.trod_struct Tryd.underlying25 hf
  rw [show Tryd.prog.cellsOf 25 = 2 from by kernel_rfl] at hlen
  obtain ⟨cl⟩ := cs
  match cl, hlen with
  | [c0, c1], _ =>
    match xs, hxl with
    | [x0, x1], _ =>
      have h0 : DataW.trod enc Tryd.prog w 0 (fun _ => true) true m 22 (List.take (Tryd.prog.cellsOf 22) (List.drop 0 [c0, c1])) = some x0 := hg 0 _ rfl
      have h1 : DataW.trod enc Tryd.prog w 0 (fun _ => true) true m 23 (List.take (Tryd.prog.cellsOf 23) (List.drop 1 [c0, c1])) = some x1 := hg 1 _ rfl
      rw [show Tryd.prog.cellsOf 22 = 1 from by kernel_rfl] at h0
      rw [show Tryd.prog.cellsOf 23 = 1 from by kernel_rfl] at h1
      obtain ⟨n, e1, _, f1⟩ := DataW.trod_int Tryd.underlying23 h1
      have hv : ∃ a len cap, List.take 1 (List.drop 0 [c0, c1]) = [.slice a len cap] := by
        rcases Go.Deep.open_slice Tryd.underlying22 h0 with ⟨h1, _⟩ | ⟨a, len, cap, _, _, _, _, h1, _⟩
        · exact ⟨_, _, _, h1⟩
        · exact ⟨_, _, _, h1⟩
      obtain ⟨a, len, cap, e0⟩ := hv
      simp at e0 e1
      subst e0 e1
      obtain ⟨B, Rs, c, h2, h3, h4, h5, h6⟩ := read_slice (v := .slice a len cap) (s := 1) (fun r : Rm => [r.v]) (fun r => r.Ok w) (fun _ => rfl) (by omega) Tryd.underlying22 (by kernel_rfl) (fun fuel cs y h => dec_run fuel cs y h) ⟨_, _, _, rfl⟩ h0
      have hm : Rs.flatMap (fun r => [r.v]) = Rs.map Rm.v := by
        clear h2 h3 h5 h6
        induction Rs with
        | nil => rfl
        | cons r Rs ih => rw [List.flatMap_cons, ih]; rfl
      rw [hm] at h5
      obtain ⟨g1, g2⟩ := wf_u64g f1
      exact ⟨B, Rs, c, n, by rw [h2], h3, h4, ⟨h5, h6⟩, g1, g2⟩
end Go.Proofs.YthbppblmecdekaaDoor

/- Whole numbers as binary64 words: products and sums that stay below 2^53 are exact. No program in sight. -/
namespace Go.Proofs.YthbppblmecdekaaDoor
open Go Ieee

def bias : Nat := 1074
theorem least : double.leastPlace = -(bias : Int) := by decide
/-- a word stands for a whole number -/
def Holds (x : Nat) (z : Int) : Prop := ∃ (s : Bool) (m p : Nat), double.read x = .number s m ((p : Int) - (bias : Int)) ∧ signed s m p = z * ((2 ^ bias : Nat) : Int)
def sg (s : Bool) : Int := if s then -1 else 1
theorem signed_sg (s : Bool) (m p : Nat) : signed s m p = sg s * ((m * 2 ^ p : Nat) : Int) := by
  unfold signed sg; rw [Nat.shiftLeft_eq]; cases s <;> simp
theorem sg_abs (s : Bool) (n : Nat) : (sg s * (n : Int)).natAbs = n := by unfold sg; cases s <;> simp
theorem cut_exact (neg : Bool) (n d k : Nat) (hd : d ≤ n.log2 + 2) (h : n = k * 2 ^ d) : Toward.even.cut neg n d = k := by
  have hp : 0 < 2 ^ d := Nat.pow_pos (by omega)
  unfold Toward.cut
  simp only [Nat.min_eq_left hd, Nat.shiftLeft_eq, Nat.one_mul]
  rw [h, Nat.mul_mod_left, Nat.mul_div_cancel _ hp]
  have h1 : ¬ 2 ^ d < 2 * 0 := by omega
  have h2 : (2 ^ d == 2 * 0) = false := by simp
  simp [h2]
theorem log2_scale {m a p q : Nat} (hm : m ≠ 0) (ha : a ≠ 0) (h : m * 2 ^ p = a * 2 ^ q) : m.log2 + p = a.log2 + q := by
  have m1 := Nat.log2_self_le hm
  have m2 := Nat.lt_log2_self (n := m)
  have a1 := Nat.log2_self_le ha
  have a2 := Nat.lt_log2_self (n := a)
  have pp : 0 < 2 ^ p := Nat.pow_pos (by omega)
  have pq : 0 < 2 ^ q := Nat.pow_pos (by omega)
  have x1 : 2 ^ (m.log2 + p) ≤ m * 2 ^ p := by rw [Nat.pow_add]; exact Nat.mul_le_mul_right _ m1
  have x2 : m * 2 ^ p < 2 ^ (m.log2 + p + 1) := by rw [show m.log2 + p + 1 = m.log2 + 1 + p by omega, Nat.pow_add]; exact Nat.mul_lt_mul_of_pos_right m2 pp
  have y1 : 2 ^ (a.log2 + q) ≤ a * 2 ^ q := by rw [Nat.pow_add]; exact Nat.mul_le_mul_right _ a1
  have y2 : a * 2 ^ q < 2 ^ (a.log2 + q + 1) := by rw [show a.log2 + q + 1 = a.log2 + 1 + q by omega, Nat.pow_add]; exact Nat.mul_lt_mul_of_pos_right a2 pq
  rw [h] at x1 x2
  have z1 := (Nat.pow_lt_pow_iff_right (a := 2) (by omega)).1 (Nat.lt_of_le_of_lt x1 y2)
  have z2 := (Nat.pow_lt_pow_iff_right (a := 2) (by omega)).1 (Nat.lt_of_le_of_lt y1 x2)
  omega
theorem read_word (s : Bool) (r k : Nat) (h1 : 2 ^ 52 ≤ k) (h2 : k < 2 ^ 53) (h3 : r ≤ 1100) : double.read (double.word s (r * 2 ^ 52 + k)) = .number s k (-(bias : Int) + r) := by
  have e1 : double.signWeight = 9223372036854775808 := by decide
  have e2 : double.binade = 4503599627370496 := by decide
  have e3 : double.infRung = 9218868437227405312 := by decide
  have e4 := least
  have hw : double.word s (r * 2 ^ 52 + k) = (if s then 9223372036854775808 else 0) + (r * 4503599627370496 + k) := by
    unfold Format.word; rw [e1]; cases s <;> simp
  unfold Format.read
  rw [hw, e1, e2, e3, e4]
  have hk1 : 4503599627370496 ≤ k := h1
  have hk2 : k < 9007199254740992 := h2
  have hm : ((if s then 9223372036854775808 else 0) + (r * 4503599627370496 + k)) % 9223372036854775808 = r * 4503599627370496 + k := by cases s <;> simp <;> omega
  have hd : ((if s then 9223372036854775808 else 0) + (r * 4503599627370496 + k)) / 9223372036854775808 % 2 = (if s then 1 else 0) := by cases s <;> simp <;> omega
  simp only [hm, hd]
  rw [if_neg (by omega), if_pos (by omega)]
  have q1 : (r * 4503599627370496 + k) % 4503599627370496 = k - 4503599627370496 := by omega
  have q2 : (r * 4503599627370496 + k) / 4503599627370496 = r + 1 := by omega
  rw [q1, q2]
  have q3 : 4503599627370496 + (k - 4503599627370496) = k := by omega
  rw [q3]
  cases s <;> simp
theorem read_zero (s : Bool) : double.read (double.word s 0) = .number s 0 (((0 : Nat) : Int) - (bias : Int)) := by cases s <;> decide
theorem holds_nearest (s : Bool) (m p Q : Nat) (z : Int) (hz : z.natAbs < 2 ^ 53) (h : signed s m p = z * ((2 ^ Q : Nat) : Int)) : Holds (double.nearest s m ((p : Int) - (Q : Int))) z := by
  unfold Format.nearest
  by_cases hm : m = 0
  · rw [if_pos hm]
    refine ⟨s, 0, 0, read_zero s, ?_⟩
    subst hm
    rw [signed_sg] at h ⊢
    have hp : ((2 ^ Q : Nat) : Int) ≠ 0 := by exact_mod_cast Nat.ne_of_gt (Nat.pow_pos (n := Q) (show 0 < 2 by omega))
    have hz0 : z = 0 := by
      rw [Nat.zero_mul] at h
      have h2 : z * ((2 ^ Q : Nat) : Int) = 0 := by rw [← h]; simp
      rcases Int.mul_eq_zero.1 h2 with h3 | h3
      · exact h3
      · exact absurd h3 hp
    rw [hz0]; simp
  · rw [if_neg hm]
    obtain ⟨a, ha⟩ : ∃ a, z.natAbs = a := ⟨_, rfl⟩
    rw [ha] at hz
    have hpow : 0 < 2 ^ Q := Nat.pow_pos (by omega)
    have hma : m * 2 ^ p = a * 2 ^ Q := by
      have h1 := congrArg Int.natAbs h
      rw [signed_sg, sg_abs, Int.natAbs_mul, ha, Int.natAbs_natCast] at h1
      exact h1
    have ha0 : a ≠ 0 := by
      rintro rfl
      rw [Nat.zero_mul] at hma
      rcases Nat.mul_eq_zero.1 hma with h1 | h1
      · exact hm h1
      · exact absurd h1 (Nat.ne_of_gt (Nat.pow_pos (by omega)))
    have hlog := log2_scale hm ha0 hma
    have hL : a.log2 ≤ 52 := by have := (Nat.log2_lt ha0 (k := 53)).2 hz; omega
    obtain ⟨L, hLe⟩ : ∃ L, a.log2 = L := ⟨_, rfl⟩
    rw [hLe] at hlog hL
    have a1 : 2 ^ L ≤ a := by rw [← hLe]; exact Nat.log2_self_le ha0
    have a2 : a < 2 ^ (L + 1) := by rw [← hLe]; exact Nat.lt_log2_self
    have hb : bias = 1074 := rfl
    have hlast : max ((p : Int) - (Q : Int) + (m.log2 : Nat) - (double.fractionBits : Nat)) double.leastPlace = (L : Int) - 52 := by
      rw [least, show double.fractionBits = 52 from rfl, hb]; omega
    simp only [hlast]
    obtain ⟨K, hK⟩ : ∃ K, a * 2 ^ (52 - L) = K := ⟨_, rfl⟩
    have hK1 : 2 ^ 52 ≤ K := by
      rw [← hK]
      calc 2 ^ 52 = 2 ^ L * 2 ^ (52 - L) := by rw [← Nat.pow_add]; congr 1; omega
        _ ≤ _ := Nat.mul_le_mul_right _ a1
    have hK2 : K < 2 ^ 53 := by
      rw [← hK]
      calc a * 2 ^ (52 - L) < 2 ^ (L + 1) * 2 ^ (52 - L) := Nat.mul_lt_mul_of_pos_right a2 (Nat.pow_pos (by omega))
        _ = 2 ^ 53 := by rw [← Nat.pow_add]; congr 1; omega
    have hkept : Toward.even.cut s (m <<< ((p : Int) - (Q : Int) - ((L : Int) - 52)).toNat) (((L : Int) - 52) - ((p : Int) - (Q : Int))).toNat = K := by
      rw [Nat.shiftLeft_eq]
      by_cases hc : Q + L ≤ p + 52
      · rw [show (((L : Int) - 52) - ((p : Int) - (Q : Int))).toNat = 0 by omega]
        refine cut_exact _ _ _ _ (Nat.zero_le _) ?_
        rw [Nat.pow_zero, Nat.mul_one, show ((p : Int) - (Q : Int) - ((L : Int) - 52)).toNat = p + 52 - (Q + L) by omega, ← hK]
        have e : m * 2 ^ (p + 52 - (Q + L)) * 2 ^ (Q + L) = a * 2 ^ (52 - L) * 2 ^ (Q + L) := by
          rw [Nat.mul_assoc, ← Nat.pow_add, Nat.mul_assoc, ← Nat.pow_add, show p + 52 - (Q + L) + (Q + L) = p + 52 by omega, show 52 - L + (Q + L) = Q + 52 by omega, Nat.pow_add, Nat.pow_add, ← Nat.mul_assoc, hma, Nat.mul_assoc]
        exact Nat.eq_of_mul_eq_mul_right (Nat.pow_pos (by omega)) e
      · rw [show ((p : Int) - (Q : Int) - ((L : Int) - 52)).toNat = 0 by omega, show (((L : Int) - 52) - ((p : Int) - (Q : Int))).toNat = Q + L - (p + 52) by omega, Nat.pow_zero, Nat.mul_one]
        refine cut_exact _ _ _ _ (by omega) ?_
        rw [← hK, Nat.mul_assoc, ← Nat.pow_add, show 52 - L + (Q + L - (p + 52)) = Q - p by omega]
        have e : m * 2 ^ p = a * 2 ^ (Q - p) * 2 ^ p := by rw [hma, Nat.mul_assoc, ← Nat.pow_add]; congr 2; omega
        exact Nat.eq_of_mul_eq_mul_right (Nat.pow_pos (by omega)) e
    rw [hkept, show ((L : Int) - 52 - double.leastPlace).toNat = L + 1022 by rw [least, hb]; omega]
    have e2 : double.binade = 2 ^ 52 := by decide
    have e3 : double.infRung = 9218868437227405312 := by decide
    have hmin : min ((L + 1022) * double.binade + K) double.infRung = (L + 1022) * 2 ^ 52 + K := by
      rw [e2, e3]
      exact Nat.min_eq_left (Nat.le_trans (Nat.add_le_add (Nat.mul_le_mul_right _ (show L + 1022 ≤ 1074 by omega)) (Nat.le_of_lt hK2)) (by decide))
    rw [hmin]
    refine ⟨s, K, L + 1022, ?_, ?_⟩
    · rw [read_word s (L + 1022) K hK1 hK2 (by omega), show -(bias : Int) + ((L + 1022 : Nat) : Int) = ((L + 1022 : Nat) : Int) - (bias : Int) by omega]
    · rw [signed_sg] at h ⊢
      have e4 : K * 2 ^ (L + 1022) = a * 2 ^ bias := by
        rw [← hK, Nat.mul_assoc, ← Nat.pow_add, show 52 - L + (L + 1022) = bias by rw [hb]; omega]
      have e5 : sg s * (a : Int) = z := by
        have h1 : (sg s * (a : Int)) * ((2 ^ Q : Nat) : Int) = z * ((2 ^ Q : Nat) : Int) := by
          rw [← h, hma, Int.mul_assoc]; push_cast; rfl
        exact Int.eq_of_mul_eq_mul_right (by have := Nat.ne_of_gt hpow; exact_mod_cast this) h1
      rw [e4, ← e5, Int.mul_assoc]
      push_cast; rfl
theorem holds_int (n : Int) (h : n.natAbs < 2 ^ 53) : Holds (floatOfInt .f64 n) n := by
  have h1 : floatOfInt .f64 n = double.nearest (decide (n < 0)) n.natAbs (((0 : Nat) : Int) - ((0 : Nat) : Int)) := rfl
  rw [h1]
  refine holds_nearest _ _ 0 0 n h ?_
  rw [signed_sg]
  unfold sg
  by_cases h2 : n < 0
  · rw [decide_eq_true h2, if_pos rfl]; simp; omega
  · rw [decide_eq_false h2, if_neg (by simp)]; simp; omega
theorem signed_opp (s : Bool) (m p : Nat) : signed (!s) m p = - signed s m p := by rw [signed_sg, signed_sg]; cases s <;> simp [sg]
theorem signed_prod (s t : Bool) (m n p q : Nat) : signed (s ^^ t) (m * n) (p + q) = signed s m p * signed t n q := by
  rw [signed_sg, signed_sg, signed_sg]
  have e : ((m * n * 2 ^ (p + q) : Nat) : Int) = ((m * 2 ^ p : Nat) : Int) * ((n * 2 ^ q : Nat) : Int) := by
    rw [← Int.natCast_mul]; congr 1; rw [Nat.pow_add]; ac_rfl
  rw [e]
  generalize ((m * 2 ^ p : Nat) : Int) = u
  generalize ((n * 2 ^ q : Nat) : Int) = v
  cases s <;> cases t <;> simp [sg, Int.neg_mul, Int.mul_neg]
theorem signed_base (s : Bool) (m p b : Nat) (h : b ≤ p) : signed s m (p - b) * ((2 ^ b : Nat) : Int) = signed s m p := by
  rw [signed_sg, signed_sg, Int.mul_assoc, ← Int.natCast_mul, Nat.mul_assoc, ← Nat.pow_add, Nat.sub_add_cancel h]
theorem holds_mul {x y : Nat} {a b : Int} (hx : Holds x a) (hy : Holds y b) (h : (a * b).natAbs < 2 ^ 53) : ∃ r, floatBits .mul .f64 x y = some r ∧ Holds r (a * b) := by
  obtain ⟨s, m, p, h1, h2⟩ := hx
  obtain ⟨t, n, q, h3, h4⟩ := hy
  refine ⟨double.nearest (s ^^ t) (m * n) ((p : Int) - (bias : Int) + ((q : Int) - (bias : Int))), ?_, ?_⟩
  · show double.mul x y = _
    unfold Format.mul
    rw [h1, h3]; rfl
  · rw [show (p : Int) - (bias : Int) + ((q : Int) - (bias : Int)) = ((p + q : Nat) : Int) - ((bias + bias : Nat) : Int) by omega]
    refine holds_nearest _ _ _ _ _ h ?_
    rw [signed_prod, h2, h4, Nat.pow_add, Int.natCast_mul]
    generalize ((2 ^ bias : Nat) : Int) = t
    ac_rfl
theorem sum_holds {s t : Bool} {m n p q : Nat} {a b : Int} (h2 : signed s m p = a * ((2 ^ bias : Nat) : Int)) (h4 : signed t n q = b * ((2 ^ bias : Nat) : Int)) (h : (a + b).natAbs < 2 ^ 53) :
    ∃ r, ((Datum.number s m ((p : Int) - (bias : Int))).sum (.number t n ((q : Int) - (bias : Int)))).map double.write = some r ∧ Holds r (a + b) := by
  obtain ⟨c, hc⟩ : ∃ c, min p q = c := ⟨_, rfl⟩
  have hbase : min ((p : Int) - (bias : Int)) ((q : Int) - (bias : Int)) = (c : Int) - (bias : Int) := by omega
  obtain ⟨T, hT⟩ : ∃ T, signed s m (p - c) + signed t n (q - c) = T := ⟨_, rfl⟩
  have hT2 : T * ((2 ^ c : Nat) : Int) = (a + b) * ((2 ^ bias : Nat) : Int) := by
    rw [← hT, Int.add_mul, signed_base _ _ _ _ (by omega), signed_base _ _ _ _ (by omega), h2, h4, Int.add_mul]
  refine ⟨double.nearest (if T = 0 then s && t else decide (T < 0)) T.natAbs ((c : Int) - (bias : Int)), ?_, ?_⟩
  · unfold Datum.sum
    simp only [hbase]
    rw [show ((p : Int) - (bias : Int) - ((c : Int) - (bias : Int))).toNat = p - c by omega, show ((q : Int) - (bias : Int) - ((c : Int) - (bias : Int))).toNat = q - c by omega, hT]
    rfl
  · refine holds_nearest _ _ _ _ _ h ?_
    rw [← hT2, signed_sg]
    unfold sg
    by_cases h0 : T = 0
    · subst h0; simp
    · rw [if_neg h0]
      by_cases h5 : T < 0
      · rw [decide_eq_true h5, if_pos rfl, Int.natCast_mul, ← Int.mul_assoc]; congr 1; omega
      · rw [decide_eq_false h5, if_neg (by simp), Int.natCast_mul, ← Int.mul_assoc]; congr 1; omega
theorem holds_add {x y : Nat} {a b : Int} (hx : Holds x a) (hy : Holds y b) (h : (a + b).natAbs < 2 ^ 53) : ∃ r, floatBits .add .f64 x y = some r ∧ Holds r (a + b) := by
  obtain ⟨s, m, p, h1, h2⟩ := hx
  obtain ⟨t, n, q, h3, h4⟩ := hy
  obtain ⟨r, h5, h6⟩ := sum_holds h2 h4 h
  refine ⟨r, ?_, h6⟩
  show double.add x y = _
  unfold Format.add
  rw [h1, h3]; exact h5
theorem holds_sub {x y : Nat} {a b : Int} (hx : Holds x a) (hy : Holds y b) (h : (a - b).natAbs < 2 ^ 53) : ∃ r, floatBits .sub .f64 x y = some r ∧ Holds r (a - b) := by
  obtain ⟨s, m, p, h1, h2⟩ := hx
  obtain ⟨t, n, q, h3, h4⟩ := hy
  have h4' : signed (!t) n q = (-b) * ((2 ^ bias : Nat) : Int) := by rw [signed_opp, h4, Int.neg_mul]
  obtain ⟨r, h5, h6⟩ := sum_holds h2 h4' (by rw [← Int.sub_eq_add_neg]; exact h)
  refine ⟨r, ?_, by rw [Int.sub_eq_add_neg]; exact h6⟩
  show double.sub x y = _
  unfold Format.sub
  rw [h1, h3]; exact h5
theorem compare_scale {a b : Int} {n : Nat} (h : 0 < n) : compare (a * (n : Int)) (b * (n : Int)) = compare a b := by
  have hn : (0 : Int) < (n : Int) := by omega
  rcases Int.lt_trichotomy a b with h1 | h1 | h1
  · rw [Int.compare_eq_lt.2 h1, Int.compare_eq_lt.2 (Int.mul_lt_mul_of_pos_right h1 hn)]
  · subst h1; simp
  · rw [Int.compare_eq_gt.2 h1, Int.compare_eq_gt.2 (Int.mul_lt_mul_of_pos_right h1 hn)]
theorem holds_order {x y : Nat} {a b : Int} (hx : Holds x a) (hy : Holds y b) : double.order x y = some (compare a b) := by
  obtain ⟨s, m, p, h1, h2⟩ := hx
  obtain ⟨t, n, q, h3, h4⟩ := hy
  unfold Format.order
  rw [h1, h3]
  unfold Datum.order
  obtain ⟨c, hc⟩ : ∃ c, min p q = c := ⟨_, rfl⟩
  have hbase : min ((p : Int) - (bias : Int)) ((q : Int) - (bias : Int)) = (c : Int) - (bias : Int) := by omega
  simp only [hbase]
  rw [show ((p : Int) - (bias : Int) - ((c : Int) - (bias : Int))).toNat = p - c by omega, show ((q : Int) - (bias : Int) - ((c : Int) - (bias : Int))).toNat = q - c by omega]
  congr 1
  rw [← compare_scale (n := 2 ^ c) (Nat.pow_pos (by omega)), signed_base _ _ _ _ (by omega), signed_base _ _ _ _ (by omega), h2, h4, compare_scale (Nat.pow_pos (by omega))]
theorem holds_zero : Holds 0 0 := ⟨false, 0, 0, by decide, by simp [signed]⟩
theorem xor_rung (x : Nat) : (x ^^^ 2 ^ 63) % 2 ^ 63 = x % 2 ^ 63 := by
  rw [Nat.xor_mod_two_pow, Nat.mod_self, Nat.xor_zero]
theorem xor_sign (x : Nat) : ((x ^^^ 2 ^ 63) / 2 ^ 63 % 2 == 1) = !(x / 2 ^ 63 % 2 == 1) := by
  rw [← Nat.shiftRight_eq_div_pow, Nat.shiftRight_xor_distrib, Nat.shiftRight_eq_div_pow, Nat.shiftRight_eq_div_pow, Nat.div_self (by decide)]
  generalize x / 2 ^ 63 = y
  have h : (y ^^^ 1) % 2 = (y % 2) ^^^ 1 := Nat.xor_mod_two_pow (n := 1)
  rw [h]
  rcases Nat.mod_two_eq_zero_or_one y with h | h <;> simp [h]
theorem read_neg {x : Nat} {s : Bool} {m : Nat} {e : Int} (h : double.read x = .number s m e) : double.read (Op.negFloat .f64 x) = .number (!s) m e := by
  have e1 : double.signWeight = 2 ^ 63 := by decide
  have e2 : Op.negFloat .f64 x = x ^^^ 2 ^ 63 := rfl
  unfold Format.read at h ⊢
  rw [e2, e1, xor_rung, xor_sign]
  rw [e1] at h
  generalize (x / 2 ^ 63 % 2 == 1) = a at h ⊢
  generalize x % 2 ^ 63 = r at h ⊢
  simp only at h ⊢
  split at h
  · rename_i h1
    rw [if_pos h1]
    injection h with q1 q2 q3
    subst q1 q2 q3
    rfl
  · rename_i h1
    rw [if_neg h1]
    split at h
    · rename_i h2
      rw [if_pos h2]
      injection h with q1 q2 q3
      subst q1 q2 q3
      rfl
    · split at h
      · cases h
      · cases h
theorem holds_neg {x : Nat} {a : Int} (h : Holds x a) : Holds (Op.negFloat .f64 x) (-a) := by
  obtain ⟨s, m, p, h1, h2⟩ := h
  exact ⟨!s, m, p, read_neg h1, by rw [signed_opp, h2, Int.neg_mul]⟩
theorem holds_cmul {a b c d : Nat} {A B C D : Int} (ha : Holds a A) (hb : Holds b B) (hc : Holds c C) (hd : Holds d D) (h1 : (A * C).natAbs < 2 ^ 53) (h2 : (B * D).natAbs < 2 ^ 53) (h3 : (A * C - B * D).natAbs < 2 ^ 53) (h4 : (A * D).natAbs < 2 ^ 53) (h5 : (B * C).natAbs < 2 ^ 53) (h6 : (A * D + B * C).natAbs < 2 ^ 53) :
    ∃ re im, cMulBits a b c d = some (re, im) ∧ Holds im (A * D + B * C) := by
  obtain ⟨ac, e1, g1⟩ := holds_mul ha hc h1
  obtain ⟨bd, e2, g2⟩ := holds_mul hb hd h2
  obtain ⟨re, e3, g3⟩ := holds_sub g1 g2 h3
  obtain ⟨ad, e4, g4⟩ := holds_mul ha hd h4
  obtain ⟨bc, e5, g5⟩ := holds_mul hb hc h5
  obtain ⟨im, e6, g6⟩ := holds_add g4 g5 h6
  refine ⟨re, im, ?_, g6⟩
  unfold cMulBits
  rw [e1, Option.bind_some, e2, Option.bind_some, e3, Option.bind_some, e4, Option.bind_some, e5, Option.bind_some, e6]
  rfl
end Go.Proofs.YthbppblmecdekaaDoor

/- Plain facts: which configs may be; the least capacity that takes so many pairs. No program in sight. -/
namespace Go.Proofs.YthbppblmecdekaaDoor
open Go
/-- the least capacity that takes so many pairs: doubled while it is too small -/
def takesF (n den high : Nat) : Nat → Nat → Nat
  | 0, s => s
  | k + 1, s => if high * s < n * den then takesF n den high k (2 * s) else s
/-- what stands while it is doubled -/
structure Fits (n den high k s : Nat) : Prop where
  fuel : n * den ≤ high * (s * 2 ^ k)
  pos : 0 < s
  le : s ≤ 65536
theorem takes_end {n den high k s : Nat} (h : ¬ high * s < n * den) : takesF n den high k s = s := by
  cases k with
  | zero => rfl
  | succ k => unfold takesF; rw [if_neg h]
theorem takes_step {n den high k s : Nat} (hf : Fits n den high k s) (h : high * s < n * den) (hn : n ≤ 16384) (hd : den ≤ 2 * high) : ∃ k', k = k' + 1 ∧ takesF n den high k s = takesF n den high k' (2 * s) ∧ Fits n den high k' (2 * s) := by
  cases k with
  | zero =>
    have h1 := hf.fuel
    rw [Nat.pow_zero, Nat.mul_one] at h1
    omega
  | succ k =>
    refine ⟨k, rfl, by rw [takesF, if_pos h], ?_, by have := hf.pos; omega, ?_⟩
    · have h1 := hf.fuel
      rw [Nat.pow_succ, Nat.mul_comm (2 ^ k) 2, ← Nat.mul_assoc s 2, Nat.mul_comm s 2] at h1
      exact h1
    · have h1 : n * den ≤ 16384 * (2 * high) := Nat.mul_le_mul hn hd
      have h2 : high * s < high * 32768 := by
        refine Nat.lt_of_lt_of_le h (Nat.le_trans h1 ?_)
        rw [Nat.mul_comm high 32768, ← Nat.mul_assoc]
        exact Nat.le_refl _
      have h3 := Nat.lt_of_mul_lt_mul_left h2
      omega
theorem fits_start {n den high s : Nat} (hn : n ≤ 16384) (hd : den ≤ 2 * high) (hs : 0 < s) (hs2 : s ≤ 256) : Fits n den high 16 s := by
  refine ⟨?_, hs, by omega⟩
  have h1 : n * den ≤ 16384 * (2 * high) := Nat.mul_le_mul hn hd
  refine Nat.le_trans h1 ?_
  have h2 : high * (1 * 65536) ≤ high * (s * 2 ^ 16) := Nat.mul_le_mul_left _ (Nat.mul_le_mul hs (by decide))
  refine Nat.le_trans ?_ h2
  rw [Nat.one_mul, Nat.mul_comm high 65536, ← Nat.mul_assoc]
  exact Nat.mul_le_mul_right _ (by decide)
def takesN (n den high least : Nat) : Nat := takesF n den high 16 least
theorem takes_le {n den high : Nat} (hn : n ≤ 16384) (hd : den ≤ 2 * high) : ∀ {k s : Nat}, Fits n den high k s → takesF n den high k s ≤ 65536 ∧ s ≤ takesF n den high k s := by
  intro k
  induction k with
  | zero => intro s h; exact ⟨h.le, Nat.le_refl _⟩
  | succ k ih =>
    intro s h
    by_cases h1 : high * s < n * den
    · obtain ⟨k', hk, h2, h3⟩ := takes_step h h1 hn hd
      obtain rfl : k = k' := by omega
      rw [h2]
      have := ih h3
      omega
    · rw [takes_end h1]
      exact ⟨h.le, Nat.le_refl _⟩
/-- is a number a power of two? -/
def pow2 (n : Nat) : Bool := decide (0 < n) && decide (2 ^ Nat.log2 n = n)
theorem pow2_and : ∀ n : Nat, n ≤ 256 → 0 < n → ((n &&& (n - 1)) == 0) = pow2 n := by decide +kernel

structure Cfg where
  tag : Int
  most : Int
  seg : Int
  least : Int
  den : Int
  leafLow : Int
  rootLow : Int
  rootHigh : Int
  leafHigh : Int
deriving DecidableEq
def Cfg.cells (c : Cfg) : List Value := [.int .u8 c.tag, .int .i64 c.most, .int .i64 c.seg, .int .i64 c.least, .int .i64 c.den, .int .i64 c.leafLow, .int .i64 c.rootLow, .int .i64 c.rootHigh, .int .i64 c.leafHigh]
structure CfgA (c : Cfg) : Prop where
  tag : 1 ≤ c.tag ∧ c.tag ≤ 3
  most : 1 ≤ c.most ∧ c.most ≤ 16384
  seg : 4 ≤ c.seg ∧ c.seg ≤ 64 ∧ pow2 c.seg.toNat = true
  least : c.seg ≤ c.least ∧ c.least ≤ 256 ∧ pow2 c.least.toNat = true
  den : 1 ≤ c.den ∧ c.den ≤ 64
structure CfgB (c : Cfg) : Prop where
  low : 0 ≤ c.leafLow ∧ c.leafLow < c.rootLow
  mid : c.rootLow < c.rootHigh
  high : c.rootHigh < c.leafHigh ∧ c.leafHigh ≤ c.den
structure CfgC (c : Cfg) : Prop where
  high : c.den ≤ 2 * c.rootHigh
  low : 8 * c.rootLow ≤ c.den
  room : 2 * c.den ≤ c.rootLow * c.least
def Cfg.tall (c : Cfg) : Nat := Nat.log2 (takesN c.most.toNat c.den.toNat c.rootHigh.toNat c.least.toNat / c.seg.toNat)
structure MayC (c : Cfg) : Prop where
  sizes : CfgA c
  parts : CfgB c
  room : CfgC c
  tall : c.den * (c.tall : Int) ≤ (c.leafHigh - c.rootHigh) * c.seg
open Classical in
noncomputable def confE (c : Cfg) : Int := if MayC c then 0 else 50
end Go.Proofs.YthbppblmecdekaaDoor

/- Contracts: frac.small, frac.Cross. -/
namespace Go.Proofs.YthbppblmecdekaaDoor
open Go Go.RowKit
set_option maxRecDepth 100000
def smallN (n : Int) : Bool := decide (-67108864 < n) && decide (n < 67108864)
def iv (n : Int) : Value := .int .i64 n
set_option maxHeartbeats 1000000 in
theorem small_any (A : Option Addr) (l : List Int) (c : Nat) (w : World) (hA : Sl w A (l.map iv)) (hl : l.length ≤ 1000000) (hs : ∀ n ∈ l, smallN n = true) :
    Calls Tryd.prog 140 #[.slice A l.length c] w fun r w' => r = .returned (.bool true) ∧ w' = w := by
  have HA := Lib.hid hA
  have HS := Lib.hid hs
  clear hA hs
  go_enter Tryd.func140, Tryd.ntmps140
  go_wp2
  go_loopw [7] (fun i wr => ∃ k : Nat, k ≤ l.length ∧ i = .int .i64 k ∧ wr = w) (fun i _ => l.length - (intOf i).toNat)
  case atStart => exact ⟨0, Nat.zero_le _, rfl, rfl⟩
  case round =>
    obtain ⟨k, hk, rfl, hw⟩ := hrel
    have hw2 := hw.symm
    subst hw2
    by_cases hlt : k < l.length
    · obtain ⟨b, off, rfl, hbl, cp⟩ := HA.out.oneB (Below.refl _ _) k hlt
      have hsm := HS.out _ (List.getElem_mem hlt)
      obtain ⟨n, hn⟩ : ∃ n, l[k]'hlt = n := ⟨_, rfl⟩
      rw [hn] at cp hsm
      unfold smallN at hsm
      rw [Bool.and_eq_true, decide_eq_true_iff, decide_eq_true_iff] at hsm
      have cp1 : w.cell? ⟨b, off + k, none⟩ = some (.int .i64 n) := cp
      have g1 : ¬ n ≤ -67108864 := by omega
      have g2 : ¬ 67108864 ≤ n := by omega
      have i0 : (0 : Int) ≤ (k : Int) := by omega
      have i1 : (k : Int) < (l.length : Int) := by omega
      clear cp hsm hn
      go_wp2
      go_roundw
      case rel => exact ⟨k + 1, by omega, by go_num, by first | trivial | rfl⟩
      case measure => simp [intOf]; omega
    · go_wp2
      go_ret
      exact ⟨rfl, rfl⟩
def sgn (x : Int) : Int := if 0 < x then 1 else if x < 0 then -1 else 0
theorem run_neg_f (x : Nat) (w : World) : (Op.unary .neg (.float .f64 x)).run Tryd.prog w = .ok (.float .f64 (Op.negFloat .f64 x)) w := by
  rfl
theorem prod_lt {x y : Int} (hx : -67108864 < x ∧ x < 67108864) (hy : -67108864 < y ∧ y < 67108864) : (x * y).natAbs < 2 ^ 52 := by
  rw [Int.natAbs_mul]
  have h1 : x.natAbs < 2 ^ 26 := by omega
  have h2 : y.natAbs < 2 ^ 26 := by omega
  have h3 := Nat.mul_lt_mul'' h1 h2
  simpa using h3
theorem sgn_im (a b c d : Int) : sgn (a * d - b * c) = if 0 < a * -d + b * c then -1 else if a * -d + b * c < 0 then 1 else 0 := by
  have h : a * -d = -(a * d) := Int.mul_neg a d
  rw [h]
  generalize a * d = p
  generalize b * c = q
  unfold sgn
  split <;> split <;> first | omega | (split <;> omega) | rfl | (rw [if_pos (by omega)])
set_option maxHeartbeats 1000000 in
theorem cross_any (a b c d : Int) (w : World) (ha : smallN a = true) (hb : smallN b = true) (hc : smallN c = true) (hd : smallN d = true) :
    Calls Tryd.prog 126 #[.int .i64 a, .int .i64 b, .int .i64 c, .int .i64 d] w fun r w' => r = .returned (.tuple #[.int .i64 (sgn (a * d - b * c)), .int .i64 0]) ∧ Below w.heap.size w w' := by
  have HS : Hid (∀ n ∈ [a, b, c, d], smallN n = true) := fun n hn => by
    simp at hn
    rcases hn with rfl | rfl | rfl | rfl <;> assumption
  go_enter Tryd.func126, Tryd.ntmps126
  go_wp2_with fail
  refine (small_any (some ⟨w.heap.size, 0, none⟩) [a, b, c, d] 4 _ (by exact sl_new1 _ _ _) (by simp) HS.out).mono ?_
  rintro e w1 ⟨rfl, hw1⟩
  subst hw1
  have hbd := fun n (h : smallN n = true) => (show -67108864 < n ∧ n < 67108864 by unfold smallN at h; rw [Bool.and_eq_true, decide_eq_true_iff, decide_eq_true_iff] at h; exact h)
  have qa := hbd a ha
  have qb := hbd b hb
  have qc := hbd c hc
  have qd := hbd d hd
  obtain ⟨fa, ha1⟩ : ∃ x, floatOfInt .f64 a = x := ⟨_, rfl⟩
  obtain ⟨fb, hb1⟩ : ∃ x, floatOfInt .f64 b = x := ⟨_, rfl⟩
  obtain ⟨fc, hc1⟩ : ∃ x, floatOfInt .f64 c = x := ⟨_, rfl⟩
  obtain ⟨fd, hd1⟩ : ∃ x, floatOfInt .f64 d = x := ⟨_, rfl⟩
  have ga : Holds fa a := by rw [← ha1]; exact holds_int a (by omega)
  have gb : Holds fb b := by rw [← hb1]; exact holds_int b (by omega)
  have gc : Holds fc c := by rw [← hc1]; exact holds_int c (by omega)
  have gd : Holds fd d := by rw [← hd1]; exact holds_int d (by omega)
  have hn := fun w => run_neg_f fd w
  have gn := holds_neg gd
  obtain ⟨fn, hfn⟩ : ∃ x, Op.negFloat .f64 fd = x := ⟨_, rfl⟩
  rw [hfn] at hn gn
  have qn : -67108864 < -d ∧ -d < 67108864 := by omega
  have p1 := prod_lt qa qc
  have p2 := prod_lt qb qn
  have p3 := prod_lt qa qn
  have p4 := prod_lt qb qc
  obtain ⟨re, im, hcm, gi⟩ := holds_cmul ga gb gc gn (by omega) (by omega) (by omega) (by omega) (by omega) (by omega)
  have hm := fun w => run_complex_mul (P := Tryd.prog) w 184 fa fb fc fn re im hcm
  have hord : FloatKind.f64.format.order im 0 = some (compare (a * -d + b * c) 0) := holds_order gi holds_zero
  have HSG := Lib.hid (sgn_im a b c d)
  obtain ⟨z, hz⟩ : ∃ z, a * -d + b * c = z := ⟨_, rfl⟩
  rw [hz] at hord HSG
  have HB1 : Hid (Below w.heap.size w (w.alloc (.cells #[.int .i64 a, .int .i64 b, .int .i64 c, .int .i64 d] 3))) := (Below.refl _ _).alloc (Nat.le_refl _) _
  clear qa qb qc qd hbd HS ha hb hc hd hfn qn p1 p2 p3 p4 hcm hz gi
  by_cases z1 : 0 < z
  · rw [Int.compare_eq_gt.2 z1] at hord
    have HV : Hid (sgn (a * d - b * c) = -1) := by show _ = _; rw [HSG.out, if_pos z1]
    clear z1
    go_wp2_with fail
    refine bodyPost_ret (v := .tuple #[.int .i64 (-1), .int .i64 0]) (by simp [results, Tryd.results126, go_sem]) rfl ?_
    exact ⟨by rw [HV.out], HB1.out⟩
  · by_cases z2 : z < 0
    · rw [Int.compare_eq_lt.2 z2] at hord
      have HV : Hid (sgn (a * d - b * c) = 1) := by show _ = _; rw [HSG.out, if_neg z1, if_pos z2]
      go_wp2_with fail
      refine bodyPost_ret (v := .tuple #[.int .i64 1, .int .i64 0]) (by simp [results, Tryd.results126, go_sem]) rfl ?_
      exact ⟨by rw [HV.out], HB1.out⟩
    · rw [Int.compare_eq_eq.2 (by omega)] at hord
      have HV : Hid (sgn (a * d - b * c) = 0) := by show _ = _; rw [HSG.out, if_neg z1, if_neg z2]
      go_wp2_with fail
      refine bodyPost_ret (v := .tuple #[.int .i64 0, .int .i64 0]) (by simp [results, Tryd.results126, go_sem]) rfl ?_
      exact ⟨by rw [HV.out], HB1.out⟩
end Go.Proofs.YthbppblmecdekaaDoor

/- Contracts: conf.all, conf.power, frac.Power, frac.Down. -/
namespace Go.Proofs.YthbppblmecdekaaDoor
open Go Go.RowKit
set_option maxRecDepth 100000
def bv (b : Bool) : Value := .bool b
set_option maxHeartbeats 1000000 in
theorem allc_any (A : Option Addr) (l : List Bool) (c : Nat) (w : World) (hA : Sl w A (l.map bv)) (hl : l.length ≤ 1000000) :
    Calls Tryd.prog 100 #[.slice A l.length c] w fun r w' => r = .returned (.bool (l.all id)) ∧ w' = w := by
  have HA := Lib.hid hA
  obtain ⟨V, hV⟩ : ∃ V, l.all id = V := ⟨_, rfl⟩
  rw [hV]
  have HV := Lib.hid hV
  clear hA hV
  go_enter Tryd.func100, Tryd.ntmps100
  go_wp2
  go_loopw [7] (fun i wr => ∃ k : Nat, k ≤ l.length ∧ i = .int .i64 k ∧ wr = w ∧ Hid ((l.drop k).all id = V)) (fun i _ => l.length - (intOf i).toNat)
  case atStart => exact ⟨0, Nat.zero_le _, rfl, rfl, by show _ = _; rw [List.drop_zero]; exact HV.out⟩
  case round =>
    obtain ⟨k, hk, rfl, hw, hd⟩ := hrel
    have hw2 := hw.symm
    subst hw2
    by_cases hlt : k < l.length
    · obtain ⟨b, off, rfl, hbl, cp⟩ := HA.out.oneB (Below.refl _ _) k hlt
      have hdr : (l.drop k).all id = (l[k]'hlt && (l.drop (k + 1)).all id) := by rw [List.drop_eq_getElem_cons hlt, List.all_cons]; rfl
      obtain ⟨e, he⟩ : ∃ e, l[k]'hlt = e := ⟨_, rfl⟩
      rw [he] at cp hdr
      have cp1 : w.cell? ⟨b, off + k, none⟩ = some (.bool e) := cp
      have HDR := Lib.hid hdr
      have i0 : (0 : Int) ≤ (k : Int) := by omega
      have i1 : (k : Int) < (l.length : Int) := by omega
      clear cp hdr he
      cases e with
      | true =>
        go_wp2
        go_roundw
        case rel => exact ⟨k + 1, by omega, by go_num, by first | trivial | rfl, by have := hd.out; rw [HDR.out] at this; exact this⟩
        case measure => simp [intOf]; omega
      | false =>
        have HF : Hid (V = false) := by show _ = _; rw [← hd.out, HDR.out]; rfl
        go_wp2
        go_ret
        exact ⟨by rw [HF.out]; rfl, rfl⟩
    · have HF : Hid (V = true) := by show _ = _; rw [← hd.out, List.drop_eq_nil_of_le (by omega)]; rfl
      go_wp2
      go_ret
      exact ⟨by rw [HF.out]; rfl, rfl⟩
def powB (n a b : Int) : Bool := decide (a ≤ n) && decide (n ≤ b) && pow2 n.toNat
theorem bits_pow : ∀ m : Nat, m ≤ 256 → 0 < m → (bits .and .i64 (m : Int) ((m : Int) - 1) == 0) = pow2 m := by decide +kernel
theorem powerF_any (n : Int) (w : World) (h1 : n ≤ 256) : Calls Tryd.prog 124 #[.int .i64 n] w fun r w' => r = .returned (.bool (pow2 n.toNat)) ∧ w' = w := by
  by_cases hz : 0 < n
  · have hb := bits_pow n.toNat (by omega) (by omega)
    rw [Int.toNat_of_nonneg (by omega)] at hb
    have HB := Lib.hid hb
    clear hb
    go_enter Tryd.func124, Tryd.ntmps124
    go_wp2
    go_ret
    exact ⟨by rw [← HB.out]; rfl, rfl⟩
  · have hn : n.toNat = 0 := by omega
    rw [hn]
    clear hn
    go_enter Tryd.func124, Tryd.ntmps124
    go_wp2
    go_ret
    exact ⟨rfl, rfl⟩
theorem powerC_any (n a b : Int) (w : World) (h1 : b ≤ 256) : Calls Tryd.prog 101 #[.int .i64 n, .int .i64 a, .int .i64 b] w fun r w' => r = .returned (.bool (powB n a b)) ∧ w' = w := by
  obtain ⟨V, hV⟩ : ∃ V, powB n a b = V := ⟨_, rfl⟩
  rw [hV]
  have HV := Lib.hid hV
  clear hV
  by_cases g1 : a ≤ n
  · by_cases g2 : n ≤ b
    · have HC := Lib.hid (fun w => powerF_any n w (by omega))
      have HP : Hid (V = pow2 n.toNat) := by show _ = _; rw [← HV.out]; unfold powB; rw [decide_eq_true g1, decide_eq_true g2]; rfl
      go_enter Tryd.func101, Tryd.ntmps101
      go_wp2_with fail
      refine (HC.out _).mono ?_
      rw [← HP.out]
      rintro e w1 ⟨rfl, hw⟩
      subst hw
      go_wp2
      go_ret
      exact ⟨rfl, rfl⟩
    · have HP : Hid (V = false) := by show _ = _; rw [← HV.out]; unfold powB; rw [decide_eq_true g1, decide_eq_false g2]; rfl
      go_enter Tryd.func101, Tryd.ntmps101
      go_wp2_with fail
      go_ret
      exact ⟨by rw [HP.out]; rfl, rfl⟩
  · have HP : Hid (V = false) := by show _ = _; rw [← HV.out]; unfold powB; rw [decide_eq_false g1]; rfl
    go_enter Tryd.func101, Tryd.ntmps101
    go_wp2_with fail
    go_ret
    exact ⟨by rw [HP.out]; rfl, rfl⟩
def DownI (n0 : Nat) (w : World) (g : Nat) (a : Act) (wr : World) : Prop :=
  ∃ (m k : Nat) (u1 u4 u5 u6 u7 u8 u9 u10 u11 u12 : Value), a = ⟨#[.int .i64 (m : Int), u1, .int .i64 (k : Int), .int .i64 0, u4, u5, u6, u7, u8, u9, u10, u11, u12], []⟩ ∧ wr = w ∧ g = m ∧ 0 < m ∧ m ≤ 65536 ∧ Hid (Nat.log2 m + k = Nat.log2 n0)
set_option maxHeartbeats 1000000 in
theorem downF_any (n : Nat) (w : World) (h0 : 0 < n) (h1 : n ≤ 65536) : Calls Tryd.prog 125 #[.int .i64 (n : Nat)] w fun r w' => r = .returned (.tuple #[.int .i64 (Nat.log2 n : Nat), .int .i64 0]) ∧ w' = w := by
  have g0 : ¬ (n : Int) < 1 := by omega
  have HI0 : Hid (DownI n w n ⟨#[.int .i64 (n : Int), undef, .int .i64 ((0 : Nat) : Int), .int .i64 0, .int .i64 (n : Int), .bool false, undef, undef, undef, undef, undef, undef, undef], []⟩ w) := ⟨n, 0, _, _, _, _, _, _, _, _, _, _, rfl, rfl, rfl, h0, h1, rfl⟩
  have HL16 := Lib.hid (log2_le h1)
  have HH := Lib.hid h0
  clear h0
  go_enter Tryd.func125, Tryd.ntmps125
  go_wp2
  refine wp_scope_ghost 0 (DownI n w) rfl ?pass ?first
  case pass =>
    clear HI0
    rintro m a' wr ⟨m', k, u1, u4, u5, u6, u7, u8, u9, u10, u11, u12, rfl, hw, rfl, hm0, hm6, hg⟩ K hK
    have hw2 := hw.symm
    subst hw2
    have HK := Lib.hid hK
    clear hK hw
    have hk16 : k ≤ 16 := by have h1 := hg.out; have h2 := HL16.out; omega
    by_cases h2 : 2 ≤ m
    · have g1 : (1 : Int) < (m : Int) := by omega
      have g2 : (m : Int).tdiv 2 = ((m / 2 : Nat) : Int) := by rw [Int.tdiv_eq_ediv_of_nonneg (by omega)]; omega
      have g3 : IntKind.i64.wrap ((k : Int) + 1) = ((k + 1 : Nat) : Int) := (IntWalk.i64_in _ (by omega)).trans (by omega)
      have g4 : IntKind.i64.wrap ((m / 2 : Nat) : Int) = ((m / 2 : Nat) : Int) := IntWalk.i64_in _ (by omega)
      have HG : Hid (Nat.log2 (m / 2) + (k + 1) = Nat.log2 n) := by show _ = _; rw [← hg.out, log2_half h2]; omega
      have H2 := Lib.hid h2
      clear h2
      go_wp2
      go_step3
      refine ⟨rfl, HK.out (m / 2) _ _ ?_ ⟨m / 2, k + 1, u1, u4, u5, .int .i64 (m : Int), .bool true, .int .i64 (m : Int), .int .i64 ((m : Int) / 2), .int .i64 (k : Int), .int .i64 ((k : Int) + 1), u12, ?_, rfl, rfl, ?_, ?_, HG.out⟩⟩
      · have := H2.out; omega
      · simp
      · have := H2.out; omega
      · omega
    · have g1 : ¬ (1 : Int) < (m : Int) := by omega
      have HG : Hid (Nat.log2 n = k) := by
        show _ = _
        have h3 : m = 1 := by omega
        subst h3
        rw [← hg.out]
        simp [Nat.log2_def]
      clear h2
      go_wp2
      simp only [Exit.jump]
      refine bodyPost_ret (v := .tuple #[.int .i64 (k : Int), .int .i64 0]) (by simp [results, Tryd.results125, go_sem]) rfl ?_
      exact ⟨by rw [HG.out], rfl⟩
  case first =>
    rintro K hK
    have HK := Lib.hid hK
    clear hK
    go_wp2
    go_step3
    rename_i hk
    exact hk _ _ (HK.out _ _ _ ⟨n, 0, _, _, _, _, _, _, _, _, _, _, rfl, rfl, rfl, HH.out, h1, rfl⟩)
end Go.Proofs.YthbppblmecdekaaDoor

/- Contracts: conf.takes, conf.height. -/
namespace Go.Proofs.YthbppblmecdekaaDoor
open Go Go.RowKit
set_option maxRecDepth 100000
abbrev Cfg.row (c : Cfg) : Array Value := #[.int .u8 c.tag, .int .i64 c.most, .int .i64 c.seg, .int .i64 c.least, .int .i64 c.den, .int .i64 c.leafLow, .int .i64 c.rootLow, .int .i64 c.rootHigh, .int .i64 c.leafHigh]
structure TakeS (c : Cfg) (n d h l : Nat) : Prop where
  den : c.den = d
  high : c.rootHigh = h
  least : c.least = l
  n1 : 0 < n
  n2 : n ≤ 16384
  d1 : 0 < d
  d2 : d ≤ 64
  dh : d ≤ 2 * h
  h2 : h ≤ 64
  l1 : 4 ≤ l
  l2 : l ≤ 256
theorem sm_nat {x : Nat} (h : x ≤ 65536) : smallN (x : Int) = true := by unfold smallN; rw [decide_eq_true (by omega), decide_eq_true (by omega)]; rfl
theorem over_is (n s h d : Nat) : decide (0 < sgn ((n : Int) * (d : Int) - (s : Int) * (h : Int))) = decide (h * s < n * d) := by
  have e1 : ((n : Int) * (d : Int)) = ((n * d : Nat) : Int) := by simp
  have e2 : ((s : Int) * (h : Int)) = ((h * s : Nat) : Int) := by rw [Nat.mul_comm h s]; simp
  rw [e1, e2]
  generalize n * d = p
  generalize h * s = q
  unfold sgn
  by_cases hq : q < p
  · rw [if_pos (by omega), decide_eq_true hq]; rfl
  · rw [if_neg (by omega), decide_eq_false hq]
    split <;> rfl
def TakesI (c : Cfg) (n T : Nat) (w : World) (g : Nat) (a : Act) (wr : World) : Prop :=
  ∃ (s : Nat) (u3 u6 u7 u8 u9 u10 u11 u12 u13 u14 u15 u16 u17 u18 u19 u20 u21 u22 u23 u24 : Value), a = ⟨#[.agg #[.int .u8 c.tag, .int .i64 c.most, .int .i64 c.seg, .int .i64 c.least, .int .i64 c.den, .int .i64 c.leafLow, .int .i64 c.rootLow, .int .i64 c.rootHigh, .int .i64 c.leafHigh], .int .i64 (n : Int), .pointer (some ⟨w.heap.size, 0, none⟩), u3, .int .i64 0, .int .i64 (s : Int), u6, u7, u8, u9, u10, u11, u12, u13, u14, u15, u16, u17, u18, u19, u20, u21, u22, u23, u24], []⟩ ∧ Below w.heap.size w wr ∧ Blk wr w.heap.size 63 c.row ∧ Hid (∃ d h l, TakeS c n d h l ∧ Fits n d h g s ∧ takesF n d h g s = T)
set_option maxHeartbeats 4000000 in
theorem takes_any (c : Cfg) (n d h l : Nat) (w : World) (hs : TakeS c n d h l) :
    Calls Tryd.prog 103 #[.agg c.row, .int .i64 (n : Nat)] w fun r w' => r = .returned (.int .i64 (takesN n d h l : Nat)) ∧ Below w.heap.size w w' := by
  obtain ⟨T, hT⟩ : ∃ T, takesN n d h l = T := ⟨_, rfl⟩
  rw [hT]
  have HT : Hid (∃ d' h' l', TakeS c n d' h' l' ∧ Fits n d' h' 16 l ∧ takesF n d' h' 16 l = T) := ⟨d, h, l, hs, fits_start hs.n2 hs.dh (by have := hs.l1; omega) hs.l2, hT⟩
  have HLE := Lib.hid (show c.least = (l : Int) from hs.least)
  clear hT hs
  obtain ⟨W0, hW0⟩ : ∃ W0, w.alloc (.cells c.row 63) = W0 := ⟨_, rfl⟩
  have hb0 : Below w.heap.size w W0 := by rw [← hW0]; exact (Below.refl _ _).alloc (Nat.le_refl _) _
  have b0 : Blk W0 w.heap.size 63 c.row := by rw [← hW0]; exact Blk.new _ _ _
  have HW0 := Lib.hid hW0
  clear hW0
  go_enter Tryd.func103, Tryd.ntmps103
  go_wp2
  rw [HW0.out]
  refine wp_scope_ghost 0 (TakesI c n T w) rfl ?pass ?first
  case pass =>
    clear HT
    rintro g a' wr ⟨s, u3, u6, u7, u8, u9, u10, u11, u12, u13, u14, u15, u16, u17, u18, u19, u20, u21, u22, u23, u24, rfl, hb, bC, hI⟩ K hK
    have HK := Lib.hid hK
    obtain ⟨d, h, l, hs, hf, hTT⟩ := hI.out
    have HS := Lib.hid hs
    have HF := Lib.hid hf
    have HTT := Lib.hid hTT
    have c4 : wr.cell? ⟨w.heap.size, 4, none⟩ = some (.int .i64 (d : Int)) := (bC.cell 4).trans (by rw [← hs.den]; rfl)
    have c7 : wr.cell? ⟨w.heap.size, 7, none⟩ = some (.int .i64 (h : Int)) := (bC.cell 7).trans (by rw [← hs.high]; rfl)
    have hx := fun W => cross_any (n : Int) (s : Int) (h : Int) (d : Int) W (sm_nat (by have := hs.n2; omega)) (sm_nat hf.le) (sm_nat (by have := hs.h2; omega)) (sm_nat (by have := hs.d2; omega))
    have ho := over_is n s h d
    obtain ⟨V, hV⟩ : ∃ V, sgn ((n : Int) * (d : Int) - (s : Int) * (h : Int)) = V := ⟨_, rfl⟩
    rw [hV] at ho hx
    have HX := Lib.hid hx
    have hs6 := hf.le
    have HO := Lib.hid ho
    have HB := Lib.hid hb
    have HC := Lib.hid bC
    clear hK hI hx hs hf hTT ho hV hb bC
    go_wp2_with fail
    refine (HX.out _).mono ?_
    rintro e w1 ⟨rfl, hb1⟩
    have HB1 := Lib.hid (bext HB.out hb1)
    have HC1 := Lib.hid (HC.out.below hb1 HC.out.lt)
    clear c4 c7 hb1
    by_cases hgo : h * s < n * d
    · have g1 : (0 : Int) < V := by have := HO.out; rw [decide_eq_true hgo] at this; exact of_decide_eq_true this
      have g2 : IntKind.i64.wrap ((s : Int) * 2) = ((2 * s : Nat) : Int) := (IntWalk.i64_in _ (by omega)).trans (by omega)
      obtain ⟨k', hk', ht', hf'⟩ := takes_step HF.out hgo HS.out.n2 HS.out.dh
      have HK2 : Hid (k' < g) := by show _ < _; omega
      have HN : Hid (∃ d h l, TakeS c n d h l ∧ Fits n d h k' (2 * s) ∧ takesF n d h k' (2 * s) = T) := ⟨d, h, l, HS.out, hf', by rw [← ht', HTT.out]⟩
      clear hgo hk' ht' hf'
      go_wp2_with fail
      go_step3
      refine ⟨rfl, HK.out k' _ _ HK2.out ⟨2 * s, u3, .int .i64 V, .int .i64 0, u8, u9, .tuple #[.int .i64 V, .int .i64 0], .int .i64 (n : Int), .int .i64 (s : Int), .pointer (some ⟨w.heap.size, 7, none⟩), .int .i64 (h : Int), .pointer (some ⟨w.heap.size, 4, none⟩), .int .i64 (d : Int), .tuple #[.int .i64 V, .int .i64 0], .int .i64 V, .int .i64 0, .int .i64 V, .bool true, .int .i64 (s : Int), .int .i64 (2 * (s : Int)), u24, ?_, HB1.out, HC1.out, HN⟩⟩
      simp
    · have g1 : ¬ (0 : Int) < V := by have := HO.out; rw [decide_eq_false hgo] at this; exact of_decide_eq_false this
      have HV : Hid (T = s) := by show _ = _; rw [← HTT.out, takes_end hgo]
      clear hgo
      go_wp2_with fail
      simp only [Exit.jump]
      refine bodyPost_ret (v := .int .i64 (s : Int)) (by simp [results, Tryd.results103, go_sem]) rfl ?_
      exact ⟨by rw [HV.out], HB1.out⟩
  case first =>
    rintro K hK
    have HK := Lib.hid hK
    have c3 : W0.cell? ⟨w.heap.size, 3, none⟩ = some (.int .i64 (l : Int)) := (b0.cell 3).trans (by rw [← HLE.out]; rfl)
    have HB0 := Lib.hid hb0
    have HC0 := Lib.hid b0
    clear hK b0 hb0
    go_wp2_with fail
    go_step3
    rename_i hk
    exact hk _ _ (HK.out 16 _ _ ⟨l, _, _, _, _, _, _, _, _, _, _, _, _, _, _, _, _, _, _, _, _, rfl, HB0.out, HC0.out, HT⟩)
theorem height_any (c : Cfg) (s g : Nat) (w : World) (hg : c.seg = (g : Int)) (hs : s ≤ 65536) (h0 : 0 < g) (h1 : g ≤ s) :
    Calls Tryd.prog 102 #[.agg c.row, .int .i64 (s : Nat)] w fun r w' => r = .returned (.int .i64 (Nat.log2 (s / g) : Nat)) ∧ Below w.heap.size w w' := by
  obtain ⟨W0, hW0⟩ : ∃ W0, w.alloc (.cells c.row 63) = W0 := ⟨_, rfl⟩
  have hb0 : Below w.heap.size w W0 := by rw [← hW0]; exact (Below.refl _ _).alloc (Nat.le_refl _) _
  have b0 : Blk W0 w.heap.size 63 c.row := by rw [← hW0]; exact Blk.new _ _ _
  have HW0 := Lib.hid hW0
  have c2 : W0.cell? ⟨w.heap.size, 2, none⟩ = some (.int .i64 (g : Int)) := (b0.cell 2).trans (by rw [← hg]; rfl)
  have hq : (s : Int).tdiv (g : Int) = ((s / g : Nat) : Int) := by rw [Int.tdiv_eq_ediv_of_nonneg (by omega)]; exact (Int.natCast_ediv s g).symm
  have hd1 : 0 < s / g := Nat.div_pos h1 h0
  have hd2 : s / g ≤ s := Nat.div_le_self s g
  have hz : ¬ (g : Int) = 0 := by omega
  obtain ⟨Q, hQ⟩ : ∃ Q, s / g = Q := ⟨_, rfl⟩
  rw [hQ] at hq hd1 hd2 ⊢
  have hw : IntKind.i64.wrap (Q : Int) = (Q : Int) := IntWalk.i64_in _ (by omega)
  have HD := Lib.hid (fun W => downF_any Q W hd1 (by omega))
  clear hW0 hQ b0 hg h1
  go_enter Tryd.func102, Tryd.ntmps102
  go_upto_region 1 with fail
  rw [HW0.out]
  go_wp2_with fail
  refine (HD.out _).mono ?_
  rintro e w1 ⟨rfl, hw1⟩
  subst hw1
  go_wp2
  go_ret
  exact ⟨rfl, hb0⟩
end Go.Proofs.YthbppblmecdekaaDoor
