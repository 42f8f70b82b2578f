/- Contracts: the place of Lower, Find, Rank. -/
import Derived.Test.YtokomclcgegfkaaLb
import Derived.Laws.Bits64
namespace Go.Proofs.Ytokomclcgegfkaa
open Go Go.RowKit
set_option maxRecDepth 100000

/-- hands back two numbers -/
def GivesII (a e : Int) (w : World) (r : Ending) (w' : World) : Prop := r = .returned (.tuple #[.int .i64 a, .int .i64 e]) ∧ Below w.heap.size w w'
def belowT (l : List Ent) (key : Int) (x : Nat) : Bool := decide ((entAt l x).key < key)
/-- how many keys are below one -/
def lowK (l : List Ent) (key : Int) : Nat := (inord l.length 0).countP (belowT l key)
def lowE (l : List Ent) (key : Int) : Int := if chkE l ≠ 0 then chkE l else if lowK l key = l.length then 6 else 0
def lowAt (l : List Ent) (key : Int) : Nat := if lowE l key = 0 then (inord l.length 0).getD (lowK l key) 0 else 0
theorem inL_pairs {l : List Ent} (h : rises ((inL l).map Ent.key) = true) (key : Int) : (inord l.length 0).Pairwise (fun a b => belowT l key b = true → belowT l key a = true) := by
  unfold rises at h
  have h := of_decide_eq_true h
  unfold inL at h
  rw [List.map_map] at h
  have h2 := List.pairwise_map.1 h
  refine h2.imp fun {a b} hab => ?_
  intro hb
  unfold belowT at hb ⊢
  have hb := of_decide_eq_true hb
  exact decide_eq_true (Int.lt_trans hab hb)
theorem lowK_le (l : List Ent) (key : Int) : lowK l key ≤ l.length := by
  have : (inord l.length 0).countP (belowT l key) ≤ (inord l.length 0).length := List.countP_le_length
  rw [inord_length] at this
  exact this

theorem not_u64 (m : Nat) (hm : m < 18446744073709551616) : bits BinOp.xor IntKind.u64 IntKind.u64.max (m : Int) = ((18446744073709551615 - m : Nat) : Int) := by
  have h1 : IntKind.u64.max = ((18446744073709551615 : Nat) : Int) := rfl
  rw [h1, bits_xor_u64_nat _ _ (by omega) hm]
  congr 1
  refine Nat.eq_of_testBit_eq fun i => ?_
  have h2 := Nat.testBit_two_pow_sub_succ (n := 64) (x := m) (by simpa using hm) i
  have h3 := Nat.testBit_two_pow_sub_one 64 i
  rw [Nat.testBit_xor]
  rw [show (2 : Nat) ^ 64 - 1 = 18446744073709551615 by rfl] at h3
  rw [show (2 : Nat) ^ 64 - (m + 1) = 18446744073709551615 - m by omega] at h2
  rw [h3, h2]
  by_cases hi : i < 64
  · simp [hi]
  · have : m.testBit i = false := Nat.testBit_lt_two_pow (Nat.lt_of_lt_of_le hm (by rw [show (18446744073709551616 : Nat) = 2 ^ 64 by rfl]; exact Nat.pow_le_pow_right (by omega) (by omega)))
    simp [hi, this]

end Go.Proofs.Ytokomclcgegfkaa
