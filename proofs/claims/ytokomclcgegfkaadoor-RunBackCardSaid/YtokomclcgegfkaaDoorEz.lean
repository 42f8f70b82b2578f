/- Contracts: what entries may be, whether keys rise (bound.fair, bound.rising and what they call). -/
import Derived.Test.YtokomclcgegfkaaDoorProg
import Derived.Test.YtokomclcgegfkaaDoorLib
namespace Go.Proofs.YtokomclcgegfkaaDoor
open Go Go.RowKit
set_option maxRecDepth 100000

theorem ent_stood : Tryd.prog.stoodInHeld 29 = false := by kernel_rfl
theorem ent_guard : Tryd.prog.eqGuardType Tryd.prog.depth 29 = false := by kernel_rfl
def neE (a b : Ent) : Bool := decide (a ≠ b)
theorem run_neq_ent (a b : Ent) (w : World) :
    (binOp .neq 29 (.agg #[.int .i64 a.key, .int .i64 a.val, .bool a.dead]) (.agg #[.int .i64 b.key, .int .i64 b.val, .bool b.dead])).run Tryd.prog w = .ok (.bool (neE a b)) w := by
  have h1 := ent_stood
  have h2 := ent_guard
  have h3 := Tryd.underlying29
  obtain ⟨k, v, d⟩ := a
  obtain ⟨k', v', d'⟩ := b
  simp only [go_sem, h1, h3]
  simp [go_sem, neE]
  by_cases hk : k = k' <;> by_cases hv : v = v' <;> by_cases hd : d = d' <;> simp [hk, hv, hd]

def badEnt (e : Ent) : Bool := e.dead && (e.val != 0)

set_option maxHeartbeats 400000 in
theorem fair1_any (e : Ent) (w : World) :
    Calls Tryd.prog 88 #[.agg #[.int .i64 e.key, .int .i64 e.val, .bool e.dead]] w fun r w' => r = .returned (.bool (badEnt e)) ∧ Below w.heap.size w w' := by
  obtain ⟨k, v, d⟩ := e
  cases d
  · go_enter Tryd.func88, Tryd.ntmps88
    go_wp2
    go_ret
    exact ⟨rfl, (Below.refl _ _).alloc (Nat.le_refl _) _⟩
  · go_enter Tryd.func88, Tryd.ntmps88
    go_wp2
    go_ret
    exact ⟨rfl, (Below.refl _ _).alloc (Nat.le_refl _) _⟩

set_option maxHeartbeats 400000 in
theorem indexFair_any (A : Option Addr) (l : List Ent) (c : Nat) (w : World) (hA : Sl w A (l.flatMap Ent.cells)) (hl : l.length ≤ 4611686018427387903) :
    Calls Tryd.prog 101 #[.slice A l.length c, .func (.func 88) #[] #[]] w
      fun r w' => (∃ n : Int, r = .returned (.int .i64 n) ∧ decide (n ≥ 0) = l.any badEnt) ∧ Below w.heap.size w w' := by
  go_enter Tryd.func101, Tryd.ntmps101
  go_wp2
  go_loopw [8] (fun i wr => ∃ k : Nat, k ≤ l.length ∧ i = .int .i64 k ∧ Below w.heap.size w wr ∧ (l.take k).any badEnt = false) (fun i _ => l.length - (intOf i).toNat)
  case atStart => exact ⟨0, Nat.zero_le _, rfl, Below.refl _ _, rfl⟩
  case round =>
    obtain ⟨k, hk, rfl, hb, hn⟩ := hrel
    by_cases hlt : k < l.length
    · obtain ⟨b, off, rfl, hbl, c1, c2, c3⟩ := (hA.below hb).ent k hlt
      go_wp2_with (go_at_call 88; refine (fair1_any (l[k]'hlt) _).mono ?_; rintro e w1 ⟨rfl, hb1⟩)
      · have hbad : badEnt (l[k]'hlt) = true := by assumption
        go_ret
        refine ⟨⟨(k : Int), rfl, ?_⟩, hb.trans (hb1.mono hb.size)⟩
        rw [List.any_eq_true.2 ⟨_, List.getElem_mem hlt, hbad⟩]
        simp
      · have hbad : badEnt (l[k]'hlt) = false := by assumption
        go_roundw
        case rel => exact ⟨k + 1, by omega, by go_num, hb.trans (hb1.mono hb.size), by rw [List.take_succ_eq_append_getElem hlt, List.any_append, hn]; simp [hbad]⟩
        case measure => simp [intOf]; omega
    · go_wp2
      go_ret
      refine ⟨⟨-1, rfl, ?_⟩, hb⟩
      rw [List.take_of_length_le (by omega)] at hn
      rw [hn]; rfl

set_option maxHeartbeats 400000 in
theorem containsFair_any (A : Option Addr) (l : List Ent) (c : Nat) (w : World) (hA : Sl w A (l.flatMap Ent.cells)) (hl : l.length ≤ 4611686018427387903) :
    Calls Tryd.prog 87 #[.slice A l.length c, .func (.func 88) #[] #[]] w
      fun r w' => r = .returned (.bool (l.any badEnt)) ∧ Below w.heap.size w w' := by
  go_enter Tryd.func87, Tryd.ntmps87
  go_wp2_with (go_at_call 101; refine (indexFair_any A l c _ hA hl).mono ?_; rintro e w1 ⟨⟨n, rfl, hn⟩, hb⟩; have hH := Lib.hid hn; clear hn)
  go_ret
  exact ⟨ret_bool (by rw [← hH.out]), hb⟩

def fairE (l : List Ent) : Int := if l.length > 65536 then 4 else if l.any badEnt then 8 else 0

set_option maxHeartbeats 400000 in
theorem fair_any (A : Option Addr) (l : List Ent) (c : Nat) (w : World) (hA : Sl w A (l.flatMap Ent.cells)) (hl : l.length ≤ 4611686018427387903) :
    Calls Tryd.prog 59 #[.slice A l.length c] w fun r w' => r = .returned (.int .i64 (fairE l)) ∧ Below w.heap.size w w' := by
  by_cases h1 : l.length > 65536
  · go_enter Tryd.func59, Tryd.ntmps59
    go_wp2
    go_ret
    exact ⟨ret_int (by unfold fairE; rw [if_pos h1]), Below.refl _ _⟩
  · go_enter Tryd.func59, Tryd.ntmps59
    go_wp2_with (go_at_call 87; refine (containsFair_any A l c _ hA hl).mono ?_; rintro e w1 ⟨rfl, hb⟩)
    · have h2 : l.any badEnt = true := by assumption
      go_ret
      exact ⟨ret_int (by unfold fairE; rw [if_neg h1, if_pos h2]), hb⟩
    · have h2 : l.any badEnt = false := by assumption
      go_ret
      exact ⟨ret_int (by unfold fairE; rw [if_neg h1, h2]; rfl), hb⟩

def riseE (l : List Ent) : Int := if rises (l.map Ent.key) then 0 else 130

set_option maxHeartbeats 1000000 in
theorem rising_any (A : Option Addr) (l : List Ent) (c : Nat) (w : World) (hA : Sl w A (l.flatMap Ent.cells)) (hl : l.length ≤ 4611686018427387903) :
    Calls Tryd.prog 60 #[.slice A l.length c] w fun r w' => r = .returned (.int .i64 (riseE l)) ∧ Below w.heap.size w w' := by
  go_enter Tryd.func60, Tryd.ntmps60
  go_wp2
  go_loopw [3] (fun i wr => ∃ k : Nat, 1 ≤ k ∧ i = .int .i64 k ∧ Below w.heap.size w wr ∧ Hid (RiseTo (l.map Ent.key) k)) (fun i _ => l.length - (intOf i).toNat)
  case atStart => exact ⟨1, Nat.le_refl _, rfl, Below.refl _ _, RiseTo.start _⟩
  case round =>
    obtain ⟨k, hk, rfl, hb, hn⟩ := hrel
    by_cases hlt : k < l.length
    · obtain ⟨b, off, rfl, hbl, c1, c2, c3⟩ := (hA.below hb).ent k hlt
      obtain ⟨b', off', e, _, d1, d2, d3⟩ := (hA.below hb).ent (k - 1) (by omega)
      simp only [Option.some.injEq, Addr.mk.injEq] at e
      obtain ⟨rfl, rfl, _⟩ := e
      have i0 : (0 : Int) ≤ (k : Int) := by omega
      have i1 : (k : Int) < (l.length : Int) := by omega
      have i2 : (0 : Int) ≤ (k : Int) - 1 := by omega
      have i3 : (k : Int) - 1 < (l.length : Int) := by omega
      clear c2 c3 d2 d3 hA
      go_wp2
      go_quiet (fail)
      go_wp2
      · have hx : (l[k]'hlt).key ≤ (l[k - 1]'(by omega)).key := by assumption
        go_ret
        refine ⟨ret_int ?_, bdrew hb _⟩
        unfold riseE
        rw [RiseTo.no hk (by simpa using hlt) (by simpa using hx)]
        rfl
      · have hx : (l[k - 1]'(by omega)).key < (l[k]'hlt).key := by assumption
        go_roundw
        case rel => exact ⟨k + 1, by omega, by go_num, bdrew hb _, hn.out.step hk (by simpa using hlt) (by simpa using hx)⟩
        case measure => simp [intOf]; omega
    · go_wp2
      go_ret
      refine ⟨ret_int ?_, hb⟩
      unfold riseE
      rw [hn.out.all (by simp; omega)]
      rfl
end Go.Proofs.YtokomclcgegfkaaDoor
