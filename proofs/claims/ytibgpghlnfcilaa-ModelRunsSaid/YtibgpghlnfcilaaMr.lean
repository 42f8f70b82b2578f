/- Contracts: whether pairs rise, whether they may be a map's, and where keys stand. -/
import Derived.Test.YtibgpghlnfcilaaProg
import Derived.Test.YtibgpghlnfcilaaIter
import Derived.Test.YtibgpghlnfcilaaPm
import Derived.BigQuiet
namespace Go.Proofs.Ytibgpghlnfcilaa
open Go Go.RowKit
set_option maxRecDepth 100000

set_option maxHeartbeats 1000000 in
theorem rising_any (A : Option Addr) (l : List Pr) (c : Nat) (w : World) (hA : Sl w A (l.flatMap Pr.cells)) (hl : l.length ≤ 4611686018427387903) :
    Calls Try.prog 27 #[.slice A l.length c] w fun r w' => r = .returned (.bool (decide (Ris l))) ∧ Below w.heap.size w w' := by
  go_enter Try.func27, Try.ntmps27
  go_wp2
  go_loopw [3] (fun i wr => ∃ k : Nat, 1 ≤ k ∧ i = .int .i64 k ∧ Below w.heap.size w wr ∧ Hid (RiseTo (l.map Pr.key) k)) (fun i _ => l.length - (intOf i).toNat)
  case atStart => exact ⟨1, Nat.le_refl _, rfl, Below.refl _ _, RiseTo.start _⟩
  case round =>
    obtain ⟨k, hk, rfl, hb, hn⟩ := hrel
    by_cases hlt : k < l.length
    · obtain ⟨b, off, rfl, hbl, c1, c2⟩ := (hA.below hb).pr k hlt
      obtain ⟨b', off', e, _, d1, d2⟩ := (hA.below hb).pr (k - 1) (by omega)
      simp only [Option.some.injEq, Addr.mk.injEq] at e
      obtain ⟨rfl, rfl, _⟩ := e
      have i0 : (0 : Int) ≤ (k : Int) := by omega
      have i1 : (k : Int) < (l.length : Int) := by omega
      have i2 : (0 : Int) ≤ (k : Int) - 1 := by omega
      have i3 : (k : Int) - 1 < (l.length : Int) := by omega
      clear c2 d2 hA
      go_wp2
      go_quiet (fail)
      go_wp2
      · have hx : (l[k]'hlt).key ≤ (l[k - 1]'(by omega)).key := by assumption
        go_ret
        exact ⟨ret_bool (decide_eq_false (fun h => absurd (h.symm.trans (RiseTo.no (ks := keys l) hk (by simpa [keys] using hlt) (by simpa [keys] using hx))) (by simp))).symm, bdrew hb _⟩
      · have hx : (l[k - 1]'(by omega)).key < (l[k]'hlt).key := by assumption
        go_roundw
        case rel => exact ⟨k + 1, by omega, by go_num, bdrew hb _, hn.out.step hk (by simpa using hlt) (by simpa using hx)⟩
        case measure => simp [intOf]; omega
    · go_wp2
      go_ret
      exact ⟨ret_bool (decide_eq_true (show Ris l from hn.out.all (by simp; omega))).symm, hb⟩

set_option maxHeartbeats 1000000 in
theorem refRising_any (A : Option Addr) (l : List Pr) (c : Nat) (w : World) (hA : Sl w A (l.flatMap Pr.cells)) (hl : l.length ≤ 4611686018427387903) :
    Calls Try.prog 32 #[.slice A l.length c] w fun r w' => r = .returned (.bool (decide (Ris l))) ∧ Below w.heap.size w w' := by
  go_enter Try.func32, Try.ntmps32
  go_wp2
  go_loopw [3] (fun i wr => ∃ k : Nat, 1 ≤ k ∧ i = .int .i64 k ∧ Below w.heap.size w wr ∧ Hid (RiseTo (l.map Pr.key) k)) (fun i _ => l.length - (intOf i).toNat)
  case atStart => exact ⟨1, Nat.le_refl _, rfl, Below.refl _ _, RiseTo.start _⟩
  case round =>
    obtain ⟨k, hk, rfl, hb, hn⟩ := hrel
    by_cases hlt : k < l.length
    · obtain ⟨b, off, rfl, hbl, c1, c2⟩ := (hA.below hb).pr k hlt
      obtain ⟨b', off', e, _, d1, d2⟩ := (hA.below hb).pr (k - 1) (by omega)
      simp only [Option.some.injEq, Addr.mk.injEq] at e
      obtain ⟨rfl, rfl, _⟩ := e
      have i0 : (0 : Int) ≤ (k : Int) := by omega
      have i1 : (k : Int) < (l.length : Int) := by omega
      have i2 : (0 : Int) ≤ (k : Int) - 1 := by omega
      have i3 : (k : Int) - 1 < (l.length : Int) := by omega
      clear c2 d2 hA
      go_wp2
      go_quiet (fail)
      go_wp2
      · have hx : (l[k]'hlt).key ≤ (l[k - 1]'(by omega)).key := by assumption
        go_ret
        exact ⟨ret_bool (decide_eq_false (fun h => absurd (h.symm.trans (RiseTo.no (ks := keys l) hk (by simpa [keys] using hlt) (by simpa [keys] using hx))) (by simp))).symm, bdrew hb _⟩
      · have hx : (l[k - 1]'(by omega)).key < (l[k]'hlt).key := by assumption
        go_roundw
        case rel => exact ⟨k + 1, by omega, by go_num, bdrew hb _, hn.out.step hk (by simpa using hlt) (by simpa using hx)⟩
        case measure => simp [intOf]; omega
    · go_wp2
      go_ret
      exact ⟨ret_bool (decide_eq_true (show Ris l from hn.out.all (by simp; omega))).symm, hb⟩


set_option maxHeartbeats 1000000 in
theorem check_any (most : Int) (A : Option Addr) (l : List Pr) (c : Nat) (w : World) (hA : Sl w A (l.flatMap Pr.cells)) (hl : l.length ≤ 4611686018427387903) :
    Calls Try.prog 13 #[.int .i64 most, .slice A l.length c] w fun r w' => r = .returned (.int .i64 (checkE most l)) ∧ Below w.heap.size w w' := by
  have hb0 := Below.refl w.heap.size w
  go_enter Try.func13, Try.ntmps13
  by_cases h1 : most < 1
  · go_wp2
    go_ret
    exact ⟨ret_int (by unfold checkE; rw [if_pos (.inl h1)]), hb0⟩
  · by_cases h2 : 16384 < most
    · go_wp2
      go_ret
      exact ⟨ret_int (by unfold checkE; rw [if_pos (.inr h2)]), hb0⟩
    · by_cases h3 : most < (l.length : Int)
      · go_wp2
        go_ret
        exact ⟨ret_int (by unfold checkE; rw [if_neg (by omega), if_pos (.inl h3)]), hb0⟩
      · by_cases h4 : Ris l
        · have e4 : decide (Ris l) = true := decide_eq_true h4
          go_wp2_with (go_at_call 27; refine (rising_any A l c _ hA hl).mono ?_; rw [e4]; rintro e w1 ⟨rfl, hb1⟩)
          go_ret
          exact ⟨ret_int (by unfold checkE; rw [if_neg (by omega), if_neg (by simp [h4]; omega)]), hb1⟩
        · have e4 : decide (Ris l) = false := decide_eq_false h4
          go_wp2_with (go_at_call 27; refine (rising_any A l c _ hA hl).mono ?_; rw [e4]; rintro e w1 ⟨rfl, hb1⟩)
          go_ret
          exact ⟨ret_int (by unfold checkE; rw [if_neg (by omega), if_pos (.inr h4)]), hb1⟩

/-- the order of a pair's key and a key -/
def cmpK (p : Pr) (k : Int) : Int := if p.key < k then -1 else if k < p.key then 1 else 0
theorem cmpK_any (p : Pr) (k : Int) (w : World) :
    Calls Try.prog 41 #[.agg #[.int .i64 p.key, .int .i64 p.val], .int .i64 k] w fun r w' => r = .returned (.int .i64 (cmpK p k)) ∧ Below w.heap.size w w' := by
  have hb0 : Below w.heap.size w (w.alloc (.cells #[.int .i64 p.key, .int .i64 p.val] 23)) := (Below.refl _ _).alloc (Nat.le_refl _) _
  have hx0 : Blk (w.alloc (.cells #[.int .i64 p.key, .int .i64 p.val] 23)) w.heap.size 23 #[.int .i64 p.key, .int .i64 p.val] := Blk.new _ _ _
  have c0 : (w.alloc (.cells #[.int .i64 p.key, .int .i64 p.val] 23)).cell? ⟨w.heap.size, 0, none⟩ = some (.int .i64 p.key) := hx0.cell 0
  go_enter Try.func41, Try.ntmps41
  by_cases h1 : p.key < k
  · go_wp2
    go_ret
    exact ⟨ret_int (by unfold cmpK; rw [if_pos h1]), hb0⟩
  · by_cases h2 : k < p.key
    · go_wp2
      go_ret
      exact ⟨ret_int (by unfold cmpK; rw [if_neg (by omega), if_pos h2]), hb0⟩
    · go_wp2
      go_ret
      exact ⟨ret_int (by unfold cmpK; rw [if_neg (by omega), if_neg (by omega)]), hb0⟩

theorem cmpK_neg {p : Pr} {k : Int} : cmpK p k < 0 ↔ p.key < k := by unfold cmpK; split <;> (try split) <;> omega
theorem cmpK_zero {p : Pr} {k : Int} : cmpK p k = 0 ↔ p.key = k := by unfold cmpK; split <;> (try split) <;> omega

set_option maxHeartbeats 1600000 in
theorem search_any (A : Option Addr) (l : List Pr) (c : Nat) (key : Int) (w : World) (hA : Sl w A (l.flatMap Pr.cells)) (hl : l.length ≤ 4611686018427387903) (hr : Hid (Ris l)) :
    Calls Try.prog 40 #[.slice A l.length c, .int .i64 key, .func (.func 41) #[] #[]] w fun r w' =>
      r = .returned (.tuple #[.int .i64 (bel l key), .bool (has l key)]) ∧ Below w.heap.size w w' := by
  go_enter Try.func40, Try.ntmps40
  go_wp2
  go_loopw [9, 10] (fun i j wr => ∃ lo hi : Nat, i = .int .i64 lo ∧ j = .int .i64 hi ∧ lo ≤ hi ∧ hi ≤ l.length ∧ Below w.heap.size w wr ∧ lo ≤ bel l key ∧ bel l key ≤ hi) (fun i j _ => (intOf j).toNat - (intOf i).toNat)
  case atStart => exact ⟨0, l.length, rfl, rfl, Nat.zero_le _, Nat.le_refl _, Below.refl _ _, Nat.zero_le _, bel_le l key⟩
  case round =>
    obtain ⟨lo, hi, rfl, rfl, hlh, hin, hb, h1, h2⟩ := hrel
    by_cases hlt : lo < hi
    · obtain ⟨b, off, rfl, hbl, c1, c2⟩ := hA.prB hb ((lo + hi) / 2) (by omega)
      have hm : (lo + hi) / 2 < l.length := by omega
      obtain ⟨p, hp⟩ : ∃ p, l[(lo + hi) / 2]'hm = p := ⟨_, rfl⟩
      rw [hp] at c1 c2
      have hk := bel_iff hr.out key ((lo + hi) / 2) hm
      rw [hp] at hk
      have hc := Lib.hid (cmpK_any p key)
      have hneg := cmpK_neg (p := p) (k := key)
      clear hp hA
      by_cases hx : p.key < key
      · have hx2 := hneg.2 hx
        have hk2 := hk.1 hx
        clear hk hneg hx
        go_wp2_with (go_at_call 41; refine (hc.out _).mono ?_; rintro e w1 ⟨rfl, hb1⟩)
        go_roundw
        case rel => exact ⟨(lo + hi) / 2 + 1, hi, by rw [show ((lo : Int) + (hi : Int)) / 2 + 1 = (((lo + hi) / 2 + 1 : Nat) : Int) by omega], rfl, by omega, hin, bext hb hb1, by omega, h2⟩
        case measure => simp [intOf]; omega
      · have hx2 := mt hneg.1 hx
        have hk2 := mt hk.2 hx
        clear hk hneg hx
        go_wp2_with (go_at_call 41; refine (hc.out _).mono ?_; rintro e w1 ⟨rfl, hb1⟩)
        go_roundw
        case rel => exact ⟨lo, (lo + hi) / 2, rfl, by rw [show ((lo : Int) + (hi : Int)) / 2 = (((lo + hi) / 2 : Nat) : Int) by omega], by omega, by omega, bext hb hb1, h1, by omega⟩
        case measure => simp [intOf]; omega
    · have hlo := Lib.hid (show lo = bel l key by omega)
      by_cases hn : lo < l.length
      · obtain ⟨b, off, rfl, hbl, c1, c2⟩ := hA.prB hb lo hn
        obtain ⟨p, hp⟩ : ∃ p, l[lo]'hn = p := ⟨_, rfl⟩
        rw [hp] at c1 c2
        have hc := Lib.hid (cmpK_any p key)
        have hz := cmpK_zero (p := p) (k := key)
        have hh : Hid (has l key = decide (cmpK p key = 0)) := Lib.hid (by
          rw [Bool.eq_iff_iff, decide_eq_true_iff, has_iff hr.out, hz, ← hp]
          have e := hlo.out
          subst e
          exact ⟨fun ⟨_, h⟩ => h, fun h => ⟨hn, h⟩⟩)
        clear hp hA hz
        go_wp2_with (go_at_call 41; refine (hc.out _).mono ?_; rintro e w1 ⟨rfl, hb1⟩)
        go_ret2
        refine ⟨?_, bext hb hb1⟩
        rw [hh.out, hlo.out]; rfl
      · have hh : Hid (has l key = false) := Lib.hid (by
          rw [Bool.eq_false_iff, Ne, has_iff hr.out]
          rintro ⟨h, _⟩
          omega)
        go_wp2
        go_ret2
        refine ⟨?_, hb⟩
        rw [hh.out, hlo.out]; rfl

theorem rank_any (A : Option Addr) (l : List Pr) (c : Nat) (key : Int) (w : World) (hA : Sl w A (l.flatMap Pr.cells)) (hl : l.length ≤ 4611686018427387903) (hr : Hid (Ris l)) :
    Calls Try.prog 35 #[.slice A l.length c, .int .i64 key] w fun r w' => r = .returned (.tuple #[.int .i64 (bel l key), .bool (has l key)]) ∧ Below w.heap.size w w' := by
  go_enter Try.func35, Try.ntmps35
  go_wp2_with (go_at_call 40; refine (search_any A l c key _ hA hl hr).mono ?_; rintro e w1 ⟨rfl, hb1⟩)
  go_ret2
  exact ⟨rfl, hb1⟩

theorem up_any (A : Option Addr) (l : List Pr) (c : Nat) (key : Int) (w : World) (hA : Sl w A (l.flatMap Pr.cells)) (hl : l.length ≤ 4611686018427387903) (hr : Hid (Ris l)) :
    Calls Try.prog 36 #[.slice A l.length c, .int .i64 key] w fun r w' => r = .returned (.int .i64 (upk l key)) ∧ Below w.heap.size w w' := by
  have hu := Lib.hid (upk_has hr.out key)
  have hle := bel_le l key
  go_enter Try.func36, Try.ntmps36
  by_cases hh : has l key = true
  · go_wp2_with (go_at_call 35; refine (rank_any A l c key _ hA hl hr).mono ?_; rw [hh]; rintro e w1 ⟨rfl, hb1⟩)
    go_ret
    refine ⟨?_, hb1⟩
    rw [hu.out, if_pos hh]
    exact ret_int (by omega)
  · have hf : has l key = false := by simpa using hh
    go_wp2_with (go_at_call 35; refine (rank_any A l c key _ hA hl hr).mono ?_; rw [hf]; rintro e w1 ⟨rfl, hb1⟩)
    go_ret
    refine ⟨?_, hb1⟩
    rw [hu.out, hf]
    exact ret_int (by simp)
end Go.Proofs.Ytibgpghlnfcilaa
