/- Contracts: pairs and answers that are the same. -/
import Derived.Test.YtibgpghlnfcilaaMp
import Derived.BigQuiet
namespace Go.Proofs.Ytibgpghlnfcilaa
open Go Go.RowKit
set_option maxRecDepth 100000

deriving instance DecidableEq for Answ
theorem pr_stood : Try.prog.stoodInHeld 23 = false := by kernel_rfl
theorem pr_guard : Try.prog.eqGuardType Try.prog.depth 23 = false := by kernel_rfl
def neP (a b : Pr) : Bool := decide (a ≠ b)
theorem run_neq_pr (a b : Pr) (w : World) :
    (binOp .neq 23 (.agg #[.int .i64 a.key, .int .i64 a.val]) (.agg #[.int .i64 b.key, .int .i64 b.val])).run Try.prog w = .ok (.bool (neP a b)) w := by
  have h1 := pr_stood
  have h2 := pr_guard
  have h3 := Try.underlying23
  obtain ⟨k, v⟩ := a
  obtain ⟨k', v'⟩ := b
  simp only [go_sem, h1, h2, h3]
  simp [go_sem, neP]
  by_cases hk : k = k' <;> by_cases hv : v = v' <;> simp [hk, hv]

set_option maxRecDepth 100000 in
set_option maxHeartbeats 1000000 in
theorem samePairs_any (A B : Option Addr) (l m : List Pr) (c d : Nat) (w : World) (hA : Sl w A (l.flatMap Pr.cells)) (hB : Sl w B (m.flatMap Pr.cells)) (hl : l.length ≤ 4611686018427387903) (hm : m.length ≤ 4611686018427387903) :
    Calls Try.prog 18 #[.slice A l.length c, .slice B m.length d] w fun r w' => r = .returned (.bool (decide (l = m))) ∧ Below w.heap.size w w' := by
  by_cases hlen : l.length = m.length
  · have hz : ((l.length : Int) != (m.length : Int)) = false := by simp [hlen]
    have hz2 : (l.length : Int) ≤ (m.length : Int) := by omega
    have HL := Lib.hid hlen
    clear hlen
    go_enter Try.func18, Try.ntmps18
    go_wp2
    go_loopw [5] (fun i wr => ∃ k : Nat, k ≤ l.length ∧ i = .int .i64 k ∧ Below w.heap.size w wr ∧ Hid (l.take k = m.take k)) (fun i _ => l.length - (intOf i).toNat)
    case atStart => exact ⟨0, Nat.zero_le _, rfl, Below.refl _ _, rfl⟩
    case round =>
      obtain ⟨k, hk, rfl, hb, hn⟩ := hrel
      by_cases hlt : k < l.length
      · have hlt2 : k < m.length := by omega
        obtain ⟨b, off, rfl, hbl, c1, c2⟩ := hA.prB hb k hlt
        obtain ⟨b', off', rfl, hbl', d1, d2⟩ := hB.prB hb k hlt2
        have i0 : (0 : Int) ≤ (k : Int) := by omega
        have i1 : (k : Int) < (l.length : Int) := by omega
        have i2 : (k : Int) < (m.length : Int) := by omega
        clear hA hB
        have hne := fun w => run_neq_pr (l[k]'hlt) (m[k]'hlt2) w
        have hgu := pr_guard
        go_wp2
        go_quiet (fail)
        clear hne hgu
        go_wp2
        · have hx : neP (l[k]'hlt) (m[k]'hlt2) = true := by assumption
          go_ret
          refine ⟨ret_bool ?_, bdrew hb _⟩
          symm
          rw [decide_eq_false_iff_not]
          rintro rfl
          simp [neP] at hx
        · have hx : neP (l[k]'hlt) (m[k]'hlt2) = false := by assumption
          go_roundw
          case rel =>
            refine ⟨k + 1, by omega, by go_num, bdrew hb _, ?_⟩
            show _ = _
            rw [List.take_succ_eq_append_getElem hlt, List.take_succ_eq_append_getElem hlt2, hn.out]
            simp [neP] at hx
            rw [hx]
          case measure => simp [intOf]; omega
      · go_wp2
        go_ret
        refine ⟨ret_bool ?_, hb⟩
        have := hn.out
        rw [List.take_of_length_le (by omega), List.take_of_length_le (by have := HL.out; omega)] at this
        rw [this, decide_eq_true rfl]
  · have hz : ((l.length : Int) != (m.length : Int)) = true := by simp; omega
    have HL := Lib.hid hlen
    clear hlen
    go_enter Try.func18, Try.ntmps18
    go_wp2
    go_ret
    refine ⟨ret_bool ?_, Below.refl _ _⟩
    symm
    rw [decide_eq_false_iff_not]
    rintro rfl
    exact HL.out rfl

def eqP (a b : Pr) : Bool := decide (a = b)
theorem run_eq_pr (a b : Pr) (w : World) :
    (binOp .eql 23 (.agg #[.int .i64 a.key, .int .i64 a.val]) (.agg #[.int .i64 b.key, .int .i64 b.val])).run Try.prog w = .ok (.bool (eqP a b)) w := by
  have h1 := pr_stood
  have h2 := pr_guard
  have h3 := Try.underlying23
  obtain ⟨k, v⟩ := a
  obtain ⟨k', v'⟩ := b
  simp only [go_sem, h1, h2, h3]
  simp [go_sem, eqP]
  by_cases hk : k = k' <;> by_cases hv : v = v' <;> simp [hk, hv]
set_option maxRecDepth 100000 in
set_option maxHeartbeats 1000000 in
theorem equal_any (A B : Option Addr) (l m : List Pr) (c d : Nat) (w : World) (hA : Sl w A (l.flatMap Pr.cells)) (hB : Sl w B (m.flatMap Pr.cells)) (hl : l.length ≤ 4611686018427387903) (hm : m.length ≤ 4611686018427387903) :
    Calls Try.prog 33 #[.slice A l.length c, .slice B m.length d] w fun r w' => r = .returned (.bool (decide (l = m))) ∧ Below w.heap.size w w' := by
  by_cases hlen : l.length = m.length
  · have hz : ((l.length : Int) != (m.length : Int)) = false := by simp [hlen]
    have hz2 : (l.length : Int) ≤ (m.length : Int) := by omega
    have HL := Lib.hid hlen
    clear hlen
    go_enter Try.func33, Try.ntmps33
    go_wp2
    go_loopw [13] (fun i wr => ∃ k : Nat, k ≤ l.length ∧ i = .int .i64 k ∧ Below w.heap.size w wr ∧ Hid (l.take k = m.take k)) (fun i _ => l.length - (intOf i).toNat)
    case atStart => exact ⟨0, Nat.zero_le _, rfl, Below.refl _ _, rfl⟩
    case round =>
      obtain ⟨k, hk, rfl, hb, hn⟩ := hrel
      by_cases hlt : k < l.length
      · have hlt2 : k < m.length := by omega
        obtain ⟨b, off, rfl, hbl, c1, c2⟩ := hA.prB hb k hlt
        obtain ⟨b', off', rfl, hbl', d1, d2⟩ := hB.prB hb k hlt2
        have i0 : (0 : Int) ≤ (k : Int) := by omega
        have i1 : (k : Int) < (l.length : Int) := by omega
        have i2 : (k : Int) < (m.length : Int) := by omega
        clear hA hB
        have hne := fun w => run_neq_pr (l[k]'hlt) (m[k]'hlt2) w
        have hgu := pr_guard
        go_wp2
        go_quiet (fail)
        clear hne hgu
        go_wp2
        · have hx : neP (l[k]'hlt) (m[k]'hlt2) = true := by assumption
          go_ret
          refine ⟨ret_bool ?_, bdrew hb _⟩
          symm
          rw [decide_eq_false_iff_not]
          rintro rfl
          simp [neP] at hx
        · have hx : neP (l[k]'hlt) (m[k]'hlt2) = false := by assumption
          go_roundw
          case rel =>
            refine ⟨k + 1, by omega, by go_num, bdrew hb _, ?_⟩
            show _ = _
            rw [List.take_succ_eq_append_getElem hlt, List.take_succ_eq_append_getElem hlt2, hn.out]
            simp [neP] at hx
            rw [hx]
          case measure => simp [intOf]; omega
      · go_wp2
        go_ret
        refine ⟨ret_bool ?_, hb⟩
        have := hn.out
        rw [List.take_of_length_le (by omega), List.take_of_length_le (by have := HL.out; omega)] at this
        rw [this, decide_eq_true rfl]
  · have hz : ((l.length : Int) != (m.length : Int)) = true := by simp; omega
    have HL := Lib.hid hlen
    clear hlen
    go_enter Try.func33, Try.ntmps33
    go_wp2
    go_ret
    refine ⟨ret_bool ?_, Below.refl _ _⟩
    symm
    rw [decide_eq_false_iff_not]
    rintro rfl
    exact HL.out rfl

set_option maxHeartbeats 1600000 in
theorem sameAns_any (a b : Answ) (A B : Option Addr) (c d : Nat) (w : World) (hA : Sl w A (a.pairs.flatMap Pr.cells)) (hB : Sl w B (b.pairs.flatMap Pr.cells)) (hl : a.pairs.length ≤ 4611686018427387903) (hm : b.pairs.length ≤ 4611686018427387903) :
    Calls Try.prog 20 #[.agg #[.int .i64 a.pair.key, .int .i64 a.pair.val, .int .i64 a.n, .slice A a.pairs.length c], .agg #[.int .i64 b.pair.key, .int .i64 b.pair.val, .int .i64 b.n, .slice B b.pairs.length d]] w fun r w' => r = .returned (.bool (decide (a = b))) ∧ Below w.heap.size w w' := by
  obtain ⟨p, n, l⟩ := a
  obtain ⟨p', n', l'⟩ := b
  dsimp only at hA hB hl hm ⊢
  have hgu := pr_guard
  have hab : decide ((⟨p, n, l⟩ : Answ) = ⟨p', n', l'⟩) = (eqP p p' && (decide (n = n') && decide (l = l'))) := by simp [eqP]
  rw [hab]
  clear hab
  by_cases h2 : n = n'
  · subst h2
    rw [decide_eq_true rfl]
    have heq := fun w => run_eq_pr p p' w
    have hb0 : Below w.heap.size w ((w.alloc (.cells #[.int .i64 p.key, .int .i64 p.val, .int .i64 n, .slice A l.length c] 30)).alloc (.cells #[.int .i64 p'.key, .int .i64 p'.val, .int .i64 n, .slice B l'.length d] 30)) := ((Below.refl _ _).alloc (Nat.le_refl _) _).alloc (by simp) _
    cases e1 : eqP p p'
    · rw [e1] at heq
      go_enter Try.func20, Try.ntmps20
      go_wp2
      go_ret
      exact ⟨rfl, hb0⟩
    · rw [e1] at heq
      clear e1
      go_enter Try.func20, Try.ntmps20
      go_wp2_with (go_at_call 33; refine (equal_any A B l l' c d _ (hA.below hb0) (hB.below hb0) hl hm).mono ?_; rintro e w1 ⟨rfl, hb1⟩)
      go_ret
      exact ⟨rfl, bext hb0 hb1⟩
  · rw [decide_eq_false h2]
    have heq := fun w => run_eq_pr p p' w
    have hb0 : Below w.heap.size w ((w.alloc (.cells #[.int .i64 p.key, .int .i64 p.val, .int .i64 n, .slice A l.length c] 30)).alloc (.cells #[.int .i64 p'.key, .int .i64 p'.val, .int .i64 n', .slice B l'.length d] 30)) := ((Below.refl _ _).alloc (Nat.le_refl _) _).alloc (by simp) _
    cases e1 : eqP p p'
    · rw [e1] at heq
      go_enter Try.func20, Try.ntmps20
      go_wp2
      go_ret
      exact ⟨rfl, hb0⟩
    · rw [e1] at heq
      clear e1
      go_enter Try.func20, Try.ntmps20
      go_wp2
      go_ret
      exact ⟨rfl, hb0⟩
end Go.Proofs.Ytibgpghlnfcilaa
