/- Contracts: the references' comparing of answers and operations. -/
import Derived.Test.YtibgpghlnfcilaaMs
import Derived.Test.YtibgpghlnfcilaaSb
import Derived.Test.YtibgpghlnfcilaaPr2
namespace Go.Proofs.Ytibgpghlnfcilaa
open Go Go.RowKit
set_option maxRecDepth 100000

set_option maxHeartbeats 1600000 in
theorem refSameAns_any (a b : Answ) (A B : Option Addr) (c d : Nat) (w : World) (hA : Sl w A (a.pairs.flatMap Pr.cells)) (hB : Sl w B (b.pairs.flatMap Pr.cells)) (hl : a.pairs.length ≤ 4611686018427387903) (hm : b.pairs.length ≤ 4611686018427387903) :
    Calls Try.prog 19 #[.agg #[.int .i64 a.pair.key, .int .i64 a.pair.val, .int .i64 a.n, .slice A a.pairs.length c], .agg #[.int .i64 b.pair.key, .int .i64 b.pair.val, .int .i64 b.n, .slice B b.pairs.length d]] w fun r w' => r = .returned (.bool (decide (a = b))) ∧ Below w.heap.size w w' := by
  obtain ⟨p, n, l⟩ := a
  obtain ⟨p', n', l'⟩ := b
  dsimp only at hA hB hl hm ⊢
  have hgu := pr_guard
  have hab : decide ((⟨p, n, l⟩ : Answ) = ⟨p', n', l'⟩) = (eqP p p' && (decide (n = n') && decide (l = l'))) := by simp [eqP]
  rw [hab]
  clear hab
  by_cases h2 : n = n'
  · subst h2
    rw [decide_eq_true rfl]
    have heq := fun w => run_eq_pr p p' w
    have hb0 : Below w.heap.size w ((w.alloc (.cells #[.int .i64 p.key, .int .i64 p.val, .int .i64 n, .slice A l.length c] 30)).alloc (.cells #[.int .i64 p'.key, .int .i64 p'.val, .int .i64 n, .slice B l'.length d] 30)) := ((Below.refl _ _).alloc (Nat.le_refl _) _).alloc (by simp) _
    cases e1 : eqP p p'
    · rw [e1] at heq
      go_enter Try.func19, Try.ntmps19
      go_wp2
      go_ret
      exact ⟨rfl, hb0⟩
    · rw [e1] at heq
      clear e1
      go_enter Try.func19, Try.ntmps19
      go_wp2_with (go_at_call 18; refine (samePairs_any A B l l' c d _ (hA.below hb0) (hB.below hb0) hl hm).mono ?_; rintro e w1 ⟨rfl, hb1⟩)
      go_ret
      exact ⟨rfl, bext hb0 hb1⟩
  · rw [decide_eq_false h2]
    have heq := fun w => run_eq_pr p p' w
    have hb0 : Below w.heap.size w ((w.alloc (.cells #[.int .i64 p.key, .int .i64 p.val, .int .i64 n, .slice A l.length c] 30)).alloc (.cells #[.int .i64 p'.key, .int .i64 p'.val, .int .i64 n', .slice B l'.length d] 30)) := ((Below.refl _ _).alloc (Nat.le_refl _) _).alloc (by simp) _
    cases e1 : eqP p p'
    · rw [e1] at heq
      go_enter Try.func19, Try.ntmps19
      go_wp2
      go_ret
      exact ⟨rfl, hb0⟩
    · rw [e1] at heq
      clear e1
      go_enter Try.func19, Try.ntmps19
      go_wp2
      go_ret
      exact ⟨rfl, hb0⟩

theorem room_any (A : Option Addr) (l : List Pr) (c : Nat) (most : Int) (w : World) : Calls Try.prog 49 #[.slice A l.length c, .int .i64 most] w fun r w' => r = .returned (.int .i64 (if most < l.length then 9 else 0)) ∧ Below w.heap.size w w' := by
  go_enter Try.func49, Try.ntmps49
  by_cases h : most < (l.length : Int)
  · go_wp2
    go_ret
    exact ⟨rfl, Below.refl _ _⟩
  · go_wp2
    go_ret
    exact ⟨rfl, Below.refl _ _⟩

set_option maxHeartbeats 1600000 in
/-- an operation is as itself -/
theorem sameOp_any (o : Opn) (A B : Option Addr) (c d : Nat) (w : World) (hA : Sl w A (o.pairs.flatMap Pr.cells)) (hB : Sl w B (o.pairs.flatMap Pr.cells)) (hl : o.pairs.length ≤ 4611686018427387903) :
    Calls Try.prog 21 #[.agg #[.int .u8 o.kind, .int .i64 o.key, .int .i64 o.val, .int .i64 o.to, .int .i64 o.n, .slice A o.pairs.length c], .agg #[.int .u8 o.kind, .int .i64 o.key, .int .i64 o.val, .int .i64 o.to, .int .i64 o.n, .slice B o.pairs.length d]] w fun r w' => r = .returned (.bool true) ∧ Below w.heap.size w w' := by
  have hb0 : Below w.heap.size w ((w.alloc (.cells #[.int .u8 o.kind, .int .i64 o.key, .int .i64 o.val, .int .i64 o.to, .int .i64 o.n, .slice A o.pairs.length c] 28)).alloc (.cells #[.int .u8 o.kind, .int .i64 o.key, .int .i64 o.val, .int .i64 o.to, .int .i64 o.n, .slice B o.pairs.length d] 28)) := ((Below.refl _ _).alloc (Nat.le_refl _) _).alloc (by simp) _
  go_enter Try.func21, Try.ntmps21
  go_wp2_with fail
  refine (samePairs_any A B o.pairs o.pairs c d _ (hA.below hb0) (hB.below hb0) hl hl).mono ?_
  rw [decide_eq_true rfl]
  rintro e w1 ⟨rfl, hb1⟩
  go_wp2
  go_ret
  exact ⟨rfl, bext hb0 hb1⟩
end Go.Proofs.Ytibgpghlnfcilaa
