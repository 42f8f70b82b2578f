/- Nb Rx: texts of the claim, in this order. -/
import Derived.Test.YtolclahkfmplfaaGreatDoorWn7
import Derived.Test.YtolclahkfmplfaaGreatDoorWn5
import Derived.Test.YtolclahkfmplfaaGreatDoorWn6
import Derived.Test.YtolclahkfmplfaaGreatDoorWn3
import Derived.Test.YtolclahkfmplfaaGreatDoorWg5
import Derived.Test.YtolclahkfmplfaaGreatDoorWg9
/- Contracts of the calls of the law LadderNames. -/
namespace Go.Proofs.YtolclahkfmplfaaGreatDoor
open Go Go.RowKit
set_option maxRecDepth 100000
theorem pm_len {R : List Rm} {A : List Ent} (h : PM (lvs R) A) : R.length ≤ 1000000 := by
  have := h.may.len
  rw [lvs_len] at this
  omega
theorem pm_tot {L : Lv} {A : List Ent} (h : PM L A) (hl : A.length ≤ 8) : tot L ≤ 300 := by
  have := h.size
  omega
theorem pm_lv {R : List Rm} {L : Lv} {A : List Ent} (h : lvs R = L) (hp : PM L A) : PM (lvs R) A := h ▸ hp
theorem mk9 (W : World) : (Instr.makeSlice 41 (.int .i64 9) (.int .i64 9)).run Tryz.prog W = .ok (.slice (some ⟨W.heap.size, 0, none⟩) 9 9) (W.alloc (.cells #[.int .i64 0, .int .i64 0, .int .i64 0, .int .i64 0, .int .i64 0, .int .i64 0, .int .i64 0, .int .i64 0, .int .i64 0, .int .i64 0, .int .i64 0, .int .i64 0, .int .i64 0, .int .i64 0, .int .i64 0, .int .i64 0, .int .i64 0, .int .i64 0] 40)) := by
  obtain ⟨ti0, hi, hz0, hz1, hz2⟩ := info_parts pr_info
  have h := run_make_rowN (P := Tryz.prog) 41 40 ti0 _ Tryz.underlying41 hi hz0 9 (by rw [hz2]; omega) (by omega) W
  rw [hz1, show madeCells (Value.agg #[Value.int IntKind.i64 0, Value.int IntKind.i64 0]).cells (9 * 2) = #[.int .i64 0, .int .i64 0, .int .i64 0, .int .i64 0, .int .i64 0, .int .i64 0, .int .i64 0, .int .i64 0, .int .i64 0, .int .i64 0, .int .i64 0, .int .i64 0, .int .i64 0, .int .i64 0, .int .i64 0, .int .i64 0, .int .i64 0, .int .i64 0] from by first | rfl | kernel_rfl | (simp [madeCells, Value.cells]; done)] at h
  exact h
theorem mk1 (W : World) : (Instr.makeSlice 24 (.int .i64 1) (.int .i64 1)).run Tryz.prog W = .ok (.slice (some ⟨W.heap.size, 0, none⟩) 1 1) (W.alloc (.cells #[.slice none 0 0] 49)) := by
  obtain ⟨ti0, hi, hz0, hz1, hz2⟩ := info_parts run_info1
  have h := run_make_rowN (P := Tryz.prog) 24 49 ti0 _ Tryz.underlying24 hi hz0 1 (by rw [hz2]; omega) (by omega) W
  rw [hz1, show madeCells (Value.agg #[Value.slice none 0 0]).cells (1 * 1) = #[.slice none 0 0] from by first | rfl | kernel_rfl | (simp [madeCells, Value.cells]; done)] at h
  exact h
section
variable {c z : Cfg} {B : Option Addr} {R : List Rm} {k : Nat} {n : Int}
theorem nm_put {j : Nat} (hc : c = chap) (h : PM (lvs R) (puts j)) (hj : j < 8) : ∃ L2 N2, PM L2 (puts (j + 1)) ∧ ∀ W, RunsAt W B R → TabAt 1 Lib.deBruijn64tab W → Calls Tryz.prog 6 #[.agg (lrow c B R.length k n), .int .i64 (j : Int), .int .i64 7] W (GivesLd c L2 N2 0 W) := by
  subst hc
  obtain ⟨h1, h2⟩ := puts_put h hj n
  refine ⟨_, upN (putE0 chap (lvs R) (j : Int)) (lvs R) n (putY (j : Int) 7), h2, fun W hW hT => ?_⟩
  have h4 := pm_tot h (by rw [puts_len]; omega)
  have h3 := putD_any B R k chap n (j : Int) 7 W hW (by omega) (pm_len h) hT
  rw [h1] at h3
  exact h3
theorem nm_full (hc : c = chap) (hz : z = cz) (h : PM (lvs R) (puts 8)) (W : World) (hW : RunsAt W B R) (hT : TabAt 1 Lib.deBruijn64tab W) : Calls Tryz.prog 6 #[.agg (lrow c B R.length k n), .int .i64 8, .int .i64 1] W (GivesLd z [] 0 9 W) := by
  subst hc hz
  obtain ⟨h1, h2, h5⟩ := m_full h n 1
  have h4 := pm_tot h (by decide)
  have h3 := putD_any B R k chap n 8 1 W hW (by omega) (pm_len h) hT
  rw [h1, h2, h5] at h3
  exact h3
theorem nm_x (hc : c = chap) (h : PM (lvs R) (puts 8)) : ∃ L2 N2, PM L2 xA ∧ ∀ W, RunsAt W B R → TabAt 1 Lib.deBruijn64tab W → Calls Tryz.prog 6 #[.agg (lrow c B R.length k n), .int .i64 7, .int .i64 1] W (GivesLd c L2 N2 0 W) := by
  subst hc
  obtain ⟨h1, h2⟩ := x_put h n
  refine ⟨_, upN (putE0 chap (lvs R) 7) (lvs R) n (putY 7 1), h2, fun W hW hT => ?_⟩
  have h4 := pm_tot h (by decide)
  have h3 := putD_any B R k chap n 7 1 W hW (by omega) (pm_len h) hT
  rw [h1] at h3
  exact h3
theorem nm_gone (hc : c = chap) (hz : z = cz) (h : PM (lvs R) (puts 8)) (W : World) (hW : RunsAt W B R) (hT : TabAt 1 Lib.deBruijn64tab W) : Calls Tryz.prog 7 #[.agg (lrow c B R.length k n), .int .i64 8] W (GivesLd z [] 0 6 W) := by
  subst hc hz
  obtain ⟨h1, h2, h5⟩ := m_gone h n
  have h4 := pm_tot h (by decide)
  have h3 := delD_any B R k chap n 8 W hW (by omega) (pm_len h) hT
  rw [h1, h2, h5] at h3
  exact h3
theorem nm_range (hc : c = chap) (h : PM (lvs R) xA) : ∃ N2, ∀ W, RunsAt W B R → Calls Tryz.prog 8 #[.agg (lrow c B R.length k n), .int .i64 1, .int .i64 7] W (GivesLn c (newL yP) N2 7 0 W) := by
  subst hc
  obtain ⟨h1, h2⟩ := y_rg h n
  refine ⟨rgN chap (lvs R) n 1 7, fun W hW => ?_⟩
  have h4 := pm_tot h (by decide)
  have h3 := rangeD_any B R k chap n 1 7 W hW (by omega) (pm_len h) h4
  rw [h1, h2, h.err] at h3
  exact h3
theorem nm_load {A : Option Addr} {l : List Pr} {ca : Nat} {Q : List Ent} (hc : c = chap) (hz : z = cz) (h : PM (lvs R) Q) (hQ : Q.length ≤ 8) (hr : ¬ Ris l) (hl : l.length ≤ 100) (W : World) (hW : RunsAt W B R) (hA : Sl W A (l.flatMap Pr.cells)) : Calls Tryz.prog 9 #[.agg (lrow c B R.length k n), .slice A l.length ca] W (GivesLd z [] 0 130 W) := by
  subst hc hz
  obtain ⟨h1, h2, h5⟩ := lo_no h hr n
  have h4 := pm_tot h hQ
  have h3 := loadD_any B R k chap n A l ca W hW (by omega) (pm_len h) hA (by omega)
  rw [h1, h2, h5] at h3
  exact h3
theorem nm_merge (hc : c = chap) (hl : lvs R = newL yP) : ∃ N2, ∀ W, RunsAt W B R → Calls Tryz.prog 10 #[.agg (lrow c B R.length k n), .agg (lrow c B R.length k n)] W (GivesLd c (newL yP) N2 0 W) := by
  subst hc
  obtain ⟨h1, h2⟩ := z_me n
  refine ⟨meN chap (newL yP) n chap (newL yP), fun W hW => ?_⟩
  have h : PM (lvs R) (yP.map aliveE) := by rw [hl]; exact y_pm
  have h4 := pm_tot h (by decide)
  have h3 := mergeD_any B R k chap n chap B R k n W hW (by omega) (pm_len h) hW h4 h4 (pm_len h)
  rw [hl, h1, h2] at h3
  exact h3
theorem nm_merge0 (hc : c = chap) (hz : z = cz) (h : PM (lvs R) xA) (W : World) (hW : RunsAt W B R) : Calls Tryz.prog 10 #[.agg (lrow c B R.length k n), .agg #[.int .u8 0, .int .i64 0, .int .i64 0, .int .i64 0, .int .i64 0, .int .i64 0, .int .i64 0, .int .i64 0, .int .i64 0, .slice none 0 0, .int .u64 0]] W (GivesLd z [] 0 50 W) := by
  subst hc hz
  obtain ⟨h1, h2, h5⟩ := x_me h n
  have h4 := pm_tot h (by decide)
  have h3 := mergeD_any B R k chap n cz none [] 0 0 W hW (by omega) (pm_len h) ⟨.inl rfl, by simp⟩ h4 (by simp [lvs, tot]) (by simp)
  rw [show lvs [] = [] from rfl, h1, h2, h5] at h3
  exact h3
theorem nm_next (hc : c = chap) (h : PM (lvs R) (puts 8)) (W : World) (hW : RunsAt W B R) (hT : TabAt 1 Lib.deBruijn64tab W) : Calls Tryz.prog 11 #[.agg (lrow c B R.length k n), .int .i64 8] W fun r w' => r = .returned (.tuple #[.agg #[.int .i64 0, .int .i64 0], .int .i64 6]) ∧ Below W.heap.size W w' := by
  subst hc
  obtain ⟨h1, h2⟩ := m_next h
  have h4 := pm_tot h (by decide)
  have h3 := nextD_any B R k chap n 8 W hW (by omega) (pm_len h) (fun l hl e he => by have := h.key l hl e he; omega) hT
  rw [h1, h2] at h3
  exact h3
theorem nm_last (hc : c = chap) (h : PM (lvs R) (puts 8)) (W : World) (hW : RunsAt W B R) (hT : TabAt 1 Lib.deBruijn64tab W) : Calls Tryz.prog 12 #[.agg (lrow c B R.length k n), .int .i64 0] W fun r w' => r = .returned (.tuple #[.agg #[.int .i64 0, .int .i64 0], .int .i64 6]) ∧ Below W.heap.size W w' := by
  subst hc
  obtain ⟨h1, h2⟩ := m_last h
  have h4 := pm_tot h (by decide)
  have h3 := lastD_any B R k chap n 0 W hW (by omega) (pm_len h) hT
  rw [h1, h2] at h3
  exact h3
theorem nm_new (hc : c = chap) (W : World) : Calls Tryz.prog 4 #[.agg c.row] W (GivesLd c [] 0 0 W) := by
  subst hc
  have h := newD_any chap W
  rw [chap_ok] at h
  exact h
theorem nm_new0 (hz : z = cz) (W : World) : Calls Tryz.prog 4 #[.agg #[.int .u8 0, .int .i64 0, .int .i64 0, .int .i64 0, .int .i64 0, .int .i64 0, .int .i64 0, .int .i64 0, .int .i64 0]] W (GivesLd z [] 0 50 W) := by
  subst hz
  have h := newD_any cz W
  rw [cz_bad] at h
  exact h
theorem nm_has (hc : c = chap) (hl : lvs R = newL yP) (A : Option Addr) (W : World) (hW : RunsAt W B R) (hA : Sl W A (yP.flatMap Pr.cells)) : Calls Tryz.prog 13 #[.agg (lrow c B R.length k n), .slice A 1 1] W fun r w' => r = .returned (.bool true) ∧ Below W.heap.size W w' := by
  subst hc
  have h : PM (lvs R) (yP.map aliveE) := by rw [hl]; exact y_pm
  have h4 := pm_tot h (by decide)
  exact has27_yes B A R k 1 chap n yP W hW (by omega) (pm_len h) hA (by decide) h.err (by rw [hl]; exact y_pr)
theorem nm_chk0 (hc : c = chap) (hl : R.length ≤ 1) (hr : ∀ r ∈ R, r.l.length ≤ 1) (W : World) (hW : RunsAt W B R) : Calls Tryz.prog 15 #[.agg (lrow { c with most := 0 } B R.length k n)] W fun r w' => r = .returned (.int .i64 50) ∧ Below W.heap.size W w' := by
  subst hc
  have ht : tot (lvs R) ≤ 1 := by
    match R, hl, hr with
    | [], _, _ => simp [lvs, tot]
    | [r], _, hr => have := hr r (by simp); simpa [lvs, tot] using this
  have h := checkD_any B R k c0 n W hW (by omega) (by omega)
  rw [c0_err] at h
  exact h
theorem nm_chk1 (hc : c = chap) (hl : lvs R = [[]]) (W : World) (hW : RunsAt W B R) : Calls Tryz.prog 15 #[.agg (lrow c B R.length k n)] W fun r w' => r = .returned (.int .i64 8) ∧ Below W.heap.size W w' := by
  subst hc
  have h := checkD_any B R k chap n W hW (by rw [hl]; decide) (by have := rs_len hl; rw [this]; decide)
  rw [hl, one_bad] at h
  exact h
end
end Go.Proofs.YtolclahkfmplfaaGreatDoor

/- What stays held while the blocks of a set may change. No program in sight. -/
namespace Go.Proofs.YtolclahkfmplfaaGreatDoor
open Go Go.RowKit
/-- P stands in every world that comes of w by changes of new blocks and of those of X -/
def Held (X : Nat → Prop) (P : World → Prop) (w : World) : Prop := ∀ w', Mod X w w' → P w'
section
variable {X Y : Nat → Prop} {P : World → Prop} {w w' : World}
theorem Held.now (h : Held X P w) : P w := h w (Mod.refl _ _)
theorem Held.step (h : Held X P w) (hm : Mod X w w') : Held X P w' := fun w2 h2 => h w2 (hm.trans h2)
theorem Held.ext (h : Held X P w) (hb : Below w.heap.size w w') : Held X P w' := h.step (Mod.of_ext hb)
/-- new blocks may join -/
theorem Held.join (h : Held X P w) (hm : Mod X w w') (hy : ∀ k, k < w.heap.size → Y k → X k) : Held Y P w' := fun w2 h2 => h w2 (by
  refine ⟨h2.os.trans hm.os, h2.tape.trans hm.tape, h2.output.trans hm.output, Nat.le_trans hm.size h2.size, fun k hk hn => ?_⟩
  rw [h2.block k (Nat.lt_of_lt_of_le hk hm.size) (fun hz => hn (hy k hk hz)), hm.block k hk hn])
theorem Held.mono (h : Held X P w) {Q : World → Prop} (hq : ∀ w', P w' → Q w') : Held X Q w := fun w2 h2 => hq _ (h w2 h2)
theorem held_mono {Q : World → Prop} (h : Held X P w) (hq : ∀ w', P w' → Q w') : Held X Q w := h.mono hq
theorem held_blk {g : Nat} {t : TypeId} {cs : Array Value} (h : Blk w g t cs) (hg : ¬ X g) : Held X (fun W => Blk W g t cs) w := fun _ hm => h.mod hm hg
theorem held_own {B s n : Nat} {e : TypeId} {v : Value} {xs : List Value} (h : w.ownsRow B e s v n xs) (hx : ∀ k, B ≤ k → ¬ X k) : Held X (fun W => W.ownsRow B e s v n xs) w := fun _ hm => own_mod h hm hx
/-- what lies beneath a bound that X does not reach -/
theorem held_low {B : Nat} (hP : ∀ w', Below B w w' → P w') (hB : B ≤ w.heap.size) (hx : ∀ k, X k → B ≤ k) : Held X P w := fun _ hm => hP _ (hm.below hB hx)
theorem mod_set {g i : Nat} {u : Value} (hg : X g) : Mod X w (w.setCell ⟨g, i, none⟩ u) := (Mod.refl _ _).setCell hg u
end
end Go.Proofs.YtolclahkfmplfaaGreatDoor
