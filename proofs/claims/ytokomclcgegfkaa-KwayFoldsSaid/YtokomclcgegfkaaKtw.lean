/- The law KwayTwo: for every two runs it returns true; its arguments stay as they were. -/
import Derived.Test.YtokomclcgegfkaaKt
import Derived.Test.YtokomclcgegfkaaSb
import Derived.Deep.CutRange
import Derived.Deep.RegionHeld3
namespace Go.Proofs.Ytokomclcgegfkaa
open Go Go.RowKit
set_option maxRecDepth 100000

/-- a run of the call's own, in a box at g -/
structure BoxAt (w : World) (B g : Nat) (l : List Ent) (A : Option Addr) (c : Nat) : Prop where
  cell : w.cell? ⟨g, 0, none⟩ = some (.slice A l.length c)
  own : w.ownsRow B 32 3 (.slice A l.length c) l.length (l.flatMap Ent.cells)
  lc : l.length ≤ c
  cm : c ≤ maxLen
  lt : g < w.heap.size
theorem GivesTwin.form {l : List Ent} {w : World} {r : Ending} {w' : World} (h : GivesTwin l w r w') : ∃ A c B, Hid (B = w.heap.size) ∧ r = .returned (.agg #[.slice A l.length c]) ∧ (w'.ownsRow B 32 3 (.slice A l.length c) l.length (l.flatMap Ent.cells) ∧ l.length ≤ c ∧ c ≤ maxLen) ∧ Below w.heap.size w w' := by
  obtain ⟨A, c, h1, h2, h3⟩ := h
  obtain ⟨A', c', h4, h5, h6⟩ := own_form h2
  obtain ⟨rfl, rfl⟩ : A = A' ∧ c = c' := by simpa using h4
  exact ⟨A, c, _, rfl, h1, ⟨h2, h5, h6⟩, h3⟩
theorem GivesRun.form {t : TypeId} {m : List Ent} {e : Int} {w : World} {r : Ending} {w' : World} (h : GivesRun t m e w r w') : ∃ A c B, Hid (B = w.heap.size) ∧ r = .returned (.tuple #[.agg #[.slice A m.length c], .int .i64 e]) ∧ (w'.ownsRow B t 3 (.slice A m.length c) m.length (m.flatMap Ent.cells) ∧ m.length ≤ c ∧ c ≤ maxLen) ∧ Below w.heap.size w w' := by
  obtain ⟨A, c, h1, h2, h3⟩ := h
  obtain ⟨A', c', h4, h5, h6⟩ := own_form h2
  obtain ⟨rfl, rfl⟩ : A = A' ∧ c = c' := by simpa using h4
  exact ⟨A, c, _, rfl, h1, ⟨h2, h5, h6⟩, h3⟩
theorem drew_hs (w : World) : w.drew.heap.size = w.heap.size := rfl
theorem own_al {w : World} {B s n : Nat} {e : TypeId} {v : Value} {xs : List Value} (h : w.ownsRow B e s v n xs) (o : Obj) : (w.alloc o).ownsRow B e s v n xs := h.alloc o
theorem own_dr {w : World} {B s n : Nat} {e : TypeId} {v : Value} {xs : List Value} (h : w.ownsRow B e s v n xs) : w.drew.ownsRow B e s v n xs := h

set_option maxHeartbeats 8000000 in
theorem kwayTwo_main (A B : Option Addr) (a b : List Ent) (ca cb : Nat) (bare : Bool) (w : World) (hA : Sl w A (a.flatMap Ent.cells)) (hB : Sl w B (b.flatMap Ent.cells)) (hca : a.length ≤ ca) (hcb : b.length ≤ cb) (hma : ca ≤ maxLen) (hmb : cb ≤ maxLen)
    (h1 : ¬ 150 < a.length) (h2 : ¬ 150 < b.length) :
    Calls Try.prog 5 #[.agg #[.slice A a.length ca], .agg #[.slice B b.length cb], .bool bare] w fun r w' => r = .returned (.bool true) ∧ Below w.heap.size w w' := by
  obtain ⟨W0, hW0⟩ : ∃ W0, (w.alloc (.cells #[.slice A a.length ca] 24)).alloc (.cells #[.slice B b.length cb] 24) = W0 := ⟨_, rfl⟩
  have hb0 : Below w.heap.size w W0 := by rw [← hW0]; exact ((Below.refl _ _).alloc (Nat.le_refl _) _).alloc (by simp) _
  have hs0 : W0.heap.size = w.heap.size + 2 := by rw [← hW0]; simp
  have bA : Blk W0 w.heap.size 24 #[.slice A a.length ca] := by rw [← hW0]; exact (Blk.new _ _ _).alloc _
  have bB : Blk W0 (w.heap.size + 1) 24 #[.slice B b.length cb] := by
    rw [← hW0]
    have := Blk.new (w.alloc (.cells #[.slice A a.length ca] 24)) 24 #[.slice B b.length cb]
    rwa [World.size_alloc] at this
  have cA : W0.cell? ⟨w.heap.size, 0, none⟩ = some (.slice A a.length ca) := bA.cell 0
  have cB : W0.cell? ⟨w.heap.size + 1, 0, none⟩ = some (.slice B b.length cb) := bB.cell 0
  have lA : w.heap.size < W0.heap.size := by omega
  have lB : w.heap.size + 1 < W0.heap.size := by omega
  have HA := Lib.hid (hA.below hb0)
  have HB := Lib.hid (hB.below hb0)
  clear hA hB bA bB hs0
  go_enter Try.func5, Try.ntmps5
  go_upto_region 3 with fail
  try rw [hW0]
  clear hW0
  go_cut [7, 8] from 23 to 26 (fun x y wx => ∃ g h A1 c1 B1 d1, x = .pointer (some ⟨g, 0, none⟩) ∧ y = .pointer (some ⟨h, 0, none⟩) ∧ Hid (BoxAt wx W0.heap.size g a A1 c1) ∧ Hid (BoxAt wx W0.heap.size h b B1 d1) ∧ Below W0.heap.size W0 wx)
  case first =>
    go_region_held3 (fun w' => (∀ bq jq, bq < W0.heap.size → w'.cell? ⟨bq, jq, none⟩ = W0.cell? ⟨bq, jq, none⟩) ∧ (∀ bq jq, bq < W0.heap.size → w'.frozen? ⟨bq, jq, none⟩ = W0.frozen? ⟨bq, jq, none⟩) ∧ W0.heap.size ≤ w'.heap.size ∧ Below W0.heap.size W0 w') (((with_reducible repeat (first | exact SB.init | exact SB.init0 | assumption | refine SB.drew ?_ | refine SB.alloc _ ?_ | refine SB.set (by first | assumption | exact Nat.le_refl _ | exact Nat.le_succ_of_le (by assumption) | exact Nat.le_succ _ | omega | (simp; omega)) _ _ ?_ | refine SB.below (by assumption) ?_)); done))
      (first
        | ((go_at_call 17; (with_reducible refine (refTwin_any A a ca _ (HA.out.below (SB.bel (by assumption))) (by omega)).mono ?_)); intro e21 v21 h21; obtain ⟨A21, c21, B21, hB21, rfl, f21, hv21⟩ := h21.form; have F21 := Lib.hid f21; clear f21 h21; have hl21 := SB.le hv21 (by assumption); obtain ⟨hc21, hz21, hs21⟩ := wfacts hv21; (try have q210 : W0.heap.size < v21.heap.size := by have := hv21.size; simp at this; omega); (try have q211 : W0.heap.size + 1 < v21.heap.size := by have := hv21.size; simp at this; omega); (try have q212 : v22.heap.size < v21.heap.size := by have := hv21.size; simp at this; omega); (try have q213 : v22.heap.size + 1 < v21.heap.size := by have := hv21.size; simp at this; omega))
        | ((go_at_call 17; (with_reducible refine (refTwin_any B b cb _ (HB.out.below (SB.bel (by assumption))) (by omega)).mono ?_)); intro e22 v22 h22; obtain ⟨A22, c22, B22, hB22, rfl, f22, hv22⟩ := h22.form; have F22 := Lib.hid f22; clear f22 h22; have hl22 := SB.le hv22 (by assumption); obtain ⟨hc22, hz22, hs22⟩ := wfacts hv22; (try have q220 : W0.heap.size < v22.heap.size := by have := hv22.size; simp at this; omega); (try have q221 : W0.heap.size + 1 < v22.heap.size := by have := hv22.size; simp at this; omega); (try have q222 : v21.heap.size < v22.heap.size := by have := hv22.size; simp at this; omega); (try have q223 : v21.heap.size + 1 < v22.heap.size := by have := hv22.size; simp at this; omega))
        | fail "no arm")
    all_goals
      go_wp2_with fail
      go_meet
      refine ⟨_, _, A21, c21, A22, c22, rfl, rfl, ⟨?_, own_mono (B := B21) ?_ ?_, F21.out.2.1, F21.out.2.2, ?_⟩, ⟨?_, own_mono (B := B22) ?_ ?_, F22.out.2.1, F22.out.2.2, ?_⟩, SB.bel (by assumption)⟩
      all_goals try (first | exact F21.out.1 | exact F22.out.1 | exact own_dr F21.out.1 | exact own_dr F22.out.1)
      all_goals try (repeat (with_reducible first | exact F21.out.1 | exact F22.out.1 | exact own_dr F21.out.1 | exact own_dr F22.out.1 | refine own_al ?_ _ | refine own_far ?_ ?_ _ | refine own_below ?_ (by assumption)))
      all_goals try first | (go_simp; done) | (rw [cell_other]; refine cell_same (u := .slice none 0 0) _ ?_; go_simp; omega) | (refine cell_same (u := .slice none 0 0) _ ?_; rw [cell_other]; go_simp; omega)
      all_goals try (first | (intro e; have l5 := F21.out.1.lt _ e; simp at l5; done) | (intro e; have l5 := F21.out.1.lt _ e; have s21 := hv21.size; have s22 := hv22.size; have b21 := hB21.out; have b22 := hB22.out; (try simp at s21); (try simp at s22); (try simp only [drew_hs, World.size_alloc] at b21); (try simp only [World.size_alloc] at b22); (try simp at l5); omega) | (intro e; have l5 := F22.out.1.lt _ e; simp at l5; done) | (intro e; have l5 := F22.out.1.lt _ e; have s21 := hv21.size; have s22 := hv22.size; have b21 := hB21.out; have b22 := hB22.out; (try simp at s21); (try simp at s22); (try simp only [drew_hs, World.size_alloc] at b21); (try simp only [World.size_alloc] at b22); (try simp at l5); omega))
      all_goals (have s21 := hv21.size; have s22 := hv22.size; have b21 := hB21.out; have b22 := hB22.out; (try simp at s21); (try simp at s22); (try simp only [drew_hs, World.size_alloc] at b21); (try simp only [World.size_alloc] at b22); (try simp); (try omega))
  case rest =>
    obtain ⟨g, h, A1, c1, B1, d1, rfl, rfl, hg, hh, hbz⟩ := hcut
    have kA : wc.cell? ⟨w.heap.size, 0, none⟩ = some (.slice A a.length ca) := ((bcell hbz).1 _ _ lA).trans cA
    have kB : wc.cell? ⟨w.heap.size + 1, 0, none⟩ = some (.slice B b.length cb) := ((bcell hbz).1 _ _ lB).trans cB
    have kG := hg.out.cell
    have kH := hh.out.cell
    have lG := hg.out.lt
    have lH := hh.out.lt
    have lA1 : w.heap.size < wc.heap.size := Nat.lt_of_lt_of_le lA hbz.size
    have lB1 : w.heap.size + 1 < wc.heap.size := Nat.lt_of_lt_of_le lB hbz.size
    have HZ := Lib.hid hbz
    obtain ⟨M, hM⟩ : ∃ M, mrgL [⟨a, A, ca⟩, ⟨b, B, cb⟩] bare = M := ⟨_, rfl⟩
    obtain ⟨E, hE⟩ : ∃ E, mrgE [⟨a, A, ca⟩, ⟨b, B, cb⟩] = E := ⟨_, rfl⟩
    have hML : M.length ≤ 300 := by rw [← hM]; exact mrg_len bare (by simp; omega)
    have HM := Lib.hid hM
    have HE := Lib.hid hE
    have HM1 : Hid (mrgL [⟨a, A1, c1⟩, ⟨b, B1, d1⟩] bare = M) := by rw [← hM]; exact mrgL_congr rfl bare
    have HE1 : Hid (mrgE [⟨a, A1, c1⟩, ⟨b, B1, d1⟩] = E) := by rw [← hE]; exact mrgE_congr rfl
    clear hM hE cA cB hbz
    go_wp2_with fail
    refine (two_any A1 B1 a b c1 d1 bare _ (own_sl hg.out.own) (own_sl hh.out.own) hg.out.lc hh.out.lc hg.out.cm hh.out.cm (by omega)).mono ?_
    rw [HM1.out, HE1.out]
    rintro e w1 ⟨A2, c2, rfl, ho2, hb2⟩
    have HS2 := Lib.hid (own_sl ho2)
    obtain ⟨hc2, hz2, hs2⟩ := wfacts hb2
    have r1 := hs2 _ lA1
    have r2 := hs2 _ lB1
    have r3 := hs2 _ lG
    have r4 := hs2 _ lH
    have ba2 : Below w1.heap.size w1 (w1.alloc (.cells #[.slice A2 M.length c2] 24)) := (Below.refl _ _).alloc (Nat.le_refl _) _
    have HB2 := Lib.hid (bext hb2 ba2)
    have HBA := Lib.hid ba2
    clear ho2 hb2 ba2
    go_wp2_with fail
    refine (refTwo_any A B a b ca cb bare _ (HA.out.below (bext HZ.out HB2.out)) (HB.out.below (bext HZ.out HB2.out)) hca hcb hma hmb (by omega)).mono ?_
    rw [HM.out, HE.out]
    rintro e w3 ⟨A3, c3, rfl, ho3, hb3⟩
    have HS3 := Lib.hid (own_sl ho3)
    obtain ⟨hc3, hz3, hs3⟩ := wfacts hb3
    have s1 := hs3 w.heap.size (by simp; omega)
    have s2 := hs3 (w.heap.size + 1) (by simp; omega)
    have s3 := hs3 g (by simp; omega)
    have s4 := hs3 h (by simp; omega)
    have s5 := hs3 w1.heap.size (by simp)
    have ba3 : Below w3.heap.size w3 (w3.alloc (.cells #[.slice A3 M.length c3] 24)) := (Below.refl _ _).alloc (Nat.le_refl _) _
    have HB3 := Lib.hid (bext hb3 ba3)
    have HBA3 := Lib.hid ba3
    clear ho3 hb3 ba3
    go_wp2_with fail
    refine (refSame_any A2 A3 M M c2 c3 _ ((HS2.out.below HBA.out).below HB3.out) (HS3.out.below HBA3.out) (by omega) (by omega)).mono ?_
    rw [decide_eq_true rfl]
    rintro e w4 ⟨rfl, hb4⟩
    have HB4 := Lib.hid (bext HB2.out (bext HB3.out hb4))
    obtain ⟨hc4, hz4, hs4⟩ := wfacts hb4
    have t1 := hs4 w.heap.size (by simp; omega)
    have t2 := hs4 (w.heap.size + 1) (by simp; omega)
    have t3 := hs4 g (by simp; omega)
    have t4 := hs4 h (by simp; omega)
    clear hb4
    go_wp2_with fail
    refine (refSame_any A1 A a a c1 ca _ ((own_sl hg.out.own).below HB4.out) (HA.out.below (bext HZ.out HB4.out)) (by omega) (by omega)).mono ?_
    rw [decide_eq_true rfl]
    rintro e w5 ⟨rfl, hb5⟩
    have HB5 := Lib.hid (bext HB4.out hb5)
    obtain ⟨hc5, hz5, hs5⟩ := wfacts hb5
    clear hb5
    go_wp2_with fail
    refine (refSame_any B1 B b b d1 cb _ ((own_sl hh.out.own).below HB5.out) (HB.out.below (bext HZ.out HB5.out)) (by omega) (by omega)).mono ?_
    rw [decide_eq_true rfl]
    rintro e w6 ⟨rfl, hb6⟩
    have HB6 := Lib.hid (bext HB5.out hb6)
    clear hb6
    go_wp2_with fail
    go_ret
    exact ⟨rfl, bext hb0 (bext HZ.out HB6.out)⟩

theorem kwayTwo_any (A B : Option Addr) (a b : List Ent) (ca cb : Nat) (bare : Bool) (w : World) (hA : Sl w A (a.flatMap Ent.cells)) (hB : Sl w B (b.flatMap Ent.cells)) (hca : a.length ≤ ca) (hcb : b.length ≤ cb) (hma : ca ≤ maxLen) (hmb : cb ≤ maxLen) :
    Calls Try.prog 5 #[.agg #[.slice A a.length ca], .agg #[.slice B b.length cb], .bool bare] w fun r w' => r = .returned (.bool true) ∧ Below w.heap.size w w' := by
  have hb0 : Below w.heap.size w ((w.alloc (.cells #[.slice A a.length ca] 24)).alloc (.cells #[.slice B b.length cb] 24)) := ((Below.refl _ _).alloc (Nat.le_refl _) _).alloc (by simp) _
  by_cases h1 : 150 < a.length
  · go_enter Try.func5, Try.ntmps5
    go_wp2
    go_ret
    exact ⟨rfl, hb0⟩
  by_cases h2 : 150 < b.length
  · go_enter Try.func5, Try.ntmps5
    go_wp2
    go_ret
    exact ⟨rfl, hb0⟩
  exact kwayTwo_main A B a b ca cb bare w hA hB hca hcb hma hmb h1 h2
end Go.Proofs.Ytokomclcgegfkaa
