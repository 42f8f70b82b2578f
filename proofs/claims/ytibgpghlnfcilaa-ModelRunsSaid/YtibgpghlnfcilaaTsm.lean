/- Contract: the law's comparing of answers and errors. -/
import Derived.Test.YtibgpghlnfcilaaTr
import Derived.Test.YtibgpghlnfcilaaRh
import Derived.BigQuiet
import Derived.Deep.RegionHeld3
namespace Go.Proofs.Ytibgpghlnfcilaa
open Go Go.RowKit
set_option maxRecDepth 100000

theorem an_cells {w : World} {A : Option Addr} {l : List AnM} (h : AnsAt w A l) (i : Nat) (hi : i < l.length) : ∃ b off, A = some ⟨b, off, none⟩ ∧ b < w.heap.size ∧
    w.cell? ⟨b, off + i * 4, none⟩ = some (.int .i64 (l[i]'hi).a.pair.key) ∧ w.cell? ⟨b, off + i * 4 + 1, none⟩ = some (.int .i64 (l[i]'hi).a.pair.val) ∧
    w.cell? ⟨b, off + i * 4 + 2, none⟩ = some (.int .i64 (l[i]'hi).a.n) ∧ w.cell? ⟨b, off + i * 4 + 3, none⟩ = some (.slice (l[i]'hi).A (l[i]'hi).a.pairs.length (l[i]'hi).c) ∧
    Sl w (l[i]'hi).A ((l[i]'hi).a.pairs.flatMap Pr.cells) := by
  obtain ⟨b, off, h1, h2, h3⟩ := h.1.an i hi
  exact ⟨b, off, h1, h2, h3 0 _ rfl, h3 1 _ rfl, h3 2 _ rfl, h3 3 _ rfl, h.2 _ (List.getElem_mem hi)⟩
theorem map_same {xs ys : List AnM} (h : xs.map AnM.a = ys.map AnM.a) (j : Nat) (hx : j < xs.length) (hy : j < ys.length) : (xs[j]'hx).a = (ys[j]'hy).a := by
  have h1 : (xs.map AnM.a)[j]? = (ys.map AnM.a)[j]? := by rw [h]
  rw [List.getElem?_map, List.getElem?_map, List.getElem?_eq_getElem hx, List.getElem?_eq_getElem hy] at h1
  simpa using h1

set_option maxHeartbeats 3200000 in
theorem same_any (n m : Nat) (A B C D : Option Addr) (xs ys : List AnM) (es : List Int) (a b c d : Nat) (w : World) (hx : AnsAt w A xs) (hy : AnsAt w B ys) (he : Sl w C (es.map intV)) (hf : Sl w D (es.map intV))
    (hxy : xs.map AnM.a = ys.map AnM.a) (hxn : xs.length = n) (hyn : ys.length = n) (hem : es.length = m) (hbx : ∀ x ∈ xs, x.a.pairs.length ≤ 100000) (hnm : n ≤ 100000 ∧ m ≤ 100000) :
    Calls Try.prog 26 #[.slice A n a, .slice C m c, .slice B n b, .slice D m d] w fun r w' => r = .returned (.bool true) ∧ Below w.heap.size w w' := by
  have HX := Lib.hid hx
  have HY := Lib.hid hy
  have HE := Lib.hid he
  have HF := Lib.hid hf
  have HXY := Lib.hid hxy
  have Hxn := Lib.hid hxn
  have Hyn := Lib.hid hyn
  have Hem := Lib.hid hem
  have Hbx := Lib.hid hbx
  clear hx hy he hf hxy hxn hyn hem hbx
  have h0 := Below.refl w.heap.size w
  go_enter Try.func26, Try.ntmps26
  go_wp2_with fail
  go_loopw [9] (fun i wr => ∃ k : Nat, k ≤ n ∧ i = .int .i64 k ∧ Below w.heap.size w wr) (fun i _ => n - (intOf i).toNat)
  case atStart => exact ⟨0, Nat.zero_le _, rfl, h0⟩
  case round =>
    clear h0
    obtain ⟨k, hk, rfl, hb⟩ := hrel
    by_cases hlt : k < n
    · have hkx : k < xs.length := by rw [Hxn.out]; exact hlt
      have hky : k < ys.length := by rw [Hyn.out]; exact hlt
      obtain ⟨bx, ox, rfl, lx, x0, x1, x2, x3, sx⟩ := an_cells (HX.out.below hb) k hkx
      obtain ⟨bw, oy, rfl, ly, y0, y1, y2, y3, sy⟩ := an_cells (HY.out.below hb) k hky
      have hab := map_same HXY.out k hkx hky
      have hl := Hbx.out _ (List.getElem_mem hkx)
      generalize (xs[k]'hkx) = X at *
      generalize (ys[k]'hky) = Y at *
      have hl2 : Y.a.pairs.length ≤ 100000 := by rw [← hab]; exact hl
      have HAB := Lib.hid hab
      have sx := Lib.hid sx
      have sy := Lib.hid sy
      have i0 : (0 : Int) ≤ (k : Int) := by omega
      have i1 : (k : Int) < (n : Int) := by omega
      clear hkx hky hab
      go_wp2_with fail
      go_region_held3 (fun w' => (∀ bq jq, bq < wr.heap.size → w'.cell? ⟨bq, jq, none⟩ = wr.cell? ⟨bq, jq, none⟩) ∧ (∀ bq jq, bq < wr.heap.size → w'.frozen? ⟨bq, jq, none⟩ = wr.frozen? ⟨bq, jq, none⟩) ∧ wr.heap.size ≤ w'.heap.size ∧ Below wr.heap.size wr w') ((with_reducible first | exact SB.init | exact SB.below (by assumption) (by assumption) | assumption))
        (first
          | (go_at_call 20; refine (sameAns_any X.a Y.a X.A Y.A X.c Y.c _ (sx.out.below (SB.bel (by assumption))) (sy.out.below (SB.bel (by assumption))) (by omega) (by omega)).mono ?_; rw [decide_eq_true HAB.out]; rintro e1 w1 ⟨rfl, hb1⟩; have hl1 := SB.le hb1 (by assumption); obtain ⟨hc1, hz1, hs1⟩ := wfacts hb1)
          | (go_at_call 19; refine (refSameAns_any X.a Y.a X.A Y.A X.c Y.c _ (sx.out.below (SB.bel (by assumption))) (sy.out.below (SB.bel (by assumption))) (by omega) (by omega)).mono ?_; rw [decide_eq_true HAB.out]; rintro e2 w2 ⟨rfl, hb2⟩; have hl2 := SB.le hb2 (by assumption); obtain ⟨hc2, hz2, hs2⟩ := wfacts hb2)
          | fail "no arm")
      all_goals
        have hs := SB.bel (by assumption)
        clear x0 x1 x2 x3 y0 y1 y2 y3
        go_wp2
        go_roundw
        case rel => exact ⟨k + 1, by omega, by go_num, bext hb hs⟩
        case measure => simp [intOf]; omega
    · go_wp2_with fail
      go_loopw [10] (fun i wr2 => ∃ j : Nat, j ≤ m ∧ i = .int .i64 j ∧ Below w.heap.size w wr2) (fun i _ => m - (intOf i).toNat)
      case atStart => exact ⟨0, Nat.zero_le _, rfl, hb⟩
      case round =>
        clear hb
        obtain ⟨j, hj, rfl, hb2⟩ := hrel
        by_cases hlt2 : j < m
        · have hje : j < es.length := by rw [Hem.out]; exact hlt2
          obtain ⟨be, oe, rfl, le, e0⟩ := (HE.out.below hb2).one j hje
          obtain ⟨bf, of, rfl, lf, f0⟩ := (HF.out.below hb2).one j hje
          generalize (es[j]'hje) = E at *
          unfold intV at e0 f0
          have i0 : (0 : Int) ≤ (j : Int) := by omega
          have i1 : (j : Int) < (m : Int) := by omega
          clear hje
          go_wp2_with fail
          go_quiet (fail)
          go_wp2
          go_roundw
          case rel => exact ⟨j + 1, by omega, by go_num, by first | exact hb2 | exact bdrew hb2 _ | exact hb2.drew | exact (bdrew hb2 _).drew⟩
          case measure => simp [intOf]; omega
        · go_wp2
          go_ret
          exact ⟨rfl, hb2⟩
end Go.Proofs.Ytibgpghlnfcilaa
