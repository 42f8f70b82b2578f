/- Fb: texts of the claim, in this order. -/
import Derived.Test.YthbppblmecdekaaGreatDoorWg20
import Derived.Deep.CutRange
import Derived.Deep.RegionHeld3
/- Contract: shelfmarkref05.May. -/
namespace Go.Proofs.YthbppblmecdekaaGreatDoor
open Go Go.RowKit
set_option maxRecDepth 100000
set_option maxHeartbeats 16000000 in
theorem may05_any (c : Cfg) (w : World) : Calls Tryz.prog 40 #[.agg c.row] w fun r w' => r = .returned (.bool (okC c)) ∧ Below w.heap.size w w' := by
  obtain ⟨W0, hW0⟩ : ∃ W0, w.alloc (.cells c.row 23) = W0 := ⟨_, rfl⟩
  have hb0 : Below w.heap.size w W0 := by rw [← hW0]; exact (Below.refl _ _).alloc (Nat.le_refl _) _
  have b0 : Blk W0 w.heap.size 23 c.row := by rw [← hW0]; exact Blk.new _ _ _
  have HW0 := Lib.hid hW0
  have HB0 := Lib.hid hb0
  have HC0 := Lib.hid b0
  have hp1 := fun W => power05_any c.seg 4 64 W (by omega)
  have hp2 := fun W => power05_any c.least c.seg 256 W (by omega)
  obtain ⟨t4, h4⟩ : ∃ t, powB c.seg 4 64 = t := ⟨_, rfl⟩
  obtain ⟨t5, h5⟩ : ∃ t, powB c.least c.seg 256 = t := ⟨_, rfl⟩
  rw [h4] at hp1
  rw [h5] at hp2
  obtain ⟨V, hV⟩ : ∃ V, okC c = V := ⟨_, rfl⟩
  rw [hV]
  have hno1 : ∀ b ∈ sizesL c, b = false → V = false := fun b hb h => by
    rw [← hV]; unfold okC
    rw [show (sizesL c).all id = false from by rw [List.all_eq_false]; exact ⟨b, hb, by rw [h]; simp⟩]; rfl
  have hno2 : ∀ b ∈ partsL c, b = false → V = false := fun b hb h => by
    rw [← hV]; unfold okC
    rw [show (partsL c).all id = false from by rw [List.all_eq_false]; exact ⟨b, hb, by rw [h]; simp⟩, Bool.and_false]; rfl
  have hno3 : ∀ b ∈ roomL c, b = false → V = false := fun b hb h => by
    rw [← hV]; unfold okC
    rw [show (roomL c).all id = false from by rw [List.all_eq_false]; exact ⟨b, hb, by rw [h]; simp⟩, Bool.and_false]; rfl
  unfold sizesL at hno1
  unfold partsL at hno2
  unfold roomL at hno3
  rw [h4, h5] at hno1
  have HV := Lib.hid hV
  have HP1 := Lib.hid hp1
  have HP2 := Lib.hid hp2
  have H4 := Lib.hid h4
  have H5 := Lib.hid h5
  have N1 := Lib.hid hno1
  have N2 := Lib.hid hno2
  have N3 := Lib.hid hno3
  clear hW0 hb0 hp1 hp2 h4 h5 hV hno1 hno2 hno3
  have q0 : W0.cell? ⟨w.heap.size, 0, none⟩ = some (.int .u8 c.tag) := b0.cell 0
  have q1 : W0.cell? ⟨w.heap.size, 1, none⟩ = some (.int .i64 c.most) := b0.cell 1
  have q2 : W0.cell? ⟨w.heap.size, 2, none⟩ = some (.int .i64 c.seg) := b0.cell 2
  have q3 : W0.cell? ⟨w.heap.size, 3, none⟩ = some (.int .i64 c.least) := b0.cell 3
  have q4 : W0.cell? ⟨w.heap.size, 4, none⟩ = some (.int .i64 c.den) := b0.cell 4
  have q5 : W0.cell? ⟨w.heap.size, 5, none⟩ = some (.int .i64 c.leafLow) := b0.cell 5
  have q6 : W0.cell? ⟨w.heap.size, 6, none⟩ = some (.int .i64 c.rootLow) := b0.cell 6
  have q7 : W0.cell? ⟨w.heap.size, 7, none⟩ = some (.int .i64 c.rootHigh) := b0.cell 7
  have q8 : W0.cell? ⟨w.heap.size, 8, none⟩ = some (.int .i64 c.leafHigh) := b0.cell 8
  have i0 := b0.lt
  clear b0
  go_enter Tryz.func40, Tryz.ntmps40
  go_upto_region 1 with fail
  rw [HW0.out]
  by_cases a1 : c.tag < 1
  case pos =>
    have HF : Hid (V = false) := N1.out _ (List.mem_cons_self) (decide_eq_false (by omega))
    go_wp2_with fail
    go_ret
    exact ⟨by rw [HF.out]; rfl, HB0.out⟩
  case neg =>
  by_cases a2 : 3 < c.tag
  case pos =>
    have HF : Hid (V = false) := N1.out _ (List.mem_cons_of_mem _ (List.mem_cons_self)) (decide_eq_false (by omega))
    go_wp2_with fail
    go_ret
    exact ⟨by rw [HF.out]; rfl, HB0.out⟩
  case neg =>
  by_cases a3 : c.most < 1
  case pos =>
    have HF : Hid (V = false) := N1.out _ (List.mem_cons_of_mem _ (List.mem_cons_of_mem _ (List.mem_cons_self))) (decide_eq_false (by omega))
    go_wp2_with fail
    go_ret
    exact ⟨by rw [HF.out]; rfl, HB0.out⟩
  case neg =>
  by_cases a4 : 16384 < c.most
  case pos =>
    have HF : Hid (V = false) := N1.out _ (List.mem_cons_of_mem _ (List.mem_cons_of_mem _ (List.mem_cons_of_mem _ (List.mem_cons_self)))) (decide_eq_false (by omega))
    go_wp2_with fail
    go_ret
    exact ⟨by rw [HF.out]; rfl, HB0.out⟩
  case neg =>
  go_wp2_with fail
  refine (HP1.out _).mono ?_
  rintro e v1 ⟨rfl, hv1⟩
  subst hv1
  cases hb1 : t4 with
  | false =>
    have HF : Hid (V = false) := N1.out _ (List.mem_cons_of_mem _ (List.mem_cons_of_mem _ (List.mem_cons_of_mem _ (List.mem_cons_of_mem _ (List.mem_cons_self))))) hb1
    go_wp2_with fail
    go_ret
    exact ⟨by rw [HF.out]; rfl, HB0.out⟩
  | true =>
  go_wp2_with fail
  refine (HP2.out _).mono ?_
  rintro e v2 ⟨rfl, hv2⟩
  subst hv2
  cases hb2 : t5 with
  | false =>
    have HF : Hid (V = false) := N1.out _ (List.mem_cons_of_mem _ (List.mem_cons_of_mem _ (List.mem_cons_of_mem _ (List.mem_cons_of_mem _ (List.mem_cons_of_mem _ (List.mem_cons_self)))))) hb2
    go_wp2_with fail
    go_ret
    exact ⟨by rw [HF.out]; rfl, HB0.out⟩
  | true =>
  by_cases a7 : c.den < 1
  case pos =>
    have HF : Hid (V = false) := N1.out _ (List.mem_cons_of_mem _ (List.mem_cons_of_mem _ (List.mem_cons_of_mem _ (List.mem_cons_of_mem _ (List.mem_cons_of_mem _ (List.mem_cons_of_mem _ (List.mem_cons_self))))))) (decide_eq_false (by omega))
    go_wp2_with fail
    go_ret
    exact ⟨by rw [HF.out]; rfl, HB0.out⟩
  case neg =>
  by_cases a8 : 64 < c.den
  case pos =>
    have HF : Hid (V = false) := N1.out _ (List.mem_cons_of_mem _ (List.mem_cons_of_mem _ (List.mem_cons_of_mem _ (List.mem_cons_of_mem _ (List.mem_cons_of_mem _ (List.mem_cons_of_mem _ (List.mem_cons_of_mem _ (List.mem_cons_self)))))))) (decide_eq_false (by omega))
    go_wp2_with fail
    go_ret
    exact ⟨by rw [HF.out]; rfl, HB0.out⟩
  case neg =>
  by_cases b1 : c.leafLow < 0
  case pos =>
    have HF : Hid (V = false) := N2.out _ (List.mem_cons_self) (decide_eq_false (by omega))
    go_wp2_with fail
    go_ret
    exact ⟨by rw [HF.out]; rfl, HB0.out⟩
  case neg =>
  by_cases b2 : c.rootLow ≤ c.leafLow
  case pos =>
    have HF : Hid (V = false) := N2.out _ (List.mem_cons_of_mem _ (List.mem_cons_self)) (decide_eq_false (by omega))
    go_wp2_with fail
    go_ret
    exact ⟨by rw [HF.out]; rfl, HB0.out⟩
  case neg =>
  by_cases b4 : c.leafHigh ≤ c.rootHigh
  case pos =>
    have HF : Hid (V = false) := N2.out _ (List.mem_cons_of_mem _ (List.mem_cons_of_mem _ (List.mem_cons_of_mem _ (List.mem_cons_self)))) (decide_eq_false (by omega))
    go_wp2_with fail
    go_ret
    exact ⟨by rw [HF.out]; rfl, HB0.out⟩
  case neg =>
  by_cases b5 : c.den < c.leafHigh
  case pos =>
    have HF : Hid (V = false) := N2.out _ (List.mem_cons_of_mem _ (List.mem_cons_of_mem _ (List.mem_cons_of_mem _ (List.mem_cons_of_mem _ (List.mem_cons_self))))) (decide_eq_false (by omega))
    go_wp2_with fail
    go_ret
    exact ⟨by rw [HF.out]; rfl, HB0.out⟩
  case neg =>
  by_cases b6 : c.den < c.rootLow
  case pos =>
    have HF : Hid (V = false) := N3.out _ (List.mem_cons_of_mem _ (List.mem_cons_self)) (decide_eq_false (by omega))
    go_wp2_with fail
    go_ret
    exact ⟨by rw [HF.out]; rfl, HB0.out⟩
  case neg =>
  by_cases d1 : c.rootHigh < 0
  case pos =>
    have HF : Hid (V = false) := N3.out _ (List.mem_cons_self) (decide_eq_false (by omega))
    go_wp2_with fail
    go_ret
    exact ⟨by rw [HF.out]; rfl, HB0.out⟩
  case neg =>
  have hz1 : IntKind.i64.wrap (2 * c.rootHigh) = 2 * c.rootHigh := IntWalk.i64_in _ (by omega)
  have hz2 : IntKind.i64.wrap (8 * c.rootLow) = 8 * c.rootLow := IntWalk.i64_in _ (by omega)
  have hz3 : IntKind.i64.wrap (2 * c.den) = 2 * c.den := IntWalk.i64_in _ (by omega)
  subst hb1 hb2
  have hsg := H4.out
  have hls := H5.out
  simp only [powB, Bool.and_eq_true, decide_eq_true_eq] at hsg hls
  obtain ⟨⟨hx5, hx6⟩, hx7⟩ := hsg
  obtain ⟨⟨hx8, hx9⟩, hx10⟩ := hls
  have hm : 0 ≤ c.rootLow * c.least ∧ c.rootLow * c.least ≤ 16384 := by
    have h1 : 0 ≤ c.rootLow := by omega
    have h2 : c.rootLow ≤ 64 := by omega
    refine ⟨Int.mul_nonneg h1 (by omega), ?_⟩
    have := Int.mul_le_mul h2 hx9 (by omega) (by omega)
    omega
  have hz4 : IntKind.i64.wrap (c.rootLow * c.least) = c.rootLow * c.least := IntWalk.i64_in _ (by omega)
  have HX := Lib.hid (show (4 ≤ c.seg ∧ c.seg ≤ 64) ∧ (c.seg ≤ c.least ∧ c.least ≤ 256) ∧ pow2 c.seg.toNat = true ∧ pow2 c.least.toNat = true from ⟨⟨hx5, hx6⟩, ⟨hx8, hx9⟩, hx7, hx10⟩)
  clear hx5 hx6 hx7 hx8 hx9 hx10 hm
  by_cases d2 : 2 * c.rootHigh < c.den
  case pos =>
    have HF : Hid (V = false) := N3.out _ (List.mem_cons_self) (decide_eq_false (by omega))
    go_wp2_with fail
    go_ret
    exact ⟨by rw [HF.out]; rfl, HB0.out⟩
  case neg =>
  by_cases d3 : c.den < 8 * c.rootLow
  case pos =>
    have HF : Hid (V = false) := N3.out _ (List.mem_cons_of_mem _ (List.mem_cons_self)) (decide_eq_false (by omega))
    go_wp2_with fail
    go_ret
    exact ⟨by rw [HF.out]; rfl, HB0.out⟩
  case neg =>
  by_cases d4 : c.rootLow * c.least < 2 * c.den
  case pos =>
    have HF : Hid (V = false) := N3.out _ (List.mem_cons_of_mem _ (List.mem_cons_of_mem _ (List.mem_cons_self))) (decide_eq_false (by omega))
    go_wp2_with fail
    go_ret
    exact ⟨by rw [HF.out]; rfl, HB0.out⟩
  case neg =>
  go_upto_region 7 with fail
  clear hz1 hz2 hz3 hz4
  obtain ⟨⟨hx5, hx6⟩, ⟨hx8, hx9⟩, hx7, hx10⟩ := HX.out
  have hts : TakeS c c.most.toNat c.den.toNat c.rootHigh.toNat c.least.toNat := ⟨(Int.toNat_of_nonneg (by omega)).symm, (Int.toNat_of_nonneg (by omega)).symm, (Int.toNat_of_nonneg (by omega)).symm, by omega, by omega, by omega, by omega, by omega, by omega, by omega, by omega⟩
  have htl := takes_le (n := c.most.toNat) (den := c.den.toNat) (high := c.rootHigh.toNat) hts.n2 hts.dh (fits_start (s := c.least.toNat) hts.n2 hts.dh (by have := hts.l1; omega) hts.l2)
  have htk := fun W => takes05_any c c.most.toNat c.den.toNat c.rootHigh.toNat c.least.toNat W hts
  have htall : c.tall = Nat.log2 (takesN c.most.toNat c.den.toNat c.rootHigh.toNat c.least.toNat / c.seg.toNat) := rfl
  have htl2 : takesN c.most.toNat c.den.toNat c.rootHigh.toNat c.least.toNat ≤ 65536 ∧ c.least.toNat ≤ takesN c.most.toNat c.den.toNat c.rootHigh.toNat c.least.toNat := htl
  obtain ⟨T, hT⟩ : ∃ T, takesN c.most.toNat c.den.toNat c.rootHigh.toNat c.least.toNat = T := ⟨_, rfl⟩
  rw [hT] at htk htall htl2
  rw [Int.toNat_of_nonneg (by omega : 0 ≤ c.most)] at htk
  have hht := fun W => height05_any c T c.seg.toNat W (Int.toNat_of_nonneg (by omega)).symm htl2.1 (by omega) (by omega)
  rw [← htall] at hht
  obtain ⟨t, ht⟩ : ∃ t, c.tall = t := ⟨_, rfl⟩
  rw [ht] at hht htall
  have ht16 : t ≤ 16 := by
    rw [htall]
    exact log2_le (Nat.le_trans (Nat.div_le_self _ _) htl2.1)
  have hm1 : 0 ≤ c.den * (t : Int) ∧ c.den * (t : Int) ≤ 1024 := by
    refine ⟨Int.mul_nonneg (by omega) (by omega), ?_⟩
    have := Int.mul_le_mul (show c.den ≤ 64 by omega) (show (t : Int) ≤ 16 by omega) (by omega) (by omega)
    omega
  have hm2 : 0 ≤ (c.leafHigh - c.rootHigh) * c.seg ∧ (c.leafHigh - c.rootHigh) * c.seg ≤ 4096 := by
    refine ⟨Int.mul_nonneg (by omega) (by omega), ?_⟩
    have := Int.mul_le_mul (show c.leafHigh - c.rootHigh ≤ 64 by omega) hx6 (by omega) (by omega)
    omega
  have hz1 : IntKind.i64.wrap (c.leafHigh - c.rootHigh) = c.leafHigh - c.rootHigh := IntWalk.i64_in _ (by omega)
  have hz2 : IntKind.i64.wrap ((c.leafHigh - c.rootHigh) * c.seg) = (c.leafHigh - c.rootHigh) * c.seg := IntWalk.i64_in _ (by omega)
  have hz3 : IntKind.i64.wrap (c.den * (t : Int)) = c.den * (t : Int) := IntWalk.i64_in _ (by omega)
  have HE : Hid (V = decide (c.den * (t : Int) ≤ (c.leafHigh - c.rootHigh) * c.seg)) := by
    show _ = _
    rw [← HV.out]
    unfold okC tallB
    rw [show (sizesL c).all id = true from by unfold sizesL; rw [H4.out, H5.out]; simp only [List.all_cons, List.all_nil, id, Bool.and_eq_true, decide_eq_true_eq, Bool.and_true, true_and]; omega,
      show (partsL c).all id = true from by unfold partsL; simp only [List.all_cons, List.all_nil, id, Bool.and_eq_true, decide_eq_true_eq, Bool.and_true]; omega,
      show (roomL c).all id = true from by unfold roomL; simp only [List.all_cons, List.all_nil, id, Bool.and_eq_true, decide_eq_true_eq, Bool.and_true]; omega, ht]
    rfl
  have HTK := Lib.hid htk
  have HHT := Lib.hid hht
  have i3 := HC0.out.lt
  clear hts htl htk htall htl2 hT hht ht hx5 hx6 hx7 hx8 hx9 hx10 hm1 hm2 ht16
  go_cut [2] from 106 to 123 (fun v wx => v = .bool (decide (c.den * (t : Int) ≤ (c.leafHigh - c.rootHigh) * c.seg)) ∧ Below v2.heap.size v2 wx)
  case first =>
    go_region_held3 (fun w' => (∀ bq jq, bq < v2.heap.size → w'.cell? ⟨bq, jq, none⟩ = v2.cell? ⟨bq, jq, none⟩) ∧ (∀ bq jq, bq < v2.heap.size → w'.frozen? ⟨bq, jq, none⟩ = v2.frozen? ⟨bq, jq, none⟩) ∧ v2.heap.size ≤ w'.heap.size ∧ Below v2.heap.size v2 w') ((with_reducible first | exact SB.init | exact SB.init0 | exact SB.alloc _ (by assumption) | exact SB.allocD _ (by assumption) | exact SB.below (by assumption) (by assumption) | assumption))
      (first
        | (go_at_call 83; refine (HTK.out _).mono ?_; rintro e21 v21 ⟨rfl, hv21⟩; have hl21 := SB.le hv21 (by assumption); obtain ⟨hc21, hz21, hs21⟩ := wfacts hv21)
        | (go_at_call 82; refine (HHT.out _).mono ?_; rintro e22 v22 ⟨rfl, hv22⟩; have hl22 := SB.le hv22 (by assumption); obtain ⟨hc22, hz22, hs22⟩ := wfacts hv22)
        | fail "no arm")
    all_goals
      go_wp2_with fail
      go_meet
      exact ⟨by simp, SB.bel (by assumption)⟩
  case rest =>
    obtain ⟨rfl, hb4⟩ := hcut
    go_wp2_with fail
    go_ret
    exact ⟨by rw [HE.out]; rfl, bext HB0.out hb4⟩
end Go.Proofs.YthbppblmecdekaaGreatDoor
