/- Cd Da: texts of the claim, in this order. -/
import Derived.Test.YthbppblmecdekaaDoorWb18
import Derived.Deep.CutRange
import Derived.Deep.RegionHeld3
import Derived.BigQuiet
import Derived.Test.YthbppblmecdekaaDoorWb17
/- Contract: conf.Check. -/
namespace Go.Proofs.YthbppblmecdekaaDoor
open Go Go.RowKit
set_option maxRecDepth 100000
def sizesL (c : Cfg) : List Bool := [decide (1 ≤ c.tag), decide (c.tag ≤ 3), decide (1 ≤ c.most), decide (c.most ≤ 16384), powB c.seg 4 64, powB c.least c.seg 256, decide (1 ≤ c.den), decide (c.den ≤ 64)]
def partsL (c : Cfg) : List Bool := [decide (0 ≤ c.leafLow), decide (c.leafLow < c.rootLow), decide (c.rootLow < c.rootHigh), decide (c.rootHigh < c.leafHigh), decide (c.leafHigh ≤ c.den)]
def roomL (c : Cfg) : List Bool := [decide (c.den ≤ 2 * c.rootHigh), decide (8 * c.rootLow ≤ c.den), decide (2 * c.den ≤ c.rootLow * c.least)]
def tallB (c : Cfg) : Bool := decide (c.den * (c.tall : Int) ≤ (c.leafHigh - c.rootHigh) * c.seg)
def okC (c : Cfg) : Bool := (sizesL c).all id && (partsL c).all id && (roomL c).all id && tallB c
def errC (c : Cfg) : Int := if okC c = true then 0 else 50
theorem allB_any (A : Option Addr) (l : List Bool) (c : Nat) (w : World) (hA : Sl w A (l.map bv)) (hl : l.length ≤ 1000000) :
    Calls Tryd.prog 100 #[.slice A l.length c] w fun r w' => r = .returned (.bool (l.all id)) ∧ Below w.heap.size w w' :=
  (allc_any A l c w hA hl).mono (fun _ _ h => ⟨h.1, h.2 ▸ Below.refl _ _⟩)
set_option maxHeartbeats 16000000 in
theorem checkC_any (c : Cfg) (w : World) : Calls Tryd.prog 69 #[.agg c.row] w fun r w' => r = .returned (.int .i64 (errC c)) ∧ Below w.heap.size w w' := by
  obtain ⟨W0, hW0⟩ : ∃ W0, w.alloc (.cells c.row 63) = W0 := ⟨_, rfl⟩
  have hb0 : Below w.heap.size w W0 := by rw [← hW0]; exact (Below.refl _ _).alloc (Nat.le_refl _) _
  have b0 : Blk W0 w.heap.size 63 c.row := by rw [← hW0]; exact Blk.new _ _ _
  have HW0 := Lib.hid hW0
  have HB0 := Lib.hid hb0
  have HC0 := Lib.hid b0
  have hp1 := fun W => (powerC_any c.seg 4 64 W (by omega)).mono (R' := fun r w' => r = .returned (.bool (powB c.seg 4 64)) ∧ Below W.heap.size W w') (fun r w' h => ⟨h.1, h.2 ▸ Below.refl _ _⟩)
  have hp2 := fun W => (powerC_any c.least c.seg 256 W (by omega)).mono (R' := fun r w' => r = .returned (.bool (powB c.least c.seg 256)) ∧ Below W.heap.size W w') (fun r w' h => ⟨h.1, h.2 ▸ Below.refl _ _⟩)
  obtain ⟨t4, h4⟩ : ∃ t, powB c.seg 4 64 = t := ⟨_, rfl⟩
  obtain ⟨t5, h5⟩ : ∃ t, powB c.least c.seg 256 = t := ⟨_, rfl⟩
  rw [h4] at hp1
  rw [h5] at hp2
  have HS1 := Lib.hid (show [decide (1 ≤ c.tag), decide (c.tag ≤ 3), decide (1 ≤ c.most), decide (c.most ≤ 16384), t4, t5, decide (1 ≤ c.den), decide (c.den ≤ 64)].all id = (sizesL c).all id by unfold sizesL; rw [h4, h5])
  obtain ⟨S1, hS1⟩ : ∃ S, (sizesL c).all id = S := ⟨_, rfl⟩
  rw [hS1] at HS1
  have HZ1 := Lib.hid hS1
  have HP1 := Lib.hid hp1
  have HP2 := Lib.hid hp2
  have H4 := Lib.hid h4
  have H5 := Lib.hid h5
  clear hW0 hb0 hp1 hp2 h4 h5 hS1
  have q0 : W0.cell? ⟨w.heap.size, 0, none⟩ = some (.int .u8 c.tag) := b0.cell 0
  have q1 : W0.cell? ⟨w.heap.size, 1, none⟩ = some (.int .i64 c.most) := b0.cell 1
  have q2 : W0.cell? ⟨w.heap.size, 2, none⟩ = some (.int .i64 c.seg) := b0.cell 2
  have q3 : W0.cell? ⟨w.heap.size, 3, none⟩ = some (.int .i64 c.least) := b0.cell 3
  have q4 : W0.cell? ⟨w.heap.size, 4, none⟩ = some (.int .i64 c.den) := b0.cell 4
  have q5 : W0.cell? ⟨w.heap.size, 5, none⟩ = some (.int .i64 c.leafLow) := b0.cell 5
  have q6 : W0.cell? ⟨w.heap.size, 6, none⟩ = some (.int .i64 c.rootLow) := b0.cell 6
  have q7 : W0.cell? ⟨w.heap.size, 7, none⟩ = some (.int .i64 c.rootHigh) := b0.cell 7
  have q8 : W0.cell? ⟨w.heap.size, 8, none⟩ = some (.int .i64 c.leafHigh) := b0.cell 8
  have i0 := b0.lt
  clear b0
  go_enter Tryd.func69, Tryd.ntmps69
  go_upto_region 1 with fail
  rw [HW0.out]
  go_cut [3] from 5 to 32 (fun v wx => v = .bool S1 ∧ Below W0.heap.size W0 wx)
  case first =>
    go_region_held3 (fun w' => (∀ bq jq, bq < W0.heap.size → w'.cell? ⟨bq, jq, none⟩ = W0.cell? ⟨bq, jq, none⟩) ∧ (∀ bq jq, bq < W0.heap.size → w'.frozen? ⟨bq, jq, none⟩ = W0.frozen? ⟨bq, jq, none⟩) ∧ W0.heap.size ≤ w'.heap.size ∧ Below W0.heap.size W0 w') ((with_reducible first | exact SB.init | exact SB.init0 | exact SB.alloc _ (by assumption) | exact SB.allocD _ (by assumption) | exact SB.below (by assumption) (by assumption) | assumption))
      (first
        | (have hx := hv21; go_at_call 101; refine (HP2.out _).mono ?_; rintro e22 v22 ⟨rfl, hv22⟩; have hl22 := SB.le hv22 (by assumption); obtain ⟨hc22, hz22, hs22⟩ := wfacts hv22)
        | (go_at_call 101; refine (HP1.out _).mono ?_; rintro e21 v21 ⟨rfl, hv21⟩; have hl21 := SB.le hv21 (by assumption); obtain ⟨hc21, hz21, hs21⟩ := wfacts hv21)
        | (go_at_call 101; refine (HP2.out _).mono ?_; rintro e23 v23 ⟨rfl, hv23⟩; have hl23 := SB.le hv23 (by assumption); obtain ⟨hc23, hz23, hs23⟩ := wfacts hv23)
        | (go_at_call 100; refine (allB_any _ [decide (1 ≤ c.tag), decide (c.tag ≤ 3), decide (1 ≤ c.most), decide (c.most ≤ 16384), t4, t5, decide (1 ≤ c.den), decide (c.den ≤ 64)] 8 _ (by exact sl_new1 _ _ _) (by simp)).mono ?_; rw [HS1.out]; rintro e24 v24 ⟨rfl, hv24⟩; have hl24 := SB.le hv24 (by assumption); obtain ⟨hc24, hz24, hs24⟩ := wfacts hv24)
        | fail "no arm")
    all_goals
      go_wp2_with fail
      go_meet
      exact ⟨by simp, SB.bel (by assumption)⟩
  case rest =>
    obtain ⟨rfl, hb1⟩ := hcut
    rename_i hk
    refine hk _ _ ?_
    have HB1 := Lib.hid (bext HB0.out hb1)
    have bC1 := HC0.out.below hb1 HC0.out.lt
    have HC1 := Lib.hid bC1
    clear hk hb1 q0 q1 q2 q3 q4 q5 q6 q7 q8 i0 HP1 HP2 HS1
    have q0 : wc.cell? ⟨w.heap.size, 0, none⟩ = some (.int .u8 c.tag) := bC1.cell 0
    have q1 : wc.cell? ⟨w.heap.size, 1, none⟩ = some (.int .i64 c.most) := bC1.cell 1
    have q2 : wc.cell? ⟨w.heap.size, 2, none⟩ = some (.int .i64 c.seg) := bC1.cell 2
    have q3 : wc.cell? ⟨w.heap.size, 3, none⟩ = some (.int .i64 c.least) := bC1.cell 3
    have q4 : wc.cell? ⟨w.heap.size, 4, none⟩ = some (.int .i64 c.den) := bC1.cell 4
    have q5 : wc.cell? ⟨w.heap.size, 5, none⟩ = some (.int .i64 c.leafLow) := bC1.cell 5
    have q6 : wc.cell? ⟨w.heap.size, 6, none⟩ = some (.int .i64 c.rootLow) := bC1.cell 6
    have q7 : wc.cell? ⟨w.heap.size, 7, none⟩ = some (.int .i64 c.rootHigh) := bC1.cell 7
    have q8 : wc.cell? ⟨w.heap.size, 8, none⟩ = some (.int .i64 c.leafHigh) := bC1.cell 8
    clear bC1
    go_wp2_with fail
    refine (allB_any _ [decide (0 ≤ c.leafLow), decide (c.leafLow < c.rootLow), decide (c.rootLow < c.rootHigh), decide (c.rootHigh < c.leafHigh), decide (c.leafHigh ≤ c.den)] 5 _ (by exact sl_new1 _ _ _) (by simp)).mono ?_
    obtain ⟨S2, hS2⟩ : ∃ S, (partsL c).all id = S := ⟨_, rfl⟩
    have hS2' := hS2
    unfold partsL at hS2'
    rw [hS2']
    have HZ2 := Lib.hid hS2
    clear hS2 hS2'
    have ha1 : Below wc.heap.size wc (wc.alloc (.cells #[.bool (decide (0 ≤ c.leafLow)), .bool (decide (c.leafLow < c.rootLow)), .bool (decide (c.rootLow < c.rootHigh)), .bool (decide (c.rootHigh < c.leafHigh)), .bool (decide (c.leafHigh ≤ c.den))] 4)) := (Below.refl _ _).alloc (Nat.le_refl _) _
    rintro e w2 ⟨rfl, hb2⟩
    have HB2 := Lib.hid (bext HB1.out (bext ha1 hb2))
    have HC2 := Lib.hid (HC1.out.below (bext ha1 hb2) HC1.out.lt)
    clear ha1 hb2 q0 q1 q2 q3 q4 q5 q6 q7 q8
    cases hs1 : S1 with
    | false =>
      have HE : Hid (errC c = 50) := by show _ = _; unfold errC okC; rw [HZ1.out, hs1]; rfl
      go_wp2_with fail
      go_ret
      exact ⟨by rw [HE.out]; rfl, HB2.out⟩
    | true =>
    subst hs1
    cases hs2 : S2 with
    | false =>
      have HE : Hid (errC c = 50) := by show _ = _; unfold errC okC; rw [HZ1.out, HZ2.out, hs2]; rfl
      go_wp2_with fail
      go_ret
      exact ⟨by rw [HE.out]; rfl, HB2.out⟩
    | true =>
    subst hs2
    have hb := HZ1.out
    have hb' := HZ2.out
    simp only [sizesL, partsL, powB, List.all_cons, List.all_nil, id, Bool.and_eq_true, decide_eq_true_eq, Bool.and_true] at hb hb'
    obtain ⟨hx1, hx2, hx3, hx4, ⟨⟨hx5, hx6⟩, hx7⟩, ⟨⟨hx8, hx9⟩, hx10⟩, hx11, hx12⟩ := hb
    obtain ⟨hy1, hy2, hy3, hy4, hy5⟩ := hb'
    have hz1 : IntKind.i64.wrap (2 * c.rootHigh) = 2 * c.rootHigh := IntWalk.i64_in _ (by omega)
    have hz2 : IntKind.i64.wrap (8 * c.rootLow) = 8 * c.rootLow := IntWalk.i64_in _ (by omega)
    have hz3 : IntKind.i64.wrap (2 * c.den) = 2 * c.den := IntWalk.i64_in _ (by omega)
    have hm : 0 ≤ c.rootLow * c.least ∧ c.rootLow * c.least ≤ 16384 := by
      have h1 : 0 ≤ c.rootLow := by omega
      have h2 : c.rootLow ≤ 64 := by omega
      refine ⟨Int.mul_nonneg h1 (by omega), ?_⟩
      have := Int.mul_le_mul h2 hx9 (by omega) (by omega)
      omega
    have hz4 : IntKind.i64.wrap (c.rootLow * c.least) = c.rootLow * c.least := IntWalk.i64_in _ (by omega)
    have HX := Lib.hid (show (1 ≤ c.most ∧ c.most ≤ 16384) ∧ (4 ≤ c.seg ∧ c.seg ≤ 64) ∧ (c.seg ≤ c.least ∧ c.least ≤ 256) ∧ (1 ≤ c.den ∧ c.den ≤ 64) from ⟨⟨hx3, hx4⟩, ⟨hx5, hx6⟩, ⟨hx8, hx9⟩, hx11, hx12⟩)
    have HY := Lib.hid (show 0 ≤ c.leafLow ∧ c.leafLow < c.rootLow ∧ c.rootLow < c.rootHigh ∧ c.rootHigh < c.leafHigh ∧ c.leafHigh ≤ c.den from ⟨hy1, hy2, hy3, hy4, hy5⟩)
    clear hx1 hx2 hx3 hx4 hx5 hx6 hx7 hx8 hx9 hx10 hx11 hx12 hy1 hy2 hy3 hy4 hy5 hm
    have bC2 := HC2.out
    have q0 : w2.cell? ⟨w.heap.size, 0, none⟩ = some (.int .u8 c.tag) := bC2.cell 0
    have q1 : w2.cell? ⟨w.heap.size, 1, none⟩ = some (.int .i64 c.most) := bC2.cell 1
    have q2 : w2.cell? ⟨w.heap.size, 2, none⟩ = some (.int .i64 c.seg) := bC2.cell 2
    have q3 : w2.cell? ⟨w.heap.size, 3, none⟩ = some (.int .i64 c.least) := bC2.cell 3
    have q4 : w2.cell? ⟨w.heap.size, 4, none⟩ = some (.int .i64 c.den) := bC2.cell 4
    have q5 : w2.cell? ⟨w.heap.size, 5, none⟩ = some (.int .i64 c.leafLow) := bC2.cell 5
    have q6 : w2.cell? ⟨w.heap.size, 6, none⟩ = some (.int .i64 c.rootLow) := bC2.cell 6
    have q7 : w2.cell? ⟨w.heap.size, 7, none⟩ = some (.int .i64 c.rootHigh) := bC2.cell 7
    have q8 : w2.cell? ⟨w.heap.size, 8, none⟩ = some (.int .i64 c.leafHigh) := bC2.cell 8
    clear bC2
    go_wp2_with fail
    refine (allB_any _ [decide (c.den ≤ 2 * c.rootHigh), decide (8 * c.rootLow ≤ c.den), decide (2 * c.den ≤ c.rootLow * c.least)] 3 _ (by exact sl_new1 _ _ _) (by simp)).mono ?_
    obtain ⟨S3, hS3⟩ : ∃ S, (roomL c).all id = S := ⟨_, rfl⟩
    have hS3' := hS3
    unfold roomL at hS3'
    rw [hS3']
    have HZ3 := Lib.hid hS3
    clear hS3 hS3' hz1 hz2 hz3 hz4
    have ha1 : Below w2.heap.size w2 (w2.alloc (.cells #[.bool (decide (c.den ≤ 2 * c.rootHigh)), .bool (decide (8 * c.rootLow ≤ c.den)), .bool (decide (2 * c.den ≤ c.rootLow * c.least))] 4)) := (Below.refl _ _).alloc (Nat.le_refl _) _
    rintro e w3 ⟨rfl, hb3⟩
    have HB3 := Lib.hid (bext HB2.out (bext ha1 hb3))
    have HC3 := Lib.hid (HC2.out.below (bext ha1 hb3) HC2.out.lt)
    clear ha1 hb3 q0 q1 q2 q3 q4 q5 q6 q7 q8
    cases hs3 : S3 with
    | false =>
      have HE : Hid (errC c = 50) := by show _ = _; unfold errC okC; rw [HZ1.out, HZ2.out, HZ3.out, hs3]; rfl
      go_wp2_with fail
      go_ret
      exact ⟨by rw [HE.out]; rfl, HB3.out⟩
    | true =>
    subst hs3
    have hb := HZ3.out
    simp only [roomL, List.all_cons, List.all_nil, id, Bool.and_eq_true, decide_eq_true_eq, Bool.and_true] at hb
    obtain ⟨hr1, hr2, hr3⟩ := hb
    obtain ⟨⟨hx3, hx4⟩, ⟨hx5, hx6⟩, ⟨hx8, hx9⟩, hx11, hx12⟩ := HX.out
    obtain ⟨hy1, hy2, hy3, hy4, hy5⟩ := HY.out
    have hts : TakeS c c.most.toNat c.den.toNat c.rootHigh.toNat c.least.toNat := ⟨(Int.toNat_of_nonneg (by omega)).symm, (Int.toNat_of_nonneg (by omega)).symm, (Int.toNat_of_nonneg (by omega)).symm, by omega, by omega, by omega, by omega, by omega, by omega, by omega, by omega⟩
    have htl := takes_le (n := c.most.toNat) (den := c.den.toNat) (high := c.rootHigh.toNat) hts.n2 hts.dh (fits_start (s := c.least.toNat) hts.n2 hts.dh (by have := hts.l1; omega) hts.l2)
    have htk := fun W => takes_any c c.most.toNat c.den.toNat c.rootHigh.toNat c.least.toNat W hts
    have htall : c.tall = Nat.log2 (takesN c.most.toNat c.den.toNat c.rootHigh.toNat c.least.toNat / c.seg.toNat) := rfl
    have htl2 : takesN c.most.toNat c.den.toNat c.rootHigh.toNat c.least.toNat ≤ 65536 ∧ c.least.toNat ≤ takesN c.most.toNat c.den.toNat c.rootHigh.toNat c.least.toNat := htl
    obtain ⟨T, hT⟩ : ∃ T, takesN c.most.toNat c.den.toNat c.rootHigh.toNat c.least.toNat = T := ⟨_, rfl⟩
    rw [hT] at htk htall htl2
    rw [Int.toNat_of_nonneg (by omega : 0 ≤ c.most)] at htk
    have hht := fun W => height_any c T c.seg.toNat W (Int.toNat_of_nonneg (by omega)).symm htl2.1 (by omega) (by omega)
    rw [← htall] at hht
    obtain ⟨t, ht⟩ : ∃ t, c.tall = t := ⟨_, rfl⟩
    rw [ht] at hht htall
    have ht16 : t ≤ 16 := by
      rw [htall]
      exact log2_le (Nat.le_trans (Nat.div_le_self _ _) htl2.1)
    have hm1 : 0 ≤ c.den * (t : Int) ∧ c.den * (t : Int) ≤ 1024 := by
      refine ⟨Int.mul_nonneg (by omega) (by omega), ?_⟩
      have := Int.mul_le_mul hx12 (show (t : Int) ≤ 16 by omega) (by omega) (by omega)
      omega
    have hm2 : 0 ≤ (c.leafHigh - c.rootHigh) * c.seg ∧ (c.leafHigh - c.rootHigh) * c.seg ≤ 4096 := by
      refine ⟨Int.mul_nonneg (by omega) (by omega), ?_⟩
      have := Int.mul_le_mul (show c.leafHigh - c.rootHigh ≤ 64 by omega) hx6 (by omega) (by omega)
      omega
    have hz1 : IntKind.i64.wrap (c.leafHigh - c.rootHigh) = c.leafHigh - c.rootHigh := IntWalk.i64_in _ (by omega)
    have hz2 : IntKind.i64.wrap ((c.leafHigh - c.rootHigh) * c.seg) = (c.leafHigh - c.rootHigh) * c.seg := IntWalk.i64_in _ (by omega)
    have hz3 : IntKind.i64.wrap (c.den * (t : Int)) = c.den * (t : Int) := IntWalk.i64_in _ (by omega)
    have HE : Hid (errC c = if (c.leafHigh - c.rootHigh) * c.seg < c.den * (t : Int) then 50 else 0) := by
      show _ = _
      unfold errC okC tallB
      rw [HZ1.out, HZ2.out, HZ3.out, ht]
      by_cases h : (c.leafHigh - c.rootHigh) * c.seg < c.den * (t : Int)
      · rw [if_pos h, decide_eq_false (by omega)]; rfl
      · rw [if_neg h, decide_eq_true (by omega)]; rfl
    have HTK := Lib.hid htk
    have HHT := Lib.hid hht
    clear hts htl htk htall htl2 hT hht ht hr1 hr2 hr3 hx3 hx4 hx5 hx6 hx8 hx9 hx11 hx12 hy1 hy2 hy3 hy4 hy5 hm1 hm2 ht16
    have bC3 := HC3.out
    have q0 : w3.cell? ⟨w.heap.size, 0, none⟩ = some (.int .u8 c.tag) := bC3.cell 0
    have q1 : w3.cell? ⟨w.heap.size, 1, none⟩ = some (.int .i64 c.most) := bC3.cell 1
    have q2 : w3.cell? ⟨w.heap.size, 2, none⟩ = some (.int .i64 c.seg) := bC3.cell 2
    have q3 : w3.cell? ⟨w.heap.size, 3, none⟩ = some (.int .i64 c.least) := bC3.cell 3
    have q4 : w3.cell? ⟨w.heap.size, 4, none⟩ = some (.int .i64 c.den) := bC3.cell 4
    have q5 : w3.cell? ⟨w.heap.size, 5, none⟩ = some (.int .i64 c.leafLow) := bC3.cell 5
    have q6 : w3.cell? ⟨w.heap.size, 6, none⟩ = some (.int .i64 c.rootLow) := bC3.cell 6
    have q7 : w3.cell? ⟨w.heap.size, 7, none⟩ = some (.int .i64 c.rootHigh) := bC3.cell 7
    have q8 : w3.cell? ⟨w.heap.size, 8, none⟩ = some (.int .i64 c.leafHigh) := bC3.cell 8
    have i3 := bC3.lt
    clear bC3
    go_upto_region 5 with fail
    go_cut [107] from 90 to 107 (fun v wx => v = .bool (decide ((c.leafHigh - c.rootHigh) * c.seg < c.den * (t : Int))) ∧ Below w3.heap.size w3 wx)
    case first =>
      go_region_held3 (fun w' => (∀ bq jq, bq < w3.heap.size → w'.cell? ⟨bq, jq, none⟩ = w3.cell? ⟨bq, jq, none⟩) ∧ (∀ bq jq, bq < w3.heap.size → w'.frozen? ⟨bq, jq, none⟩ = w3.frozen? ⟨bq, jq, none⟩) ∧ w3.heap.size ≤ w'.heap.size ∧ Below w3.heap.size w3 w') ((with_reducible first | exact SB.init | exact SB.init0 | exact SB.alloc _ (by assumption) | exact SB.allocD _ (by assumption) | exact SB.below (by assumption) (by assumption) | assumption))
        (first
          | (go_at_call 103; refine (HTK.out _).mono ?_; rintro e21 v21 ⟨rfl, hv21⟩; have hl21 := SB.le hv21 (by assumption); obtain ⟨hc21, hz21, hs21⟩ := wfacts hv21)
          | (go_at_call 102; refine (HHT.out _).mono ?_; rintro e22 v22 ⟨rfl, hv22⟩; have hl22 := SB.le hv22 (by assumption); obtain ⟨hc22, hz22, hs22⟩ := wfacts hv22)
          | fail "no arm")
      all_goals
        go_wp2_with fail
        go_meet
        exact ⟨by simp, SB.bel (by assumption)⟩
    case rest =>
      obtain ⟨rfl, hb4⟩ := hcut
      have HB4 := Lib.hid (bext HB3.out hb4)
      clear hb4 q0 q1 q2 q3 q4 q5 q6 q7 q8
      by_cases hlt : (c.leafHigh - c.rootHigh) * c.seg < c.den * (t : Int)
      · rw [decide_eq_true hlt]
        have HV : Hid (errC c = 50) := by show _ = _; rw [HE.out, if_pos hlt]
        clear hlt
        go_wp2_with fail
        go_ret
        exact ⟨by rw [HV.out]; rfl, HB4.out⟩
      · rw [decide_eq_false hlt]
        have HV : Hid (errC c = 0) := by show _ = _; rw [HE.out, if_neg hlt]
        clear hlt
        go_wp2_with fail
        go_ret
        exact ⟨by rw [HV.out]; rfl, HB4.out⟩
end Go.Proofs.YthbppblmecdekaaDoor

/- Contracts: ladder.Check, Pairs, Get. -/
namespace Go.Proofs.YthbppblmecdekaaDoor
open Go Go.RowKit
set_option maxRecDepth 100000
section
variable {w : World} {g : Nat} {t : TypeId} {x0 x1 x2 x3 x4 x5 x6 x7 x8 x9 x10 : Value}
theorem put11 (h : Blk w g t #[x0, x1, x2, x3, x4, x5, x6, x7, x8, x9, x10]) (y0 y1 y2 y3 y4 y5 y6 y7 y8 y9 y10 : Value) : Blk (((((((((((w.setCell ⟨g, 0, none⟩ y0).setCell ⟨g, 1, none⟩ y1).setCell ⟨g, 2, none⟩ y2).setCell ⟨g, 3, none⟩ y3).setCell ⟨g, 4, none⟩ y4).setCell ⟨g, 5, none⟩ y5).setCell ⟨g, 6, none⟩ y6).setCell ⟨g, 7, none⟩ y7).setCell ⟨g, 8, none⟩ y8).setCell ⟨g, 9, none⟩ y9).setCell ⟨g, 10, none⟩ y10) g t #[y0, y1, y2, y3, y4, y5, y6, y7, y8, y9, y10] := by
  simpa using ((((((((((h.set_ 0 y0).set_ 1 y1).set_ 2 y2).set_ 3 y3).set_ 4 y4).set_ 5 y5).set_ 6 y6).set_ 7 y7).set_ 8 y8).set_ 9 y9).set_ 10 y10
theorem below11 {B : Nat} {a : World} (h : Below B a w) (hg : B ≤ g) (y0 y1 y2 y3 y4 y5 y6 y7 y8 y9 y10 : Value) : Below B a (((((((((((w.setCell ⟨g, 0, none⟩ y0).setCell ⟨g, 1, none⟩ y1).setCell ⟨g, 2, none⟩ y2).setCell ⟨g, 3, none⟩ y3).setCell ⟨g, 4, none⟩ y4).setCell ⟨g, 5, none⟩ y5).setCell ⟨g, 6, none⟩ y6).setCell ⟨g, 7, none⟩ y7).setCell ⟨g, 8, none⟩ y8).setCell ⟨g, 9, none⟩ y9).setCell ⟨g, 10, none⟩ y10) :=
  ((((((((((h.setCell (p := ⟨g, 0, none⟩) hg y0).setCell (p := ⟨g, 1, none⟩) hg y1).setCell (p := ⟨g, 2, none⟩) hg y2).setCell (p := ⟨g, 3, none⟩) hg y3).setCell (p := ⟨g, 4, none⟩) hg y4).setCell (p := ⟨g, 5, none⟩) hg y5).setCell (p := ⟨g, 6, none⟩) hg y6).setCell (p := ⟨g, 7, none⟩) hg y7).setCell (p := ⟨g, 8, none⟩) hg y8).setCell (p := ⟨g, 9, none⟩) hg y9).setCell (p := ⟨g, 10, none⟩) hg y10
end
abbrev lrow (c : Cfg) (B : Option Addr) (m k : Nat) (n : Int) : Array Value := #[.int .u8 c.tag, .int .i64 c.most, .int .i64 c.seg, .int .i64 c.least, .int .i64 c.den, .int .i64 c.leafLow, .int .i64 c.rootLow, .int .i64 c.rootHigh, .int .i64 c.leafHigh, .slice B m k, .int .u64 n]
/-- the error of a map -/
def errL (c : Cfg) (L : Lv) : Int := if errC c = 0 then (if chkR L = 0 ∧ ((prR L).length : Int) ≤ c.most ∧ tot L ≤ 2 * (prR L).length + 2 then 0 else 8) else errC c
def prD (c : Cfg) (L : Lv) : List Pr := if errL c L = 0 then prR L else []
def vlD (c : Cfg) (L : Lv) (key : Int) : Int := if errL c L = 0 ∧ isB L key = true then (gxR L key).val else 0
def veD (c : Cfg) (L : Lv) (key : Int) : Int := if errL c L = 0 then (if isB L key = true then 0 else 6) else errL c L
theorem errC_vals (c : Cfg) : errC c = 0 ∨ errC c = 50 := by unfold errC; split <;> simp
theorem errL_zero {c : Cfg} {L : Lv} (h : errL c L = 0) : errC c = 0 ∧ chkR L = 0 ∧ ((prR L).length : Int) ≤ c.most ∧ tot L ≤ 2 * (prR L).length + 2 := by
  unfold errL at h
  by_cases h1 : errC c = 0
  · rw [if_pos h1] at h
    split at h
    · rename_i h2; exact ⟨h1, h2⟩
    · cases h
  · rw [if_neg h1] at h; exact absurd h h1
set_option maxHeartbeats 8000000 in
theorem checkD_any (B : Option Addr) (Rs : List Rm) (k : Nat) (c : Cfg) (n : Int) (w : World) (hB : RunsAt w B Rs) (hT : tot (lvs Rs) ≤ 1000000) (hl : Rs.length ≤ 1000000) :
    Calls Tryd.prog 36 #[.agg (lrow c B Rs.length k n)] w fun r w' => r = .returned (.int .i64 (errL c (lvs Rs))) ∧ Below w.heap.size w w' := by
  obtain ⟨W0, hW0⟩ : ∃ W0, w.alloc (.cells #[.int .u8 c.tag, .int .i64 c.most, .int .i64 c.seg, .int .i64 c.least, .int .i64 c.den, .int .i64 c.leafLow, .int .i64 c.rootLow, .int .i64 c.rootHigh, .int .i64 c.leafHigh, .slice B Rs.length k, .int .u64 n] 65) = W0 := ⟨_, rfl⟩
  have hb0 : Below w.heap.size w W0 := by rw [← hW0]; exact (Below.refl _ _).alloc (Nat.le_refl _) _
  have b0 : Blk W0 w.heap.size 65 #[.int .u8 c.tag, .int .i64 c.most, .int .i64 c.seg, .int .i64 c.least, .int .i64 c.den, .int .i64 c.leafLow, .int .i64 c.rootLow, .int .i64 c.rootHigh, .int .i64 c.leafHigh, .slice B Rs.length k, .int .u64 n] := by rw [← hW0]; exact Blk.new _ _ _
  have HW0 := Lib.hid hW0
  have HB := Lib.hid (hB.below hb0)
  have HB0 := Lib.hid hb0
  have HC0 := Lib.hid b0
  have hcn := fun W (hW : Below W0.heap.size W0 W) => countR_any B Rs k n W (HB.out.below hW) hT hl
  obtain ⟨V, hV⟩ : ∃ V, errL c (lvs Rs) = V := ⟨_, rfl⟩
  rw [hV]
  unfold errL at hV
  obtain ⟨E, hE⟩ : ∃ E, errC c = E := ⟨_, rfl⟩
  obtain ⟨F, hF⟩ : ∃ F, chkR (lvs Rs) = F := ⟨_, rfl⟩
  obtain ⟨P, hP⟩ : ∃ P, (prR (lvs Rs)).length = P := ⟨_, rfl⟩
  obtain ⟨T, hTT⟩ : ∃ T, tot (lvs Rs) = T := ⟨_, rfl⟩
  have hPT : P ≤ T := by
    rw [← hP, ← hTT]
    by_cases h : chkR (lvs Rs) = 0
    · rw [prR_len h]; exact allL_le
    · rw [prR_bad h]; simp
  rw [hF, hP, hTT] at hcn
  rw [hE, hF, hP, hTT] at hV
  rw [hTT] at hT
  have hce := fun W => checkC_any c W
  rw [hE] at hce
  have HCE := Lib.hid hce
  have HV := Lib.hid hV
  obtain ⟨Z, hZ⟩ : ∃ Z : Int, (if F = 0 then (T : Int) else 0) = Z := ⟨_, rfl⟩
  rw [hZ] at hcn
  have HCN := Lib.hid hcn
  have HZ := Lib.hid hZ
  clear hW0 hB hcn hV hce hE hF hP hTT hZ
  have q0 : W0.cell? ⟨w.heap.size, 0, none⟩ = some (.int .u8 c.tag) := b0.cell 0
  have q1 : W0.cell? ⟨w.heap.size, 1, none⟩ = some (.int .i64 c.most) := b0.cell 1
  have q2 : W0.cell? ⟨w.heap.size, 2, none⟩ = some (.int .i64 c.seg) := b0.cell 2
  have q3 : W0.cell? ⟨w.heap.size, 3, none⟩ = some (.int .i64 c.least) := b0.cell 3
  have q4 : W0.cell? ⟨w.heap.size, 4, none⟩ = some (.int .i64 c.den) := b0.cell 4
  have q5 : W0.cell? ⟨w.heap.size, 5, none⟩ = some (.int .i64 c.leafLow) := b0.cell 5
  have q6 : W0.cell? ⟨w.heap.size, 6, none⟩ = some (.int .i64 c.rootLow) := b0.cell 6
  have q7 : W0.cell? ⟨w.heap.size, 7, none⟩ = some (.int .i64 c.rootHigh) := b0.cell 7
  have q8 : W0.cell? ⟨w.heap.size, 8, none⟩ = some (.int .i64 c.leafHigh) := b0.cell 8
  have q9 : W0.cell? ⟨w.heap.size, 9, none⟩ = some (.slice B Rs.length k) := b0.cell 9
  have q10 : W0.cell? ⟨w.heap.size, 10, none⟩ = some (.int .u64 n) := b0.cell 10
  clear b0
  go_enter Tryd.func36, Tryd.ntmps36
  go_upto_region 1 with fail
  rw [HW0.out]
  go_wp2_with fail
  refine (HCE.out _).mono ?_
  rintro e w1 ⟨rfl, hb1⟩
  have HB1 := Lib.hid (bext HB0.out hb1)
  have b1 := HC0.out.below hb1 HC0.out.lt
  have HC1 := Lib.hid b1
  have HS1 := Lib.hid hb1
  clear hb1 hb0 q0 q1 q2 q3 q4 q5 q6 q7 q8 q9 q10
  by_cases h0 : E = 0
  case neg =>
    have h1 : (E != 0) = true := by simpa using h0
    have HVV : Hid (V = E) := by show _ = _; rw [← HV.out, if_neg h0]
    clear h0
    go_wp2_with fail
    go_ret
    exact ⟨by rw [HVV.out]; rfl, HB1.out⟩
  case pos =>
  have HV1 := Lib.hid (show (if F = 0 ∧ (P : Int) ≤ c.most ∧ T ≤ 2 * P + 2 then (0 : Int) else 8) = V by rw [← HV.out, if_pos h0])
  subst h0
  have q0 : w1.cell? ⟨w.heap.size, 0, none⟩ = some (.int .u8 c.tag) := b1.cell 0
  have q1 : w1.cell? ⟨w.heap.size, 1, none⟩ = some (.int .i64 c.most) := b1.cell 1
  have q2 : w1.cell? ⟨w.heap.size, 2, none⟩ = some (.int .i64 c.seg) := b1.cell 2
  have q3 : w1.cell? ⟨w.heap.size, 3, none⟩ = some (.int .i64 c.least) := b1.cell 3
  have q4 : w1.cell? ⟨w.heap.size, 4, none⟩ = some (.int .i64 c.den) := b1.cell 4
  have q5 : w1.cell? ⟨w.heap.size, 5, none⟩ = some (.int .i64 c.leafLow) := b1.cell 5
  have q6 : w1.cell? ⟨w.heap.size, 6, none⟩ = some (.int .i64 c.rootLow) := b1.cell 6
  have q7 : w1.cell? ⟨w.heap.size, 7, none⟩ = some (.int .i64 c.rootHigh) := b1.cell 7
  have q8 : w1.cell? ⟨w.heap.size, 8, none⟩ = some (.int .i64 c.leafHigh) := b1.cell 8
  have q9 : w1.cell? ⟨w.heap.size, 9, none⟩ = some (.slice B Rs.length k) := b1.cell 9
  have q10 : w1.cell? ⟨w.heap.size, 10, none⟩ = some (.int .u64 n) := b1.cell 10
  clear b1
  go_wp2_with fail
  refine (HCN.out _ HS1.out).mono ?_
  rintro e w2 ⟨rfl, hb2⟩
  have HB2 := Lib.hid (bext HB1.out hb2)
  have b2 := HC1.out.below hb2 HC1.out.lt
  have r1 : w2.cell? ⟨w.heap.size, 1, none⟩ = some (.int .i64 c.most) := b2.cell 1
  clear hb2 b2 q0 q1 q2 q3 q4 q5 q6 q7 q8 q9 q10
  have hw1 : IntKind.i64.wrap (2 * (P : Int)) = 2 * (P : Int) := IntWalk.i64_in _ (by omega)
  have hw2 : IntKind.i64.wrap (2 * (P : Int) + 2) = 2 * (P : Int) + 2 := IntWalk.i64_in _ (by omega)
  have hv := HV1.out
  by_cases hf : F = 0
  case neg =>
    have h1 : (F != 0) = true := by simpa using hf
    have HVV : Hid (V = 8) := by show _ = _; rw [← hv, if_neg (fun h => hf h.1)]
    clear hf hv hw1 hw2
    go_wp2_with fail
    go_ret
    exact ⟨by rw [HVV.out]; rfl, HB2.out⟩
  case pos =>
  subst hf
  have hz : Z = (T : Int) := by rw [← HZ.out, if_pos rfl]
  subst hz
  by_cases h1 : c.most < (P : Int)
  · have HVV : Hid (V = 8) := by show _ = _; rw [← hv, if_neg (fun h => by omega)]
    clear hv
    go_wp2_with fail
    go_ret
    exact ⟨by rw [HVV.out]; rfl, HB2.out⟩
  · by_cases h2 : 2 * (P : Int) + 2 < (T : Int)
    · have HVV : Hid (V = 8) := by show _ = _; rw [← hv, if_neg (fun h => by omega)]
      clear hv
      go_wp2_with fail
      go_ret
      exact ⟨by rw [HVV.out]; rfl, HB2.out⟩
    · have HVV : Hid (V = 0) := by show _ = _; rw [← hv, if_pos ⟨rfl, by omega, by omega⟩]
      clear hv
      go_wp2_with fail
      go_ret
      exact ⟨by rw [HVV.out]; rfl, HB2.out⟩
set_option maxHeartbeats 8000000 in
theorem pairsD_any (B : Option Addr) (Rs : List Rm) (k : Nat) (c : Cfg) (n : Int) (w : World) (hB : RunsAt w B Rs) (hT : tot (lvs Rs) ≤ 1000000) (hl : Rs.length ≤ 1000000) :
    Calls Tryd.prog 32 #[.agg (lrow c B Rs.length k n)] w (GivesPrs (prD c (lvs Rs)) (errL c (lvs Rs)) w) := by
  obtain ⟨W0, hW0⟩ : ∃ W0, w.alloc (.cells #[.int .u8 c.tag, .int .i64 c.most, .int .i64 c.seg, .int .i64 c.least, .int .i64 c.den, .int .i64 c.leafLow, .int .i64 c.rootLow, .int .i64 c.rootHigh, .int .i64 c.leafHigh, .slice B Rs.length k, .int .u64 n] 65) = W0 := ⟨_, rfl⟩
  have hb0 : Below w.heap.size w W0 := by rw [← hW0]; exact (Below.refl _ _).alloc (Nat.le_refl _) _
  have b0 : Blk W0 w.heap.size 65 #[.int .u8 c.tag, .int .i64 c.most, .int .i64 c.seg, .int .i64 c.least, .int .i64 c.den, .int .i64 c.leafLow, .int .i64 c.rootLow, .int .i64 c.rootHigh, .int .i64 c.leafHigh, .slice B Rs.length k, .int .u64 n] := by rw [← hW0]; exact Blk.new _ _ _
  have HW0 := Lib.hid hW0
  have HB := Lib.hid (hB.below hb0)
  have HB0 := Lib.hid hb0
  have HC0 := Lib.hid b0
  have hcn := fun W (hW : Below W0.heap.size W0 W) => pairsR_any B Rs k n W (HB.out.below hW) hT hl
  have hck := fun W (hW : Below W0.heap.size W0 W) => checkD_any B Rs k c n W (HB.out.below hW) hT hl
  obtain ⟨P, hP⟩ : ∃ V, prD c (lvs Rs) = V := ⟨_, rfl⟩
  obtain ⟨E, hE⟩ : ∃ E, errL c (lvs Rs) = E := ⟨_, rfl⟩
  have hP2 : E ≠ 0 → P = [] := fun h => by rw [← hP]; unfold prD; rw [if_neg (by rw [hE]; exact h)]
  have hP3 : E = 0 → prR (lvs Rs) = P ∧ chkR (lvs Rs) = 0 := fun h => by
    refine ⟨?_, (errL_zero (hE.trans h)).2.1⟩
    rw [← hP]; unfold prD; rw [if_pos (hE.trans h)]
  rw [hE] at hck
  rw [hP, hE]
  have HCN := Lib.hid hcn
  have HCK := Lib.hid hck
  have HP2 := Lib.hid hP2
  have HP3 := Lib.hid hP3
  clear hW0 hB hcn hck hP hE hP2 hP3
  have q0 : W0.cell? ⟨w.heap.size, 0, none⟩ = some (.int .u8 c.tag) := b0.cell 0
  have q1 : W0.cell? ⟨w.heap.size, 1, none⟩ = some (.int .i64 c.most) := b0.cell 1
  have q2 : W0.cell? ⟨w.heap.size, 2, none⟩ = some (.int .i64 c.seg) := b0.cell 2
  have q3 : W0.cell? ⟨w.heap.size, 3, none⟩ = some (.int .i64 c.least) := b0.cell 3
  have q4 : W0.cell? ⟨w.heap.size, 4, none⟩ = some (.int .i64 c.den) := b0.cell 4
  have q5 : W0.cell? ⟨w.heap.size, 5, none⟩ = some (.int .i64 c.leafLow) := b0.cell 5
  have q6 : W0.cell? ⟨w.heap.size, 6, none⟩ = some (.int .i64 c.rootLow) := b0.cell 6
  have q7 : W0.cell? ⟨w.heap.size, 7, none⟩ = some (.int .i64 c.rootHigh) := b0.cell 7
  have q8 : W0.cell? ⟨w.heap.size, 8, none⟩ = some (.int .i64 c.leafHigh) := b0.cell 8
  have q9 : W0.cell? ⟨w.heap.size, 9, none⟩ = some (.slice B Rs.length k) := b0.cell 9
  have q10 : W0.cell? ⟨w.heap.size, 10, none⟩ = some (.int .u64 n) := b0.cell 10
  clear b0
  go_enter Tryd.func32, Tryd.ntmps32
  go_upto_region 1 with fail
  rw [HW0.out]
  go_wp2_with fail
  refine (HCK.out _ (Below.refl _ _)).mono ?_
  rintro e w1 ⟨rfl, hb1⟩
  have HB1 := Lib.hid (bext HB0.out hb1)
  have b1 := HC0.out.below hb1 HC0.out.lt
  have HS1 := Lib.hid hb1
  clear hb1 hb0 q0 q1 q2 q3 q4 q5 q6 q7 q8 q9 q10
  by_cases h0 : E = 0
  case neg =>
    have h1 : (E != 0) = true := by simpa using h0
    have hp := HP2.out h0
    subst hp
    clear h0
    go_wp2_with fail
    refine bodyPost_ret (v := .tuple #[.slice none 0 0, .int .i64 E]) (by simp [results, Tryd.results32, go_sem]) rfl ?_
    exact ⟨none, 0, rfl, World.ownsRow_nil _ _ _ _, HB1.out⟩
  case pos =>
  subst h0
  have hcc := HCN.out _ HS1.out
  rw [(HP3.out rfl).1, (HP3.out rfl).2] at hcc
  have HCC := Lib.hid hcc
  have q0 : w1.cell? ⟨w.heap.size, 0, none⟩ = some (.int .u8 c.tag) := b1.cell 0
  have q1 : w1.cell? ⟨w.heap.size, 1, none⟩ = some (.int .i64 c.most) := b1.cell 1
  have q2 : w1.cell? ⟨w.heap.size, 2, none⟩ = some (.int .i64 c.seg) := b1.cell 2
  have q3 : w1.cell? ⟨w.heap.size, 3, none⟩ = some (.int .i64 c.least) := b1.cell 3
  have q4 : w1.cell? ⟨w.heap.size, 4, none⟩ = some (.int .i64 c.den) := b1.cell 4
  have q5 : w1.cell? ⟨w.heap.size, 5, none⟩ = some (.int .i64 c.leafLow) := b1.cell 5
  have q6 : w1.cell? ⟨w.heap.size, 6, none⟩ = some (.int .i64 c.rootLow) := b1.cell 6
  have q7 : w1.cell? ⟨w.heap.size, 7, none⟩ = some (.int .i64 c.rootHigh) := b1.cell 7
  have q8 : w1.cell? ⟨w.heap.size, 8, none⟩ = some (.int .i64 c.leafHigh) := b1.cell 8
  have q9 : w1.cell? ⟨w.heap.size, 9, none⟩ = some (.slice B Rs.length k) := b1.cell 9
  have q10 : w1.cell? ⟨w.heap.size, 10, none⟩ = some (.int .u64 n) := b1.cell 10
  clear b1 hcc
  go_wp2_with fail
  refine HCC.out.mono ?_
  rintro e w2 ⟨A2, c2, rfl, ho2, hb2⟩
  have HO := Lib.hid (own_mono (B' := w.heap.size) ho2 HB1.out.size)
  have HB2 := Lib.hid (bext HB1.out hb2)
  clear ho2 hb2 q0 q1 q2 q3 q4 q5 q6 q7 q8 q9 q10
  go_wp2_with fail
  refine bodyPost_ret (v := .tuple #[.slice A2 P.length c2, .int .i64 0]) (by simp [results, Tryd.results32, go_sem]) rfl ?_
  exact ⟨A2, c2, rfl, HO.out, HB2.out⟩
theorem ge_vals {L : Lv} {key : Int} (h : chkR L = 0) : geR L key = 0 ∨ geR L key = 6 := by unfold geR; rw [if_pos h]; split <;> simp
set_option maxHeartbeats 8000000 in
theorem getD_any (B : Option Addr) (Rs : List Rm) (k : Nat) (c : Cfg) (n : Int) (key : Int) (w : World) (hB : RunsAt w B Rs) (hT : tot (lvs Rs) ≤ 1000000) (hl : Rs.length ≤ 1000000) (hTb : TabAt 1 Lib.deBruijn64tab w) :
    Calls Tryd.prog 33 #[.agg (lrow c B Rs.length k n), .int .i64 key] w fun r w' => r = .returned (.tuple #[.int .i64 (vlD c (lvs Rs) key), .int .i64 (veD c (lvs Rs) key)]) ∧ Below w.heap.size w w' := by
  obtain ⟨W0, hW0⟩ : ∃ W0, w.alloc (.cells #[.int .u8 c.tag, .int .i64 c.most, .int .i64 c.seg, .int .i64 c.least, .int .i64 c.den, .int .i64 c.leafLow, .int .i64 c.rootLow, .int .i64 c.rootHigh, .int .i64 c.leafHigh, .slice B Rs.length k, .int .u64 n] 65) = W0 := ⟨_, rfl⟩
  have hb0 : Below w.heap.size w W0 := by rw [← hW0]; exact (Below.refl _ _).alloc (Nat.le_refl _) _
  have b0 : Blk W0 w.heap.size 65 #[.int .u8 c.tag, .int .i64 c.most, .int .i64 c.seg, .int .i64 c.least, .int .i64 c.den, .int .i64 c.leafLow, .int .i64 c.rootLow, .int .i64 c.rootHigh, .int .i64 c.leafHigh, .slice B Rs.length k, .int .u64 n] := by rw [← hW0]; exact Blk.new _ _ _
  have HW0 := Lib.hid hW0
  have HB := Lib.hid (hB.below hb0)
  have HB0 := Lib.hid hb0
  have HC0 := Lib.hid b0
  have HTB := Lib.hid (tab_below (tab_lt hTb) hTb hb0)
  have hTl := tab_lt HTB.out
  have hcn := fun W (hW : Below W0.heap.size W0 W) => getR_any B Rs k n key W (HB.out.below hW) hT hl (tab_below hTl HTB.out hW)
  have hck := fun W (hW : Below W0.heap.size W0 W) => checkD_any B Rs k c n W (HB.out.below hW) hT hl
  obtain ⟨V, hV⟩ : ∃ V, vlD c (lvs Rs) key = V := ⟨_, rfl⟩
  obtain ⟨X, hX⟩ : ∃ V, veD c (lvs Rs) key = V := ⟨_, rfl⟩
  rw [hV, hX]
  unfold vlD at hV
  unfold veD at hX
  unfold isB at hV hX
  have hg : errL c (lvs Rs) = 0 → geR (lvs Rs) key = 0 ∨ geR (lvs Rs) key = 6 := fun h => ge_vals (errL_zero h).2.1
  obtain ⟨E, hE⟩ : ∃ E, errL c (lvs Rs) = E := ⟨_, rfl⟩
  obtain ⟨x, hx⟩ : ∃ E, gxR (lvs Rs) key = E := ⟨_, rfl⟩
  obtain ⟨G, hG⟩ : ∃ E, geR (lvs Rs) key = E := ⟨_, rfl⟩
  rw [hE, hx, hG] at hV hX
  rw [hE, hG] at hg
  rw [hE] at hck
  rw [hx, hG] at hcn
  have HCN := Lib.hid hcn
  have HCK := Lib.hid hck
  have HV := Lib.hid hV
  have HX := Lib.hid hX
  have HG := Lib.hid hg
  clear hW0 hB hcn hck hE hx hG hV hX hg hTb
  have q0 : W0.cell? ⟨w.heap.size, 0, none⟩ = some (.int .u8 c.tag) := b0.cell 0
  have q1 : W0.cell? ⟨w.heap.size, 1, none⟩ = some (.int .i64 c.most) := b0.cell 1
  have q2 : W0.cell? ⟨w.heap.size, 2, none⟩ = some (.int .i64 c.seg) := b0.cell 2
  have q3 : W0.cell? ⟨w.heap.size, 3, none⟩ = some (.int .i64 c.least) := b0.cell 3
  have q4 : W0.cell? ⟨w.heap.size, 4, none⟩ = some (.int .i64 c.den) := b0.cell 4
  have q5 : W0.cell? ⟨w.heap.size, 5, none⟩ = some (.int .i64 c.leafLow) := b0.cell 5
  have q6 : W0.cell? ⟨w.heap.size, 6, none⟩ = some (.int .i64 c.rootLow) := b0.cell 6
  have q7 : W0.cell? ⟨w.heap.size, 7, none⟩ = some (.int .i64 c.rootHigh) := b0.cell 7
  have q8 : W0.cell? ⟨w.heap.size, 8, none⟩ = some (.int .i64 c.leafHigh) := b0.cell 8
  have q9 : W0.cell? ⟨w.heap.size, 9, none⟩ = some (.slice B Rs.length k) := b0.cell 9
  have q10 : W0.cell? ⟨w.heap.size, 10, none⟩ = some (.int .u64 n) := b0.cell 10
  clear b0
  go_enter Tryd.func33, Tryd.ntmps33
  go_upto_region 1 with fail
  rw [HW0.out]
  go_wp2_with fail
  refine (HCK.out _ (Below.refl _ _)).mono ?_
  rintro e w1 ⟨rfl, hb1⟩
  have HB1 := Lib.hid (bext HB0.out hb1)
  have b1 := HC0.out.below hb1 HC0.out.lt
  have HS1 := Lib.hid hb1
  clear hb1 hb0 q0 q1 q2 q3 q4 q5 q6 q7 q8 q9 q10
  by_cases h0 : E = 0
  case neg =>
    have h1 : (E != 0) = true := by simpa using h0
    have HVV : Hid (V = 0 ∧ X = E) := ⟨by rw [← HV.out, if_neg (fun h => h0 h.1)], by rw [← HX.out, if_neg h0]⟩
    clear h0
    go_wp2_with fail
    refine bodyPost_ret (v := .tuple #[.int .i64 0, .int .i64 E]) (by simp [results, Tryd.results33, go_sem]) rfl ?_
    exact ⟨by rw [HVV.out.1, HVV.out.2], HB1.out⟩
  case pos =>
  subst h0
  have q0 : w1.cell? ⟨w.heap.size, 0, none⟩ = some (.int .u8 c.tag) := b1.cell 0
  have q1 : w1.cell? ⟨w.heap.size, 1, none⟩ = some (.int .i64 c.most) := b1.cell 1
  have q2 : w1.cell? ⟨w.heap.size, 2, none⟩ = some (.int .i64 c.seg) := b1.cell 2
  have q3 : w1.cell? ⟨w.heap.size, 3, none⟩ = some (.int .i64 c.least) := b1.cell 3
  have q4 : w1.cell? ⟨w.heap.size, 4, none⟩ = some (.int .i64 c.den) := b1.cell 4
  have q5 : w1.cell? ⟨w.heap.size, 5, none⟩ = some (.int .i64 c.leafLow) := b1.cell 5
  have q6 : w1.cell? ⟨w.heap.size, 6, none⟩ = some (.int .i64 c.rootLow) := b1.cell 6
  have q7 : w1.cell? ⟨w.heap.size, 7, none⟩ = some (.int .i64 c.rootHigh) := b1.cell 7
  have q8 : w1.cell? ⟨w.heap.size, 8, none⟩ = some (.int .i64 c.leafHigh) := b1.cell 8
  have q9 : w1.cell? ⟨w.heap.size, 9, none⟩ = some (.slice B Rs.length k) := b1.cell 9
  have q10 : w1.cell? ⟨w.heap.size, 10, none⟩ = some (.int .u64 n) := b1.cell 10
  clear b1
  go_wp2_with fail
  refine (HCN.out _ HS1.out).mono ?_
  rintro e w2 ⟨rfl, hb2⟩
  have HB2 := Lib.hid (bext HB1.out hb2)
  clear hb2 q0 q1 q2 q3 q4 q5 q6 q7 q8 q9 q10
  go_upto_region 5 with fail
  obtain ⟨W3, hW3⟩ : ∃ W, w2.alloc (.cells #[.int .i64 x.key, .int .i64 x.val, .bool x.dead] 27) = W := ⟨_, rfl⟩
  have HB3 : Hid (Below w.heap.size w W3) := by show Below _ _ _; rw [← hW3]; exact bext HB2.out ((Below.refl _ _).alloc (Nat.le_refl _) _)
  have b3 : Blk W3 w2.heap.size 27 #[.int .i64 x.key, .int .i64 x.val, .bool x.dead] := by rw [← hW3]; exact Blk.new _ _ _
  try rw [hW3]
  have r0 : W3.cell? ⟨w2.heap.size, 0, none⟩ = some (.int .i64 x.key) := b3.cell 0
  have r1 : W3.cell? ⟨w2.heap.size, 1, none⟩ = some (.int .i64 x.val) := b3.cell 1
  have r2 : W3.cell? ⟨w2.heap.size, 2, none⟩ = some (.bool x.dead) := b3.cell 2
  clear hW3 b3
  rcases HG.out (by first | trivial | rfl) with hg | hg
  · subst hg
    cases hd : x.dead with
    | true =>
      have HVV : Hid (V = 0 ∧ X = 6) := ⟨by rw [← HV.out, hd]; rfl, by rw [← HX.out, hd]; rfl⟩
      go_wp2_with fail
      refine bodyPost_ret (v := .tuple #[.int .i64 0, .int .i64 6]) (by simp [results, Tryd.results33, go_sem]) rfl ?_
      exact ⟨by rw [HVV.out.1, HVV.out.2], HB3.out⟩
    | false =>
      have HVV : Hid (V = x.val ∧ X = 0) := ⟨by rw [← HV.out, hd]; rfl, by rw [← HX.out, hd]; rfl⟩
      go_wp2_with fail
      refine bodyPost_ret (v := .tuple #[.int .i64 x.val, .int .i64 0]) (by simp [results, Tryd.results33, go_sem]) rfl ?_
      exact ⟨by rw [HVV.out.1, HVV.out.2], HB3.out⟩
  · subst hg
    have HVV : Hid (V = 0 ∧ X = 6) := ⟨by rw [← HV.out]; rfl, by rw [← HX.out]; rfl⟩
    go_wp2_with fail
    refine bodyPost_ret (v := .tuple #[.int .i64 0, .int .i64 6]) (by simp [results, Tryd.results33, go_sem]) rfl ?_
    exact ⟨by rw [HVV.out.1, HVV.out.2], HB3.out⟩
end Go.Proofs.YthbppblmecdekaaDoor
