/- Nc: texts of the claim, in this order. -/
import Derived.Test.YtolclahkfmplfaaGreatDoorWn8
import Derived.Deep.CutRange
import Derived.Deep.RegionHeld3
/- The law LadderNames: it returns true. -/
namespace Go.Proofs.YtolclahkfmplfaaGreatDoor
open Go Go.RowKit
set_option maxRecDepth 100000
/-- what stands at the head of the loop -/
structure NmI (w : World) (g : Nat) (c : Cfg) (j : Nat) (B : Option Addr) (k : Nat) (R : List Rm) (n : Int) (wr : World) : Prop where
  bel : Below w.heap.size w wr
  bm : Blk wr g 29 (lrow c B R.length k n)
  own : OwnRs wr w.heap.size B k R
  pm : PM (lvs R) (puts j)
  low : w.heap.size ≤ g
theorem nine_no : ¬ Ris (List.replicate 9 (⟨0, 0⟩ : Pr)) := by decide
theorem two_no : ¬ Ris [(⟨1, 0⟩ : Pr), ⟨1, 0⟩] := by decide
theorem nine_cells : (List.replicate 9 (⟨0, 0⟩ : Pr)).flatMap Pr.cells = List.replicate 18 (.int .i64 0) := by rfl
theorem runs_nil {W : World} : RunsAt W none [] := ⟨.inl rfl, by simp⟩
set_option maxHeartbeats 32000000 in
theorem ladderNames_any (w : World) (hTb : TabAt 1 Lib.deBruijn64tab w) :
    Calls Tryz.prog 3 #[] w fun r w' => r = .returned (.bool true) ∧ Below w.heap.size w w' := by
  obtain ⟨c, hc⟩ : ∃ c : Cfg, c = chap := ⟨_, rfl⟩
  obtain ⟨z, hz⟩ : ∃ z : Cfg, z = cz := ⟨_, rfl⟩
  have HT := Lib.hid hTb
  have HC := Lib.hid hc
  have HZ := Lib.hid hz
  have HCH := Lib.hid (show ∀ W, Calls Tryz.prog 5 #[] W fun r w' => r = .returned (.agg c.row) ∧ Below W.heap.size W w' from by rw [hc]; exact chapter27_any)
  clear hTb hc hz
  go_enter Tryz.func3, Tryz.ntmps3
  have HF := Lib.hid (Below.refl w.heap.size w)
  have HY1 := Lib.hid (HT.out)
  go_wp2_with fail
  refine (HCH.out _).mono ?_
  rintro e w2 ⟨rfl, hb3⟩
  have HF4 := Lib.hid (bext HF.out hb3)
  have HY5 := Lib.hid (tab_below' HY1.out hb3)
  clear HF HY1
  clear hb3
  go_wp2_with fail
  refine (nm_new HC.out _).mono ?_
  rintro e w6 ⟨B0, k0, R0, rfl, hl0, ho0, hb7⟩
  have hn0 : R0.length = 0 := by rw [rs_len hl0]; rfl
  rw [hn0]
  have HL0 := Lib.hid hl0
  have HO0 := Lib.hid (ho0.mono HF4.out.size)
  have HN0 := Lib.hid hn0
  clear hl0 ho0 hn0
  have HF8 := Lib.hid (bext HF4.out hb7)
  have HY9 := Lib.hid (tab_below' HY5.out hb7)
  clear HF4 HY5
  clear hb7
  have HY10 := Lib.hid (HO0.out)
  have HSM := Lib.hid HF8.out.size
  go_upto_region 2 with fail
  obtain ⟨U11, h13⟩ : ∃ U, w6.alloc (.cells #[.int .u8 c.tag, .int .i64 c.most, .int .i64 c.seg, .int .i64 c.least, .int .i64 c.den, .int .i64 c.leafLow, .int .i64 c.rootLow, .int .i64 c.rootHigh, .int .i64 c.leafHigh, .slice B0 0 k0, .int .u64 0] 29) = U := ⟨_, rfl⟩
  have ba14 : Below w6.heap.size w6 U11 := by rw [← h13]; exact (Below.refl _ _).alloc (Nat.le_refl _) _
  have bn15 : Blk U11 w6.heap.size 29 #[.int .u8 c.tag, .int .i64 c.most, .int .i64 c.seg, .int .i64 c.least, .int .i64 c.den, .int .i64 c.leafLow, .int .i64 c.rootLow, .int .i64 c.rootHigh, .int .i64 c.leafHigh, .slice B0 0 k0, .int .u64 0] := by rw [← h13]; exact Blk.new _ _ _
  try rw [h13]
  have HF16 := Lib.hid (bext HF8.out ba14)
  have HY17 := Lib.hid (tab_below' HY9.out ba14)
  have HY18 := Lib.hid (OwnRs.below HY10.out ba14)
  clear HF8 HY9 HY10
  obtain ⟨g12, h19⟩ : ∃ g, w6.heap.size = g := ⟨_, rfl⟩
  rw [h19] at bn15
  try rw [h19]
  have HX20 := Lib.hid bn15
  have HGM : Hid (w.heap.size ≤ g12) := by show _ ≤ _; rw [← h19]; exact HSM.out
  clear h13 ba14 bn15 h19
  go_wp2_with fail
  go_loopw [3, 4] (fun f i wr => ∃ (j : Nat) (B1 : Option Addr) (k1 : Nat) (R1 : List Rm) (n1 : Int), j ≤ 8 ∧ i = .int .i64 j ∧ f = .int .i64 0 ∧ Hid (NmI w g12 c j B1 k1 R1 n1 wr)) (fun _ i _ => 8 - (intOf i).toNat)
  case atStart => exact ⟨0, B0, k0, R0, 0, Nat.zero_le _, rfl, rfl, HF16.out, by rw [HN0.out]; exact HX20.out, HY18.out, by rw [HL0.out]; exact pm_nil, HGM.out⟩
  case round =>
  obtain ⟨j, B1, k1, R1, n1, hj, rfl, rfl, hI⟩ := hrel
  by_cases hlt : j < 8
  case pos =>
    obtain ⟨L2, N2, hp2, hput⟩ := nm_put (B := B1) (R := R1) (k := k1) (n := n1) HC.out hI.out.pm hlt
    have HPUT := Lib.hid hput
    have HP2 := Lib.hid hp2
    have i2 : (j : Int) < 8 := by omega
    have i3 : (0 : Int) ≤ (j : Int) := by omega
    have hbm := hI.out.bm
    have HTW := Lib.hid (tab_below' HT.out hI.out.bel)
    clear hput hp2
    have q0 : wr.cell? ⟨g12, 0, none⟩ = some (.int .u8 c.tag) := hbm.cell 0
    have q1 : wr.cell? ⟨g12, 1, none⟩ = some (.int .i64 c.most) := hbm.cell 1
    have q2 : wr.cell? ⟨g12, 2, none⟩ = some (.int .i64 c.seg) := hbm.cell 2
    have q3 : wr.cell? ⟨g12, 3, none⟩ = some (.int .i64 c.least) := hbm.cell 3
    have q4 : wr.cell? ⟨g12, 4, none⟩ = some (.int .i64 c.den) := hbm.cell 4
    have q5 : wr.cell? ⟨g12, 5, none⟩ = some (.int .i64 c.leafLow) := hbm.cell 5
    have q6 : wr.cell? ⟨g12, 6, none⟩ = some (.int .i64 c.rootLow) := hbm.cell 6
    have q7 : wr.cell? ⟨g12, 7, none⟩ = some (.int .i64 c.rootHigh) := hbm.cell 7
    have q8 : wr.cell? ⟨g12, 8, none⟩ = some (.int .i64 c.leafHigh) := hbm.cell 8
    have q9 : wr.cell? ⟨g12, 9, none⟩ = some (.slice B1 R1.length k1) := hbm.cell 9
    have q10 : wr.cell? ⟨g12, 10, none⟩ = some (.int .u64 n1) := hbm.cell 10
    have lg := hbm.lt
    clear hbm
    go_wp2_with fail
    refine (HPUT.out _ hI.out.own.runsAt HTW.out).mono ?_
    rintro e w1 ⟨B2, k2, R2, rfl, hl2, ho2, hb2⟩
    obtain ⟨M2, hM2⟩ : ∃ N, R2.length = N := ⟨_, rfl⟩
    rw [hM2]
    have hbm := hI.out.bm.below hb2 hI.out.bm.lt
    have HBM := Lib.hid hbm
    have HM2 := Lib.hid hM2
    have HL2 := Lib.hid hl2
    have HO2 := Lib.hid (ho2.mono hI.out.bel.size)
    have HB2 := Lib.hid (bext hI.out.bel hb2)
    clear hM2 hl2 ho2 hb2 lg q0 q1 q2 q3 q4 q5 q6 q7 q8 q9 q10
    have q0 : w1.cell? ⟨g12, 0, none⟩ = some (.int .u8 c.tag) := hbm.cell 0
    have fr0 := hbm.frozen 0
    have q1 : w1.cell? ⟨g12, 1, none⟩ = some (.int .i64 c.most) := hbm.cell 1
    have fr1 := hbm.frozen 1
    have q2 : w1.cell? ⟨g12, 2, none⟩ = some (.int .i64 c.seg) := hbm.cell 2
    have fr2 := hbm.frozen 2
    have q3 : w1.cell? ⟨g12, 3, none⟩ = some (.int .i64 c.least) := hbm.cell 3
    have fr3 := hbm.frozen 3
    have q4 : w1.cell? ⟨g12, 4, none⟩ = some (.int .i64 c.den) := hbm.cell 4
    have fr4 := hbm.frozen 4
    have q5 : w1.cell? ⟨g12, 5, none⟩ = some (.int .i64 c.leafLow) := hbm.cell 5
    have fr5 := hbm.frozen 5
    have q6 : w1.cell? ⟨g12, 6, none⟩ = some (.int .i64 c.rootLow) := hbm.cell 6
    have fr6 := hbm.frozen 6
    have q7 : w1.cell? ⟨g12, 7, none⟩ = some (.int .i64 c.rootHigh) := hbm.cell 7
    have fr7 := hbm.frozen 7
    have q8 : w1.cell? ⟨g12, 8, none⟩ = some (.int .i64 c.leafHigh) := hbm.cell 8
    have fr8 := hbm.frozen 8
    have q9 : w1.cell? ⟨g12, 9, none⟩ = some (.slice B1 R1.length k1) := hbm.cell 9
    have fr9 := hbm.frozen 9
    have q10 : w1.cell? ⟨g12, 10, none⟩ = some (.int .u64 n1) := hbm.cell 10
    have fr10 := hbm.frozen 10
    have lg := hbm.lt
    have hw1 : IntKind.i64.wrap ((j : Int) + 1) = (j : Int) + 1 := IntWalk.i64_in _ (by omega)
    have hbn := put11 hbm (.int .u8 c.tag) (.int .i64 c.most) (.int .i64 c.seg) (.int .i64 c.least) (.int .i64 c.den) (.int .i64 c.leafLow) (.int .i64 c.rootLow) (.int .i64 c.rootHigh) (.int .i64 c.leafHigh) (.slice B2 M2 k2) (.int .u64 N2)
    have hon : OwnRs (((((((((((w1.setCell ⟨g12, 0, none⟩ (.int .u8 c.tag)).setCell ⟨g12, 1, none⟩ (.int .i64 c.most)).setCell ⟨g12, 2, none⟩ (.int .i64 c.seg)).setCell ⟨g12, 3, none⟩ (.int .i64 c.least)).setCell ⟨g12, 4, none⟩ (.int .i64 c.den)).setCell ⟨g12, 5, none⟩ (.int .i64 c.leafLow)).setCell ⟨g12, 6, none⟩ (.int .i64 c.rootLow)).setCell ⟨g12, 7, none⟩ (.int .i64 c.rootHigh)).setCell ⟨g12, 8, none⟩ (.int .i64 c.leafHigh)).setCell ⟨g12, 9, none⟩ (.slice B2 M2 k2)).setCell ⟨g12, 10, none⟩ (.int .u64 N2)) w.heap.size B2 k2 R2 := HO2.out.set11 hbm (by decide) (by decide) _ _ _ _ _ _ _ _ _ _ _
    have hbb : Below w.heap.size w (((((((((((w1.setCell ⟨g12, 0, none⟩ (.int .u8 c.tag)).setCell ⟨g12, 1, none⟩ (.int .i64 c.most)).setCell ⟨g12, 2, none⟩ (.int .i64 c.seg)).setCell ⟨g12, 3, none⟩ (.int .i64 c.least)).setCell ⟨g12, 4, none⟩ (.int .i64 c.den)).setCell ⟨g12, 5, none⟩ (.int .i64 c.leafLow)).setCell ⟨g12, 6, none⟩ (.int .i64 c.rootLow)).setCell ⟨g12, 7, none⟩ (.int .i64 c.rootHigh)).setCell ⟨g12, 8, none⟩ (.int .i64 c.leafHigh)).setCell ⟨g12, 9, none⟩ (.slice B2 M2 k2)).setCell ⟨g12, 10, none⟩ (.int .u64 N2)) := below11 HB2.out hI.out.low _ _ _ _ _ _ _ _ _ _ _
    have HI2 := Lib.hid (show NmI w g12 c (j + 1) B2 k2 R2 N2 (((((((((((w1.setCell ⟨g12, 0, none⟩ (.int .u8 c.tag)).setCell ⟨g12, 1, none⟩ (.int .i64 c.most)).setCell ⟨g12, 2, none⟩ (.int .i64 c.seg)).setCell ⟨g12, 3, none⟩ (.int .i64 c.least)).setCell ⟨g12, 4, none⟩ (.int .i64 c.den)).setCell ⟨g12, 5, none⟩ (.int .i64 c.leafLow)).setCell ⟨g12, 6, none⟩ (.int .i64 c.rootLow)).setCell ⟨g12, 7, none⟩ (.int .i64 c.rootHigh)).setCell ⟨g12, 8, none⟩ (.int .i64 c.leafHigh)).setCell ⟨g12, 9, none⟩ (.slice B2 M2 k2)).setCell ⟨g12, 10, none⟩ (.int .u64 N2)) from ⟨hbb, by rw [HM2.out]; exact hbn, hon, by rw [HL2.out]; exact HP2.out, hI.out.low⟩)
    clear hbm hbn hon hbb
    go_wp2_with fail
    go_roundw
    case rel => exact ⟨j + 1, B2, k2, R2, N2, by omega, by simp, rfl, HI2.out⟩
    case measure => simp [intOf]; omega
  case neg =>
  have hj8 : j = 8 := by omega
  subst hj8
  clear hlt hj
  have KF := Lib.hid hI.out.bel
  have KM := Lib.hid hI.out.bm
  have KR := Lib.hid hI.out.own.runsAt
  have KT := Lib.hid (tab_below' HT.out hI.out.bel)
  have HPM := Lib.hid hI.out.pm
  have i9 : ¬ (8 : Int) < 8 := by omega
  have c21 : wr.cell? ⟨g12, 0, none⟩ = some (.int .u8 c.tag) := KM.out.cell 0
  have c22 : wr.cell? ⟨g12, 1, none⟩ = some (.int .i64 c.most) := KM.out.cell 1
  have c23 : wr.cell? ⟨g12, 2, none⟩ = some (.int .i64 c.seg) := KM.out.cell 2
  have c24 : wr.cell? ⟨g12, 3, none⟩ = some (.int .i64 c.least) := KM.out.cell 3
  have c25 : wr.cell? ⟨g12, 4, none⟩ = some (.int .i64 c.den) := KM.out.cell 4
  have c26 : wr.cell? ⟨g12, 5, none⟩ = some (.int .i64 c.leafLow) := KM.out.cell 5
  have c27 : wr.cell? ⟨g12, 6, none⟩ = some (.int .i64 c.rootLow) := KM.out.cell 6
  have c28 : wr.cell? ⟨g12, 7, none⟩ = some (.int .i64 c.rootHigh) := KM.out.cell 7
  have c29 : wr.cell? ⟨g12, 8, none⟩ = some (.int .i64 c.leafHigh) := KM.out.cell 8
  have c30 : wr.cell? ⟨g12, 9, none⟩ = some (.slice B1 R1.length k1) := KM.out.cell 9
  have c31 : wr.cell? ⟨g12, 10, none⟩ = some (.int .u64 n1) := KM.out.cell 10
  have l32 : g12 < wr.heap.size := KM.out.lt
  go_wp2_with fail
  clear c21 c22 c23 c24 c25 c26 c27 c28 c29 c30 c31 l32
  refine (nm_full HC.out HZ.out HPM.out _ KR.out KT.out).mono ?_
  rintro e w33 ⟨Ba, ka, Ra, rfl, hla, hoa, hb34⟩
  obtain ⟨Ma, hMa⟩ : ∃ N, Ra.length = N := ⟨_, rfl⟩
  rw [hMa]
  have HMa := Lib.hid hMa
  have HLa := Lib.hid hla
  have HOXa := Lib.hid hoa.runsAt
  clear hla hoa hMa
  have HF35 := Lib.hid (bext KF.out hb34)
  have HX36 := Lib.hid (KM.out.below hb34 KM.out.lt)
  have HY37 := Lib.hid (tab_below' KT.out hb34)
  have HY38 := Lib.hid (RunsAt.below KR.out hb34)
  clear KM KT KR
  clear hb34
  clear HOXa
  go_upto_region 8 with fail
  obtain ⟨U39, h41⟩ : ∃ U, w33.alloc (.cells #[.int .u8 z.tag, .int .i64 z.most, .int .i64 z.seg, .int .i64 z.least, .int .i64 z.den, .int .i64 z.leafLow, .int .i64 z.rootLow, .int .i64 z.rootHigh, .int .i64 z.leafHigh, .slice Ba Ma ka, .int .u64 0] 29) = U := ⟨_, rfl⟩
  have ba42 : Below w33.heap.size w33 U39 := by rw [← h41]; exact (Below.refl _ _).alloc (Nat.le_refl _) _
  have bn43 : Blk U39 w33.heap.size 29 #[.int .u8 z.tag, .int .i64 z.most, .int .i64 z.seg, .int .i64 z.least, .int .i64 z.den, .int .i64 z.leafLow, .int .i64 z.rootLow, .int .i64 z.rootHigh, .int .i64 z.leafHigh, .slice Ba Ma ka, .int .u64 0] := by rw [← h41]; exact Blk.new _ _ _
  try rw [h41]
  have HF44 := Lib.hid (bext HF35.out ba42)
  have HX45 := Lib.hid (HX36.out.below ba42 HX36.out.lt)
  have HY46 := Lib.hid (tab_below' HY37.out ba42)
  have HY47 := Lib.hid (RunsAt.below HY38.out ba42)
  clear HF35 HX36 HY37 HY38
  obtain ⟨g40, h48⟩ : ∃ g, w33.heap.size = g := ⟨_, rfl⟩
  rw [h48] at bn43
  try rw [h48]
  have HX49 := Lib.hid bn43
  clear h41 ba42 bn43 h48
  obtain ⟨Lx, Nx, hpx, hx⟩ := nm_x (B := B1) (R := R1) (k := k1) (n := n1) HC.out HPM.out
  have HPX := Lib.hid hpx
  have HX := Lib.hid hx
  clear hpx hx
  have c50 : U39.cell? ⟨g12, 0, none⟩ = some (.int .u8 c.tag) := HX45.out.cell 0
  have c51 : U39.cell? ⟨g12, 1, none⟩ = some (.int .i64 c.most) := HX45.out.cell 1
  have c52 : U39.cell? ⟨g12, 2, none⟩ = some (.int .i64 c.seg) := HX45.out.cell 2
  have c53 : U39.cell? ⟨g12, 3, none⟩ = some (.int .i64 c.least) := HX45.out.cell 3
  have c54 : U39.cell? ⟨g12, 4, none⟩ = some (.int .i64 c.den) := HX45.out.cell 4
  have c55 : U39.cell? ⟨g12, 5, none⟩ = some (.int .i64 c.leafLow) := HX45.out.cell 5
  have c56 : U39.cell? ⟨g12, 6, none⟩ = some (.int .i64 c.rootLow) := HX45.out.cell 6
  have c57 : U39.cell? ⟨g12, 7, none⟩ = some (.int .i64 c.rootHigh) := HX45.out.cell 7
  have c58 : U39.cell? ⟨g12, 8, none⟩ = some (.int .i64 c.leafHigh) := HX45.out.cell 8
  have c59 : U39.cell? ⟨g12, 9, none⟩ = some (.slice B1 R1.length k1) := HX45.out.cell 9
  have c60 : U39.cell? ⟨g12, 10, none⟩ = some (.int .u64 n1) := HX45.out.cell 10
  have l61 : g12 < U39.heap.size := HX45.out.lt
  go_wp2_with fail
  clear c50 c51 c52 c53 c54 c55 c56 c57 c58 c59 c60 l61
  refine (HX.out _ HY47.out HY46.out).mono ?_
  rintro e w62 ⟨Bx, kx, Rx, rfl, hlx, hox, hb63⟩
  obtain ⟨Mx, hMx⟩ : ∃ N, Rx.length = N := ⟨_, rfl⟩
  rw [hMx]
  have HMx := Lib.hid hMx
  have HLx := Lib.hid hlx
  have HOXx := Lib.hid hox.runsAt
  clear hlx hox hMx
  have HF64 := Lib.hid (bext HF44.out hb63)
  have HX65 := Lib.hid (HX45.out.below hb63 HX45.out.lt)
  have HX66 := Lib.hid (HX49.out.below hb63 HX49.out.lt)
  have HY67 := Lib.hid (tab_below' HY46.out hb63)
  have HY68 := Lib.hid (RunsAt.below HY47.out hb63)
  clear HF44 HX45 HX49 HY46 HY47
  clear hb63
  have HY69 := Lib.hid (HOXx.out)
  clear HOXx
  go_upto_region 9 with fail
  obtain ⟨U70, h72⟩ : ∃ U, w62.alloc (.cells #[.int .u8 c.tag, .int .i64 c.most, .int .i64 c.seg, .int .i64 c.least, .int .i64 c.den, .int .i64 c.leafLow, .int .i64 c.rootLow, .int .i64 c.rootHigh, .int .i64 c.leafHigh, .slice Bx Mx kx, .int .u64 Nx] 29) = U := ⟨_, rfl⟩
  have ba73 : Below w62.heap.size w62 U70 := by rw [← h72]; exact (Below.refl _ _).alloc (Nat.le_refl _) _
  have bn74 : Blk U70 w62.heap.size 29 #[.int .u8 c.tag, .int .i64 c.most, .int .i64 c.seg, .int .i64 c.least, .int .i64 c.den, .int .i64 c.leafLow, .int .i64 c.rootLow, .int .i64 c.rootHigh, .int .i64 c.leafHigh, .slice Bx Mx kx, .int .u64 Nx] := by rw [← h72]; exact Blk.new _ _ _
  try rw [h72]
  have HF75 := Lib.hid (bext HF64.out ba73)
  have HX76 := Lib.hid (HX65.out.below ba73 HX65.out.lt)
  have HX77 := Lib.hid (HX66.out.below ba73 HX66.out.lt)
  have HY78 := Lib.hid (tab_below' HY67.out ba73)
  have HY79 := Lib.hid (RunsAt.below HY68.out ba73)
  have HY80 := Lib.hid (RunsAt.below HY69.out ba73)
  clear HF64 HX65 HX66 HY67 HY68 HY69
  obtain ⟨g71, h81⟩ : ∃ g, w62.heap.size = g := ⟨_, rfl⟩
  rw [h81] at bn74
  try rw [h81]
  have HX82 := Lib.hid bn74
  clear h72 ba73 bn74 h81
  have HPX2 := Lib.hid (pm_lv HLx.out HPX.out)
  have c83 : U70.cell? ⟨g12, 0, none⟩ = some (.int .u8 c.tag) := HX76.out.cell 0
  have c84 : U70.cell? ⟨g12, 1, none⟩ = some (.int .i64 c.most) := HX76.out.cell 1
  have c85 : U70.cell? ⟨g12, 2, none⟩ = some (.int .i64 c.seg) := HX76.out.cell 2
  have c86 : U70.cell? ⟨g12, 3, none⟩ = some (.int .i64 c.least) := HX76.out.cell 3
  have c87 : U70.cell? ⟨g12, 4, none⟩ = some (.int .i64 c.den) := HX76.out.cell 4
  have c88 : U70.cell? ⟨g12, 5, none⟩ = some (.int .i64 c.leafLow) := HX76.out.cell 5
  have c89 : U70.cell? ⟨g12, 6, none⟩ = some (.int .i64 c.rootLow) := HX76.out.cell 6
  have c90 : U70.cell? ⟨g12, 7, none⟩ = some (.int .i64 c.rootHigh) := HX76.out.cell 7
  have c91 : U70.cell? ⟨g12, 8, none⟩ = some (.int .i64 c.leafHigh) := HX76.out.cell 8
  have c92 : U70.cell? ⟨g12, 9, none⟩ = some (.slice B1 R1.length k1) := HX76.out.cell 9
  have c93 : U70.cell? ⟨g12, 10, none⟩ = some (.int .u64 n1) := HX76.out.cell 10
  have l94 : g12 < U70.heap.size := HX76.out.lt
  go_wp2_with fail
  clear c83 c84 c85 c86 c87 c88 c89 c90 c91 c92 c93 l94
  refine (nm_gone HC.out HZ.out HPM.out _ HY79.out HY78.out).mono ?_
  rintro e w95 ⟨Bb, kb, Rb, rfl, hlb, hob, hb96⟩
  obtain ⟨Mb, hMb⟩ : ∃ N, Rb.length = N := ⟨_, rfl⟩
  rw [hMb]
  have HMb := Lib.hid hMb
  have HLb := Lib.hid hlb
  have HOXb := Lib.hid hob.runsAt
  clear hlb hob hMb
  have HF97 := Lib.hid (bext HF75.out hb96)
  have HX98 := Lib.hid (HX76.out.below hb96 HX76.out.lt)
  have HX99 := Lib.hid (HX77.out.below hb96 HX77.out.lt)
  have HX100 := Lib.hid (HX82.out.below hb96 HX82.out.lt)
  have HY101 := Lib.hid (tab_below' HY78.out hb96)
  have HY102 := Lib.hid (RunsAt.below HY79.out hb96)
  have HY103 := Lib.hid (RunsAt.below HY80.out hb96)
  clear HF75 HX76 HX77 HX82 HY78 HY79 HY80
  clear hb96
  clear HOXb
  go_upto_region 10 with fail
  obtain ⟨U104, h106⟩ : ∃ U, w95.alloc (.cells #[.int .u8 z.tag, .int .i64 z.most, .int .i64 z.seg, .int .i64 z.least, .int .i64 z.den, .int .i64 z.leafLow, .int .i64 z.rootLow, .int .i64 z.rootHigh, .int .i64 z.leafHigh, .slice Bb Mb kb, .int .u64 0] 29) = U := ⟨_, rfl⟩
  have ba107 : Below w95.heap.size w95 U104 := by rw [← h106]; exact (Below.refl _ _).alloc (Nat.le_refl _) _
  have bn108 : Blk U104 w95.heap.size 29 #[.int .u8 z.tag, .int .i64 z.most, .int .i64 z.seg, .int .i64 z.least, .int .i64 z.den, .int .i64 z.leafLow, .int .i64 z.rootLow, .int .i64 z.rootHigh, .int .i64 z.leafHigh, .slice Bb Mb kb, .int .u64 0] := by rw [← h106]; exact Blk.new _ _ _
  try rw [h106]
  have HF109 := Lib.hid (bext HF97.out ba107)
  have HX110 := Lib.hid (HX98.out.below ba107 HX98.out.lt)
  have HX111 := Lib.hid (HX99.out.below ba107 HX99.out.lt)
  have HX112 := Lib.hid (HX100.out.below ba107 HX100.out.lt)
  have HY113 := Lib.hid (tab_below' HY101.out ba107)
  have HY114 := Lib.hid (RunsAt.below HY102.out ba107)
  have HY115 := Lib.hid (RunsAt.below HY103.out ba107)
  clear HF97 HX98 HX99 HX100 HY101 HY102 HY103
  obtain ⟨g105, h116⟩ : ∃ g, w95.heap.size = g := ⟨_, rfl⟩
  rw [h116] at bn108
  try rw [h116]
  have HX117 := Lib.hid bn108
  clear h106 ba107 bn108 h116
  obtain ⟨Ny, hy⟩ := nm_range (B := Bx) (R := Rx) (k := kx) (n := Nx) HC.out HPX2.out
  rw [HMx.out] at hy
  have HY := Lib.hid hy
  clear hy
  have c118 : U104.cell? ⟨g71, 0, none⟩ = some (.int .u8 c.tag) := HX112.out.cell 0
  have c119 : U104.cell? ⟨g71, 1, none⟩ = some (.int .i64 c.most) := HX112.out.cell 1
  have c120 : U104.cell? ⟨g71, 2, none⟩ = some (.int .i64 c.seg) := HX112.out.cell 2
  have c121 : U104.cell? ⟨g71, 3, none⟩ = some (.int .i64 c.least) := HX112.out.cell 3
  have c122 : U104.cell? ⟨g71, 4, none⟩ = some (.int .i64 c.den) := HX112.out.cell 4
  have c123 : U104.cell? ⟨g71, 5, none⟩ = some (.int .i64 c.leafLow) := HX112.out.cell 5
  have c124 : U104.cell? ⟨g71, 6, none⟩ = some (.int .i64 c.rootLow) := HX112.out.cell 6
  have c125 : U104.cell? ⟨g71, 7, none⟩ = some (.int .i64 c.rootHigh) := HX112.out.cell 7
  have c126 : U104.cell? ⟨g71, 8, none⟩ = some (.int .i64 c.leafHigh) := HX112.out.cell 8
  have c127 : U104.cell? ⟨g71, 9, none⟩ = some (.slice Bx Mx kx) := HX112.out.cell 9
  have c128 : U104.cell? ⟨g71, 10, none⟩ = some (.int .u64 Nx) := HX112.out.cell 10
  have l129 : g71 < U104.heap.size := HX112.out.lt
  go_wp2_with fail
  clear c118 c119 c120 c121 c122 c123 c124 c125 c126 c127 c128 l129
  refine (HY.out _ HY115.out).mono ?_
  rintro e w130 ⟨By, ky, Ry, rfl, hly, hoy, hb131⟩
  obtain ⟨My, hMy⟩ : ∃ N, Ry.length = N := ⟨_, rfl⟩
  rw [hMy]
  have HMy := Lib.hid hMy
  have HLy := Lib.hid hly
  have HOXy := Lib.hid hoy.runsAt
  clear hly hoy hMy
  have HF132 := Lib.hid (bext HF109.out hb131)
  have HX133 := Lib.hid (HX110.out.below hb131 HX110.out.lt)
  have HX134 := Lib.hid (HX111.out.below hb131 HX111.out.lt)
  have HX135 := Lib.hid (HX112.out.below hb131 HX112.out.lt)
  have HX136 := Lib.hid (HX117.out.below hb131 HX117.out.lt)
  have HY137 := Lib.hid (tab_below' HY113.out hb131)
  have HY138 := Lib.hid (RunsAt.below HY114.out hb131)
  have HY139 := Lib.hid (RunsAt.below HY115.out hb131)
  clear HF109 HX110 HX111 HX112 HX117 HY113 HY114 HY115
  clear hb131
  have HY140 := Lib.hid (HOXy.out)
  clear HOXy
  go_upto_region 11 with fail
  obtain ⟨U141, h143⟩ : ∃ U, w130.alloc (.cells #[.int .u8 c.tag, .int .i64 c.most, .int .i64 c.seg, .int .i64 c.least, .int .i64 c.den, .int .i64 c.leafLow, .int .i64 c.rootLow, .int .i64 c.rootHigh, .int .i64 c.leafHigh, .slice By My ky, .int .u64 Ny] 29) = U := ⟨_, rfl⟩
  have ba144 : Below w130.heap.size w130 U141 := by rw [← h143]; exact (Below.refl _ _).alloc (Nat.le_refl _) _
  have bn145 : Blk U141 w130.heap.size 29 #[.int .u8 c.tag, .int .i64 c.most, .int .i64 c.seg, .int .i64 c.least, .int .i64 c.den, .int .i64 c.leafLow, .int .i64 c.rootLow, .int .i64 c.rootHigh, .int .i64 c.leafHigh, .slice By My ky, .int .u64 Ny] := by rw [← h143]; exact Blk.new _ _ _
  try rw [h143]
  have HF146 := Lib.hid (bext HF132.out ba144)
  have HX147 := Lib.hid (HX133.out.below ba144 HX133.out.lt)
  have HX148 := Lib.hid (HX134.out.below ba144 HX134.out.lt)
  have HX149 := Lib.hid (HX135.out.below ba144 HX135.out.lt)
  have HX150 := Lib.hid (HX136.out.below ba144 HX136.out.lt)
  have HY151 := Lib.hid (tab_below' HY137.out ba144)
  have HY152 := Lib.hid (RunsAt.below HY138.out ba144)
  have HY153 := Lib.hid (RunsAt.below HY139.out ba144)
  have HY154 := Lib.hid (RunsAt.below HY140.out ba144)
  clear HF132 HX133 HX134 HX135 HX136 HY137 HY138 HY139 HY140
  obtain ⟨g142, h155⟩ : ∃ g, w130.heap.size = g := ⟨_, rfl⟩
  rw [h155] at bn145
  try rw [h155]
  have HX156 := Lib.hid bn145
  clear h143 ba144 bn145 h155
  have c157 : U141.cell? ⟨g12, 0, none⟩ = some (.int .u8 c.tag) := HX147.out.cell 0
  have c158 : U141.cell? ⟨g12, 1, none⟩ = some (.int .i64 c.most) := HX147.out.cell 1
  have c159 : U141.cell? ⟨g12, 2, none⟩ = some (.int .i64 c.seg) := HX147.out.cell 2
  have c160 : U141.cell? ⟨g12, 3, none⟩ = some (.int .i64 c.least) := HX147.out.cell 3
  have c161 : U141.cell? ⟨g12, 4, none⟩ = some (.int .i64 c.den) := HX147.out.cell 4
  have c162 : U141.cell? ⟨g12, 5, none⟩ = some (.int .i64 c.leafLow) := HX147.out.cell 5
  have c163 : U141.cell? ⟨g12, 6, none⟩ = some (.int .i64 c.rootLow) := HX147.out.cell 6
  have c164 : U141.cell? ⟨g12, 7, none⟩ = some (.int .i64 c.rootHigh) := HX147.out.cell 7
  have c165 : U141.cell? ⟨g12, 8, none⟩ = some (.int .i64 c.leafHigh) := HX147.out.cell 8
  have c166 : U141.cell? ⟨g12, 9, none⟩ = some (.slice B1 R1.length k1) := HX147.out.cell 9
  have c167 : U141.cell? ⟨g12, 10, none⟩ = some (.int .u64 n1) := HX147.out.cell 10
  have l168 : g12 < U141.heap.size := HX147.out.lt
  go_wp2_with fail
  clear c157 c158 c159 c160 c161 c162 c163 c164 c165 c166 c167 l168
  obtain ⟨U169, h170⟩ : ∃ U, U141.alloc (.cells #[.int .i64 1, .int .i64 0, .int .i64 1, .int .i64 0] 40) = U := ⟨_, rfl⟩
  have ba171 : Below U141.heap.size U141 U169 := by rw [← h170]; exact (Below.refl _ _).alloc (Nat.le_refl _) _
  have sl172 : Sl U169 (some ⟨U141.heap.size, 0, none⟩) (List.flatMap Pr.cells [⟨1, 0⟩, ⟨1, 0⟩]) := by rw [← h170]; exact sl_new1 _ _ _
  try rw [h170]
  have HF175 := Lib.hid (bext HF146.out ba171)
  have HX176 := Lib.hid (HX147.out.below ba171 HX147.out.lt)
  have HX177 := Lib.hid (HX148.out.below ba171 HX148.out.lt)
  have HX178 := Lib.hid (HX149.out.below ba171 HX149.out.lt)
  have HX179 := Lib.hid (HX150.out.below ba171 HX150.out.lt)
  have HX180 := Lib.hid (HX156.out.below ba171 HX156.out.lt)
  have HY181 := Lib.hid (tab_below' HY151.out ba171)
  have HY182 := Lib.hid (RunsAt.below HY152.out ba171)
  have HY183 := Lib.hid (RunsAt.below HY153.out ba171)
  have HY184 := Lib.hid (RunsAt.below HY154.out ba171)
  clear HF146 HX147 HX148 HX149 HX150 HX156 HY151 HY152 HY153 HY154
  obtain ⟨g173, h174⟩ : ∃ g, U141.heap.size = g := ⟨_, rfl⟩
  rw [h174] at sl172
  try rw [h174]
  have HY185 := Lib.hid (sl172)
  clear h170 ba171 sl172 h174
  refine (nm_load (l := [⟨1, 0⟩, ⟨1, 0⟩]) HC.out HZ.out HPM.out (by decide) two_no (by decide) _ HY182.out HY185.out).mono ?_
  rintro e w186 ⟨Bd, kd, Rd, rfl, hld, hod, hb187⟩
  obtain ⟨Md, hMd⟩ : ∃ N, Rd.length = N := ⟨_, rfl⟩
  rw [hMd]
  have HMd := Lib.hid hMd
  have HLd := Lib.hid hld
  have HOXd := Lib.hid hod.runsAt
  clear hld hod hMd
  have HF188 := Lib.hid (bext HF175.out hb187)
  have HX189 := Lib.hid (HX176.out.below hb187 HX176.out.lt)
  have HX190 := Lib.hid (HX177.out.below hb187 HX177.out.lt)
  have HX191 := Lib.hid (HX178.out.below hb187 HX178.out.lt)
  have HX192 := Lib.hid (HX179.out.below hb187 HX179.out.lt)
  have HX193 := Lib.hid (HX180.out.below hb187 HX180.out.lt)
  have HY194 := Lib.hid (tab_below' HY181.out hb187)
  have HY195 := Lib.hid (RunsAt.below HY182.out hb187)
  have HY196 := Lib.hid (RunsAt.below HY183.out hb187)
  have HY197 := Lib.hid (RunsAt.below HY184.out hb187)
  have HY198 := Lib.hid (HY185.out.below hb187)
  clear HF175 HX176 HX177 HX178 HX179 HX180 HY181 HY182 HY183 HY184 HY185
  clear hb187
  clear HOXd
  go_upto_region 12 with fail
  obtain ⟨U199, h201⟩ : ∃ U, w186.alloc (.cells #[.int .u8 z.tag, .int .i64 z.most, .int .i64 z.seg, .int .i64 z.least, .int .i64 z.den, .int .i64 z.leafLow, .int .i64 z.rootLow, .int .i64 z.rootHigh, .int .i64 z.leafHigh, .slice Bd Md kd, .int .u64 0] 29) = U := ⟨_, rfl⟩
  have ba202 : Below w186.heap.size w186 U199 := by rw [← h201]; exact (Below.refl _ _).alloc (Nat.le_refl _) _
  have bn203 : Blk U199 w186.heap.size 29 #[.int .u8 z.tag, .int .i64 z.most, .int .i64 z.seg, .int .i64 z.least, .int .i64 z.den, .int .i64 z.leafLow, .int .i64 z.rootLow, .int .i64 z.rootHigh, .int .i64 z.leafHigh, .slice Bd Md kd, .int .u64 0] := by rw [← h201]; exact Blk.new _ _ _
  try rw [h201]
  have HF204 := Lib.hid (bext HF188.out ba202)
  have HX205 := Lib.hid (HX189.out.below ba202 HX189.out.lt)
  have HX206 := Lib.hid (HX190.out.below ba202 HX190.out.lt)
  have HX207 := Lib.hid (HX191.out.below ba202 HX191.out.lt)
  have HX208 := Lib.hid (HX192.out.below ba202 HX192.out.lt)
  have HX209 := Lib.hid (HX193.out.below ba202 HX193.out.lt)
  have HY210 := Lib.hid (tab_below' HY194.out ba202)
  have HY211 := Lib.hid (RunsAt.below HY195.out ba202)
  have HY212 := Lib.hid (RunsAt.below HY196.out ba202)
  have HY213 := Lib.hid (RunsAt.below HY197.out ba202)
  have HY214 := Lib.hid (HY198.out.below ba202)
  clear HF188 HX189 HX190 HX191 HX192 HX193 HY194 HY195 HY196 HY197 HY198
  obtain ⟨g200, h215⟩ : ∃ g, w186.heap.size = g := ⟨_, rfl⟩
  rw [h215] at bn203
  try rw [h215]
  have HX216 := Lib.hid bn203
  clear h201 ba202 bn203 h215
  have c217 : U199.cell? ⟨g12, 0, none⟩ = some (.int .u8 c.tag) := HX205.out.cell 0
  have c218 : U199.cell? ⟨g12, 1, none⟩ = some (.int .i64 c.most) := HX205.out.cell 1
  have c219 : U199.cell? ⟨g12, 2, none⟩ = some (.int .i64 c.seg) := HX205.out.cell 2
  have c220 : U199.cell? ⟨g12, 3, none⟩ = some (.int .i64 c.least) := HX205.out.cell 3
  have c221 : U199.cell? ⟨g12, 4, none⟩ = some (.int .i64 c.den) := HX205.out.cell 4
  have c222 : U199.cell? ⟨g12, 5, none⟩ = some (.int .i64 c.leafLow) := HX205.out.cell 5
  have c223 : U199.cell? ⟨g12, 6, none⟩ = some (.int .i64 c.rootLow) := HX205.out.cell 6
  have c224 : U199.cell? ⟨g12, 7, none⟩ = some (.int .i64 c.rootHigh) := HX205.out.cell 7
  have c225 : U199.cell? ⟨g12, 8, none⟩ = some (.int .i64 c.leafHigh) := HX205.out.cell 8
  have c226 : U199.cell? ⟨g12, 9, none⟩ = some (.slice B1 R1.length k1) := HX205.out.cell 9
  have c227 : U199.cell? ⟨g12, 10, none⟩ = some (.int .u64 n1) := HX205.out.cell 10
  have l228 : g12 < U199.heap.size := HX205.out.lt
  go_upto_region 12 with fail
  clear c217 c218 c219 c220 c221 c222 c223 c224 c225 c226 c227 l228
  go_cut [17] from 74 to 87 (fun v wx => v = .int .i64 130 ∧ Below U199.heap.size U199 wx)
  case first =>
    refine region_inv (by kernel_rfl) (by kernel_rfl) (fun L a W => ∃ (X : Nat → Prop) (t83 t84 t85 t82 t86 t87 t16 t17 : Value) (g84 : Nat) (B85 : Option Addr) (k85 : Nat) (M85 : Nat) (g6 : Nat), a = ⟨#[(Value.bool false), (Value.pointer (some { block := g12, off := 0 })), (Value.int IntKind.i64 0), (Value.int IntKind.i64 0), (Value.int IntKind.i64 8), (Value.pointer (some { block := g40, off := 0 })), (Value.int IntKind.i64 9), (Value.pointer (some { block := g71, off := 0 })), (Value.int IntKind.i64 0), (Value.pointer (some { block := g105, off := 0 })), (Value.int IntKind.i64 6), (Value.pointer (some { block := g142, off := 0 })), (Value.int IntKind.i64 7), (Value.int IntKind.i64 0), (Value.pointer (some { block := g200, off := 0 })), (Value.int IntKind.i64 130), t16, t17, undef, undef, undef, undef, undef, undef, undef, undef, undef, undef, undef, undef, (Value.tuple #[Value.agg (lrow c B0 0 k0 0), Value.int IntKind.i64 0]), (Value.agg c.row), (Value.tuple #[Value.agg (lrow c B0 0 k0 0), Value.int IntKind.i64 0]), (Value.agg (lrow c B0 0 k0 0)), (Value.int IntKind.i64 0), (Value.int IntKind.i64 8), (Value.bool false), (Value.bool false), undef, undef, (Value.bool false), (Value.bool false), undef, undef, (Value.bool false), (u45), (u46), (u47), (u48), (u49), (u50), (u51), (u52), (Value.tuple #[Value.agg (lrow z Ba Ma ka 0), Value.int IntKind.i64 9]), (Value.agg #[Value.int IntKind.u8 c.tag, Value.int IntKind.i64 c.most, Value.int IntKind.i64 c.seg, Value.int IntKind.i64 c.least, Value.int IntKind.i64 c.den, Value.int IntKind.i64 c.leafLow, Value.int IntKind.i64 c.rootLow, Value.int IntKind.i64 c.rootHigh, Value.int IntKind.i64 c.leafHigh, Value.slice B1 R1.length k1, Value.int IntKind.u64 n1]), (Value.tuple #[Value.agg (lrow z Ba Ma ka 0), Value.int IntKind.i64 9]), (Value.agg (lrow z Ba Ma ka 0)), (Value.int IntKind.i64 9), (Value.tuple #[Value.agg (lrow c Bx Mx kx Nx), Value.int IntKind.i64 0]), (Value.agg #[Value.int IntKind.u8 c.tag, Value.int IntKind.i64 c.most, Value.int IntKind.i64 c.seg, Value.int IntKind.i64 c.least, Value.int IntKind.i64 c.den, Value.int IntKind.i64 c.leafLow, Value.int IntKind.i64 c.rootLow, Value.int IntKind.i64 c.rootHigh, Value.int IntKind.i64 c.leafHigh, Value.slice B1 R1.length k1, Value.int IntKind.u64 n1]), (Value.tuple #[Value.agg (lrow c Bx Mx kx Nx), Value.int IntKind.i64 0]), (Value.agg (lrow c Bx Mx kx Nx)), (Value.int IntKind.i64 0), (Value.tuple #[Value.agg (lrow z Bb Mb kb 0), Value.int IntKind.i64 6]), (Value.agg #[Value.int IntKind.u8 c.tag, Value.int IntKind.i64 c.most, Value.int IntKind.i64 c.seg, Value.int IntKind.i64 c.least, Value.int IntKind.i64 c.den, Value.int IntKind.i64 c.leafLow, Value.int IntKind.i64 c.rootLow, Value.int IntKind.i64 c.rootHigh, Value.int IntKind.i64 c.leafHigh, Value.slice B1 R1.length k1, Value.int IntKind.u64 n1]), (Value.tuple #[Value.agg (lrow z Bb Mb kb 0), Value.int IntKind.i64 6]), (Value.agg (lrow z Bb Mb kb 0)), (Value.int IntKind.i64 6), (Value.tuple #[Value.agg (lrow c By My ky Ny), Value.int IntKind.i64 7, Value.int IntKind.i64 0]), (Value.agg #[Value.int IntKind.u8 c.tag, Value.int IntKind.i64 c.most, Value.int IntKind.i64 c.seg, Value.int IntKind.i64 c.least, Value.int IntKind.i64 c.den, Value.int IntKind.i64 c.leafLow, Value.int IntKind.i64 c.rootLow, Value.int IntKind.i64 c.rootHigh, Value.int IntKind.i64 c.leafHigh, Value.slice Bx Mx kx, Value.int IntKind.u64 Nx]), (Value.tuple #[Value.agg (lrow c By My ky Ny), Value.int IntKind.i64 7, Value.int IntKind.i64 0]), (Value.agg (lrow c By My ky Ny)), (Value.int IntKind.i64 7), (Value.int IntKind.i64 0), (Value.tuple #[Value.agg (lrow z Bd Md kd 0), Value.int IntKind.i64 130]), (Value.agg #[Value.int IntKind.u8 c.tag, Value.int IntKind.i64 c.most, Value.int IntKind.i64 c.seg, Value.int IntKind.i64 c.least, Value.int IntKind.i64 c.den, Value.int IntKind.i64 c.leafLow, Value.int IntKind.i64 c.rootLow, Value.int IntKind.i64 c.rootHigh, Value.int IntKind.i64 c.leafHigh, Value.slice B1 R1.length k1, Value.int IntKind.u64 n1]), (Value.agg #[Value.int IntKind.i64 1, Value.int IntKind.i64 0]), (Value.agg #[Value.int IntKind.i64 1, Value.int IntKind.i64 0]), (Value.slice (some { block := g173, off := 0 }) 2 2), (Value.tuple #[Value.agg (lrow z Bd Md kd 0), Value.int IntKind.i64 130]), (Value.agg (lrow z Bd Md kd 0)), (Value.int IntKind.i64 130), t82, t83, t84, t85, t86, t87, undef, undef, undef, undef, undef, undef, undef, undef, undef, undef, undef, undef, undef, undef, undef, undef, undef, undef, undef, undef, undef, undef, undef, undef, undef, undef, undef, undef, undef, undef, undef, undef, undef, undef, undef, undef, undef, undef, undef, undef, undef, undef, undef, undef, undef, undef, undef, undef, undef, undef, undef, undef, undef, undef, undef, undef, undef, undef, undef, undef, undef, undef, undef, undef, undef, undef, undef, undef, undef, undef, undef, undef, undef, undef, undef, undef, undef, undef, undef, undef, undef, undef, undef, undef, undef, undef, undef, undef, undef, undef, undef, undef, undef, undef, undef, undef, undef, undef, undef, undef, undef, undef, undef, undef, undef, undef, undef, undef, undef, undef, undef, undef, undef, undef, undef, undef, undef, undef, undef, undef, undef], []⟩ ∧ Below U199.heap.size U199 W ∧ (∀ k, X k → U199.heap.size ≤ k ∧ k < W.heap.size) ∧ (L 0 = true → t83 = .agg #[.int .u8 c.tag, .int .i64 c.most, .int .i64 c.seg, .int .i64 c.least, .int .i64 c.den, .int .i64 c.leafLow, .int .i64 c.rootLow, .int .i64 c.rootHigh, .int .i64 c.leafHigh, .slice B1 R1.length k1, .int .u64 n1]) ∧ (L 1 = true → t84 = .slice (some ⟨g84, 0, none⟩) 9 9 ∧ (L 7 = false → Held (fun _ => False) (fun W => Sl W (some ⟨g84, 0, none⟩) (List.flatMap Pr.cells (List.replicate 9 (⟨0, 0⟩ : Pr)))) W)) ∧ (L 2 = true → t85 = .tuple #[.agg (lrow z B85 M85 k85 0), .int .i64 130]) ∧ (L 3 = true → t82 = .tuple #[.agg (lrow z B85 M85 k85 0), .int .i64 130]) ∧ (L 4 = true → t86 = .agg (lrow z B85 M85 k85 0)) ∧ (L 5 = true → t87 = .int .i64 130) ∧ (L 6 = true → t16 = .pointer (some ⟨g6, 0, none⟩) ∧ X g6 ∧ Held (fun k => X k ∧ k ≠ g6) (fun W => (∃ x0 x1 x2 x3 x4 x5 x6 x7 x8 x9 x10 : Value, Blk W g6 29 #[x0, x1, x2, x3, x4, x5, x6, x7, x8, x9, x10])) W) ∧ (L 7 = true → Held (fun k => X k ∧ k ≠ g6) (fun W => Blk W g6 29 #[.int .u8 z.tag, .int .i64 z.most, .int .i64 z.seg, .int .i64 z.least, .int .i64 z.den, .int .i64 z.leafLow, .int .i64 z.rootLow, .int .i64 z.rootHigh, .int .i64 z.leafHigh, .slice B85 M85 k85, .int .u64 0]) W) ∧ (L 8 = true → t17 = .int .i64 130) ∧ (L 3 = true → L 2 = true) ∧ (L 4 = true → L 2 = true) ∧ (L 7 = true → L 2 = true) ∧ (L 7 = true → L 6 = true)) ?h0 ?hstep ?hend
    case h0 => exact ⟨(fun _ => False), undef, undef, undef, undef, undef, undef, undef, undef, 0, none, 0, 0, 0, rfl, (Below.refl _ _).drew, fun k hk => absurd hk id, fun h => absurd h Bool.false_ne_true, fun h => absurd h Bool.false_ne_true, fun h => absurd h Bool.false_ne_true, fun h => absurd h Bool.false_ne_true, fun h => absurd h Bool.false_ne_true, fun h => absurd h Bool.false_ne_true, fun h => absurd h Bool.false_ne_true, fun h => absurd h Bool.false_ne_true, fun h => absurd h Bool.false_ne_true, fun h => absurd h Bool.false_ne_true, fun h => absurd h Bool.false_ne_true, fun h => absurd h Bool.false_ne_true, fun h => absurd h Bool.false_ne_true⟩
    case hend =>
      rintro L a W hall ⟨X, t83, t84, t85, t82, t86, t87, t16, t17, g84, B85, k85, M85, g6, rfl, hb, hX, f0, f1, f2, f3, f4, f5, f6, f7, f8, im3_2, im4_2, im7_2, im7_6⟩
      have z0 := f0 (hall 0 (by decide))
      have z1 := f1 (hall 1 (by decide))
      have z2 := f2 (hall 2 (by decide))
      have z3 := f3 (hall 3 (by decide))
      have z4 := f4 (hall 4 (by decide))
      have z5 := f5 (hall 5 (by decide))
      have z6 := f6 (hall 6 (by decide))
      have z7 := f7 (hall 7 (by decide))
      have z8 := f8 (hall 8 (by decide))
      clear hall f0 f1 f2 f3 f4 f5 f6 f7 f8 im3_2 im4_2 im7_2 im7_6
      obtain rfl := z8
      have HBZ := Lib.hid hb
      clear z0 z1 z2 z3 z4 z5 z6 z7 hb hX
      go_wp2_with fail
      go_meet
      exact ⟨rfl, HBZ.out⟩
    case hstep =>
      rintro L a W i o ho hLi hdep ⟨X, t83, t84, t85, t82, t86, t87, t16, t17, g84, B85, k85, M85, g6, rfl, hb, hX, f0, f1, f2, f3, f4, f5, f6, f7, f8, im3_2, im4_2, im7_2, im7_6⟩
      have F0 := Lib.hid f0
      have F1 := Lib.hid f1
      have F2 := Lib.hid f2
      have F3 := Lib.hid f3
      have F4 := Lib.hid f4
      have F5 := Lib.hid f5
      have F6 := Lib.hid f6
      have F7 := Lib.hid f7
      have F8 := Lib.hid f8
      have IM3_2 := Lib.hid im3_2
      have IM4_2 := Lib.hid im4_2
      have IM7_2 := Lib.hid im7_2
      have IM7_6 := Lib.hid im7_6
      clear f0 f1 f2 f3 f4 f5 f6 f7 f8 im3_2 im4_2 im7_2 im7_6
      have HLi := Lib.hid hLi
      clear hLi
      match i, ho with
      | 0, ho =>
        obtain rfl := Option.some.inj ho
        clear hdep
        have HB := Lib.hid hb
        have HX := Lib.hid hX
        have bo := (HX205.out).below HB.out (HX205.out).lt
        have q0 : W.cell? ⟨g12, 0, none⟩ = some (.int .u8 c.tag) := bo.cell 0
        have q1 : W.cell? ⟨g12, 1, none⟩ = some (.int .i64 c.most) := bo.cell 1
        have q2 : W.cell? ⟨g12, 2, none⟩ = some (.int .i64 c.seg) := bo.cell 2
        have q3 : W.cell? ⟨g12, 3, none⟩ = some (.int .i64 c.least) := bo.cell 3
        have q4 : W.cell? ⟨g12, 4, none⟩ = some (.int .i64 c.den) := bo.cell 4
        have q5 : W.cell? ⟨g12, 5, none⟩ = some (.int .i64 c.leafLow) := bo.cell 5
        have q6 : W.cell? ⟨g12, 6, none⟩ = some (.int .i64 c.rootLow) := bo.cell 6
        have q7 : W.cell? ⟨g12, 7, none⟩ = some (.int .i64 c.rootHigh) := bo.cell 7
        have q8 : W.cell? ⟨g12, 8, none⟩ = some (.int .i64 c.leafHigh) := bo.cell 8
        have q9 : W.cell? ⟨g12, 9, none⟩ = some (.slice B1 R1.length k1) := bo.cell 9
        have q10 : W.cell? ⟨g12, 10, none⟩ = some (.int .u64 n1) := bo.cell 10
        have lo := bo.lt
        refine wpOp_step rfl (fun K1 hK1 => ?_)
        have hK := Lib.hid hK1
        clear hK1
        go_wp2_with fail
        exact hK.out _ _ ⟨X, _, t84, t85, t82, t86, t87, t16, t17, g84, B85, k85, M85, g6, rfl, HB.out, HX.out, fun _ => rfl, fun h => ⟨(F1.out (by simpa using h)).1, fun hs => ((F1.out (by simpa using h)).2 (by simpa using hs))⟩, fun h => F2.out (by simpa using h), fun h => F3.out (by simpa using h), fun h => F4.out (by simpa using h), fun h => F5.out (by simpa using h), fun h => F6.out (by simpa using h), fun h => F7.out (by simpa using h), fun h => F8.out (by simpa using h), fun h => by have := IM3_2.out (by simpa using h); simp [this], fun h => by have := IM4_2.out (by simpa using h); simp [this], fun h => by have := IM7_2.out (by simpa using h); simp [this], fun h => by have := IM7_6.out (by simpa using h); simp [this]⟩
      | 1, ho =>
        obtain rfl := Option.some.inj ho
        clear hdep
        have HB := Lib.hid hb
        have HX := Lib.hid hX
        have hmk9 := mk9
        refine wpOp_step rfl (fun K1 hK1 => ?_)
        have hK := Lib.hid hK1
        clear hK1
        go_wp2_with fail
        obtain ⟨W1, hW1⟩ : ∃ W1, W.alloc (.cells #[.int .i64 0, .int .i64 0, .int .i64 0, .int .i64 0, .int .i64 0, .int .i64 0, .int .i64 0, .int .i64 0, .int .i64 0, .int .i64 0, .int .i64 0, .int .i64 0, .int .i64 0, .int .i64 0, .int .i64 0, .int .i64 0, .int .i64 0, .int .i64 0] 40) = W1 := ⟨_, rfl⟩
        have hb1 : Below W.heap.size W W1 := by rw [← hW1]; exact (Below.refl _ _).alloc (Nat.le_refl _) _
        have hsl : Sl W1 (some ⟨W.heap.size, 0, none⟩) (List.flatMap Pr.cells (List.replicate 9 (⟨0, 0⟩ : Pr))) := by rw [nine_cells, ← hW1]; exact sl_new1 _ _ _
        rw [hW1]
        clear hW1
        exact hK.out _ _ ⟨X, t83, _, t85, t82, t86, t87, t16, t17, W.heap.size, B85, k85, M85, g6, rfl, bext HB.out hb1, fun k hk => ⟨(HX.out k hk).1, Nat.lt_of_lt_of_le (HX.out k hk).2 hb1.size⟩, fun h => F0.out (by simpa using h), fun _ => ⟨rfl, fun _ => fun w2 hm => hsl.below (hm.below (Nat.le_refl _) (fun k hk => hk.elim))⟩, fun h => F2.out (by simpa using h), fun h => F3.out (by simpa using h), fun h => F4.out (by simpa using h), fun h => F5.out (by simpa using h), fun h => ⟨(F6.out (by simpa using h)).1, (F6.out (by simpa using h)).2.1, (F6.out (by simpa using h)).2.2.ext hb1⟩, fun h => (F7.out (by simpa using h)).ext hb1, fun h => F8.out (by simpa using h), fun h => by have := IM3_2.out (by simpa using h); simp [this], fun h => by have := IM4_2.out (by simpa using h); simp [this], fun h => by have := IM7_2.out (by simpa using h); simp [this], fun h => by have := IM7_6.out (by simpa using h); simp [this]⟩
      | 2, ho =>
        obtain rfl := Option.some.inj ho
        have hls7 : L 7 = false := by
          cases h : L 7 with
          | false => rfl
          | true => exact absurd (IM7_2.out h) (by rw [HLi.out]; exact Bool.false_ne_true)
        have hl0 := hdep ⟨0, .data⟩ (by simp) rfl
        have z0 := F0.out hl0
        obtain rfl := z0
        have hl1 := hdep ⟨1, .data⟩ (by simp) rfl
        have z1 := F1.out hl1
        have zz1 := z1.2 hls7
        obtain rfl := z1.1
        clear z1
        have z1 := Lib.hid zz1
        clear zz1
        clear hdep
        have HB := Lib.hid hb
        have HX := Lib.hid hX
        refine wpOp_step rfl (fun K1 hK1 => ?_)
        have hK := Lib.hid hK1
        clear hK1
        go_wp2_with (go_at_call 9; refine (nm_load (l := (List.replicate 9 (⟨0, 0⟩ : Pr))) (A := some ⟨g84, 0, none⟩) (B := B1) (R := R1) (k := k1) (n := n1) HC.out HZ.out HPM.out (by decide) nine_no (by decide) _ ((HY211.out).below HB.out) z1.out.now).mono ?_; rintro e1 W1 ⟨B5, k5, R5, rfl, -, -, hb1⟩)
        exact hK.out _ _ ⟨X, _, _, _, t82, t86, t87, t16, t17, g84, B5, k5, R5.length, g6, rfl, bext HB.out hb1, fun k hk => ⟨(HX.out k hk).1, Nat.lt_of_lt_of_le (HX.out k hk).2 hb1.size⟩, fun h => rfl, fun h => ⟨rfl, fun hs => z1.out.ext hb1⟩, fun _ => rfl, fun h => absurd (IM3_2.out (by simpa using h)) (by rw [HLi.out]; exact Bool.false_ne_true), fun h => absurd (IM4_2.out (by simpa using h)) (by rw [HLi.out]; exact Bool.false_ne_true), fun h => F5.out (by simpa using h), fun h => ⟨(F6.out (by simpa using h)).1, (F6.out (by simpa using h)).2.1, (F6.out (by simpa using h)).2.2.ext hb1⟩, fun h => absurd (IM7_2.out (by simpa using h)) (by rw [HLi.out]; exact Bool.false_ne_true), fun h => F8.out (by simpa using h), fun _ => by simp, fun _ => by simp, fun _ => by simp, fun h => by have := IM7_6.out (by simpa using h); simp [this]⟩
      | 3, ho =>
        obtain rfl := Option.some.inj ho
        have hl2 := hdep ⟨2, .data⟩ (by simp) rfl
        have z2 := F2.out hl2
        obtain rfl := z2
        clear hdep
        have HB := Lib.hid hb
        have HX := Lib.hid hX
        refine wpOp_step rfl (fun K1 hK1 => ?_)
        have hK := Lib.hid hK1
        clear hK1
        go_wp2_with fail
        exact hK.out _ _ ⟨X, t83, t84, _, _, t86, t87, t16, t17, g84, B85, k85, M85, g6, rfl, HB.out, HX.out, fun h => F0.out (by simpa using h), fun h => ⟨(F1.out (by simpa using h)).1, fun hs => ((F1.out (by simpa using h)).2 (by simpa using hs))⟩, fun h => rfl, fun _ => rfl, fun h => F4.out (by simpa using h), fun h => F5.out (by simpa using h), fun h => F6.out (by simpa using h), fun h => F7.out (by simpa using h), fun h => F8.out (by simpa using h), fun _ => by simp [hl2], fun h => by have := IM4_2.out (by simpa using h); simp [this], fun h => by have := IM7_2.out (by simpa using h); simp [this], fun h => by have := IM7_6.out (by simpa using h); simp [this]⟩
      | 4, ho =>
        obtain rfl := Option.some.inj ho
        have hl3 := hdep ⟨3, .data⟩ (by simp) rfl
        have z3 := F3.out hl3
        obtain rfl := z3
        have hl2 := IM3_2.out hl3
        have z2 := F2.out hl2
        obtain rfl := z2
        clear hdep
        have HB := Lib.hid hb
        have HX := Lib.hid hX
        refine wpOp_step rfl (fun K1 hK1 => ?_)
        have hK := Lib.hid hK1
        clear hK1
        go_wp2_with fail
        exact hK.out _ _ ⟨X, t83, t84, _, _, _, t87, t16, t17, g84, B85, k85, M85, g6, rfl, HB.out, HX.out, fun h => F0.out (by simpa using h), fun h => ⟨(F1.out (by simpa using h)).1, fun hs => ((F1.out (by simpa using h)).2 (by simpa using hs))⟩, fun h => rfl, fun h => rfl, fun _ => rfl, fun h => F5.out (by simpa using h), fun h => F6.out (by simpa using h), fun h => F7.out (by simpa using h), fun h => F8.out (by simpa using h), fun h => by have := IM3_2.out (by simpa using h); simp [this], fun _ => by simp [hl2], fun h => by have := IM7_2.out (by simpa using h); simp [this], fun h => by have := IM7_6.out (by simpa using h); simp [this]⟩
      | 5, ho =>
        obtain rfl := Option.some.inj ho
        have hl3 := hdep ⟨3, .data⟩ (by simp) rfl
        have z3 := F3.out hl3
        obtain rfl := z3
        clear hdep
        have HB := Lib.hid hb
        have HX := Lib.hid hX
        refine wpOp_step rfl (fun K1 hK1 => ?_)
        have hK := Lib.hid hK1
        clear hK1
        go_wp2_with fail
        exact hK.out _ _ ⟨X, t83, t84, t85, _, t86, _, t16, t17, g84, B85, k85, M85, g6, rfl, HB.out, HX.out, fun h => F0.out (by simpa using h), fun h => ⟨(F1.out (by simpa using h)).1, fun hs => ((F1.out (by simpa using h)).2 (by simpa using hs))⟩, fun h => F2.out (by simpa using h), fun h => rfl, fun h => F4.out (by simpa using h), fun _ => rfl, fun h => F6.out (by simpa using h), fun h => F7.out (by simpa using h), fun h => F8.out (by simpa using h), fun h => by have := IM3_2.out (by simpa using h); simp [this], fun h => by have := IM4_2.out (by simpa using h); simp [this], fun h => by have := IM7_2.out (by simpa using h); simp [this], fun h => by have := IM7_6.out (by simpa using h); simp [this]⟩
      | 6, ho =>
        obtain rfl := Option.some.inj ho
        clear hdep
        have HB := Lib.hid hb
        have HX := Lib.hid hX
        refine wpOp_step rfl (fun K1 hK1 => ?_)
        have hK := Lib.hid hK1
        clear hK1
        go_wp2_with fail
        have hb1 : Below W.heap.size W (W.alloc (.cells #[.int .u8 0, .int .i64 0, .int .i64 0, .int .i64 0, .int .i64 0, .int .i64 0, .int .i64 0, .int .i64 0, .int .i64 0, .slice none 0 0, .int .u64 0] 29)) := (Below.refl _ _).alloc (Nat.le_refl _) _
        exact hK.out _ _ ⟨(fun k => X k ∨ k = W.heap.size), t83, t84, t85, t82, t86, t87, _, t17, g84, B85, k85, M85, W.heap.size, rfl, HB.out.alloc HB.out.size _, fun k hk => hk.elim (fun q => ⟨(HX.out k q).1, Nat.lt_of_lt_of_le (HX.out k q).2 hb1.size⟩) (fun q => by subst q; exact ⟨HB.out.size, by simp⟩), fun h => F0.out (by simpa using h), fun h => ⟨(F1.out (by simpa using h)).1, fun hs => ((F1.out (by simpa using h)).2 (by simpa using hs)).ext hb1⟩, fun h => F2.out (by simpa using h), fun h => F3.out (by simpa using h), fun h => F4.out (by simpa using h), fun h => F5.out (by simpa using h), fun _ => ⟨rfl, .inr rfl, held_mono (held_blk (X := fun k => (X k ∨ k = W.heap.size) ∧ k ≠ W.heap.size) (Blk.new W 29 #[.int .u8 0, .int .i64 0, .int .i64 0, .int .i64 0, .int .i64 0, .int .i64 0, .int .i64 0, .int .i64 0, .int .i64 0, .slice none 0 0, .int .u64 0]) (fun hx => hx.2 rfl)) (fun W2 h2 => ⟨_, _, _, _, _, _, _, _, _, _, _, h2⟩)⟩, fun h => absurd (IM7_6.out (by simpa using h)) (by rw [HLi.out]; exact Bool.false_ne_true), fun h => F8.out (by simpa using h), fun h => by have := IM3_2.out (by simpa using h); simp [this], fun h => by have := IM4_2.out (by simpa using h); simp [this], fun h => by have := IM7_2.out (by simpa using h); simp [this], fun _ => by simp⟩
      | 7, ho =>
        obtain rfl := Option.some.inj ho
        have hl6 := hdep ⟨6, .data⟩ (by simp) rfl
        have z6 := F6.out hl6
        have zz6 := z6.2
        obtain rfl := z6.1
        clear z6
        have z6 := Lib.hid zz6
        clear zz6
        have hl4 := hdep ⟨4, .data⟩ (by simp) rfl
        have z4 := F4.out hl4
        obtain rfl := z4
        have hl2 := hdep ⟨2, .chain⟩ (by simp) rfl
        have z2 := F2.out hl2
        obtain rfl := z2
        clear hdep
        have HB := Lib.hid hb
        have HX := Lib.hid hX
        refine wpOp_step rfl (fun K1 hK1 => ?_)
        have hK := Lib.hid hK1
        clear hK1
        obtain ⟨hxg, hbx⟩ := z6.out
        obtain ⟨x0, x1, x2, x3, x4, x5, x6, x7, x8, x9, x10, hbk⟩ := hbx.now
        have q0 : W.cell? ⟨g6, 0, none⟩ = some x0 := hbk.cell 0
        have r0 := hbk.frozen 0
        have q1 : W.cell? ⟨g6, 1, none⟩ = some x1 := hbk.cell 1
        have r1 := hbk.frozen 1
        have q2 : W.cell? ⟨g6, 2, none⟩ = some x2 := hbk.cell 2
        have r2 := hbk.frozen 2
        have q3 : W.cell? ⟨g6, 3, none⟩ = some x3 := hbk.cell 3
        have r3 := hbk.frozen 3
        have q4 : W.cell? ⟨g6, 4, none⟩ = some x4 := hbk.cell 4
        have r4 := hbk.frozen 4
        have q5 : W.cell? ⟨g6, 5, none⟩ = some x5 := hbk.cell 5
        have r5 := hbk.frozen 5
        have q6 : W.cell? ⟨g6, 6, none⟩ = some x6 := hbk.cell 6
        have r6 := hbk.frozen 6
        have q7 : W.cell? ⟨g6, 7, none⟩ = some x7 := hbk.cell 7
        have r7 := hbk.frozen 7
        have q8 : W.cell? ⟨g6, 8, none⟩ = some x8 := hbk.cell 8
        have r8 := hbk.frozen 8
        have q9 : W.cell? ⟨g6, 9, none⟩ = some x9 := hbk.cell 9
        have r9 := hbk.frozen 9
        have q10 : W.cell? ⟨g6, 10, none⟩ = some x10 := hbk.cell 10
        have r10 := hbk.frozen 10
        have lg := hbk.lt
        go_wp2_with fail
        have hm1 : ∀ Y : Nat → Prop, Y g6 → Mod Y W (((((((((((W.setCell ⟨g6, 0, none⟩ (.int .u8 z.tag)).setCell ⟨g6, 1, none⟩ (.int .i64 z.most)).setCell ⟨g6, 2, none⟩ (.int .i64 z.seg)).setCell ⟨g6, 3, none⟩ (.int .i64 z.least)).setCell ⟨g6, 4, none⟩ (.int .i64 z.den)).setCell ⟨g6, 5, none⟩ (.int .i64 z.leafLow)).setCell ⟨g6, 6, none⟩ (.int .i64 z.rootLow)).setCell ⟨g6, 7, none⟩ (.int .i64 z.rootHigh)).setCell ⟨g6, 8, none⟩ (.int .i64 z.leafHigh)).setCell ⟨g6, 9, none⟩ (.slice B85 M85 k85)).setCell ⟨g6, 10, none⟩ (.int .u64 0)) := fun Y hY => ((((((((((((Mod.refl Y W).setCell (p := ⟨g6, 0, none⟩) hY _).setCell (p := ⟨g6, 1, none⟩) hY _).setCell (p := ⟨g6, 2, none⟩) hY _).setCell (p := ⟨g6, 3, none⟩) hY _).setCell (p := ⟨g6, 4, none⟩) hY _).setCell (p := ⟨g6, 5, none⟩) hY _).setCell (p := ⟨g6, 6, none⟩) hY _).setCell (p := ⟨g6, 7, none⟩) hY _).setCell (p := ⟨g6, 8, none⟩) hY _).setCell (p := ⟨g6, 9, none⟩) hY _).setCell (p := ⟨g6, 10, none⟩) hY _)
        have hbn : Blk (((((((((((W.setCell ⟨g6, 0, none⟩ (.int .u8 z.tag)).setCell ⟨g6, 1, none⟩ (.int .i64 z.most)).setCell ⟨g6, 2, none⟩ (.int .i64 z.seg)).setCell ⟨g6, 3, none⟩ (.int .i64 z.least)).setCell ⟨g6, 4, none⟩ (.int .i64 z.den)).setCell ⟨g6, 5, none⟩ (.int .i64 z.leafLow)).setCell ⟨g6, 6, none⟩ (.int .i64 z.rootLow)).setCell ⟨g6, 7, none⟩ (.int .i64 z.rootHigh)).setCell ⟨g6, 8, none⟩ (.int .i64 z.leafHigh)).setCell ⟨g6, 9, none⟩ (.slice B85 M85 k85)).setCell ⟨g6, 10, none⟩ (.int .u64 0)) g6 29 #[.int .u8 z.tag, .int .i64 z.most, .int .i64 z.seg, .int .i64 z.least, .int .i64 z.den, .int .i64 z.leafLow, .int .i64 z.rootLow, .int .i64 z.rootHigh, .int .i64 z.leafHigh, .slice B85 M85 k85, .int .u64 0] := by simpa using ((((((((((hbk.set_ 0 (.int .u8 z.tag)).set_ 1 (.int .i64 z.most)).set_ 2 (.int .i64 z.seg)).set_ 3 (.int .i64 z.least)).set_ 4 (.int .i64 z.den)).set_ 5 (.int .i64 z.leafLow)).set_ 6 (.int .i64 z.rootLow)).set_ 7 (.int .i64 z.rootHigh)).set_ 8 (.int .i64 z.leafHigh)).set_ 9 (.slice B85 M85 k85)).set_ 10 (.int .u64 0)
        have hle : U199.heap.size ≤ g6 := (HX.out _ hxg).1
        have hbl : Below U199.heap.size U199 (((((((((((W.setCell ⟨g6, 0, none⟩ (.int .u8 z.tag)).setCell ⟨g6, 1, none⟩ (.int .i64 z.most)).setCell ⟨g6, 2, none⟩ (.int .i64 z.seg)).setCell ⟨g6, 3, none⟩ (.int .i64 z.least)).setCell ⟨g6, 4, none⟩ (.int .i64 z.den)).setCell ⟨g6, 5, none⟩ (.int .i64 z.leafLow)).setCell ⟨g6, 6, none⟩ (.int .i64 z.rootLow)).setCell ⟨g6, 7, none⟩ (.int .i64 z.rootHigh)).setCell ⟨g6, 8, none⟩ (.int .i64 z.leafHigh)).setCell ⟨g6, 9, none⟩ (.slice B85 M85 k85)).setCell ⟨g6, 10, none⟩ (.int .u64 0)) := (((((((((((HB.out.setCell (p := ⟨g6, 0, none⟩) hle _).setCell (p := ⟨g6, 1, none⟩) hle _).setCell (p := ⟨g6, 2, none⟩) hle _).setCell (p := ⟨g6, 3, none⟩) hle _).setCell (p := ⟨g6, 4, none⟩) hle _).setCell (p := ⟨g6, 5, none⟩) hle _).setCell (p := ⟨g6, 6, none⟩) hle _).setCell (p := ⟨g6, 7, none⟩) hle _).setCell (p := ⟨g6, 8, none⟩) hle _).setCell (p := ⟨g6, 9, none⟩) hle _).setCell (p := ⟨g6, 10, none⟩) hle _)
        obtain ⟨W1, hW1⟩ : ∃ W1, (((((((((((W.setCell ⟨g6, 0, none⟩ (.int .u8 z.tag)).setCell ⟨g6, 1, none⟩ (.int .i64 z.most)).setCell ⟨g6, 2, none⟩ (.int .i64 z.seg)).setCell ⟨g6, 3, none⟩ (.int .i64 z.least)).setCell ⟨g6, 4, none⟩ (.int .i64 z.den)).setCell ⟨g6, 5, none⟩ (.int .i64 z.leafLow)).setCell ⟨g6, 6, none⟩ (.int .i64 z.rootLow)).setCell ⟨g6, 7, none⟩ (.int .i64 z.rootHigh)).setCell ⟨g6, 8, none⟩ (.int .i64 z.leafHigh)).setCell ⟨g6, 9, none⟩ (.slice B85 M85 k85)).setCell ⟨g6, 10, none⟩ (.int .u64 0)) = W1 := ⟨_, rfl⟩
        rw [hW1] at hm1 hbn hbl
        rw [hW1]
        clear hW1
        exact hK.out _ _ ⟨X, t83, t84, _, t82, _, t87, _, t17, g84, B85, k85, M85, g6, rfl, hbl, fun k hk => ⟨(HX.out k hk).1, Nat.lt_of_lt_of_le (HX.out k hk).2 (hm1 X hxg).size⟩, fun h => F0.out (by simpa using h), fun h => ⟨(F1.out (by simpa using h)).1, fun hs => absurd hs (by simp)⟩, fun h => rfl, fun h => F3.out (by simpa using h), fun h => rfl, fun h => F5.out (by simpa using h), fun h => ⟨rfl, z6.out.1, held_mono (held_blk hbn (fun hx => hx.2 rfl)) (fun W2 h2 => ⟨_, _, _, _, _, _, _, _, _, _, _, h2⟩)⟩, fun _ => held_blk hbn (fun hx => hx.2 rfl), fun h => F8.out (by simpa using h), fun h => by have := IM3_2.out (by simpa using h); simp [this], fun h => by have := IM4_2.out (by simpa using h); simp [this], fun _ => by simp [hl2], fun _ => by simp [hl6]⟩
      | 8, ho =>
        obtain rfl := Option.some.inj ho
        have hl5 := hdep ⟨5, .data⟩ (by simp) rfl
        have z5 := F5.out hl5
        obtain rfl := z5
        clear hdep
        have HB := Lib.hid hb
        have HX := Lib.hid hX
        refine wpOp_step rfl (fun K1 hK1 => ?_)
        have hK := Lib.hid hK1
        clear hK1
        go_wp2_with fail
        exact hK.out _ _ ⟨X, t83, t84, t85, t82, t86, _, t16, _, g84, B85, k85, M85, g6, rfl, HB.out, HX.out, fun h => F0.out (by simpa using h), fun h => ⟨(F1.out (by simpa using h)).1, fun hs => ((F1.out (by simpa using h)).2 (by simpa using hs))⟩, fun h => F2.out (by simpa using h), fun h => F3.out (by simpa using h), fun h => F4.out (by simpa using h), fun h => rfl, fun h => F6.out (by simpa using h), fun h => F7.out (by simpa using h), fun _ => rfl, fun h => by have := IM3_2.out (by simpa using h); simp [this], fun h => by have := IM4_2.out (by simpa using h); simp [this], fun h => by have := IM7_2.out (by simpa using h); simp [this], fun h => by have := IM7_6.out (by simpa using h); simp [this]⟩
  case rest =>
  obtain ⟨rfl, hbz⟩ := hcut
  have HF229 := Lib.hid (bext HF204.out hbz)
  have HX230 := Lib.hid (HX205.out.below hbz HX205.out.lt)
  have HX231 := Lib.hid (HX206.out.below hbz HX206.out.lt)
  have HX232 := Lib.hid (HX207.out.below hbz HX207.out.lt)
  have HX233 := Lib.hid (HX208.out.below hbz HX208.out.lt)
  have HX234 := Lib.hid (HX209.out.below hbz HX209.out.lt)
  have HX235 := Lib.hid (HX216.out.below hbz HX216.out.lt)
  have HY236 := Lib.hid (tab_below' HY210.out hbz)
  have HY237 := Lib.hid (RunsAt.below HY211.out hbz)
  have HY238 := Lib.hid (RunsAt.below HY212.out hbz)
  have HY239 := Lib.hid (RunsAt.below HY213.out hbz)
  have HY240 := Lib.hid (HY214.out.below hbz)
  clear HF204 HX205 HX206 HX207 HX208 HX209 HX216 HY210 HY211 HY212 HY213 HY214
  clear hbz
  obtain ⟨Nm, hm⟩ := nm_merge (B := By) (R := Ry) (k := ky) (n := Ny) HC.out HLy.out
  rw [HMy.out] at hm
  have HMG := Lib.hid hm
  clear hm
  have c241 : wc.cell? ⟨g142, 0, none⟩ = some (.int .u8 c.tag) := HX234.out.cell 0
  have c242 : wc.cell? ⟨g142, 1, none⟩ = some (.int .i64 c.most) := HX234.out.cell 1
  have c243 : wc.cell? ⟨g142, 2, none⟩ = some (.int .i64 c.seg) := HX234.out.cell 2
  have c244 : wc.cell? ⟨g142, 3, none⟩ = some (.int .i64 c.least) := HX234.out.cell 3
  have c245 : wc.cell? ⟨g142, 4, none⟩ = some (.int .i64 c.den) := HX234.out.cell 4
  have c246 : wc.cell? ⟨g142, 5, none⟩ = some (.int .i64 c.leafLow) := HX234.out.cell 5
  have c247 : wc.cell? ⟨g142, 6, none⟩ = some (.int .i64 c.rootLow) := HX234.out.cell 6
  have c248 : wc.cell? ⟨g142, 7, none⟩ = some (.int .i64 c.rootHigh) := HX234.out.cell 7
  have c249 : wc.cell? ⟨g142, 8, none⟩ = some (.int .i64 c.leafHigh) := HX234.out.cell 8
  have c250 : wc.cell? ⟨g142, 9, none⟩ = some (.slice By My ky) := HX234.out.cell 9
  have c251 : wc.cell? ⟨g142, 10, none⟩ = some (.int .u64 Ny) := HX234.out.cell 10
  have l252 : g142 < wc.heap.size := HX234.out.lt
  go_wp2_with fail
  clear c241 c242 c243 c244 c245 c246 c247 c248 c249 c250 c251 l252
  refine (HMG.out _ HY239.out).mono ?_
  rintro e w253 ⟨Bm9, km9, Rm9, rfl, hlm9, hom9, hb254⟩
  obtain ⟨Mm9, hMm9⟩ : ∃ N, Rm9.length = N := ⟨_, rfl⟩
  rw [hMm9]
  have HMm9 := Lib.hid hMm9
  have HLm9 := Lib.hid hlm9
  have HOXm9 := Lib.hid hom9.runsAt
  clear hlm9 hom9 hMm9
  have HF255 := Lib.hid (bext HF229.out hb254)
  have HX256 := Lib.hid (HX230.out.below hb254 HX230.out.lt)
  have HX257 := Lib.hid (HX231.out.below hb254 HX231.out.lt)
  have HX258 := Lib.hid (HX232.out.below hb254 HX232.out.lt)
  have HX259 := Lib.hid (HX233.out.below hb254 HX233.out.lt)
  have HX260 := Lib.hid (HX234.out.below hb254 HX234.out.lt)
  have HX261 := Lib.hid (HX235.out.below hb254 HX235.out.lt)
  have HY262 := Lib.hid (tab_below' HY236.out hb254)
  have HY263 := Lib.hid (RunsAt.below HY237.out hb254)
  have HY264 := Lib.hid (RunsAt.below HY238.out hb254)
  have HY265 := Lib.hid (RunsAt.below HY239.out hb254)
  have HY266 := Lib.hid (HY240.out.below hb254)
  clear HF229 HX230 HX231 HX232 HX233 HX234 HX235 HY236 HY237 HY238 HY239 HY240
  clear hb254
  have HY267 := Lib.hid (HOXm9.out)
  clear HOXm9
  go_upto_region 14 with fail
  obtain ⟨U268, h270⟩ : ∃ U, w253.alloc (.cells #[.int .u8 c.tag, .int .i64 c.most, .int .i64 c.seg, .int .i64 c.least, .int .i64 c.den, .int .i64 c.leafLow, .int .i64 c.rootLow, .int .i64 c.rootHigh, .int .i64 c.leafHigh, .slice Bm9 Mm9 km9, .int .u64 Nm] 29) = U := ⟨_, rfl⟩
  have ba271 : Below w253.heap.size w253 U268 := by rw [← h270]; exact (Below.refl _ _).alloc (Nat.le_refl _) _
  have bn272 : Blk U268 w253.heap.size 29 #[.int .u8 c.tag, .int .i64 c.most, .int .i64 c.seg, .int .i64 c.least, .int .i64 c.den, .int .i64 c.leafLow, .int .i64 c.rootLow, .int .i64 c.rootHigh, .int .i64 c.leafHigh, .slice Bm9 Mm9 km9, .int .u64 Nm] := by rw [← h270]; exact Blk.new _ _ _
  try rw [h270]
  have HF273 := Lib.hid (bext HF255.out ba271)
  have HX274 := Lib.hid (HX256.out.below ba271 HX256.out.lt)
  have HX275 := Lib.hid (HX257.out.below ba271 HX257.out.lt)
  have HX276 := Lib.hid (HX258.out.below ba271 HX258.out.lt)
  have HX277 := Lib.hid (HX259.out.below ba271 HX259.out.lt)
  have HX278 := Lib.hid (HX260.out.below ba271 HX260.out.lt)
  have HX279 := Lib.hid (HX261.out.below ba271 HX261.out.lt)
  have HY280 := Lib.hid (tab_below' HY262.out ba271)
  have HY281 := Lib.hid (RunsAt.below HY263.out ba271)
  have HY282 := Lib.hid (RunsAt.below HY264.out ba271)
  have HY283 := Lib.hid (RunsAt.below HY265.out ba271)
  have HY284 := Lib.hid (HY266.out.below ba271)
  have HY285 := Lib.hid (RunsAt.below HY267.out ba271)
  clear HF255 HX256 HX257 HX258 HX259 HX260 HX261 HY262 HY263 HY264 HY265 HY266 HY267
  obtain ⟨g269, h286⟩ : ∃ g, w253.heap.size = g := ⟨_, rfl⟩
  rw [h286] at bn272
  try rw [h286]
  have HX287 := Lib.hid bn272
  clear h270 ba271 bn272 h286
  have hq := fun W hW => nm_merge0 (B := Bx) (R := Rx) (k := kx) (n := Nx) HC.out HZ.out HPX2.out W hW
  rw [HMx.out] at hq
  have HM0 := Lib.hid hq
  clear hq
  have c288 : U268.cell? ⟨g71, 0, none⟩ = some (.int .u8 c.tag) := HX276.out.cell 0
  have c289 : U268.cell? ⟨g71, 1, none⟩ = some (.int .i64 c.most) := HX276.out.cell 1
  have c290 : U268.cell? ⟨g71, 2, none⟩ = some (.int .i64 c.seg) := HX276.out.cell 2
  have c291 : U268.cell? ⟨g71, 3, none⟩ = some (.int .i64 c.least) := HX276.out.cell 3
  have c292 : U268.cell? ⟨g71, 4, none⟩ = some (.int .i64 c.den) := HX276.out.cell 4
  have c293 : U268.cell? ⟨g71, 5, none⟩ = some (.int .i64 c.leafLow) := HX276.out.cell 5
  have c294 : U268.cell? ⟨g71, 6, none⟩ = some (.int .i64 c.rootLow) := HX276.out.cell 6
  have c295 : U268.cell? ⟨g71, 7, none⟩ = some (.int .i64 c.rootHigh) := HX276.out.cell 7
  have c296 : U268.cell? ⟨g71, 8, none⟩ = some (.int .i64 c.leafHigh) := HX276.out.cell 8
  have c297 : U268.cell? ⟨g71, 9, none⟩ = some (.slice Bx Mx kx) := HX276.out.cell 9
  have c298 : U268.cell? ⟨g71, 10, none⟩ = some (.int .u64 Nx) := HX276.out.cell 10
  have l299 : g71 < U268.heap.size := HX276.out.lt
  go_wp2_with fail
  clear c288 c289 c290 c291 c292 c293 c294 c295 c296 c297 c298 l299
  refine (HM0.out _ HY282.out).mono ?_
  rintro e w300 ⟨Be, ke, Re, rfl, hle, hoe, hb301⟩
  obtain ⟨Me, hMe⟩ : ∃ N, Re.length = N := ⟨_, rfl⟩
  rw [hMe]
  have HMe := Lib.hid hMe
  have HLe := Lib.hid hle
  have HOXe := Lib.hid hoe.runsAt
  clear hle hoe hMe
  have HF302 := Lib.hid (bext HF273.out hb301)
  have HX303 := Lib.hid (HX274.out.below hb301 HX274.out.lt)
  have HX304 := Lib.hid (HX275.out.below hb301 HX275.out.lt)
  have HX305 := Lib.hid (HX276.out.below hb301 HX276.out.lt)
  have HX306 := Lib.hid (HX277.out.below hb301 HX277.out.lt)
  have HX307 := Lib.hid (HX278.out.below hb301 HX278.out.lt)
  have HX308 := Lib.hid (HX279.out.below hb301 HX279.out.lt)
  have HX309 := Lib.hid (HX287.out.below hb301 HX287.out.lt)
  have HY310 := Lib.hid (tab_below' HY280.out hb301)
  have HY311 := Lib.hid (RunsAt.below HY281.out hb301)
  have HY312 := Lib.hid (RunsAt.below HY282.out hb301)
  have HY313 := Lib.hid (RunsAt.below HY283.out hb301)
  have HY314 := Lib.hid (HY284.out.below hb301)
  have HY315 := Lib.hid (RunsAt.below HY285.out hb301)
  clear HF273 HX274 HX275 HX276 HX277 HX278 HX279 HX287 HY280 HY281 HY282 HY283 HY284 HY285
  clear hb301
  clear HOXe
  go_upto_region 15 with fail
  obtain ⟨U316, h318⟩ : ∃ U, w300.alloc (.cells #[.int .u8 z.tag, .int .i64 z.most, .int .i64 z.seg, .int .i64 z.least, .int .i64 z.den, .int .i64 z.leafLow, .int .i64 z.rootLow, .int .i64 z.rootHigh, .int .i64 z.leafHigh, .slice Be Me ke, .int .u64 0] 29) = U := ⟨_, rfl⟩
  have ba319 : Below w300.heap.size w300 U316 := by rw [← h318]; exact (Below.refl _ _).alloc (Nat.le_refl _) _
  have bn320 : Blk U316 w300.heap.size 29 #[.int .u8 z.tag, .int .i64 z.most, .int .i64 z.seg, .int .i64 z.least, .int .i64 z.den, .int .i64 z.leafLow, .int .i64 z.rootLow, .int .i64 z.rootHigh, .int .i64 z.leafHigh, .slice Be Me ke, .int .u64 0] := by rw [← h318]; exact Blk.new _ _ _
  try rw [h318]
  have HF321 := Lib.hid (bext HF302.out ba319)
  have HX322 := Lib.hid (HX303.out.below ba319 HX303.out.lt)
  have HX323 := Lib.hid (HX304.out.below ba319 HX304.out.lt)
  have HX324 := Lib.hid (HX305.out.below ba319 HX305.out.lt)
  have HX325 := Lib.hid (HX306.out.below ba319 HX306.out.lt)
  have HX326 := Lib.hid (HX307.out.below ba319 HX307.out.lt)
  have HX327 := Lib.hid (HX308.out.below ba319 HX308.out.lt)
  have HX328 := Lib.hid (HX309.out.below ba319 HX309.out.lt)
  have HY329 := Lib.hid (tab_below' HY310.out ba319)
  have HY330 := Lib.hid (RunsAt.below HY311.out ba319)
  have HY331 := Lib.hid (RunsAt.below HY312.out ba319)
  have HY332 := Lib.hid (RunsAt.below HY313.out ba319)
  have HY333 := Lib.hid (HY314.out.below ba319)
  have HY334 := Lib.hid (RunsAt.below HY315.out ba319)
  clear HF302 HX303 HX304 HX305 HX306 HX307 HX308 HX309 HY310 HY311 HY312 HY313 HY314 HY315
  obtain ⟨g317, h335⟩ : ∃ g, w300.heap.size = g := ⟨_, rfl⟩
  rw [h335] at bn320
  try rw [h335]
  have HX336 := Lib.hid bn320
  clear h318 ba319 bn320 h335
  have c337 : U316.cell? ⟨g12, 0, none⟩ = some (.int .u8 c.tag) := HX322.out.cell 0
  have c338 : U316.cell? ⟨g12, 1, none⟩ = some (.int .i64 c.most) := HX322.out.cell 1
  have c339 : U316.cell? ⟨g12, 2, none⟩ = some (.int .i64 c.seg) := HX322.out.cell 2
  have c340 : U316.cell? ⟨g12, 3, none⟩ = some (.int .i64 c.least) := HX322.out.cell 3
  have c341 : U316.cell? ⟨g12, 4, none⟩ = some (.int .i64 c.den) := HX322.out.cell 4
  have c342 : U316.cell? ⟨g12, 5, none⟩ = some (.int .i64 c.leafLow) := HX322.out.cell 5
  have c343 : U316.cell? ⟨g12, 6, none⟩ = some (.int .i64 c.rootLow) := HX322.out.cell 6
  have c344 : U316.cell? ⟨g12, 7, none⟩ = some (.int .i64 c.rootHigh) := HX322.out.cell 7
  have c345 : U316.cell? ⟨g12, 8, none⟩ = some (.int .i64 c.leafHigh) := HX322.out.cell 8
  have c346 : U316.cell? ⟨g12, 9, none⟩ = some (.slice B1 R1.length k1) := HX322.out.cell 9
  have c347 : U316.cell? ⟨g12, 10, none⟩ = some (.int .u64 n1) := HX322.out.cell 10
  have l348 : g12 < U316.heap.size := HX322.out.lt
  go_wp2_with fail
  clear c337 c338 c339 c340 c341 c342 c343 c344 c345 c346 c347 l348
  refine (nm_next HC.out HPM.out _ HY330.out HY329.out).mono ?_
  rintro e w349 ⟨rfl, hb350⟩
  have HF351 := Lib.hid (bext HF321.out hb350)
  have HX352 := Lib.hid (HX322.out.below hb350 HX322.out.lt)
  have HX353 := Lib.hid (HX323.out.below hb350 HX323.out.lt)
  have HX354 := Lib.hid (HX324.out.below hb350 HX324.out.lt)
  have HX355 := Lib.hid (HX325.out.below hb350 HX325.out.lt)
  have HX356 := Lib.hid (HX326.out.below hb350 HX326.out.lt)
  have HX357 := Lib.hid (HX327.out.below hb350 HX327.out.lt)
  have HX358 := Lib.hid (HX328.out.below hb350 HX328.out.lt)
  have HX359 := Lib.hid (HX336.out.below hb350 HX336.out.lt)
  have HY360 := Lib.hid (tab_below' HY329.out hb350)
  have HY361 := Lib.hid (RunsAt.below HY330.out hb350)
  have HY362 := Lib.hid (RunsAt.below HY331.out hb350)
  have HY363 := Lib.hid (RunsAt.below HY332.out hb350)
  have HY364 := Lib.hid (HY333.out.below hb350)
  have HY365 := Lib.hid (RunsAt.below HY334.out hb350)
  clear HF321 HX322 HX323 HX324 HX325 HX326 HX327 HX328 HX336 HY329 HY330 HY331 HY332 HY333 HY334
  clear hb350
  go_upto_region 16 with fail
  obtain ⟨U366, h368⟩ : ∃ U, w349.alloc (.cells #[.int .i64 0, .int .i64 0] 40) = U := ⟨_, rfl⟩
  have ba369 : Below w349.heap.size w349 U366 := by rw [← h368]; exact (Below.refl _ _).alloc (Nat.le_refl _) _
  have bn370 : Blk U366 w349.heap.size 40 #[.int .i64 0, .int .i64 0] := by rw [← h368]; exact Blk.new _ _ _
  try rw [h368]
  have HF371 := Lib.hid (bext HF351.out ba369)
  have HX372 := Lib.hid (HX352.out.below ba369 HX352.out.lt)
  have HX373 := Lib.hid (HX353.out.below ba369 HX353.out.lt)
  have HX374 := Lib.hid (HX354.out.below ba369 HX354.out.lt)
  have HX375 := Lib.hid (HX355.out.below ba369 HX355.out.lt)
  have HX376 := Lib.hid (HX356.out.below ba369 HX356.out.lt)
  have HX377 := Lib.hid (HX357.out.below ba369 HX357.out.lt)
  have HX378 := Lib.hid (HX358.out.below ba369 HX358.out.lt)
  have HX379 := Lib.hid (HX359.out.below ba369 HX359.out.lt)
  have HY380 := Lib.hid (tab_below' HY360.out ba369)
  have HY381 := Lib.hid (RunsAt.below HY361.out ba369)
  have HY382 := Lib.hid (RunsAt.below HY362.out ba369)
  have HY383 := Lib.hid (RunsAt.below HY363.out ba369)
  have HY384 := Lib.hid (HY364.out.below ba369)
  have HY385 := Lib.hid (RunsAt.below HY365.out ba369)
  clear HF351 HX352 HX353 HX354 HX355 HX356 HX357 HX358 HX359 HY360 HY361 HY362 HY363 HY364 HY365
  obtain ⟨g367, h386⟩ : ∃ g, w349.heap.size = g := ⟨_, rfl⟩
  rw [h386] at bn370
  try rw [h386]
  have HX387 := Lib.hid bn370
  clear h368 ba369 bn370 h386
  have c388 : U366.cell? ⟨g12, 0, none⟩ = some (.int .u8 c.tag) := HX372.out.cell 0
  have c389 : U366.cell? ⟨g12, 1, none⟩ = some (.int .i64 c.most) := HX372.out.cell 1
  have c390 : U366.cell? ⟨g12, 2, none⟩ = some (.int .i64 c.seg) := HX372.out.cell 2
  have c391 : U366.cell? ⟨g12, 3, none⟩ = some (.int .i64 c.least) := HX372.out.cell 3
  have c392 : U366.cell? ⟨g12, 4, none⟩ = some (.int .i64 c.den) := HX372.out.cell 4
  have c393 : U366.cell? ⟨g12, 5, none⟩ = some (.int .i64 c.leafLow) := HX372.out.cell 5
  have c394 : U366.cell? ⟨g12, 6, none⟩ = some (.int .i64 c.rootLow) := HX372.out.cell 6
  have c395 : U366.cell? ⟨g12, 7, none⟩ = some (.int .i64 c.rootHigh) := HX372.out.cell 7
  have c396 : U366.cell? ⟨g12, 8, none⟩ = some (.int .i64 c.leafHigh) := HX372.out.cell 8
  have c397 : U366.cell? ⟨g12, 9, none⟩ = some (.slice B1 R1.length k1) := HX372.out.cell 9
  have c398 : U366.cell? ⟨g12, 10, none⟩ = some (.int .u64 n1) := HX372.out.cell 10
  have l399 : g12 < U366.heap.size := HX372.out.lt
  go_wp2_with fail
  clear c388 c389 c390 c391 c392 c393 c394 c395 c396 c397 c398 l399
  refine (nm_last HC.out HPM.out _ HY381.out HY380.out).mono ?_
  rintro e w400 ⟨rfl, hb401⟩
  have HF402 := Lib.hid (bext HF371.out hb401)
  have HX403 := Lib.hid (HX372.out.below hb401 HX372.out.lt)
  have HX404 := Lib.hid (HX373.out.below hb401 HX373.out.lt)
  have HX405 := Lib.hid (HX374.out.below hb401 HX374.out.lt)
  have HX406 := Lib.hid (HX375.out.below hb401 HX375.out.lt)
  have HX407 := Lib.hid (HX376.out.below hb401 HX376.out.lt)
  have HX408 := Lib.hid (HX377.out.below hb401 HX377.out.lt)
  have HX409 := Lib.hid (HX378.out.below hb401 HX378.out.lt)
  have HX410 := Lib.hid (HX379.out.below hb401 HX379.out.lt)
  have HX411 := Lib.hid (HX387.out.below hb401 HX387.out.lt)
  have HY412 := Lib.hid (tab_below' HY380.out hb401)
  have HY413 := Lib.hid (RunsAt.below HY381.out hb401)
  have HY414 := Lib.hid (RunsAt.below HY382.out hb401)
  have HY415 := Lib.hid (RunsAt.below HY383.out hb401)
  have HY416 := Lib.hid (HY384.out.below hb401)
  have HY417 := Lib.hid (RunsAt.below HY385.out hb401)
  clear HF371 HX372 HX373 HX374 HX375 HX376 HX377 HX378 HX379 HX387 HY380 HY381 HY382 HY383 HY384 HY385
  clear hb401
  go_upto_region 17 with fail
  obtain ⟨U418, h420⟩ : ∃ U, w400.alloc (.cells #[.int .i64 0, .int .i64 0] 40) = U := ⟨_, rfl⟩
  have ba421 : Below w400.heap.size w400 U418 := by rw [← h420]; exact (Below.refl _ _).alloc (Nat.le_refl _) _
  have bn422 : Blk U418 w400.heap.size 40 #[.int .i64 0, .int .i64 0] := by rw [← h420]; exact Blk.new _ _ _
  try rw [h420]
  have HF423 := Lib.hid (bext HF402.out ba421)
  have HX424 := Lib.hid (HX403.out.below ba421 HX403.out.lt)
  have HX425 := Lib.hid (HX404.out.below ba421 HX404.out.lt)
  have HX426 := Lib.hid (HX405.out.below ba421 HX405.out.lt)
  have HX427 := Lib.hid (HX406.out.below ba421 HX406.out.lt)
  have HX428 := Lib.hid (HX407.out.below ba421 HX407.out.lt)
  have HX429 := Lib.hid (HX408.out.below ba421 HX408.out.lt)
  have HX430 := Lib.hid (HX409.out.below ba421 HX409.out.lt)
  have HX431 := Lib.hid (HX410.out.below ba421 HX410.out.lt)
  have HX432 := Lib.hid (HX411.out.below ba421 HX411.out.lt)
  have HY433 := Lib.hid (tab_below' HY412.out ba421)
  have HY434 := Lib.hid (RunsAt.below HY413.out ba421)
  have HY435 := Lib.hid (RunsAt.below HY414.out ba421)
  have HY436 := Lib.hid (RunsAt.below HY415.out ba421)
  have HY437 := Lib.hid (HY416.out.below ba421)
  have HY438 := Lib.hid (RunsAt.below HY417.out ba421)
  clear HF402 HX403 HX404 HX405 HX406 HX407 HX408 HX409 HX410 HX411 HY412 HY413 HY414 HY415 HY416 HY417
  obtain ⟨g419, h439⟩ : ∃ g, w400.heap.size = g := ⟨_, rfl⟩
  rw [h439] at bn422
  try rw [h439]
  have HX440 := Lib.hid bn422
  clear h420 ba421 bn422 h439
  go_wp2_with fail
  refine (nm_new0 HZ.out _).mono ?_
  rintro e w441 ⟨Bf, kf, Rf, rfl, hlf, hof, hb442⟩
  obtain ⟨Mf, hMf⟩ : ∃ N, Rf.length = N := ⟨_, rfl⟩
  rw [hMf]
  have HMf := Lib.hid hMf
  have HLf := Lib.hid hlf
  have HOXf := Lib.hid hof.runsAt
  clear hlf hof hMf
  have HF443 := Lib.hid (bext HF423.out hb442)
  have HX444 := Lib.hid (HX424.out.below hb442 HX424.out.lt)
  have HX445 := Lib.hid (HX425.out.below hb442 HX425.out.lt)
  have HX446 := Lib.hid (HX426.out.below hb442 HX426.out.lt)
  have HX447 := Lib.hid (HX427.out.below hb442 HX427.out.lt)
  have HX448 := Lib.hid (HX428.out.below hb442 HX428.out.lt)
  have HX449 := Lib.hid (HX429.out.below hb442 HX429.out.lt)
  have HX450 := Lib.hid (HX430.out.below hb442 HX430.out.lt)
  have HX451 := Lib.hid (HX431.out.below hb442 HX431.out.lt)
  have HX452 := Lib.hid (HX432.out.below hb442 HX432.out.lt)
  have HX453 := Lib.hid (HX440.out.below hb442 HX440.out.lt)
  have HY454 := Lib.hid (tab_below' HY433.out hb442)
  have HY455 := Lib.hid (RunsAt.below HY434.out hb442)
  have HY456 := Lib.hid (RunsAt.below HY435.out hb442)
  have HY457 := Lib.hid (RunsAt.below HY436.out hb442)
  have HY458 := Lib.hid (HY437.out.below hb442)
  have HY459 := Lib.hid (RunsAt.below HY438.out hb442)
  clear HF423 HX424 HX425 HX426 HX427 HX428 HX429 HX430 HX431 HX432 HX440 HY433 HY434 HY435 HY436 HY437 HY438
  clear hb442
  clear HOXf
  go_upto_region 18 with fail
  obtain ⟨U460, h462⟩ : ∃ U, w441.alloc (.cells #[.int .u8 z.tag, .int .i64 z.most, .int .i64 z.seg, .int .i64 z.least, .int .i64 z.den, .int .i64 z.leafLow, .int .i64 z.rootLow, .int .i64 z.rootHigh, .int .i64 z.leafHigh, .slice Bf Mf kf, .int .u64 0] 29) = U := ⟨_, rfl⟩
  have ba463 : Below w441.heap.size w441 U460 := by rw [← h462]; exact (Below.refl _ _).alloc (Nat.le_refl _) _
  have bn464 : Blk U460 w441.heap.size 29 #[.int .u8 z.tag, .int .i64 z.most, .int .i64 z.seg, .int .i64 z.least, .int .i64 z.den, .int .i64 z.leafLow, .int .i64 z.rootLow, .int .i64 z.rootHigh, .int .i64 z.leafHigh, .slice Bf Mf kf, .int .u64 0] := by rw [← h462]; exact Blk.new _ _ _
  try rw [h462]
  have HF465 := Lib.hid (bext HF443.out ba463)
  have HX466 := Lib.hid (HX444.out.below ba463 HX444.out.lt)
  have HX467 := Lib.hid (HX445.out.below ba463 HX445.out.lt)
  have HX468 := Lib.hid (HX446.out.below ba463 HX446.out.lt)
  have HX469 := Lib.hid (HX447.out.below ba463 HX447.out.lt)
  have HX470 := Lib.hid (HX448.out.below ba463 HX448.out.lt)
  have HX471 := Lib.hid (HX449.out.below ba463 HX449.out.lt)
  have HX472 := Lib.hid (HX450.out.below ba463 HX450.out.lt)
  have HX473 := Lib.hid (HX451.out.below ba463 HX451.out.lt)
  have HX474 := Lib.hid (HX452.out.below ba463 HX452.out.lt)
  have HX475 := Lib.hid (HX453.out.below ba463 HX453.out.lt)
  have HY476 := Lib.hid (tab_below' HY454.out ba463)
  have HY477 := Lib.hid (RunsAt.below HY455.out ba463)
  have HY478 := Lib.hid (RunsAt.below HY456.out ba463)
  have HY479 := Lib.hid (RunsAt.below HY457.out ba463)
  have HY480 := Lib.hid (HY458.out.below ba463)
  have HY481 := Lib.hid (RunsAt.below HY459.out ba463)
  clear HF443 HX444 HX445 HX446 HX447 HX448 HX449 HX450 HX451 HX452 HX453 HY454 HY455 HY456 HY457 HY458 HY459
  obtain ⟨g461, h482⟩ : ∃ g, w441.heap.size = g := ⟨_, rfl⟩
  rw [h482] at bn464
  try rw [h482]
  have HX483 := Lib.hid bn464
  clear h462 ba463 bn464 h482
  go_wp2_with fail
  refine (HCH.out _).mono ?_
  rintro e w484 ⟨rfl, hb485⟩
  have HF486 := Lib.hid (bext HF465.out hb485)
  have HX487 := Lib.hid (HX466.out.below hb485 HX466.out.lt)
  have HX488 := Lib.hid (HX467.out.below hb485 HX467.out.lt)
  have HX489 := Lib.hid (HX468.out.below hb485 HX468.out.lt)
  have HX490 := Lib.hid (HX469.out.below hb485 HX469.out.lt)
  have HX491 := Lib.hid (HX470.out.below hb485 HX470.out.lt)
  have HX492 := Lib.hid (HX471.out.below hb485 HX471.out.lt)
  have HX493 := Lib.hid (HX472.out.below hb485 HX472.out.lt)
  have HX494 := Lib.hid (HX473.out.below hb485 HX473.out.lt)
  have HX495 := Lib.hid (HX474.out.below hb485 HX474.out.lt)
  have HX496 := Lib.hid (HX475.out.below hb485 HX475.out.lt)
  have HX497 := Lib.hid (HX483.out.below hb485 HX483.out.lt)
  have HY498 := Lib.hid (tab_below' HY476.out hb485)
  have HY499 := Lib.hid (RunsAt.below HY477.out hb485)
  have HY500 := Lib.hid (RunsAt.below HY478.out hb485)
  have HY501 := Lib.hid (RunsAt.below HY479.out hb485)
  have HY502 := Lib.hid (HY480.out.below hb485)
  have HY503 := Lib.hid (RunsAt.below HY481.out hb485)
  clear HF465 HX466 HX467 HX468 HX469 HX470 HX471 HX472 HX473 HX474 HX475 HX483 HY476 HY477 HY478 HY479 HY480 HY481
  clear hb485
  go_upto_region 20 with fail
  obtain ⟨U2, hU2⟩ : ∃ U, (w484.alloc (.cells #[.int .i64 1, .int .i64 0, .bool false] 46)).alloc (.cells #[.slice (some ⟨w484.heap.size, 0, none⟩) 1 1] 49) = U := ⟨_, rfl⟩
  have hz2 : U2.heap.size = w484.heap.size + 1 + 1 := by rw [← hU2]; simp
  have hb2 : Below w484.heap.size w484 U2 := by rw [← hU2]; exact ((Below.refl _ _).alloc (Nat.le_refl _) _).alloc (by simp) _
  have hr2 : RunsAt U2 (some ⟨w484.heap.size + 1, 0, none⟩) [⟨[⟨1, 0, false⟩], some ⟨w484.heap.size, 0, none⟩, 1⟩] := by
    rw [← hU2]
    refine ⟨sl_new2 _ _ _ _, fun r hr => ?_⟩
    rw [List.mem_singleton.1 hr]
    exact ⟨sl_old _ _ _ _, Nat.le_refl _, by show 1 ≤ maxLen; unfold maxLen; omega⟩
  rw [hU2]
  try rw [hU2]
  obtain ⟨U3, hU3⟩ : ∃ U, U2.alloc (.cells #[.int .u8 c.tag, .int .i64 0, .int .i64 c.seg, .int .i64 c.least, .int .i64 c.den, .int .i64 c.leafLow, .int .i64 c.rootLow, .int .i64 c.rootHigh, .int .i64 c.leafHigh, .slice (some ⟨w484.heap.size + 1, 0, none⟩) 1 1, .int .u64 0] 29) = U := ⟨_, rfl⟩
  have hb3 : Below U2.heap.size U2 U3 := by rw [← hU3]; exact (Below.refl _ _).alloc (Nat.le_refl _) _
  have bn3 : Blk U3 U2.heap.size 29 #[.int .u8 c.tag, .int .i64 0, .int .i64 c.seg, .int .i64 c.least, .int .i64 c.den, .int .i64 c.leafLow, .int .i64 c.rootLow, .int .i64 c.rootHigh, .int .i64 c.leafHigh, .slice (some ⟨w484.heap.size + 1, 0, none⟩) 1 1, .int .u64 0] := by rw [← hU3]; exact Blk.new _ _ _
  rw [hU3]
  have hr3 := hr2.below hb3
  have hb23 := bext hb2 hb3
  rw [hz2] at bn3
  have HF504 := Lib.hid (bext HF486.out hb23)
  have HX505 := Lib.hid (HX487.out.below hb23 HX487.out.lt)
  have HX506 := Lib.hid (HX488.out.below hb23 HX488.out.lt)
  have HX507 := Lib.hid (HX489.out.below hb23 HX489.out.lt)
  have HX508 := Lib.hid (HX490.out.below hb23 HX490.out.lt)
  have HX509 := Lib.hid (HX491.out.below hb23 HX491.out.lt)
  have HX510 := Lib.hid (HX492.out.below hb23 HX492.out.lt)
  have HX511 := Lib.hid (HX493.out.below hb23 HX493.out.lt)
  have HX512 := Lib.hid (HX494.out.below hb23 HX494.out.lt)
  have HX513 := Lib.hid (HX495.out.below hb23 HX495.out.lt)
  have HX514 := Lib.hid (HX496.out.below hb23 HX496.out.lt)
  have HX515 := Lib.hid (HX497.out.below hb23 HX497.out.lt)
  have HY516 := Lib.hid (tab_below' HY498.out hb23)
  have HY517 := Lib.hid (RunsAt.below HY499.out hb23)
  have HY518 := Lib.hid (RunsAt.below HY500.out hb23)
  have HY519 := Lib.hid (RunsAt.below HY501.out hb23)
  have HY520 := Lib.hid (HY502.out.below hb23)
  have HY521 := Lib.hid (RunsAt.below HY503.out hb23)
  clear HF486 HX487 HX488 HX489 HX490 HX491 HX492 HX493 HX494 HX495 HX496 HX497 HY498 HY499 HY500 HY501 HY502 HY503
  obtain ⟨ga, hga⟩ : ∃ g, w484.heap.size + 1 + 1 = g := ⟨_, rfl⟩
  rw [hga] at bn3
  try rw [hga]
  obtain ⟨gb, hgb⟩ : ∃ g, w484.heap.size + 1 = g := ⟨_, rfl⟩
  rw [hgb] at bn3 hr3
  try rw [hgb]
  obtain ⟨gc, hgc⟩ : ∃ g, w484.heap.size = g := ⟨_, rfl⟩
  rw [hgc] at hr3
  have HGT := Lib.hid bn3
  have HGR := Lib.hid hr3
  clear hU2 hU3 hz2 hb2 hb3 hr2 hr3 hb23 bn3 hga hgb hgc
  have c522 : U3.cell? ⟨g142, 0, none⟩ = some (.int .u8 c.tag) := HX509.out.cell 0
  have c523 : U3.cell? ⟨g142, 1, none⟩ = some (.int .i64 c.most) := HX509.out.cell 1
  have c524 : U3.cell? ⟨g142, 2, none⟩ = some (.int .i64 c.seg) := HX509.out.cell 2
  have c525 : U3.cell? ⟨g142, 3, none⟩ = some (.int .i64 c.least) := HX509.out.cell 3
  have c526 : U3.cell? ⟨g142, 4, none⟩ = some (.int .i64 c.den) := HX509.out.cell 4
  have c527 : U3.cell? ⟨g142, 5, none⟩ = some (.int .i64 c.leafLow) := HX509.out.cell 5
  have c528 : U3.cell? ⟨g142, 6, none⟩ = some (.int .i64 c.rootLow) := HX509.out.cell 6
  have c529 : U3.cell? ⟨g142, 7, none⟩ = some (.int .i64 c.rootHigh) := HX509.out.cell 7
  have c530 : U3.cell? ⟨g142, 8, none⟩ = some (.int .i64 c.leafHigh) := HX509.out.cell 8
  have c531 : U3.cell? ⟨g142, 9, none⟩ = some (.slice By My ky) := HX509.out.cell 9
  have c532 : U3.cell? ⟨g142, 10, none⟩ = some (.int .u64 Ny) := HX509.out.cell 10
  have l533 : g142 < U3.heap.size := HX509.out.lt
  go_wp2_with fail
  clear c522 c523 c524 c525 c526 c527 c528 c529 c530 c531 c532 l533
  obtain ⟨U534, h535⟩ : ∃ U, U3.alloc (.cells #[.int .i64 0, .int .i64 7] 40) = U := ⟨_, rfl⟩
  have ba536 : Below U3.heap.size U3 U534 := by rw [← h535]; exact (Below.refl _ _).alloc (Nat.le_refl _) _
  have sl537 : Sl U534 (some ⟨U3.heap.size, 0, none⟩) (List.flatMap Pr.cells yP) := by rw [← h535]; exact sl_new1 _ _ _
  try rw [h535]
  have HF540 := Lib.hid (bext HF504.out ba536)
  have HX541 := Lib.hid (HX505.out.below ba536 HX505.out.lt)
  have HX542 := Lib.hid (HX506.out.below ba536 HX506.out.lt)
  have HX543 := Lib.hid (HX507.out.below ba536 HX507.out.lt)
  have HX544 := Lib.hid (HX508.out.below ba536 HX508.out.lt)
  have HX545 := Lib.hid (HX509.out.below ba536 HX509.out.lt)
  have HX546 := Lib.hid (HX510.out.below ba536 HX510.out.lt)
  have HX547 := Lib.hid (HX511.out.below ba536 HX511.out.lt)
  have HX548 := Lib.hid (HX512.out.below ba536 HX512.out.lt)
  have HX549 := Lib.hid (HX513.out.below ba536 HX513.out.lt)
  have HX550 := Lib.hid (HX514.out.below ba536 HX514.out.lt)
  have HX551 := Lib.hid (HX515.out.below ba536 HX515.out.lt)
  have HX552 := Lib.hid (HGT.out.below ba536 HGT.out.lt)
  have HY553 := Lib.hid (tab_below' HY516.out ba536)
  have HY554 := Lib.hid (RunsAt.below HY517.out ba536)
  have HY555 := Lib.hid (RunsAt.below HY518.out ba536)
  have HY556 := Lib.hid (RunsAt.below HY519.out ba536)
  have HY557 := Lib.hid (HY520.out.below ba536)
  have HY558 := Lib.hid (RunsAt.below HY521.out ba536)
  have HY559 := Lib.hid (RunsAt.below HGR.out ba536)
  clear HF504 HX505 HX506 HX507 HX508 HX509 HX510 HX511 HX512 HX513 HX514 HX515 HGT HY516 HY517 HY518 HY519 HY520 HY521 HGR
  obtain ⟨g538, h539⟩ : ∃ g, U3.heap.size = g := ⟨_, rfl⟩
  rw [h539] at sl537
  try rw [h539]
  have HY560 := Lib.hid (sl537)
  clear h535 ba536 sl537 h539
  have hq := fun A W hW hA => nm_has (B := By) (R := Ry) (k := ky) (n := Ny) HC.out HLy.out A W hW hA
  rw [HMy.out] at hq
  have HHY := Lib.hid hq
  clear hq
  refine (HHY.out _ _ HY556.out HY560.out).mono ?_
  rintro e w561 ⟨rfl, hb562⟩
  have HF563 := Lib.hid (bext HF540.out hb562)
  have HX564 := Lib.hid (HX541.out.below hb562 HX541.out.lt)
  have HX565 := Lib.hid (HX542.out.below hb562 HX542.out.lt)
  have HX566 := Lib.hid (HX543.out.below hb562 HX543.out.lt)
  have HX567 := Lib.hid (HX544.out.below hb562 HX544.out.lt)
  have HX568 := Lib.hid (HX545.out.below hb562 HX545.out.lt)
  have HX569 := Lib.hid (HX546.out.below hb562 HX546.out.lt)
  have HX570 := Lib.hid (HX547.out.below hb562 HX547.out.lt)
  have HX571 := Lib.hid (HX548.out.below hb562 HX548.out.lt)
  have HX572 := Lib.hid (HX549.out.below hb562 HX549.out.lt)
  have HX573 := Lib.hid (HX550.out.below hb562 HX550.out.lt)
  have HX574 := Lib.hid (HX551.out.below hb562 HX551.out.lt)
  have HX575 := Lib.hid (HX552.out.below hb562 HX552.out.lt)
  have HY576 := Lib.hid (tab_below' HY553.out hb562)
  have HY577 := Lib.hid (RunsAt.below HY554.out hb562)
  have HY578 := Lib.hid (RunsAt.below HY555.out hb562)
  have HY579 := Lib.hid (RunsAt.below HY556.out hb562)
  have HY580 := Lib.hid (HY557.out.below hb562)
  have HY581 := Lib.hid (RunsAt.below HY558.out hb562)
  have HY582 := Lib.hid (RunsAt.below HY559.out hb562)
  have HY583 := Lib.hid (HY560.out.below hb562)
  clear HF540 HX541 HX542 HX543 HX544 HX545 HX546 HX547 HX548 HX549 HX550 HX551 HX552 HY553 HY554 HY555 HY556 HY557 HY558 HY559 HY560
  clear hb562
  have c584 : w561.cell? ⟨g269, 0, none⟩ = some (.int .u8 c.tag) := HX570.out.cell 0
  have c585 : w561.cell? ⟨g269, 1, none⟩ = some (.int .i64 c.most) := HX570.out.cell 1
  have c586 : w561.cell? ⟨g269, 2, none⟩ = some (.int .i64 c.seg) := HX570.out.cell 2
  have c587 : w561.cell? ⟨g269, 3, none⟩ = some (.int .i64 c.least) := HX570.out.cell 3
  have c588 : w561.cell? ⟨g269, 4, none⟩ = some (.int .i64 c.den) := HX570.out.cell 4
  have c589 : w561.cell? ⟨g269, 5, none⟩ = some (.int .i64 c.leafLow) := HX570.out.cell 5
  have c590 : w561.cell? ⟨g269, 6, none⟩ = some (.int .i64 c.rootLow) := HX570.out.cell 6
  have c591 : w561.cell? ⟨g269, 7, none⟩ = some (.int .i64 c.rootHigh) := HX570.out.cell 7
  have c592 : w561.cell? ⟨g269, 8, none⟩ = some (.int .i64 c.leafHigh) := HX570.out.cell 8
  have c593 : w561.cell? ⟨g269, 9, none⟩ = some (.slice Bm9 Mm9 km9) := HX570.out.cell 9
  have c594 : w561.cell? ⟨g269, 10, none⟩ = some (.int .u64 Nm) := HX570.out.cell 10
  have l595 : g269 < w561.heap.size := HX570.out.lt
  have c596 : w561.cell? ⟨ga, 0, none⟩ = some (.int .u8 c.tag) := HX575.out.cell 0
  have c597 : w561.cell? ⟨ga, 1, none⟩ = some (.int .i64 0) := HX575.out.cell 1
  have c598 : w561.cell? ⟨ga, 2, none⟩ = some (.int .i64 c.seg) := HX575.out.cell 2
  have c599 : w561.cell? ⟨ga, 3, none⟩ = some (.int .i64 c.least) := HX575.out.cell 3
  have c600 : w561.cell? ⟨ga, 4, none⟩ = some (.int .i64 c.den) := HX575.out.cell 4
  have c601 : w561.cell? ⟨ga, 5, none⟩ = some (.int .i64 c.leafLow) := HX575.out.cell 5
  have c602 : w561.cell? ⟨ga, 6, none⟩ = some (.int .i64 c.rootLow) := HX575.out.cell 6
  have c603 : w561.cell? ⟨ga, 7, none⟩ = some (.int .i64 c.rootHigh) := HX575.out.cell 7
  have c604 : w561.cell? ⟨ga, 8, none⟩ = some (.int .i64 c.leafHigh) := HX575.out.cell 8
  have c605 : w561.cell? ⟨ga, 9, none⟩ = some (.slice (some ⟨gb, 0, none⟩) 1 1) := HX575.out.cell 9
  have c606 : w561.cell? ⟨ga, 10, none⟩ = some (.int .u64 0) := HX575.out.cell 10
  have l607 : ga < w561.heap.size := HX575.out.lt
  have HRZ := HY581
  have HRG := HY582
  have HTW := HY576
  have hmk1 := mk1
  have hq := fun A W hW hA => nm_has (B := Bm9) (R := Rm9) (k := km9) (n := Nm) HC.out HLm9.out A W hW hA
  rw [HMm9.out] at hq
  have HHZ := Lib.hid hq
  clear hq
  go_upto_region 21 with fail
  go_cut [0] from 164 to 208 (fun v wx => v = .bool true ∧ Below w561.heap.size w561 wx)
  case first =>
    refine wp_region_noPanic ?_
    refine wp_region_held_drew (S := fun w' => (∀ bq jq, bq < w561.heap.size → w'.cell? ⟨bq, jq, none⟩ = w561.cell? ⟨bq, jq, none⟩) ∧ (∀ bq jq, bq < w561.heap.size → w'.frozen? ⟨bq, jq, none⟩ = w561.frozen? ⟨bq, jq, none⟩) ∧ w561.heap.size ≤ w'.heap.size ∧ Below w561.heap.size w561 w') (by kernel_rfl) (SB.init) (fun hHeld => ?_)
    refine wpAnyH_take (i := 0) (oi := { dst := some 164, op := Op.move (Operand.const (Value.bool true)), type := 4, pos := "outright.go:64", after := #[], guard := none }) (v := ?v1) rfl (by kernel_rfl) (by kernel_rfl) (by kernel_rfl) (fun _ _ _ h => h) (Or.inl ⟨by kernel_rfl, ?y1⟩) (by assumption) ?r1
    case y1 => (intro w' hSw; (try dsimp only at hSw); go_simp; try with_reducible rfl)
    case' r1 => (try simp only [Act.put, List.setIfInBounds_toArray, List.set_cons_zero, List.set_cons_succ])
    refine wpAnyH_ready (rs := [1]) (by kernel_rfl) (by simp) ?_
    refine AllReadyH.cons (o := { dst := some 165, op := Op.call { callee := Callee.value (Operand.func 14), args := #[], argTypes := #[] }, type := 4, pos := "outright.go:64", after := #[{ on := 0, ground := Go.Ground.chain }, { on := 0, ground := Go.Ground.guard }], guard := some (0, true) }) rfl (fun K hK => ?_) AllReadyH.nil
    go_simp
    go_at_call 14
    refine (alive27_any _ (tab_below' HTW.out (SB.bel (by assumption)))).mono ?_
    rintro e1 v1 ⟨rfl, hv1⟩
    obtain ⟨hc1, hz1, hs1⟩ := wfacts hv1
    try go_wp2_with fail
    refine hK.out _ _ (SB.below hv1 (by assumption)) (fun hH1 => ?_)
    clear hK K
    try (try simp only [Act.put, List.setIfInBounds_toArray, List.set_cons_zero, List.set_cons_succ])
    refine wpAnyH_take (i := 2) (oi := { dst := some 166, op := Op.pick (Operand.tmp 164) (Operand.tmp 165) (Operand.const (Value.bool false)), type := 4, pos := "outright.go:64", after := #[{ on := 0, ground := Go.Ground.data }, { on := 1, ground := Go.Ground.data }], guard := none }) (v := ?v2) rfl (by kernel_rfl) (by kernel_rfl) (by kernel_rfl) (fun _ _ _ h => h) (Or.inl ⟨by kernel_rfl, ?y2⟩) (by assumption) ?r2
    case y2 => (intro w' hSw; (try dsimp only at hSw); go_simp; try with_reducible rfl)
    case' r2 => (try simp only [Act.put, List.setIfInBounds_toArray, List.set_cons_zero, List.set_cons_succ])
    refine wpAnyH_take (i := 3) (oi := { dst := some 167, op := Op.move (Operand.tmp 166), type := 4, pos := "outright.go:64", after := #[{ on := 2, ground := Go.Ground.data }, { on := 1, ground := Go.Ground.chain }], guard := none }) (v := ?v3) rfl (by kernel_rfl) (by kernel_rfl) (by kernel_rfl) (fun _ _ _ h => h) (Or.inl ⟨by kernel_rfl, ?y3⟩) (by assumption) ?r3
    case y3 => (intro w' hSw; (try dsimp only at hSw); go_simp; try with_reducible rfl)
    case' r3 => (try simp only [Act.put, List.setIfInBounds_toArray, List.set_cons_zero, List.set_cons_succ])
    refine wpAnyH_take (i := 4) (oi := { dst := some 168, op := Op.move (Operand.tmp 29), type := 4, pos := "outright.go:64", after := #[{ on := 3, ground := Go.Ground.guard }], guard := some (3, true) }) (v := ?v4) rfl (by kernel_rfl) (by kernel_rfl) (by kernel_rfl) (fun _ _ _ h => h) (Or.inl ⟨by kernel_rfl, ?y4⟩) (by assumption) ?r4
    case y4 => (intro w' hSw; (try dsimp only at hSw); go_simp; try with_reducible rfl)
    case' r4 => (try simp only [Act.put, List.setIfInBounds_toArray, List.set_cons_zero, List.set_cons_succ])
    refine wpAnyH_take (i := 5) (oi := { dst := some 169, op := Op.pick (Operand.tmp 167) (Operand.tmp 168) (Operand.const (Value.bool false)), type := 4, pos := "outright.go:64", after := #[{ on := 3, ground := Go.Ground.data }, { on := 4, ground := Go.Ground.data }], guard := none }) (v := ?v5) rfl (by kernel_rfl) (by kernel_rfl) (by kernel_rfl) (fun _ _ _ h => h) (Or.inl ⟨by kernel_rfl, ?y5⟩) (by assumption) ?r5
    case y5 => (intro w' hSw; (try dsimp only at hSw); go_simp; try with_reducible rfl)
    case' r5 => (try simp only [Act.put, List.setIfInBounds_toArray, List.set_cons_zero, List.set_cons_succ])
    refine wpAnyH_take (i := 6) (oi := { dst := some 170, op := Op.move (Operand.tmp 169), type := 4, pos := "outright.go:64", after := #[{ on := 5, ground := Go.Ground.data }, { on := 3, ground := Go.Ground.chain }], guard := none }) (v := ?v6) rfl (by kernel_rfl) (by kernel_rfl) (by kernel_rfl) (fun _ _ _ h => h) (Or.inl ⟨by kernel_rfl, ?y6⟩) (by assumption) ?r6
    case y6 => (intro w' hSw; (try dsimp only at hSw); go_simp; try with_reducible rfl)
    case' r6 => (try simp only [Act.put, List.setIfInBounds_toArray, List.set_cons_zero, List.set_cons_succ])
    refine wpAnyH_take (i := 7) (oi := { dst := some 171, op := Op.move (Operand.tmp 19), type := 30, pos := "outright.go:64", after := #[{ on := 6, ground := Go.Ground.guard }], guard := some (6, true) }) (v := ?v7) rfl (by kernel_rfl) (by kernel_rfl) (by kernel_rfl) (fun _ _ _ h => h) (Or.inl ⟨by kernel_rfl, ?y7⟩) (by assumption) ?r7
    case y7 => (intro w' hSw; (try dsimp only at hSw); go_simp; try with_reducible rfl)
    case' r7 => (try simp only [Act.put, List.setIfInBounds_toArray, List.set_cons_zero, List.set_cons_succ])
    refine wpAnyH_take (i := 8) (oi := { dst := some 172, op := Op.binOp BinOp.eql 30 (Operand.tmp 171) (Operand.const (Value.int IntKind.i64 0)) 30, type := 4, pos := "outright.go:64", after := #[{ on := 7, ground := Go.Ground.data }, { on := 6, ground := Go.Ground.guard }], guard := some (6, true) }) (v := ?v8) rfl (by kernel_rfl) (by kernel_rfl) (by kernel_rfl) (fun _ _ _ h => h) (Or.inl ⟨by kernel_rfl, ?y8⟩) (by assumption) ?r8
    case y8 => (intro w' hSw; (try dsimp only at hSw); go_simp; try with_reducible rfl)
    case' r8 => (try simp only [Act.put, List.setIfInBounds_toArray, List.set_cons_zero, List.set_cons_succ])
    refine wpAnyH_take (i := 9) (oi := { dst := some 173, op := Op.pick (Operand.tmp 170) (Operand.tmp 172) (Operand.const (Value.bool false)), type := 4, pos := "outright.go:64", after := #[{ on := 6, ground := Go.Ground.data }, { on := 8, ground := Go.Ground.data }], guard := none }) (v := ?v9) rfl (by kernel_rfl) (by kernel_rfl) (by kernel_rfl) (fun _ _ _ h => h) (Or.inl ⟨by kernel_rfl, ?y9⟩) (by assumption) ?r9
    case y9 => (intro w' hSw; (try dsimp only at hSw); go_simp; try with_reducible rfl)
    case' r9 => (try simp only [Act.put, List.setIfInBounds_toArray, List.set_cons_zero, List.set_cons_succ])
    refine wpAnyH_take (i := 10) (oi := { dst := some 174, op := Op.move (Operand.tmp 173), type := 4, pos := "outright.go:64", after := #[{ on := 9, ground := Go.Ground.data }, { on := 6, ground := Go.Ground.chain }], guard := none }) (v := ?v10) rfl (by kernel_rfl) (by kernel_rfl) (by kernel_rfl) (fun _ _ _ h => h) (Or.inl ⟨by kernel_rfl, ?y10⟩) (by assumption) ?r10
    case y10 => (intro w' hSw; (try dsimp only at hSw); go_simp; try with_reducible rfl)
    case' r10 => (try simp only [Act.put, List.setIfInBounds_toArray, List.set_cons_zero, List.set_cons_succ])
    refine wpAnyH_take (i := 11) (oi := { dst := some 175, op := Op.load 29 (Operand.tmp 18), type := 29, pos := "outright.go:64", after := #[{ on := 10, ground := Go.Ground.guard }], guard := some (10, true) }) (v := ?v11) rfl (by kernel_rfl) (by kernel_rfl) (by kernel_rfl) (fun _ _ _ h => h) (Or.inl ⟨by kernel_rfl, ?y11⟩) (by assumption) ?r11
    case y11 => (intro w' hSw; (try dsimp only at hSw); go_simp; try with_reducible rfl)
    case' r11 => (try simp only [Act.put, List.setIfInBounds_toArray, List.set_cons_zero, List.set_cons_succ])
    refine wpAnyH_take (i := 12) (oi := { dst := some 176, op := Op.build 40 #[(0, Operand.const (Value.int IntKind.i64 0)), (1, Operand.const (Value.int IntKind.i64 7))], type := 40, pos := "outright.go:64", after := #[{ on := 10, ground := Go.Ground.guard }], guard := some (10, true) }) (v := ?v12) rfl (by kernel_rfl) (by kernel_rfl) (by kernel_rfl) (fun _ _ _ h => h) (Or.inl ⟨by kernel_rfl, ?y12⟩) (by assumption) ?r12
    case y12 => (intro w' hSw; (try dsimp only at hSw); go_simp; try with_reducible rfl)
    case' r12 => (try simp only [Act.put, List.setIfInBounds_toArray, List.set_cons_zero, List.set_cons_succ])
    refine wpAnyH_ready (rs := [13]) (by kernel_rfl) (by simp) ?_
    refine AllReadyH.cons (o := { dst := some 177, op := Op.buildSlice 41 1 #[(0, Operand.tmp 176)], type := 41, pos := "outright.go:64", after := #[{ on := 12, ground := Go.Ground.data }, { on := 10, ground := Go.Ground.guard }], guard := some (10, true) }) rfl (fun K hK => ?_) AllReadyH.nil
    go_simp
    try go_wp2_with fail
    refine hK.out _ _ (SB.alloc _ (by assumption)) (fun hH13 => ?_)
    clear hK K
    try (try simp only [Act.put, List.setIfInBounds_toArray, List.set_cons_zero, List.set_cons_succ])
    refine wpAnyH_ready (rs := [14]) (by kernel_rfl) (by simp) ?_
    refine AllReadyH.cons (o := { dst := some 178, op := Op.call { callee := Callee.value (Operand.func 13), args := #[Operand.tmp 175, Operand.tmp 177], argTypes := #[29, 41] }, type := 4, pos := "outright.go:64", after := #[{ on := 11, ground := Go.Ground.data }, { on := 13, ground := Go.Ground.data }, { on := 10, ground := Go.Ground.chain }, { on := 10, ground := Go.Ground.guard }], guard := some (10, true) }) rfl (fun K hK => ?_) AllReadyH.nil
    go_simp
    go_at_call 13
    refine (HHZ.out _ _ (HRZ.out.below (SB.bel (by assumption))) (by exact sl_new1 _ _ _)).mono ?_
    rintro e2 v2 ⟨rfl, hv2⟩
    obtain ⟨hc2, hz2, hs2⟩ := wfacts hv2
    try go_wp2_with fail
    refine hK.out _ _ (SB.below hv2 (by assumption)) (fun hH14 => ?_)
    clear hK K
    try (try simp only [Act.put, List.setIfInBounds_toArray, List.set_cons_zero, List.set_cons_succ])
    refine wpAnyH_take (i := 15) (oi := { dst := some 179, op := Op.pick (Operand.tmp 174) (Operand.tmp 178) (Operand.const (Value.bool false)), type := 4, pos := "outright.go:64", after := #[{ on := 10, ground := Go.Ground.data }, { on := 14, ground := Go.Ground.data }], guard := none }) (v := ?v13) rfl (by kernel_rfl) (by kernel_rfl) (by kernel_rfl) (fun _ _ _ h => h) (Or.inl ⟨by kernel_rfl, ?y13⟩) (by assumption) ?r13
    case y13 => (intro w' hSw; (try dsimp only at hSw); go_simp; try with_reducible rfl)
    case' r13 => (try simp only [Act.put, List.setIfInBounds_toArray, List.set_cons_zero, List.set_cons_succ])
    refine wpAnyH_take (i := 16) (oi := { dst := some 180, op := Op.move (Operand.tmp 179), type := 4, pos := "outright.go:64", after := #[{ on := 15, ground := Go.Ground.data }, { on := 14, ground := Go.Ground.chain }], guard := none }) (v := ?v14) rfl (by kernel_rfl) (by kernel_rfl) (by kernel_rfl) (fun _ _ _ h => h) (Or.inl ⟨by kernel_rfl, ?y14⟩) (by assumption) ?r14
    case y14 => (intro w' hSw; (try dsimp only at hSw); go_simp; try with_reducible rfl)
    case' r14 => (try simp only [Act.put, List.setIfInBounds_toArray, List.set_cons_zero, List.set_cons_succ])
    refine wpAnyH_take (i := 17) (oi := { dst := some 181, op := Op.move (Operand.tmp 21), type := 30, pos := "outright.go:64", after := #[{ on := 16, ground := Go.Ground.guard }], guard := some (16, true) }) (v := ?v15) rfl (by kernel_rfl) (by kernel_rfl) (by kernel_rfl) (fun _ _ _ h => h) (Or.inl ⟨by kernel_rfl, ?y15⟩) (by assumption) ?r15
    case y15 => (intro w' hSw; (try dsimp only at hSw); go_simp; try with_reducible rfl)
    case' r15 => (try simp only [Act.put, List.setIfInBounds_toArray, List.set_cons_zero, List.set_cons_succ])
    refine wpAnyH_take (i := 18) (oi := { dst := some 182, op := Op.binOp BinOp.eql 30 (Operand.tmp 181) (Operand.const (Value.int IntKind.i64 50)) 30, type := 4, pos := "outright.go:64", after := #[{ on := 17, ground := Go.Ground.data }, { on := 16, ground := Go.Ground.guard }], guard := some (16, true) }) (v := ?v16) rfl (by kernel_rfl) (by kernel_rfl) (by kernel_rfl) (fun _ _ _ h => h) (Or.inl ⟨by kernel_rfl, ?y16⟩) (by assumption) ?r16
    case y16 => (intro w' hSw; (try dsimp only at hSw); go_simp; try with_reducible rfl)
    case' r16 => (try simp only [Act.put, List.setIfInBounds_toArray, List.set_cons_zero, List.set_cons_succ])
    refine wpAnyH_take (i := 19) (oi := { dst := some 183, op := Op.pick (Operand.tmp 180) (Operand.tmp 182) (Operand.const (Value.bool false)), type := 4, pos := "outright.go:64", after := #[{ on := 16, ground := Go.Ground.data }, { on := 18, ground := Go.Ground.data }], guard := none }) (v := ?v17) rfl (by kernel_rfl) (by kernel_rfl) (by kernel_rfl) (fun _ _ _ h => h) (Or.inl ⟨by kernel_rfl, ?y17⟩) (by assumption) ?r17
    case y17 => (intro w' hSw; (try dsimp only at hSw); go_simp; try with_reducible rfl)
    case' r17 => (try simp only [Act.put, List.setIfInBounds_toArray, List.set_cons_zero, List.set_cons_succ])
    refine wpAnyH_take (i := 20) (oi := { dst := some 184, op := Op.move (Operand.tmp 183), type := 4, pos := "outright.go:64", after := #[{ on := 19, ground := Go.Ground.data }, { on := 16, ground := Go.Ground.chain }], guard := none }) (v := ?v18) rfl (by kernel_rfl) (by kernel_rfl) (by kernel_rfl) (fun _ _ _ h => h) (Or.inl ⟨by kernel_rfl, ?y18⟩) (by assumption) ?r18
    case y18 => (intro w' hSw; (try dsimp only at hSw); go_simp; try with_reducible rfl)
    case' r18 => (try simp only [Act.put, List.setIfInBounds_toArray, List.set_cons_zero, List.set_cons_succ])
    refine wpAnyH_take (i := 21) (oi := { dst := some 185, op := Op.move (Operand.tmp 23), type := 30, pos := "outright.go:64", after := #[{ on := 20, ground := Go.Ground.guard }], guard := some (20, true) }) (v := ?v19) rfl (by kernel_rfl) (by kernel_rfl) (by kernel_rfl) (fun _ _ _ h => h) (Or.inl ⟨by kernel_rfl, ?y19⟩) (by assumption) ?r19
    case y19 => (intro w' hSw; (try dsimp only at hSw); go_simp; try with_reducible rfl)
    case' r19 => (try simp only [Act.put, List.setIfInBounds_toArray, List.set_cons_zero, List.set_cons_succ])
    refine wpAnyH_take (i := 22) (oi := { dst := some 186, op := Op.binOp BinOp.eql 30 (Operand.tmp 185) (Operand.const (Value.int IntKind.i64 6)) 30, type := 4, pos := "outright.go:64", after := #[{ on := 21, ground := Go.Ground.data }, { on := 20, ground := Go.Ground.guard }], guard := some (20, true) }) (v := ?v20) rfl (by kernel_rfl) (by kernel_rfl) (by kernel_rfl) (fun _ _ _ h => h) (Or.inl ⟨by kernel_rfl, ?y20⟩) (by assumption) ?r20
    case y20 => (intro w' hSw; (try dsimp only at hSw); go_simp; try with_reducible rfl)
    case' r20 => (try simp only [Act.put, List.setIfInBounds_toArray, List.set_cons_zero, List.set_cons_succ])
    refine wpAnyH_take (i := 23) (oi := { dst := some 187, op := Op.pick (Operand.tmp 184) (Operand.tmp 186) (Operand.const (Value.bool false)), type := 4, pos := "outright.go:64", after := #[{ on := 20, ground := Go.Ground.data }, { on := 22, ground := Go.Ground.data }], guard := none }) (v := ?v21) rfl (by kernel_rfl) (by kernel_rfl) (by kernel_rfl) (fun _ _ _ h => h) (Or.inl ⟨by kernel_rfl, ?y21⟩) (by assumption) ?r21
    case y21 => (intro w' hSw; (try dsimp only at hSw); go_simp; try with_reducible rfl)
    case' r21 => (try simp only [Act.put, List.setIfInBounds_toArray, List.set_cons_zero, List.set_cons_succ])
    refine wpAnyH_take (i := 24) (oi := { dst := some 188, op := Op.move (Operand.tmp 187), type := 4, pos := "outright.go:64", after := #[{ on := 23, ground := Go.Ground.data }, { on := 20, ground := Go.Ground.chain }], guard := none }) (v := ?v22) rfl (by kernel_rfl) (by kernel_rfl) (by kernel_rfl) (fun _ _ _ h => h) (Or.inl ⟨by kernel_rfl, ?y22⟩) (by assumption) ?r22
    case y22 => (intro w' hSw; (try dsimp only at hSw); go_simp; try with_reducible rfl)
    case' r22 => (try simp only [Act.put, List.setIfInBounds_toArray, List.set_cons_zero, List.set_cons_succ])
    refine wpAnyH_take (i := 25) (oi := { dst := some 189, op := Op.move (Operand.tmp 25), type := 30, pos := "outright.go:64", after := #[{ on := 24, ground := Go.Ground.guard }], guard := some (24, true) }) (v := ?v23) rfl (by kernel_rfl) (by kernel_rfl) (by kernel_rfl) (fun _ _ _ h => h) (Or.inl ⟨by kernel_rfl, ?y23⟩) (by assumption) ?r23
    case y23 => (intro w' hSw; (try dsimp only at hSw); go_simp; try with_reducible rfl)
    case' r23 => (try simp only [Act.put, List.setIfInBounds_toArray, List.set_cons_zero, List.set_cons_succ])
    refine wpAnyH_take (i := 26) (oi := { dst := some 190, op := Op.binOp BinOp.eql 30 (Operand.tmp 189) (Operand.const (Value.int IntKind.i64 6)) 30, type := 4, pos := "outright.go:64", after := #[{ on := 25, ground := Go.Ground.data }, { on := 24, ground := Go.Ground.guard }], guard := some (24, true) }) (v := ?v24) rfl (by kernel_rfl) (by kernel_rfl) (by kernel_rfl) (fun _ _ _ h => h) (Or.inl ⟨by kernel_rfl, ?y24⟩) (by assumption) ?r24
    case y24 => (intro w' hSw; (try dsimp only at hSw); go_simp; try with_reducible rfl)
    case' r24 => (try simp only [Act.put, List.setIfInBounds_toArray, List.set_cons_zero, List.set_cons_succ])
    refine wpAnyH_take (i := 27) (oi := { dst := some 191, op := Op.pick (Operand.tmp 188) (Operand.tmp 190) (Operand.const (Value.bool false)), type := 4, pos := "outright.go:64", after := #[{ on := 24, ground := Go.Ground.data }, { on := 26, ground := Go.Ground.data }], guard := none }) (v := ?v25) rfl (by kernel_rfl) (by kernel_rfl) (by kernel_rfl) (fun _ _ _ h => h) (Or.inl ⟨by kernel_rfl, ?y25⟩) (by assumption) ?r25
    case y25 => (intro w' hSw; (try dsimp only at hSw); go_simp; try with_reducible rfl)
    case' r25 => (try simp only [Act.put, List.setIfInBounds_toArray, List.set_cons_zero, List.set_cons_succ])
    refine wpAnyH_take (i := 28) (oi := { dst := some 192, op := Op.move (Operand.tmp 191), type := 4, pos := "outright.go:64", after := #[{ on := 27, ground := Go.Ground.data }, { on := 24, ground := Go.Ground.chain }], guard := none }) (v := ?v26) rfl (by kernel_rfl) (by kernel_rfl) (by kernel_rfl) (fun _ _ _ h => h) (Or.inl ⟨by kernel_rfl, ?y26⟩) (by assumption) ?r26
    case y26 => (intro w' hSw; (try dsimp only at hSw); go_simp; try with_reducible rfl)
    case' r26 => (try simp only [Act.put, List.setIfInBounds_toArray, List.set_cons_zero, List.set_cons_succ])
    refine wpAnyH_take (i := 29) (oi := { dst := some 193, op := Op.move (Operand.tmp 27), type := 30, pos := "outright.go:64", after := #[{ on := 28, ground := Go.Ground.guard }], guard := some (28, true) }) (v := ?v27) rfl (by kernel_rfl) (by kernel_rfl) (by kernel_rfl) (fun _ _ _ h => h) (Or.inl ⟨by kernel_rfl, ?y27⟩) (by assumption) ?r27
    case y27 => (intro w' hSw; (try dsimp only at hSw); go_simp; try with_reducible rfl)
    case' r27 => (try simp only [Act.put, List.setIfInBounds_toArray, List.set_cons_zero, List.set_cons_succ])
    refine wpAnyH_take (i := 30) (oi := { dst := some 194, op := Op.binOp BinOp.eql 30 (Operand.tmp 193) (Operand.const (Value.int IntKind.i64 50)) 30, type := 4, pos := "outright.go:64", after := #[{ on := 29, ground := Go.Ground.data }, { on := 28, ground := Go.Ground.guard }], guard := some (28, true) }) (v := ?v28) rfl (by kernel_rfl) (by kernel_rfl) (by kernel_rfl) (fun _ _ _ h => h) (Or.inl ⟨by kernel_rfl, ?y28⟩) (by assumption) ?r28
    case y28 => (intro w' hSw; (try dsimp only at hSw); go_simp; try with_reducible rfl)
    case' r28 => (try simp only [Act.put, List.setIfInBounds_toArray, List.set_cons_zero, List.set_cons_succ])
    refine wpAnyH_take (i := 31) (oi := { dst := some 195, op := Op.pick (Operand.tmp 192) (Operand.tmp 194) (Operand.const (Value.bool false)), type := 4, pos := "outright.go:64", after := #[{ on := 28, ground := Go.Ground.data }, { on := 30, ground := Go.Ground.data }], guard := none }) (v := ?v29) rfl (by kernel_rfl) (by kernel_rfl) (by kernel_rfl) (fun _ _ _ h => h) (Or.inl ⟨by kernel_rfl, ?y29⟩) (by assumption) ?r29
    case y29 => (intro w' hSw; (try dsimp only at hSw); go_simp; try with_reducible rfl)
    case' r29 => (try simp only [Act.put, List.setIfInBounds_toArray, List.set_cons_zero, List.set_cons_succ])
    refine wpAnyH_take (i := 32) (oi := { dst := some 196, op := Op.move (Operand.tmp 195), type := 4, pos := "outright.go:64", after := #[{ on := 31, ground := Go.Ground.data }, { on := 28, ground := Go.Ground.chain }], guard := none }) (v := ?v30) rfl (by kernel_rfl) (by kernel_rfl) (by kernel_rfl) (fun _ _ _ h => h) (Or.inl ⟨by kernel_rfl, ?y30⟩) (by assumption) ?r30
    case y30 => (intro w' hSw; (try dsimp only at hSw); go_simp; try with_reducible rfl)
    case' r30 => (try simp only [Act.put, List.setIfInBounds_toArray, List.set_cons_zero, List.set_cons_succ])
    refine wpAnyH_take (i := 33) (oi := { dst := some 197, op := Op.load 29 (Operand.tmp 28), type := 29, pos := "outright.go:64", after := #[{ on := 32, ground := Go.Ground.guard }], guard := some (32, true) }) (v := ?v31) rfl (by kernel_rfl) (by kernel_rfl) (by kernel_rfl) (fun _ _ _ h => h) (Or.inl ⟨by kernel_rfl, ?y31⟩) (by assumption) ?r31
    case y31 => (intro w' hSw; (try dsimp only at hSw); go_simp; try with_reducible rfl)
    case' r31 => (try simp only [Act.put, List.setIfInBounds_toArray, List.set_cons_zero, List.set_cons_succ])
    refine wpAnyH_ready (rs := [34]) (by kernel_rfl) (by simp) ?_
    refine AllReadyH.cons (o := { dst := some 198, op := Op.call { callee := Callee.value (Operand.func 15), args := #[Operand.tmp 197], argTypes := #[29] }, type := 30, pos := "outright.go:64", after := #[{ on := 33, ground := Go.Ground.data }, { on := 32, ground := Go.Ground.chain }, { on := 32, ground := Go.Ground.guard }], guard := some (32, true) }) rfl (fun K hK => ?_) AllReadyH.nil
    go_simp
    go_at_call 15
    refine (nm_chk0 (c := c) (k := 1) (n := 0) HC.out (R := [⟨[⟨1, 0, false⟩], some ⟨gc, 0, none⟩, 1⟩]) (by simp) (by simp) _ (HRG.out.below (SB.bel (by assumption)))).mono ?_
    rintro e3 v3 ⟨rfl, hv3⟩
    obtain ⟨hc3, hz3, hs3⟩ := wfacts hv3
    try go_wp2_with fail
    refine hK.out _ _ (SB.below hv3 (by assumption)) (fun hH34 => ?_)
    clear hK K
    try (try simp only [Act.put, List.setIfInBounds_toArray, List.set_cons_zero, List.set_cons_succ])
    refine wpAnyH_take (i := 35) (oi := { dst := some 199, op := Op.binOp BinOp.eql 30 (Operand.tmp 198) (Operand.const (Value.int IntKind.i64 50)) 30, type := 4, pos := "outright.go:64", after := #[{ on := 34, ground := Go.Ground.data }, { on := 32, ground := Go.Ground.guard }], guard := some (32, true) }) (v := ?v32) rfl (by kernel_rfl) (by kernel_rfl) (by kernel_rfl) (fun _ _ _ h => h) (Or.inl ⟨by kernel_rfl, ?y32⟩) (by assumption) ?r32
    case y32 => (intro w' hSw; (try dsimp only at hSw); go_simp; try with_reducible rfl)
    case' r32 => (try simp only [Act.put, List.setIfInBounds_toArray, List.set_cons_zero, List.set_cons_succ])
    refine wpAnyH_take (i := 36) (oi := { dst := some 200, op := Op.pick (Operand.tmp 196) (Operand.tmp 199) (Operand.const (Value.bool false)), type := 4, pos := "outright.go:64", after := #[{ on := 32, ground := Go.Ground.data }, { on := 35, ground := Go.Ground.data }], guard := none }) (v := ?v33) rfl (by kernel_rfl) (by kernel_rfl) (by kernel_rfl) (fun _ _ _ h => h) (Or.inl ⟨by kernel_rfl, ?y33⟩) (by assumption) ?r33
    case y33 => (intro w' hSw; (try dsimp only at hSw); go_simp; try with_reducible rfl)
    case' r33 => (try simp only [Act.put, List.setIfInBounds_toArray, List.set_cons_zero, List.set_cons_succ])
    refine wpAnyH_take (i := 37) (oi := { dst := some 201, op := Op.move (Operand.tmp 200), type := 4, pos := "outright.go:64", after := #[{ on := 36, ground := Go.Ground.data }, { on := 34, ground := Go.Ground.chain }], guard := none }) (v := ?v34) rfl (by kernel_rfl) (by kernel_rfl) (by kernel_rfl) (fun _ _ _ h => h) (Or.inl ⟨by kernel_rfl, ?y34⟩) (by assumption) ?r34
    case y34 => (intro w' hSw; (try dsimp only at hSw); go_simp; try with_reducible rfl)
    case' r34 => (try simp only [Act.put, List.setIfInBounds_toArray, List.set_cons_zero, List.set_cons_succ])
    refine wpAnyH_ready (rs := [38, 39]) (by kernel_rfl) (by simp) ?_
    refine AllReadyH.cons (o := { dst := some 202, op := Op.call { callee := Callee.value (Operand.func 5), args := #[], argTypes := #[] }, type := 23, pos := "outright.go:64", after := #[{ on := 37, ground := Go.Ground.chain }, { on := 37, ground := Go.Ground.guard }], guard := some (37, true) }) rfl (fun K hK => ?_) (AllReadyH.cons (o := { dst := some 203, op := Op.makeSlice 24 (Operand.const (Value.int IntKind.i64 1)) (Operand.const (Value.int IntKind.i64 1)), type := 24, pos := "outright.go:64", after := #[{ on := 37, ground := Go.Ground.guard }], guard := some (37, true) }) rfl (fun K hK => ?_) AllReadyH.nil)
    · skip
      go_simp
      go_at_call 5
      refine (HCH.out _).mono ?_
      rintro e4 v4 ⟨rfl, hv4⟩
      obtain ⟨hc4, hz4, hs4⟩ := wfacts hv4
      try go_wp2_with fail
      refine hK.out _ _ (SB.below hv4 (by assumption)) (fun hH38 => ?_)
      clear hK K
      try (try simp only [Act.put, List.setIfInBounds_toArray, List.set_cons_zero, List.set_cons_succ])
      refine wpAnyH_ready (rs := [39]) (by kernel_rfl) (by simp) ?_
      refine AllReadyH.cons (o := { dst := some 203, op := Op.makeSlice 24 (Operand.const (Value.int IntKind.i64 1)) (Operand.const (Value.int IntKind.i64 1)), type := 24, pos := "outright.go:64", after := #[{ on := 37, ground := Go.Ground.guard }], guard := some (37, true) }) rfl (fun K hK => ?_) AllReadyH.nil
      go_simp
      try go_wp2_with fail
      refine hK.out _ _ (SB.alloc _ (by assumption)) (fun hH39 => ?_)
      clear hK K
      try (try simp only [Act.put, List.setIfInBounds_toArray, List.set_cons_zero, List.set_cons_succ])
      refine wpAnyH_take (i := 40) (oi := { dst := some 204, op := Op.build 27 #[(0, Operand.tmp 203)], type := 27, pos := "outright.go:64", after := #[{ on := 39, ground := Go.Ground.data }, { on := 37, ground := Go.Ground.guard }], guard := some (37, true) }) (v := ?v35) rfl (by kernel_rfl) (by kernel_rfl) (by kernel_rfl) (fun _ _ _ h => h) (Or.inl ⟨by kernel_rfl, ?y35⟩) (by assumption) ?r35
      case y35 => (intro w' hSw; (try dsimp only at hSw); go_simp; try with_reducible rfl)
      case' r35 => (try simp only [Act.put, List.setIfInBounds_toArray, List.set_cons_zero, List.set_cons_succ])
      refine wpAnyH_take (i := 41) (oi := { dst := some 205, op := Op.build 29 #[(0, Operand.tmp 202), (1, Operand.tmp 204)], type := 29, pos := "outright.go:64", after := #[{ on := 38, ground := Go.Ground.data }, { on := 40, ground := Go.Ground.data }, { on := 37, ground := Go.Ground.guard }], guard := some (37, true) }) (v := ?v36) rfl (by kernel_rfl) (by kernel_rfl) (by kernel_rfl) (fun _ _ _ h => h) (Or.inl ⟨by kernel_rfl, ?y36⟩) (by assumption) ?r36
      case y36 => (intro w' hSw; (try dsimp only at hSw); go_simp; try with_reducible rfl)
      case' r36 => (try simp only [Act.put, List.setIfInBounds_toArray, List.set_cons_zero, List.set_cons_succ])
      refine wpAnyH_ready (rs := [42]) (by kernel_rfl) (by simp) ?_
      refine AllReadyH.cons (o := { dst := some 206, op := Op.call { callee := Callee.value (Operand.func 15), args := #[Operand.tmp 205], argTypes := #[29] }, type := 30, pos := "outright.go:64", after := #[{ on := 41, ground := Go.Ground.data }, { on := 38, ground := Go.Ground.chain }, { on := 37, ground := Go.Ground.guard }], guard := some (37, true) }) rfl (fun K hK => ?_) AllReadyH.nil
      go_simp
      go_at_call 15
      refine (nm_chk1 (c := c) (k := 1) (n := 0) (R := [⟨[], none, 0⟩]) HC.out rfl _ ⟨by first | exact sl_new1 _ _ _ | exact (sl_new1 _ _ _).below (by assumption), fun r hr => by rw [List.mem_singleton.1 hr]; exact ⟨.inl rfl, Nat.le_refl _, by show 0 ≤ maxLen; unfold maxLen; omega⟩⟩).mono ?_
      rintro e5 v5 ⟨rfl, hv5⟩
      obtain ⟨hc5, hz5, hs5⟩ := wfacts hv5
      try go_wp2_with fail
      refine hK.out _ _ (SB.below hv5 (by assumption)) (fun hH42 => ?_)
      clear hK K
      try (try simp only [Act.put, List.setIfInBounds_toArray, List.set_cons_zero, List.set_cons_succ])
      refine wpAnyH_take (i := 43) (oi := { dst := some 207, op := Op.binOp BinOp.eql 30 (Operand.tmp 206) (Operand.const (Value.int IntKind.i64 8)) 30, type := 4, pos := "outright.go:64", after := #[{ on := 42, ground := Go.Ground.data }, { on := 37, ground := Go.Ground.guard }], guard := some (37, true) }) (v := ?v37) rfl (by kernel_rfl) (by kernel_rfl) (by kernel_rfl) (fun _ _ _ h => h) (Or.inl ⟨by kernel_rfl, ?y37⟩) (by assumption) ?r37
      case y37 => (intro w' hSw; (try dsimp only at hSw); go_simp; try with_reducible rfl)
      case' r37 => (try simp only [Act.put, List.setIfInBounds_toArray, List.set_cons_zero, List.set_cons_succ])
      refine wpAnyH_take (i := 44) (oi := { dst := some 208, op := Op.pick (Operand.tmp 201) (Operand.tmp 207) (Operand.const (Value.bool false)), type := 4, pos := "outright.go:64", after := #[{ on := 37, ground := Go.Ground.data }, { on := 43, ground := Go.Ground.data }], guard := none }) (v := ?v38) rfl (by kernel_rfl) (by kernel_rfl) (by kernel_rfl) (fun _ _ _ h => h) (Or.inl ⟨by kernel_rfl, ?y38⟩) (by assumption) ?r38
      case y38 => (intro w' hSw; (try dsimp only at hSw); go_simp; try with_reducible rfl)
      case' r38 => (try simp only [Act.put, List.setIfInBounds_toArray, List.set_cons_zero, List.set_cons_succ])
      refine wpAnyH_take (i := 45) (oi := { dst := some 0, op := Op.assign (Operand.tmp 208), type := 4, pos := "outright.go:64", after := #[{ on := 44, ground := Go.Ground.data }, { on := 42, ground := Go.Ground.chain }, { on := 0, ground := Go.Ground.phase }, { on := 1, ground := Go.Ground.phase }, { on := 2, ground := Go.Ground.phase }, { on := 3, ground := Go.Ground.phase }, { on := 4, ground := Go.Ground.phase }, { on := 5, ground := Go.Ground.phase }, { on := 6, ground := Go.Ground.phase }, { on := 7, ground := Go.Ground.phase }, { on := 8, ground := Go.Ground.phase }, { on := 9, ground := Go.Ground.phase }, { on := 10, ground := Go.Ground.phase }, { on := 11, ground := Go.Ground.phase }, { on := 12, ground := Go.Ground.phase }, { on := 13, ground := Go.Ground.phase }, { on := 14, ground := Go.Ground.phase }, { on := 15, ground := Go.Ground.phase }, { on := 16, ground := Go.Ground.phase }, { on := 17, ground := Go.Ground.phase }, { on := 18, ground := Go.Ground.phase }, { on := 19, ground := Go.Ground.phase }, { on := 20, ground := Go.Ground.phase }, { on := 21, ground := Go.Ground.phase }, { on := 22, ground := Go.Ground.phase }, { on := 23, ground := Go.Ground.phase }, { on := 24, ground := Go.Ground.phase }, { on := 25, ground := Go.Ground.phase }, { on := 26, ground := Go.Ground.phase }, { on := 27, ground := Go.Ground.phase }, { on := 28, ground := Go.Ground.phase }, { on := 29, ground := Go.Ground.phase }, { on := 30, ground := Go.Ground.phase }, { on := 31, ground := Go.Ground.phase }, { on := 32, ground := Go.Ground.phase }, { on := 33, ground := Go.Ground.phase }, { on := 34, ground := Go.Ground.phase }, { on := 35, ground := Go.Ground.phase }, { on := 36, ground := Go.Ground.phase }, { on := 37, ground := Go.Ground.phase }, { on := 38, ground := Go.Ground.phase }, { on := 39, ground := Go.Ground.phase }, { on := 40, ground := Go.Ground.phase }, { on := 41, ground := Go.Ground.phase }, { on := 42, ground := Go.Ground.phase }, { on := 43, ground := Go.Ground.phase }, { on := 44, ground := Go.Ground.phase }], guard := none }) (v := ?v39) rfl (by kernel_rfl) (by kernel_rfl) (by kernel_rfl) (fun _ _ _ h => h) (Or.inl ⟨by kernel_rfl, ?y39⟩) (by assumption) ?r39
      case y39 => (intro w' hSw; (try dsimp only at hSw); go_simp; try with_reducible rfl)
      case' r39 => (try simp only [Act.put, List.setIfInBounds_toArray, List.set_cons_zero, List.set_cons_succ])
      refine wpAnyH_done (by kernel_rfl) ?_ _
      refine NoPanic.normal ?_
      go_wp2_with fail
      go_meet
      exact ⟨by simp, SB.bel (by assumption)⟩
    · skip
      go_simp
      try go_wp2_with fail
      refine hK.out _ _ (SB.alloc _ (by assumption)) (fun hH39 => ?_)
      clear hK K
      try (try simp only [Act.put, List.setIfInBounds_toArray, List.set_cons_zero, List.set_cons_succ])
      refine wpAnyH_take (i := 40) (oi := { dst := some 204, op := Op.build 27 #[(0, Operand.tmp 203)], type := 27, pos := "outright.go:64", after := #[{ on := 39, ground := Go.Ground.data }, { on := 37, ground := Go.Ground.guard }], guard := some (37, true) }) (v := ?v40) rfl (by kernel_rfl) (by kernel_rfl) (by kernel_rfl) (fun _ _ _ h => h) (Or.inl ⟨by kernel_rfl, ?y40⟩) (by assumption) ?r40
      case y40 => (intro w' hSw; (try dsimp only at hSw); go_simp; try with_reducible rfl)
      case' r40 => (try simp only [Act.put, List.setIfInBounds_toArray, List.set_cons_zero, List.set_cons_succ])
      refine wpAnyH_ready (rs := [38]) (by kernel_rfl) (by simp) ?_
      refine AllReadyH.cons (o := { dst := some 202, op := Op.call { callee := Callee.value (Operand.func 5), args := #[], argTypes := #[] }, type := 23, pos := "outright.go:64", after := #[{ on := 37, ground := Go.Ground.chain }, { on := 37, ground := Go.Ground.guard }], guard := some (37, true) }) rfl (fun K hK => ?_) AllReadyH.nil
      go_simp
      go_at_call 5
      refine (HCH.out _).mono ?_
      rintro e4 v4 ⟨rfl, hv4⟩
      obtain ⟨hc4, hz4, hs4⟩ := wfacts hv4
      try go_wp2_with fail
      refine hK.out _ _ (SB.below hv4 (by assumption)) (fun hH38 => ?_)
      clear hK K
      try (try simp only [Act.put, List.setIfInBounds_toArray, List.set_cons_zero, List.set_cons_succ])
      refine wpAnyH_take (i := 41) (oi := { dst := some 205, op := Op.build 29 #[(0, Operand.tmp 202), (1, Operand.tmp 204)], type := 29, pos := "outright.go:64", after := #[{ on := 38, ground := Go.Ground.data }, { on := 40, ground := Go.Ground.data }, { on := 37, ground := Go.Ground.guard }], guard := some (37, true) }) (v := ?v41) rfl (by kernel_rfl) (by kernel_rfl) (by kernel_rfl) (fun _ _ _ h => h) (Or.inl ⟨by kernel_rfl, ?y41⟩) (by assumption) ?r41
      case y41 => (intro w' hSw; (try dsimp only at hSw); go_simp; try with_reducible rfl)
      case' r41 => (try simp only [Act.put, List.setIfInBounds_toArray, List.set_cons_zero, List.set_cons_succ])
      refine wpAnyH_ready (rs := [42]) (by kernel_rfl) (by simp) ?_
      refine AllReadyH.cons (o := { dst := some 206, op := Op.call { callee := Callee.value (Operand.func 15), args := #[Operand.tmp 205], argTypes := #[29] }, type := 30, pos := "outright.go:64", after := #[{ on := 41, ground := Go.Ground.data }, { on := 38, ground := Go.Ground.chain }, { on := 37, ground := Go.Ground.guard }], guard := some (37, true) }) rfl (fun K hK => ?_) AllReadyH.nil
      go_simp
      go_at_call 15
      refine (nm_chk1 (c := c) (k := 1) (n := 0) (R := [⟨[], none, 0⟩]) HC.out rfl _ ⟨by first | exact sl_new1 _ _ _ | exact (sl_new1 _ _ _).below (by assumption), fun r hr => by rw [List.mem_singleton.1 hr]; exact ⟨.inl rfl, Nat.le_refl _, by show 0 ≤ maxLen; unfold maxLen; omega⟩⟩).mono ?_
      rintro e5 v5 ⟨rfl, hv5⟩
      obtain ⟨hc5, hz5, hs5⟩ := wfacts hv5
      try go_wp2_with fail
      refine hK.out _ _ (SB.below hv5 (by assumption)) (fun hH42 => ?_)
      clear hK K
      try (try simp only [Act.put, List.setIfInBounds_toArray, List.set_cons_zero, List.set_cons_succ])
      refine wpAnyH_take (i := 43) (oi := { dst := some 207, op := Op.binOp BinOp.eql 30 (Operand.tmp 206) (Operand.const (Value.int IntKind.i64 8)) 30, type := 4, pos := "outright.go:64", after := #[{ on := 42, ground := Go.Ground.data }, { on := 37, ground := Go.Ground.guard }], guard := some (37, true) }) (v := ?v42) rfl (by kernel_rfl) (by kernel_rfl) (by kernel_rfl) (fun _ _ _ h => h) (Or.inl ⟨by kernel_rfl, ?y42⟩) (by assumption) ?r42
      case y42 => (intro w' hSw; (try dsimp only at hSw); go_simp; try with_reducible rfl)
      case' r42 => (try simp only [Act.put, List.setIfInBounds_toArray, List.set_cons_zero, List.set_cons_succ])
      refine wpAnyH_take (i := 44) (oi := { dst := some 208, op := Op.pick (Operand.tmp 201) (Operand.tmp 207) (Operand.const (Value.bool false)), type := 4, pos := "outright.go:64", after := #[{ on := 37, ground := Go.Ground.data }, { on := 43, ground := Go.Ground.data }], guard := none }) (v := ?v43) rfl (by kernel_rfl) (by kernel_rfl) (by kernel_rfl) (fun _ _ _ h => h) (Or.inl ⟨by kernel_rfl, ?y43⟩) (by assumption) ?r43
      case y43 => (intro w' hSw; (try dsimp only at hSw); go_simp; try with_reducible rfl)
      case' r43 => (try simp only [Act.put, List.setIfInBounds_toArray, List.set_cons_zero, List.set_cons_succ])
      refine wpAnyH_take (i := 45) (oi := { dst := some 0, op := Op.assign (Operand.tmp 208), type := 4, pos := "outright.go:64", after := #[{ on := 44, ground := Go.Ground.data }, { on := 42, ground := Go.Ground.chain }, { on := 0, ground := Go.Ground.phase }, { on := 1, ground := Go.Ground.phase }, { on := 2, ground := Go.Ground.phase }, { on := 3, ground := Go.Ground.phase }, { on := 4, ground := Go.Ground.phase }, { on := 5, ground := Go.Ground.phase }, { on := 6, ground := Go.Ground.phase }, { on := 7, ground := Go.Ground.phase }, { on := 8, ground := Go.Ground.phase }, { on := 9, ground := Go.Ground.phase }, { on := 10, ground := Go.Ground.phase }, { on := 11, ground := Go.Ground.phase }, { on := 12, ground := Go.Ground.phase }, { on := 13, ground := Go.Ground.phase }, { on := 14, ground := Go.Ground.phase }, { on := 15, ground := Go.Ground.phase }, { on := 16, ground := Go.Ground.phase }, { on := 17, ground := Go.Ground.phase }, { on := 18, ground := Go.Ground.phase }, { on := 19, ground := Go.Ground.phase }, { on := 20, ground := Go.Ground.phase }, { on := 21, ground := Go.Ground.phase }, { on := 22, ground := Go.Ground.phase }, { on := 23, ground := Go.Ground.phase }, { on := 24, ground := Go.Ground.phase }, { on := 25, ground := Go.Ground.phase }, { on := 26, ground := Go.Ground.phase }, { on := 27, ground := Go.Ground.phase }, { on := 28, ground := Go.Ground.phase }, { on := 29, ground := Go.Ground.phase }, { on := 30, ground := Go.Ground.phase }, { on := 31, ground := Go.Ground.phase }, { on := 32, ground := Go.Ground.phase }, { on := 33, ground := Go.Ground.phase }, { on := 34, ground := Go.Ground.phase }, { on := 35, ground := Go.Ground.phase }, { on := 36, ground := Go.Ground.phase }, { on := 37, ground := Go.Ground.phase }, { on := 38, ground := Go.Ground.phase }, { on := 39, ground := Go.Ground.phase }, { on := 40, ground := Go.Ground.phase }, { on := 41, ground := Go.Ground.phase }, { on := 42, ground := Go.Ground.phase }, { on := 43, ground := Go.Ground.phase }, { on := 44, ground := Go.Ground.phase }], guard := none }) (v := ?v44) rfl (by kernel_rfl) (by kernel_rfl) (by kernel_rfl) (fun _ _ _ h => h) (Or.inl ⟨by kernel_rfl, ?y44⟩) (by assumption) ?r44
      case y44 => (intro w' hSw; (try dsimp only at hSw); go_simp; try with_reducible rfl)
      case' r44 => (try simp only [Act.put, List.setIfInBounds_toArray, List.set_cons_zero, List.set_cons_succ])
      refine wpAnyH_done (by kernel_rfl) ?_ _
      refine NoPanic.normal ?_
      go_wp2_with fail
      go_meet
      exact ⟨by simp, SB.bel (by assumption)⟩
  case rest =>
    obtain ⟨rfl, hbz⟩ := hcut
    go_wp2_with fail
    go_ret
    exact ⟨rfl, bext HF563.out hbz⟩
end Go.Proofs.YtolclahkfmplfaaGreatDoor
