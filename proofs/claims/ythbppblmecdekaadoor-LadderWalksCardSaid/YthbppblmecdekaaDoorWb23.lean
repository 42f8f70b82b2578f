/- Dg Dh ArgsL: texts of the claim, in this order. -/
import Derived.Test.YthbppblmecdekaaDoorWb22
import Derived.Test.YthbppblmecdekaaDoorWb17
import Derived.Test.YthbppblmecdekaaDoorWb14
import Derived.Test.YthbppblmecdekaaDoorWb3
import Derived.Test.YthbppblmecdekaaDoorWb18
import Derived.Test.YthbppblmecdekaaDoorWb19
/- Contracts: the helpers of chapter 27's laws. -/
namespace Go.Proofs.YthbppblmecdekaaDoor
open Go Go.RowKit
set_option maxRecDepth 100000
theorem great27_any (B : Option Addr) (Rs : List Rm) (k most : Nat) (c : Cfg) (n : Int) (w : World) (hB : RunsAt w B Rs) (hm : most ≤ 1000000) :
    Calls Tryd.prog 31 #[.agg (lrow c B Rs.length k n), .int .i64 most] w fun r w' => ∃ G : Bool, r = .returned (.bool G) ∧ (G = false → Rs.length + tot (lvs Rs) ≤ most) ∧ Below w.heap.size w w' := by
  obtain ⟨W0, hW0⟩ : ∃ W0, w.alloc (.cells #[.int .u8 c.tag, .int .i64 c.most, .int .i64 c.seg, .int .i64 c.least, .int .i64 c.den, .int .i64 c.leafLow, .int .i64 c.rootLow, .int .i64 c.rootHigh, .int .i64 c.leafHigh, .slice B Rs.length k, .int .u64 n] 65) = W0 := ⟨_, rfl⟩
  have hb0 : Below w.heap.size w W0 := by rw [← hW0]; exact (Below.refl _ _).alloc (Nat.le_refl _) _
  have b0 : Blk W0 w.heap.size 65 #[.int .u8 c.tag, .int .i64 c.most, .int .i64 c.seg, .int .i64 c.least, .int .i64 c.den, .int .i64 c.leafLow, .int .i64 c.rootLow, .int .i64 c.rootHigh, .int .i64 c.leafHigh, .slice B Rs.length k, .int .u64 n] := by rw [← hW0]; exact Blk.new _ _ _
  have HW0 := Lib.hid hW0
  have HB := Lib.hid (hB.below hb0)
  have HB0 := Lib.hid hb0
  have HC0 := Lib.hid b0
  have HG := Lib.hid (great26_any B Rs k most n W0 HB.out hm)
  clear hW0 hB
  have q0 : W0.cell? ⟨w.heap.size, 0, none⟩ = some (.int .u8 c.tag) := b0.cell 0
  have q1 : W0.cell? ⟨w.heap.size, 1, none⟩ = some (.int .i64 c.most) := b0.cell 1
  have q2 : W0.cell? ⟨w.heap.size, 2, none⟩ = some (.int .i64 c.seg) := b0.cell 2
  have q3 : W0.cell? ⟨w.heap.size, 3, none⟩ = some (.int .i64 c.least) := b0.cell 3
  have q4 : W0.cell? ⟨w.heap.size, 4, none⟩ = some (.int .i64 c.den) := b0.cell 4
  have q5 : W0.cell? ⟨w.heap.size, 5, none⟩ = some (.int .i64 c.leafLow) := b0.cell 5
  have q6 : W0.cell? ⟨w.heap.size, 6, none⟩ = some (.int .i64 c.rootLow) := b0.cell 6
  have q7 : W0.cell? ⟨w.heap.size, 7, none⟩ = some (.int .i64 c.rootHigh) := b0.cell 7
  have q8 : W0.cell? ⟨w.heap.size, 8, none⟩ = some (.int .i64 c.leafHigh) := b0.cell 8
  have q9 : W0.cell? ⟨w.heap.size, 9, none⟩ = some (.slice B Rs.length k) := b0.cell 9
  have q10 : W0.cell? ⟨w.heap.size, 10, none⟩ = some (.int .u64 n) := b0.cell 10
  clear b0
  go_enter Tryd.func31, Tryd.ntmps31
  go_upto_region 1 with fail
  rw [HW0.out]
  go_wp2_with fail
  refine HG.out.mono ?_
  rintro e w1 ⟨G, rfl, hG, hb1⟩
  have HGG := Lib.hid hG
  clear hG q0 q1 q2 q3 q4 q5 q6 q7 q8 q9 q10
  go_wp2
  go_ret
  exact ⟨G, rfl, HGG.out, bext HB0.out hb1⟩
theorem chapter27_any (w : World) : Calls Tryd.prog 65 #[] w fun r w' => r = .returned (.agg chap.row) ∧ Below w.heap.size w w' := by
  go_enter Tryd.func65, Tryd.ntmps65
  go_wp2
  have b := Blk.new w 63 #[.int .u8 3, .int .i64 8, .int .i64 4, .int .i64 16, .int .i64 8, .int .i64 0, .int .i64 1, .int .i64 4, .int .i64 8]
  have z0 : (w.alloc (.cells #[.int .u8 3, .int .i64 8, .int .i64 4, .int .i64 16, .int .i64 8, .int .i64 0, .int .i64 1, .int .i64 4, .int .i64 8] 63)).cell? ⟨w.heap.size, 0, none⟩ = some (.int .u8 3) := b.cell 0
  have z1 : (w.alloc (.cells #[.int .u8 3, .int .i64 8, .int .i64 4, .int .i64 16, .int .i64 8, .int .i64 0, .int .i64 1, .int .i64 4, .int .i64 8] 63)).cell? ⟨w.heap.size, 1, none⟩ = some (.int .i64 8) := b.cell 1
  have z2 : (w.alloc (.cells #[.int .u8 3, .int .i64 8, .int .i64 4, .int .i64 16, .int .i64 8, .int .i64 0, .int .i64 1, .int .i64 4, .int .i64 8] 63)).cell? ⟨w.heap.size, 2, none⟩ = some (.int .i64 4) := b.cell 2
  have z3 : (w.alloc (.cells #[.int .u8 3, .int .i64 8, .int .i64 4, .int .i64 16, .int .i64 8, .int .i64 0, .int .i64 1, .int .i64 4, .int .i64 8] 63)).cell? ⟨w.heap.size, 3, none⟩ = some (.int .i64 16) := b.cell 3
  have z4 : (w.alloc (.cells #[.int .u8 3, .int .i64 8, .int .i64 4, .int .i64 16, .int .i64 8, .int .i64 0, .int .i64 1, .int .i64 4, .int .i64 8] 63)).cell? ⟨w.heap.size, 4, none⟩ = some (.int .i64 8) := b.cell 4
  have z5 : (w.alloc (.cells #[.int .u8 3, .int .i64 8, .int .i64 4, .int .i64 16, .int .i64 8, .int .i64 0, .int .i64 1, .int .i64 4, .int .i64 8] 63)).cell? ⟨w.heap.size, 5, none⟩ = some (.int .i64 0) := b.cell 5
  have z6 : (w.alloc (.cells #[.int .u8 3, .int .i64 8, .int .i64 4, .int .i64 16, .int .i64 8, .int .i64 0, .int .i64 1, .int .i64 4, .int .i64 8] 63)).cell? ⟨w.heap.size, 6, none⟩ = some (.int .i64 1) := b.cell 6
  have z7 : (w.alloc (.cells #[.int .u8 3, .int .i64 8, .int .i64 4, .int .i64 16, .int .i64 8, .int .i64 0, .int .i64 1, .int .i64 4, .int .i64 8] 63)).cell? ⟨w.heap.size, 7, none⟩ = some (.int .i64 4) := b.cell 7
  have z8 : (w.alloc (.cells #[.int .u8 3, .int .i64 8, .int .i64 4, .int .i64 16, .int .i64 8, .int .i64 0, .int .i64 1, .int .i64 4, .int .i64 8] 63)).cell? ⟨w.heap.size, 8, none⟩ = some (.int .i64 8) := b.cell 8
  refine bodyPost_ret (v := .agg #[.int .u8 3, .int .i64 8, .int .i64 4, .int .i64 16, .int .i64 8, .int .i64 0, .int .i64 1, .int .i64 4, .int .i64 8]) (by simp [results, Tryd.results65, go_sem, z0, z1, z2, z3, z4, z5, z6, z7, z8]) rfl ?_
  exact ⟨rfl, (Below.refl _ _).alloc (Nat.le_refl _) _⟩
theorem is27_yes (p : Pr) (w : World) : Calls Tryd.prog 66 #[.agg #[.int .i64 p.key, .int .i64 p.val], .int .i64 0, .int .i64 p.key, .int .i64 p.val] w fun r w' => r = .returned (.bool true) ∧ Below w.heap.size w w' := by
  have hp := fun w => run_eql_pr p p w
  have hq : eqP p p = true := decide_eq_true rfl
  have hb0 : Below w.heap.size w (w.alloc (.cells #[.int .i64 p.key, .int .i64 p.val] 56)) := (Below.refl _ _).alloc (Nat.le_refl _) _
  go_enter Tryd.func66, Tryd.ntmps66
  go_wp2
  go_ret
  exact ⟨rfl, hb0⟩
set_option maxHeartbeats 4000000 in
theorem has27_yes (B A : Option Addr) (Rs : List Rm) (k cq : Nat) (c : Cfg) (n : Int) (l : List Pr) (w : World) (hB : RunsAt w B Rs) (hT : tot (lvs Rs) ≤ 1000000) (hl : Rs.length ≤ 1000000) (hA : Sl w A (l.flatMap Pr.cells)) (hl1 : l.length ≤ 1000) (he : errL c (lvs Rs) = 0) (hp : prD c (lvs Rs) = l) :
    Calls Tryd.prog 67 #[.agg (lrow c B Rs.length k n), .slice A l.length cq] w fun r w' => r = .returned (.bool true) ∧ Below w.heap.size w w' := by
  obtain ⟨W0, hW0⟩ : ∃ W0, w.alloc (.cells #[.int .u8 c.tag, .int .i64 c.most, .int .i64 c.seg, .int .i64 c.least, .int .i64 c.den, .int .i64 c.leafLow, .int .i64 c.rootLow, .int .i64 c.rootHigh, .int .i64 c.leafHigh, .slice B Rs.length k, .int .u64 n] 65) = W0 := ⟨_, rfl⟩
  have hb0 : Below w.heap.size w W0 := by rw [← hW0]; exact (Below.refl _ _).alloc (Nat.le_refl _) _
  have b0 : Blk W0 w.heap.size 65 #[.int .u8 c.tag, .int .i64 c.most, .int .i64 c.seg, .int .i64 c.least, .int .i64 c.den, .int .i64 c.leafLow, .int .i64 c.rootLow, .int .i64 c.rootHigh, .int .i64 c.leafHigh, .slice B Rs.length k, .int .u64 n] := by rw [← hW0]; exact Blk.new _ _ _
  have HW0 := Lib.hid hW0
  have HB := Lib.hid (hB.below hb0)
  have HB0 := Lib.hid hb0
  have HC0 := Lib.hid b0
  have hcn := pairsD_any B Rs k c n W0 HB.out hT hl
  rw [he, hp] at hcn
  have HCN := Lib.hid hcn
  have HA := Lib.hid (hA.below hb0)
  clear hW0 hB hcn he hp hA
  have q0 : W0.cell? ⟨w.heap.size, 0, none⟩ = some (.int .u8 c.tag) := b0.cell 0
  have q1 : W0.cell? ⟨w.heap.size, 1, none⟩ = some (.int .i64 c.most) := b0.cell 1
  have q2 : W0.cell? ⟨w.heap.size, 2, none⟩ = some (.int .i64 c.seg) := b0.cell 2
  have q3 : W0.cell? ⟨w.heap.size, 3, none⟩ = some (.int .i64 c.least) := b0.cell 3
  have q4 : W0.cell? ⟨w.heap.size, 4, none⟩ = some (.int .i64 c.den) := b0.cell 4
  have q5 : W0.cell? ⟨w.heap.size, 5, none⟩ = some (.int .i64 c.leafLow) := b0.cell 5
  have q6 : W0.cell? ⟨w.heap.size, 6, none⟩ = some (.int .i64 c.rootLow) := b0.cell 6
  have q7 : W0.cell? ⟨w.heap.size, 7, none⟩ = some (.int .i64 c.rootHigh) := b0.cell 7
  have q8 : W0.cell? ⟨w.heap.size, 8, none⟩ = some (.int .i64 c.leafHigh) := b0.cell 8
  have q9 : W0.cell? ⟨w.heap.size, 9, none⟩ = some (.slice B Rs.length k) := b0.cell 9
  have q10 : W0.cell? ⟨w.heap.size, 10, none⟩ = some (.int .u64 n) := b0.cell 10
  clear b0
  go_enter Tryd.func67, Tryd.ntmps67
  go_upto_region 1 with fail
  rw [HW0.out]
  go_wp2_with fail
  refine HCN.out.mono ?_
  rintro e w1 ⟨A2, c2, rfl, ho2, hb1⟩
  have HO2 := Lib.hid (own_sl ho2)
  have HB1 := Lib.hid (bext HB0.out hb1)
  have HA1 := Lib.hid (HA.out.below hb1)
  clear ho2 hb1 q0 q1 q2 q3 q4 q5 q6 q7 q8 q9 q10
  go_wp2_with fail
  refine (samePairs_any A2 A l l c2 cq _ HO2.out HA1.out (by omega) (by omega)).mono ?_
  rw [decide_eq_true rfl]
  rintro e w3 ⟨rfl, hb3⟩
  go_wp2
  go_ret
  exact ⟨rfl, bext HB1.out hb3⟩
set_option maxHeartbeats 16000000 in
theorem alive27_any (w : World) (hTb : TabAt 1 Lib.deBruijn64tab w) : Calls Tryd.prog 30 #[] w fun r w' => r = .returned (.bool true) ∧ Below w.heap.size w w' := by
  have HT := Lib.hid hTb
  clear hTb
  go_enter Tryd.func30, Tryd.ntmps30
  go_wp2_with fail
  refine (chapter27_any _).mono ?_
  rintro e w1 ⟨rfl, hb1⟩
  have HF1 := Lib.hid hb1
  clear hb1
  go_wp2_with fail
  have hnew := newD_any chap w1
  rw [chap_ok] at hnew
  refine hnew.mono ?_
  clear hnew
  rintro e w2 ⟨B0, k0, R0, rfl, hl0, ho0, hb2⟩
  have hn0 : R0.length = 0 := by rw [rs_len hl0]; rfl
  rw [hn0]
  have hld : ldC chap 0 = chap := rfl
  rw [hld]
  go_upto_region 2 with fail
  obtain ⟨U0, hU0⟩ : ∃ U, w2.alloc (.cells #[.int .u8 3, .int .i64 8, .int .i64 4, .int .i64 16, .int .i64 8, .int .i64 0, .int .i64 1, .int .i64 4, .int .i64 8, .slice B0 0 k0, .int .u64 0] 65) = U := ⟨_, rfl⟩
  have ha : Below w2.heap.size w2 U0 := by rw [← hU0]; exact (Below.refl _ _).alloc (Nat.le_refl _) _
  have HM0 : Hid (Blk U0 w2.heap.size 65 (lrow chap B0 0 k0 0)) := by show Blk _ _ _ _; rw [← hU0]; exact Blk.new _ _ _
  have hU0' : w2.alloc (.cells #[.int .u8 chap.tag, .int .i64 chap.most, .int .i64 chap.seg, .int .i64 chap.least, .int .i64 chap.den, .int .i64 chap.leafLow, .int .i64 chap.rootLow, .int .i64 chap.rootHigh, .int .i64 chap.leafHigh, .slice B0 0 k0, .int .u64 0] 65) = U0 := hU0
  first | rw [hU0] | rw [hU0']
  have HS2 := Lib.hid (bext HF1.out hb2).size
  have HF0 := Lib.hid (bext (bext HF1.out hb2) ha)
  have HO0 := Lib.hid (((ho0.mono HF1.out.size).belowB ha))
  have HL0 := Lib.hid hl0
  have HN0 := Lib.hid hn0
  obtain ⟨g, hg⟩ : ∃ g, w2.heap.size = g := ⟨_, rfl⟩
  rw [hg] at HM0 HS2
  try rw [hg]
  clear hU0 hU0' ha hl0 ho0 hb2 hn0 hld hg
  have bm0 := HM0.out
  have q0 : U0.cell? ⟨g, 0, none⟩ = some (.int .u8 3) := bm0.cell 0
  have q1 : U0.cell? ⟨g, 1, none⟩ = some (.int .i64 8) := bm0.cell 1
  have q2 : U0.cell? ⟨g, 2, none⟩ = some (.int .i64 4) := bm0.cell 2
  have q3 : U0.cell? ⟨g, 3, none⟩ = some (.int .i64 16) := bm0.cell 3
  have q4 : U0.cell? ⟨g, 4, none⟩ = some (.int .i64 8) := bm0.cell 4
  have q5 : U0.cell? ⟨g, 5, none⟩ = some (.int .i64 0) := bm0.cell 5
  have q6 : U0.cell? ⟨g, 6, none⟩ = some (.int .i64 1) := bm0.cell 6
  have q7 : U0.cell? ⟨g, 7, none⟩ = some (.int .i64 4) := bm0.cell 7
  have q8 : U0.cell? ⟨g, 8, none⟩ = some (.int .i64 8) := bm0.cell 8
  have q9 : U0.cell? ⟨g, 9, none⟩ = some (.slice B0 0 k0) := bm0.cell 9
  have q10 : U0.cell? ⟨g, 10, none⟩ = some (.int .u64 0) := bm0.cell 10
  have lg := bm0.lt
  have hput := putD_any B0 R0 k0 chap 0 5 50 U0 HO0.out.runsAt (by rw [HL0.out]; decide) (by rw [HN0.out]; decide) (tab_below2 HT.out HF0.out)
  have hup := up_z chap (n := 0) u1 (show addE [] (putY 5 50) = 0 from a1E)
  rw [HL0.out, hup.2.2.2, hup.1, hup.2.1, hup.2.2.1, show addL [] 0 (putY 5 50) = L1 from a1A.1, show addN [] 0 (putY 5 50) = 1 from a1A.2, HN0.out] at hput
  have HPUT := Lib.hid hput
  clear bm0 hput hup
  go_wp2_with fail
  refine HPUT.out.mono ?_
  rintro e v1 ⟨B1, k1, R1, rfl, hl1, ho1, hb1⟩
  have hn1 : R1.length = 1 := by rw [rs_len hl1]; rfl
  rw [hn1]
  have bv1 := HM0.out.below hb1 HM0.out.lt
  clear HPUT lg q0 q1 q2 q3 q4 q5 q6 q7 q8 q9 q10
  have q0 : v1.cell? ⟨g, 0, none⟩ = some (.int .u8 3) := bv1.cell 0
  have q1 : v1.cell? ⟨g, 1, none⟩ = some (.int .i64 8) := bv1.cell 1
  have q2 : v1.cell? ⟨g, 2, none⟩ = some (.int .i64 4) := bv1.cell 2
  have q3 : v1.cell? ⟨g, 3, none⟩ = some (.int .i64 16) := bv1.cell 3
  have q4 : v1.cell? ⟨g, 4, none⟩ = some (.int .i64 8) := bv1.cell 4
  have q5 : v1.cell? ⟨g, 5, none⟩ = some (.int .i64 0) := bv1.cell 5
  have q6 : v1.cell? ⟨g, 6, none⟩ = some (.int .i64 1) := bv1.cell 6
  have q7 : v1.cell? ⟨g, 7, none⟩ = some (.int .i64 4) := bv1.cell 7
  have q8 : v1.cell? ⟨g, 8, none⟩ = some (.int .i64 8) := bv1.cell 8
  have q9 : v1.cell? ⟨g, 9, none⟩ = some (.slice B0 0 k0) := bv1.cell 9
  have q10 : v1.cell? ⟨g, 10, none⟩ = some (.int .u64 0) := bv1.cell 10
  have fr0 := bv1.frozen 0
  have fr1 := bv1.frozen 1
  have fr2 := bv1.frozen 2
  have fr3 := bv1.frozen 3
  have fr4 := bv1.frozen 4
  have fr5 := bv1.frozen 5
  have fr6 := bv1.frozen 6
  have fr7 := bv1.frozen 7
  have fr8 := bv1.frozen 8
  have fr9 := bv1.frozen 9
  have fr10 := bv1.frozen 10
  have lg := bv1.lt
  go_upto_region 3 with fail
  obtain ⟨U1, hU1⟩ : ∃ U, (((((((((((v1.setCell ⟨g, 0, none⟩ (.int .u8 3)).setCell ⟨g, 1, none⟩ (.int .i64 8)).setCell ⟨g, 2, none⟩ (.int .i64 4)).setCell ⟨g, 3, none⟩ (.int .i64 16)).setCell ⟨g, 4, none⟩ (.int .i64 8)).setCell ⟨g, 5, none⟩ (.int .i64 0)).setCell ⟨g, 6, none⟩ (.int .i64 1)).setCell ⟨g, 7, none⟩ (.int .i64 4)).setCell ⟨g, 8, none⟩ (.int .i64 8)).setCell ⟨g, 9, none⟩ (.slice B1 1 k1)).setCell ⟨g, 10, none⟩ (.int .u64 1)) = U := ⟨_, rfl⟩
  have hU' : (((((((((((v1.setCell ⟨g, 0, none⟩ (.int .u8 chap.tag)).setCell ⟨g, 1, none⟩ (.int .i64 chap.most)).setCell ⟨g, 2, none⟩ (.int .i64 chap.seg)).setCell ⟨g, 3, none⟩ (.int .i64 chap.least)).setCell ⟨g, 4, none⟩ (.int .i64 chap.den)).setCell ⟨g, 5, none⟩ (.int .i64 chap.leafLow)).setCell ⟨g, 6, none⟩ (.int .i64 chap.rootLow)).setCell ⟨g, 7, none⟩ (.int .i64 chap.rootHigh)).setCell ⟨g, 8, none⟩ (.int .i64 chap.leafHigh)).setCell ⟨g, 9, none⟩ (.slice B1 1 k1)).setCell ⟨g, 10, none⟩ (.int .u64 1)) = U1 := hU1
  first | rw [hU1] | rw [hU']
  have HM1 : Hid (Blk U1 g 65 (lrow chap B1 1 k1 1)) := by show Blk _ _ _ _; rw [← hU1]; exact put11 bv1 _ _ _ _ _ _ _ _ _ _ _
  have HO1 : Hid (OwnRs U1 w.heap.size B1 k1 R1) := by show OwnRs _ _ _ _ _; rw [← hU1]; exact (ho1.mono HF0.out.size).set11 bv1 (by decide) (by decide) _ _ _ _ _ _ _ _ _ _ _
  have HF1 : Hid (Below w.heap.size w U1) := by show Below _ _ _; rw [← hU1]; exact below11 (bext HF0.out hb1) HS2.out _ _ _ _ _ _ _ _ _ _ _
  have HL1 := Lib.hid hl1
  have HN1 := Lib.hid hn1
  clear hU1 hU' hl1 ho1 hb1 hn1 bv1 HM0 HO0 lg q0 q1 q2 q3 q4 q5 q6 q7 q8 q9 q10 fr0 fr1 fr2 fr3 fr4 fr5 fr6 fr7 fr8 fr9 fr10
  have bm1 := HM1.out
  have q0 : U1.cell? ⟨g, 0, none⟩ = some (.int .u8 3) := bm1.cell 0
  have q1 : U1.cell? ⟨g, 1, none⟩ = some (.int .i64 8) := bm1.cell 1
  have q2 : U1.cell? ⟨g, 2, none⟩ = some (.int .i64 4) := bm1.cell 2
  have q3 : U1.cell? ⟨g, 3, none⟩ = some (.int .i64 16) := bm1.cell 3
  have q4 : U1.cell? ⟨g, 4, none⟩ = some (.int .i64 8) := bm1.cell 4
  have q5 : U1.cell? ⟨g, 5, none⟩ = some (.int .i64 0) := bm1.cell 5
  have q6 : U1.cell? ⟨g, 6, none⟩ = some (.int .i64 1) := bm1.cell 6
  have q7 : U1.cell? ⟨g, 7, none⟩ = some (.int .i64 4) := bm1.cell 7
  have q8 : U1.cell? ⟨g, 8, none⟩ = some (.int .i64 8) := bm1.cell 8
  have q9 : U1.cell? ⟨g, 9, none⟩ = some (.slice B1 1 k1) := bm1.cell 9
  have q10 : U1.cell? ⟨g, 10, none⟩ = some (.int .u64 1) := bm1.cell 10
  have lg := bm1.lt
  have hput := putD_any B1 R1 k1 chap 1 9 90 U1 HO1.out.runsAt (by rw [HL1.out]; decide) (by rw [HN1.out]; decide) (tab_below2 HT.out HF1.out)
  have hup := up_z chap (n := 1) u2 (show addE L1 (putY 9 90) = 0 from a2E)
  rw [HL1.out, hup.2.2.2, hup.1, hup.2.1, hup.2.2.1, show addL L1 1 (putY 9 90) = L2 from a2A.1, show addN L1 1 (putY 9 90) = 4 from a2A.2, HN1.out] at hput
  have HPUT := Lib.hid hput
  clear bm1 hput hup
  go_wp2_with fail
  refine HPUT.out.mono ?_
  rintro e v2 ⟨B2, k2, R2, rfl, hl2, ho2, hb2⟩
  have hn2 : R2.length = 2 := by rw [rs_len hl2]; rfl
  rw [hn2]
  have bv2 := HM1.out.below hb2 HM1.out.lt
  clear HPUT lg q0 q1 q2 q3 q4 q5 q6 q7 q8 q9 q10
  have q0 : v2.cell? ⟨g, 0, none⟩ = some (.int .u8 3) := bv2.cell 0
  have q1 : v2.cell? ⟨g, 1, none⟩ = some (.int .i64 8) := bv2.cell 1
  have q2 : v2.cell? ⟨g, 2, none⟩ = some (.int .i64 4) := bv2.cell 2
  have q3 : v2.cell? ⟨g, 3, none⟩ = some (.int .i64 16) := bv2.cell 3
  have q4 : v2.cell? ⟨g, 4, none⟩ = some (.int .i64 8) := bv2.cell 4
  have q5 : v2.cell? ⟨g, 5, none⟩ = some (.int .i64 0) := bv2.cell 5
  have q6 : v2.cell? ⟨g, 6, none⟩ = some (.int .i64 1) := bv2.cell 6
  have q7 : v2.cell? ⟨g, 7, none⟩ = some (.int .i64 4) := bv2.cell 7
  have q8 : v2.cell? ⟨g, 8, none⟩ = some (.int .i64 8) := bv2.cell 8
  have q9 : v2.cell? ⟨g, 9, none⟩ = some (.slice B1 1 k1) := bv2.cell 9
  have q10 : v2.cell? ⟨g, 10, none⟩ = some (.int .u64 1) := bv2.cell 10
  have fr0 := bv2.frozen 0
  have fr1 := bv2.frozen 1
  have fr2 := bv2.frozen 2
  have fr3 := bv2.frozen 3
  have fr4 := bv2.frozen 4
  have fr5 := bv2.frozen 5
  have fr6 := bv2.frozen 6
  have fr7 := bv2.frozen 7
  have fr8 := bv2.frozen 8
  have fr9 := bv2.frozen 9
  have fr10 := bv2.frozen 10
  have lg := bv2.lt
  go_upto_region 4 with fail
  obtain ⟨U2, hU2⟩ : ∃ U, (((((((((((v2.setCell ⟨g, 0, none⟩ (.int .u8 3)).setCell ⟨g, 1, none⟩ (.int .i64 8)).setCell ⟨g, 2, none⟩ (.int .i64 4)).setCell ⟨g, 3, none⟩ (.int .i64 16)).setCell ⟨g, 4, none⟩ (.int .i64 8)).setCell ⟨g, 5, none⟩ (.int .i64 0)).setCell ⟨g, 6, none⟩ (.int .i64 1)).setCell ⟨g, 7, none⟩ (.int .i64 4)).setCell ⟨g, 8, none⟩ (.int .i64 8)).setCell ⟨g, 9, none⟩ (.slice B2 2 k2)).setCell ⟨g, 10, none⟩ (.int .u64 4)) = U := ⟨_, rfl⟩
  have hU' : (((((((((((v2.setCell ⟨g, 0, none⟩ (.int .u8 chap.tag)).setCell ⟨g, 1, none⟩ (.int .i64 chap.most)).setCell ⟨g, 2, none⟩ (.int .i64 chap.seg)).setCell ⟨g, 3, none⟩ (.int .i64 chap.least)).setCell ⟨g, 4, none⟩ (.int .i64 chap.den)).setCell ⟨g, 5, none⟩ (.int .i64 chap.leafLow)).setCell ⟨g, 6, none⟩ (.int .i64 chap.rootLow)).setCell ⟨g, 7, none⟩ (.int .i64 chap.rootHigh)).setCell ⟨g, 8, none⟩ (.int .i64 chap.leafHigh)).setCell ⟨g, 9, none⟩ (.slice B2 2 k2)).setCell ⟨g, 10, none⟩ (.int .u64 4)) = U2 := hU2
  first | rw [hU2] | rw [hU']
  have HM2 : Hid (Blk U2 g 65 (lrow chap B2 2 k2 4)) := by show Blk _ _ _ _; rw [← hU2]; exact put11 bv2 _ _ _ _ _ _ _ _ _ _ _
  have HO2 : Hid (OwnRs U2 w.heap.size B2 k2 R2) := by show OwnRs _ _ _ _ _; rw [← hU2]; exact (ho2.mono HF1.out.size).set11 bv2 (by decide) (by decide) _ _ _ _ _ _ _ _ _ _ _
  have HF2 : Hid (Below w.heap.size w U2) := by show Below _ _ _; rw [← hU2]; exact below11 (bext HF1.out hb2) HS2.out _ _ _ _ _ _ _ _ _ _ _
  have HL2 := Lib.hid hl2
  have HN2 := Lib.hid hn2
  clear hU2 hU' hl2 ho2 hb2 hn2 bv2 HM1 HO1 lg q0 q1 q2 q3 q4 q5 q6 q7 q8 q9 q10 fr0 fr1 fr2 fr3 fr4 fr5 fr6 fr7 fr8 fr9 fr10
  have bm2 := HM2.out
  have q0 : U2.cell? ⟨g, 0, none⟩ = some (.int .u8 3) := bm2.cell 0
  have q1 : U2.cell? ⟨g, 1, none⟩ = some (.int .i64 8) := bm2.cell 1
  have q2 : U2.cell? ⟨g, 2, none⟩ = some (.int .i64 4) := bm2.cell 2
  have q3 : U2.cell? ⟨g, 3, none⟩ = some (.int .i64 16) := bm2.cell 3
  have q4 : U2.cell? ⟨g, 4, none⟩ = some (.int .i64 8) := bm2.cell 4
  have q5 : U2.cell? ⟨g, 5, none⟩ = some (.int .i64 0) := bm2.cell 5
  have q6 : U2.cell? ⟨g, 6, none⟩ = some (.int .i64 1) := bm2.cell 6
  have q7 : U2.cell? ⟨g, 7, none⟩ = some (.int .i64 4) := bm2.cell 7
  have q8 : U2.cell? ⟨g, 8, none⟩ = some (.int .i64 8) := bm2.cell 8
  have q9 : U2.cell? ⟨g, 9, none⟩ = some (.slice B2 2 k2) := bm2.cell 9
  have q10 : U2.cell? ⟨g, 10, none⟩ = some (.int .u64 4) := bm2.cell 10
  have lg := bm2.lt
  have hput := putD_any B2 R2 k2 chap 4 5 51 U2 HO2.out.runsAt (by rw [HL2.out]; decide) (by rw [HN2.out]; decide) (tab_below2 HT.out HF2.out)
  have hup := up_z chap (n := 4) u3 (show addE L2 (putY 5 51) = 0 from a3E)
  rw [HL2.out, hup.2.2.2, hup.1, hup.2.1, hup.2.2.1, show addL L2 4 (putY 5 51) = L3 from a3A.1, show addN L2 4 (putY 5 51) = 5 from a3A.2, HN2.out] at hput
  have HPUT := Lib.hid hput
  clear bm2 hput hup
  go_wp2_with fail
  refine HPUT.out.mono ?_
  rintro e v3 ⟨B3, k3, R3, rfl, hl3, ho3, hb3⟩
  have hn3 : R3.length = 2 := by rw [rs_len hl3]; rfl
  rw [hn3]
  have bv3 := HM2.out.below hb3 HM2.out.lt
  clear HPUT lg q0 q1 q2 q3 q4 q5 q6 q7 q8 q9 q10
  have q0 : v3.cell? ⟨g, 0, none⟩ = some (.int .u8 3) := bv3.cell 0
  have q1 : v3.cell? ⟨g, 1, none⟩ = some (.int .i64 8) := bv3.cell 1
  have q2 : v3.cell? ⟨g, 2, none⟩ = some (.int .i64 4) := bv3.cell 2
  have q3 : v3.cell? ⟨g, 3, none⟩ = some (.int .i64 16) := bv3.cell 3
  have q4 : v3.cell? ⟨g, 4, none⟩ = some (.int .i64 8) := bv3.cell 4
  have q5 : v3.cell? ⟨g, 5, none⟩ = some (.int .i64 0) := bv3.cell 5
  have q6 : v3.cell? ⟨g, 6, none⟩ = some (.int .i64 1) := bv3.cell 6
  have q7 : v3.cell? ⟨g, 7, none⟩ = some (.int .i64 4) := bv3.cell 7
  have q8 : v3.cell? ⟨g, 8, none⟩ = some (.int .i64 8) := bv3.cell 8
  have q9 : v3.cell? ⟨g, 9, none⟩ = some (.slice B2 2 k2) := bv3.cell 9
  have q10 : v3.cell? ⟨g, 10, none⟩ = some (.int .u64 4) := bv3.cell 10
  have fr0 := bv3.frozen 0
  have fr1 := bv3.frozen 1
  have fr2 := bv3.frozen 2
  have fr3 := bv3.frozen 3
  have fr4 := bv3.frozen 4
  have fr5 := bv3.frozen 5
  have fr6 := bv3.frozen 6
  have fr7 := bv3.frozen 7
  have fr8 := bv3.frozen 8
  have fr9 := bv3.frozen 9
  have fr10 := bv3.frozen 10
  have lg := bv3.lt
  go_upto_region 5 with fail
  obtain ⟨U3, hU3⟩ : ∃ U, (((((((((((v3.setCell ⟨g, 0, none⟩ (.int .u8 3)).setCell ⟨g, 1, none⟩ (.int .i64 8)).setCell ⟨g, 2, none⟩ (.int .i64 4)).setCell ⟨g, 3, none⟩ (.int .i64 16)).setCell ⟨g, 4, none⟩ (.int .i64 8)).setCell ⟨g, 5, none⟩ (.int .i64 0)).setCell ⟨g, 6, none⟩ (.int .i64 1)).setCell ⟨g, 7, none⟩ (.int .i64 4)).setCell ⟨g, 8, none⟩ (.int .i64 8)).setCell ⟨g, 9, none⟩ (.slice B3 2 k3)).setCell ⟨g, 10, none⟩ (.int .u64 5)) = U := ⟨_, rfl⟩
  have hU' : (((((((((((v3.setCell ⟨g, 0, none⟩ (.int .u8 chap.tag)).setCell ⟨g, 1, none⟩ (.int .i64 chap.most)).setCell ⟨g, 2, none⟩ (.int .i64 chap.seg)).setCell ⟨g, 3, none⟩ (.int .i64 chap.least)).setCell ⟨g, 4, none⟩ (.int .i64 chap.den)).setCell ⟨g, 5, none⟩ (.int .i64 chap.leafLow)).setCell ⟨g, 6, none⟩ (.int .i64 chap.rootLow)).setCell ⟨g, 7, none⟩ (.int .i64 chap.rootHigh)).setCell ⟨g, 8, none⟩ (.int .i64 chap.leafHigh)).setCell ⟨g, 9, none⟩ (.slice B3 2 k3)).setCell ⟨g, 10, none⟩ (.int .u64 5)) = U3 := hU3
  first | rw [hU3] | rw [hU']
  have HM3 : Hid (Blk U3 g 65 (lrow chap B3 2 k3 5)) := by show Blk _ _ _ _; rw [← hU3]; exact put11 bv3 _ _ _ _ _ _ _ _ _ _ _
  have HO3 : Hid (OwnRs U3 w.heap.size B3 k3 R3) := by show OwnRs _ _ _ _ _; rw [← hU3]; exact (ho3.mono HF2.out.size).set11 bv3 (by decide) (by decide) _ _ _ _ _ _ _ _ _ _ _
  have HF3 : Hid (Below w.heap.size w U3) := by show Below _ _ _; rw [← hU3]; exact below11 (bext HF2.out hb3) HS2.out _ _ _ _ _ _ _ _ _ _ _
  have HL3 := Lib.hid hl3
  have HN3 := Lib.hid hn3
  clear hU3 hU' hl3 ho3 hb3 hn3 bv3 HM2 HO2 lg q0 q1 q2 q3 q4 q5 q6 q7 q8 q9 q10 fr0 fr1 fr2 fr3 fr4 fr5 fr6 fr7 fr8 fr9 fr10
  have HY1 := Lib.hid (HO3.out.runsAt)
  have HY2 := Lib.hid ((tab_below2 HT.out HF3.out))
  have hgt := fun W hR hq => getD_any B3 R3 k3 chap 5 5 W hR (by rw [HL3.out]; decide) (by rw [HN3.out]; decide) hq
  rw [HL3.out, HN3.out, g4.1, g4.2] at hgt
  have Hhgt := Lib.hid hgt
  clear hgt
  have c3 : U3.cell? ⟨g, 0, none⟩ = some (.int .u8 3) := HM3.out.cell 0
  have c4 : U3.cell? ⟨g, 1, none⟩ = some (.int .i64 8) := HM3.out.cell 1
  have c5 : U3.cell? ⟨g, 2, none⟩ = some (.int .i64 4) := HM3.out.cell 2
  have c6 : U3.cell? ⟨g, 3, none⟩ = some (.int .i64 16) := HM3.out.cell 3
  have c7 : U3.cell? ⟨g, 4, none⟩ = some (.int .i64 8) := HM3.out.cell 4
  have c8 : U3.cell? ⟨g, 5, none⟩ = some (.int .i64 0) := HM3.out.cell 5
  have c9 : U3.cell? ⟨g, 6, none⟩ = some (.int .i64 1) := HM3.out.cell 6
  have c10 : U3.cell? ⟨g, 7, none⟩ = some (.int .i64 4) := HM3.out.cell 7
  have c11 : U3.cell? ⟨g, 8, none⟩ = some (.int .i64 8) := HM3.out.cell 8
  have c12 : U3.cell? ⟨g, 9, none⟩ = some (.slice B3 2 k3) := HM3.out.cell 9
  have c13 : U3.cell? ⟨g, 10, none⟩ = some (.int .u64 5) := HM3.out.cell 10
  have l14 : g < U3.heap.size := HM3.out.lt
  go_wp2_with fail
  clear c3 c4 c5 c6 c7 c8 c9 c10 c11 c12 c13 l14
  refine (Hhgt.out _ HY1.out HY2.out).mono ?_
  rintro e w15 ⟨rfl, hb16⟩
  have HF17 := Lib.hid (bext HF3.out hb16)
  have HX18 := Lib.hid (HM3.out.below hb16 HM3.out.lt)
  have HY19 := Lib.hid (RunsAt.below HY1.out hb16)
  have HY20 := Lib.hid (tab_below2 HY2.out hb16)
  clear HF3 HM3 HY1 HY2
  clear hb16
  have hnx : ∀ W, RunsAt W B3 R3 → TabAt 1 Lib.deBruijn64tab W → Calls Tryd.prog 37 #[.agg (lrow chap B3 2 k3 5), .int .i64 6] W fun r w' => r = .returned (.tuple #[.agg #[.int .i64 9, .int .i64 90], .int .i64 0]) ∧ Below W.heap.size W w' := by
    intro W hR hq
    have h := nextD_any B3 R3 k3 chap 5 6 W hR (by rw [HL3.out]; decide) (by rw [HN3.out]; decide) (by rw [HL3.out]; decide) hq
    rw [HL3.out, HN3.out, e3e, nx6] at h
    exact h
  have Hhnx := Lib.hid hnx
  clear hnx
  have c21 : w15.cell? ⟨g, 0, none⟩ = some (.int .u8 3) := HX18.out.cell 0
  have c22 : w15.cell? ⟨g, 1, none⟩ = some (.int .i64 8) := HX18.out.cell 1
  have c23 : w15.cell? ⟨g, 2, none⟩ = some (.int .i64 4) := HX18.out.cell 2
  have c24 : w15.cell? ⟨g, 3, none⟩ = some (.int .i64 16) := HX18.out.cell 3
  have c25 : w15.cell? ⟨g, 4, none⟩ = some (.int .i64 8) := HX18.out.cell 4
  have c26 : w15.cell? ⟨g, 5, none⟩ = some (.int .i64 0) := HX18.out.cell 5
  have c27 : w15.cell? ⟨g, 6, none⟩ = some (.int .i64 1) := HX18.out.cell 6
  have c28 : w15.cell? ⟨g, 7, none⟩ = some (.int .i64 4) := HX18.out.cell 7
  have c29 : w15.cell? ⟨g, 8, none⟩ = some (.int .i64 8) := HX18.out.cell 8
  have c30 : w15.cell? ⟨g, 9, none⟩ = some (.slice B3 2 k3) := HX18.out.cell 9
  have c31 : w15.cell? ⟨g, 10, none⟩ = some (.int .u64 5) := HX18.out.cell 10
  have l32 : g < w15.heap.size := HX18.out.lt
  go_wp2_with fail
  clear c21 c22 c23 c24 c25 c26 c27 c28 c29 c30 c31 l32
  refine (Hhnx.out _ HY19.out HY20.out).mono ?_
  rintro e w33 ⟨rfl, hb34⟩
  have HF35 := Lib.hid (bext HF17.out hb34)
  have HX36 := Lib.hid (HX18.out.below hb34 HX18.out.lt)
  have HY37 := Lib.hid (RunsAt.below HY19.out hb34)
  have HY38 := Lib.hid (tab_below2 HY20.out hb34)
  clear HF17 HX18 HY19 HY20
  clear hb34
  go_upto_region 7 with fail
  obtain ⟨U39, h41⟩ : ∃ U, w33.alloc (.cells #[.int .i64 9, .int .i64 90] 56) = U := ⟨_, rfl⟩
  have ba42 : Below w33.heap.size w33 U39 := by rw [← h41]; exact (Below.refl _ _).alloc (Nat.le_refl _) _
  have bn43 : Blk U39 w33.heap.size 56 #[.int .i64 9, .int .i64 90] := by rw [← h41]; exact Blk.new _ _ _
  try rw [h41]
  have HF44 := Lib.hid (bext HF35.out ba42)
  have HX45 := Lib.hid (HX36.out.below ba42 HX36.out.lt)
  have HY46 := Lib.hid (RunsAt.below HY37.out ba42)
  have HY47 := Lib.hid (tab_below2 HY38.out ba42)
  clear HF35 HX36 HY37 HY38
  obtain ⟨g40, h48⟩ : ∃ g, w33.heap.size = g := ⟨_, rfl⟩
  rw [h48] at bn43
  try rw [h48]
  have HX49 := Lib.hid bn43
  clear h41 ba42 bn43 h48
  have hls : ∀ W, RunsAt W B3 R3 → TabAt 1 Lib.deBruijn64tab W → Calls Tryd.prog 38 #[.agg (lrow chap B3 2 k3 5), .int .i64 9] W fun r w' => r = .returned (.tuple #[.agg #[.int .i64 5, .int .i64 51], .int .i64 0]) ∧ Below W.heap.size W w' := by
    intro W hR hq
    have h := lastD_any B3 R3 k3 chap 5 9 W hR (by rw [HL3.out]; decide) (by rw [HN3.out]; decide) hq
    rw [HL3.out, HN3.out, e3e, ls9] at h
    exact h
  have Hhls := Lib.hid hls
  clear hls
  have c50 : U39.cell? ⟨g, 0, none⟩ = some (.int .u8 3) := HX45.out.cell 0
  have c51 : U39.cell? ⟨g, 1, none⟩ = some (.int .i64 8) := HX45.out.cell 1
  have c52 : U39.cell? ⟨g, 2, none⟩ = some (.int .i64 4) := HX45.out.cell 2
  have c53 : U39.cell? ⟨g, 3, none⟩ = some (.int .i64 16) := HX45.out.cell 3
  have c54 : U39.cell? ⟨g, 4, none⟩ = some (.int .i64 8) := HX45.out.cell 4
  have c55 : U39.cell? ⟨g, 5, none⟩ = some (.int .i64 0) := HX45.out.cell 5
  have c56 : U39.cell? ⟨g, 6, none⟩ = some (.int .i64 1) := HX45.out.cell 6
  have c57 : U39.cell? ⟨g, 7, none⟩ = some (.int .i64 4) := HX45.out.cell 7
  have c58 : U39.cell? ⟨g, 8, none⟩ = some (.int .i64 8) := HX45.out.cell 8
  have c59 : U39.cell? ⟨g, 9, none⟩ = some (.slice B3 2 k3) := HX45.out.cell 9
  have c60 : U39.cell? ⟨g, 10, none⟩ = some (.int .u64 5) := HX45.out.cell 10
  have l61 : g < U39.heap.size := HX45.out.lt
  go_wp2_with fail
  clear c50 c51 c52 c53 c54 c55 c56 c57 c58 c59 c60 l61
  refine (Hhls.out _ HY46.out HY47.out).mono ?_
  rintro e w62 ⟨rfl, hb63⟩
  have HF64 := Lib.hid (bext HF44.out hb63)
  have HX65 := Lib.hid (HX45.out.below hb63 HX45.out.lt)
  have HX66 := Lib.hid (HX49.out.below hb63 HX49.out.lt)
  have HY67 := Lib.hid (RunsAt.below HY46.out hb63)
  have HY68 := Lib.hid (tab_below2 HY47.out hb63)
  clear HF44 HX45 HX49 HY46 HY47
  clear hb63
  go_upto_region 8 with fail
  obtain ⟨U69, h71⟩ : ∃ U, w62.alloc (.cells #[.int .i64 5, .int .i64 51] 56) = U := ⟨_, rfl⟩
  have ba72 : Below w62.heap.size w62 U69 := by rw [← h71]; exact (Below.refl _ _).alloc (Nat.le_refl _) _
  have bn73 : Blk U69 w62.heap.size 56 #[.int .i64 5, .int .i64 51] := by rw [← h71]; exact Blk.new _ _ _
  try rw [h71]
  have HF74 := Lib.hid (bext HF64.out ba72)
  have HX75 := Lib.hid (HX65.out.below ba72 HX65.out.lt)
  have HX76 := Lib.hid (HX66.out.below ba72 HX66.out.lt)
  have HY77 := Lib.hid (RunsAt.below HY67.out ba72)
  have HY78 := Lib.hid (tab_below2 HY68.out ba72)
  clear HF64 HX65 HX66 HY67 HY68
  obtain ⟨g70, h79⟩ : ∃ g, w62.heap.size = g := ⟨_, rfl⟩
  rw [h79] at bn73
  try rw [h79]
  have HX80 := Lib.hid bn73
  clear h71 ba72 bn73 h79
  have hdl := fun W hR hq => delD_any B3 R3 k3 chap 5 5 W hR (by rw [HL3.out]; decide) (by rw [HN3.out]; decide) hq
  have hup := up_z chap (n := 5) g4.1 (show addE L3 (delY 5) = 0 from a4E)
  rw [HL3.out, hup.2.2.2, hup.1, hup.2.1, hup.2.2.1, show addL L3 5 (delY 5) = L4 from a4A.1, show addN L3 5 (delY 5) = 7 from a4A.2, HN3.out] at hdl
  clear hup
  have Hhdl := Lib.hid hdl
  clear hdl
  have c81 : U69.cell? ⟨g, 0, none⟩ = some (.int .u8 3) := HX75.out.cell 0
  have c82 : U69.cell? ⟨g, 1, none⟩ = some (.int .i64 8) := HX75.out.cell 1
  have c83 : U69.cell? ⟨g, 2, none⟩ = some (.int .i64 4) := HX75.out.cell 2
  have c84 : U69.cell? ⟨g, 3, none⟩ = some (.int .i64 16) := HX75.out.cell 3
  have c85 : U69.cell? ⟨g, 4, none⟩ = some (.int .i64 8) := HX75.out.cell 4
  have c86 : U69.cell? ⟨g, 5, none⟩ = some (.int .i64 0) := HX75.out.cell 5
  have c87 : U69.cell? ⟨g, 6, none⟩ = some (.int .i64 1) := HX75.out.cell 6
  have c88 : U69.cell? ⟨g, 7, none⟩ = some (.int .i64 4) := HX75.out.cell 7
  have c89 : U69.cell? ⟨g, 8, none⟩ = some (.int .i64 8) := HX75.out.cell 8
  have c90 : U69.cell? ⟨g, 9, none⟩ = some (.slice B3 2 k3) := HX75.out.cell 9
  have c91 : U69.cell? ⟨g, 10, none⟩ = some (.int .u64 5) := HX75.out.cell 10
  have l92 : g < U69.heap.size := HX75.out.lt
  go_wp2_with fail
  clear c81 c82 c83 c84 c85 c86 c87 c88 c89 c90 c91 l92
  refine (Hhdl.out _ HY77.out HY78.out).mono ?_
  rintro e w93 ⟨B4, k4, R4, rfl, hl4, ho4, hb94⟩
  have hn4 : R4.length = 2 := by rw [rs_len hl4]; rfl
  rw [hn4]
  have HL4 := Lib.hid hl4
  have HN4 := Lib.hid hn4
  have hr4 := ho4.runsAt
  clear hl4 ho4 hn4
  have HF95 := Lib.hid (bext HF74.out hb94)
  have HX96 := Lib.hid (HX75.out.below hb94 HX75.out.lt)
  have HX97 := Lib.hid (HX76.out.below hb94 HX76.out.lt)
  have HX98 := Lib.hid (HX80.out.below hb94 HX80.out.lt)
  have HY99 := Lib.hid (RunsAt.below HY77.out hb94)
  have HY100 := Lib.hid (tab_below2 HY78.out hb94)
  clear HF74 HX75 HX76 HX80 HY77 HY78
  clear hb94
  have HY101 := Lib.hid (hr4)
  clear hr4
  go_upto_region 9 with fail
  obtain ⟨UX, hUX⟩ : ∃ U, w93.alloc (.cells #[.int .u8 3, .int .i64 8, .int .i64 4, .int .i64 16, .int .i64 8, .int .i64 0, .int .i64 1, .int .i64 4, .int .i64 8, .slice B4 2 k4, .int .u64 7] 65) = U := ⟨_, rfl⟩
  have hUX' : w93.alloc (.cells #[.int .u8 chap.tag, .int .i64 chap.most, .int .i64 chap.seg, .int .i64 chap.least, .int .i64 chap.den, .int .i64 chap.leafLow, .int .i64 chap.rootLow, .int .i64 chap.rootHigh, .int .i64 chap.leafHigh, .slice B4 2 k4, .int .u64 7] 65) = UX := hUX
  have hax : Below w93.heap.size w93 UX := by rw [← hUX]; exact (Below.refl _ _).alloc (Nat.le_refl _) _
  have bxx : Blk UX w93.heap.size 65 #[.int .u8 3, .int .i64 8, .int .i64 4, .int .i64 16, .int .i64 8, .int .i64 0, .int .i64 1, .int .i64 4, .int .i64 8, .slice B4 2 k4, .int .u64 7] := by rw [← hUX]; exact Blk.new _ _ _
  first | rw [hUX] | rw [hUX']
  have HF102 := Lib.hid (bext HF95.out hax)
  have HX103 := Lib.hid (HX96.out.below hax HX96.out.lt)
  have HX104 := Lib.hid (HX97.out.below hax HX97.out.lt)
  have HX105 := Lib.hid (HX98.out.below hax HX98.out.lt)
  have HY106 := Lib.hid (RunsAt.below HY99.out hax)
  have HY107 := Lib.hid (tab_below2 HY100.out hax)
  have HY108 := Lib.hid (RunsAt.below HY101.out hax)
  clear HF95 HX96 HX97 HX98 HY99 HY100 HY101
  obtain ⟨gx, hgx⟩ : ∃ g, w93.heap.size = g := ⟨_, rfl⟩
  rw [hgx] at bxx
  try rw [hgx]
  have HXX := Lib.hid bxx
  clear hUX hUX' hax bxx hgx
  have c109 : UX.cell? ⟨g40, 0, none⟩ = some (.int .i64 9) := HX104.out.cell 0
  have c110 : UX.cell? ⟨g40, 1, none⟩ = some (.int .i64 90) := HX104.out.cell 1
  have l111 : g40 < UX.heap.size := HX104.out.lt
  go_wp2_with fail
  clear c109 c110 l111
  refine (is27_yes ⟨9, 90⟩ _).mono ?_
  rintro e w112 ⟨rfl, hb113⟩
  have HF114 := Lib.hid (bext HF102.out hb113)
  have HX115 := Lib.hid (HX103.out.below hb113 HX103.out.lt)
  have HX116 := Lib.hid (HX104.out.below hb113 HX104.out.lt)
  have HX117 := Lib.hid (HX105.out.below hb113 HX105.out.lt)
  have HX118 := Lib.hid (HXX.out.below hb113 HXX.out.lt)
  have HY119 := Lib.hid (RunsAt.below HY106.out hb113)
  have HY120 := Lib.hid (tab_below2 HY107.out hb113)
  have HY121 := Lib.hid (RunsAt.below HY108.out hb113)
  clear HF102 HX103 HX104 HX105 HXX HY106 HY107 HY108
  clear hb113
  have c122 : w112.cell? ⟨g70, 0, none⟩ = some (.int .i64 5) := HX117.out.cell 0
  have c123 : w112.cell? ⟨g70, 1, none⟩ = some (.int .i64 51) := HX117.out.cell 1
  have l124 : g70 < w112.heap.size := HX117.out.lt
  go_wp2_with fail
  clear c122 c123 l124
  refine (is27_yes ⟨5, 51⟩ _).mono ?_
  rintro e w125 ⟨rfl, hb126⟩
  have HF127 := Lib.hid (bext HF114.out hb126)
  have HX128 := Lib.hid (HX115.out.below hb126 HX115.out.lt)
  have HX129 := Lib.hid (HX116.out.below hb126 HX116.out.lt)
  have HX130 := Lib.hid (HX117.out.below hb126 HX117.out.lt)
  have HX131 := Lib.hid (HX118.out.below hb126 HX118.out.lt)
  have HY132 := Lib.hid (RunsAt.below HY119.out hb126)
  have HY133 := Lib.hid (tab_below2 HY120.out hb126)
  have HY134 := Lib.hid (RunsAt.below HY121.out hb126)
  clear HF114 HX115 HX116 HX117 HX118 HY119 HY120 HY121
  clear hb126
  have c135 : w125.cell? ⟨gx, 0, none⟩ = some (.int .u8 3) := HX131.out.cell 0
  have c136 : w125.cell? ⟨gx, 1, none⟩ = some (.int .i64 8) := HX131.out.cell 1
  have c137 : w125.cell? ⟨gx, 2, none⟩ = some (.int .i64 4) := HX131.out.cell 2
  have c138 : w125.cell? ⟨gx, 3, none⟩ = some (.int .i64 16) := HX131.out.cell 3
  have c139 : w125.cell? ⟨gx, 4, none⟩ = some (.int .i64 8) := HX131.out.cell 4
  have c140 : w125.cell? ⟨gx, 5, none⟩ = some (.int .i64 0) := HX131.out.cell 5
  have c141 : w125.cell? ⟨gx, 6, none⟩ = some (.int .i64 1) := HX131.out.cell 6
  have c142 : w125.cell? ⟨gx, 7, none⟩ = some (.int .i64 4) := HX131.out.cell 7
  have c143 : w125.cell? ⟨gx, 8, none⟩ = some (.int .i64 8) := HX131.out.cell 8
  have c144 : w125.cell? ⟨gx, 9, none⟩ = some (.slice B4 2 k4) := HX131.out.cell 9
  have c145 : w125.cell? ⟨gx, 10, none⟩ = some (.int .u64 7) := HX131.out.cell 10
  have l146 : gx < w125.heap.size := HX131.out.lt
  go_wp2_with fail
  clear c135 c136 c137 c138 c139 c140 c141 c142 c143 c144 c145 l146
  obtain ⟨U147, h148⟩ : ∃ U, w125.alloc (.cells #[.int .i64 9, .int .i64 90] 56) = U := ⟨_, rfl⟩
  have ba149 : Below w125.heap.size w125 U147 := by rw [← h148]; exact (Below.refl _ _).alloc (Nat.le_refl _) _
  have sl150 : Sl U147 (some ⟨w125.heap.size, 0, none⟩) (([⟨9, 90⟩] : List Pr).flatMap Pr.cells) := by rw [← h148]; exact sl_new1 _ _ _
  try rw [h148]
  have HF153 := Lib.hid (bext HF127.out ba149)
  have HX154 := Lib.hid (HX128.out.below ba149 HX128.out.lt)
  have HX155 := Lib.hid (HX129.out.below ba149 HX129.out.lt)
  have HX156 := Lib.hid (HX130.out.below ba149 HX130.out.lt)
  have HX157 := Lib.hid (HX131.out.below ba149 HX131.out.lt)
  have HY158 := Lib.hid (RunsAt.below HY132.out ba149)
  have HY159 := Lib.hid (tab_below2 HY133.out ba149)
  have HY160 := Lib.hid (RunsAt.below HY134.out ba149)
  clear HF127 HX128 HX129 HX130 HX131 HY132 HY133 HY134
  obtain ⟨g151, h152⟩ : ∃ g, w125.heap.size = g := ⟨_, rfl⟩
  rw [h152] at sl150
  try rw [h152]
  have HY161 := Lib.hid (sl150)
  clear h148 ba149 sl150 h152
  have hhs := has27_yes B4 (some ⟨g151, 0, none⟩) R4 k4 1 chap 7 [⟨9, 90⟩] _ HY160.out (by rw [HL4.out]; decide) (by rw [HN4.out]; decide) HY161.out (by decide) (by rw [HL4.out]; exact e4e) (by rw [HL4.out]; exact pr4)
  rw [HN4.out] at hhs
  have HHS := Lib.hid hhs
  clear hhs
  refine (HHS.out).mono ?_
  rintro e w162 ⟨rfl, hb163⟩
  have HF164 := Lib.hid (bext HF153.out hb163)
  have HX165 := Lib.hid (HX154.out.below hb163 HX154.out.lt)
  have HX166 := Lib.hid (HX155.out.below hb163 HX155.out.lt)
  have HX167 := Lib.hid (HX156.out.below hb163 HX156.out.lt)
  have HX168 := Lib.hid (HX157.out.below hb163 HX157.out.lt)
  have HY169 := Lib.hid (RunsAt.below HY158.out hb163)
  have HY170 := Lib.hid (tab_below2 HY159.out hb163)
  have HY171 := Lib.hid (RunsAt.below HY160.out hb163)
  have HY172 := Lib.hid (HY161.out.below hb163)
  clear HF153 HX154 HX155 HX156 HX157 HY158 HY159 HY160 HY161
  clear hb163
  go_wp2_with fail
  go_ret
  refine ⟨?_, HF164.out⟩
  rfl
end Go.Proofs.YthbppblmecdekaaDoor

/- Plain facts for the law LadderGets. No program in sight. -/
namespace Go.Proofs.YthbppblmecdekaaDoor
open Go
theorem len_sub : ∀ {a b : List Int}, a.Nodup → (∀ x ∈ a, x ∈ b) → a.length ≤ b.length
  | [], _, _, _ => Nat.zero_le _
  | x :: a, b, hn, h => by
    have hx := h x List.mem_cons_self
    have h2 := List.nodup_cons.1 hn
    have h3 := len_sub (a := a) (b := b.erase x) h2.2 fun y hy => (List.mem_erase_of_ne (fun e => h2.1 (by rw [← e]; exact hy))).2 (h y (List.mem_cons_of_mem _ hy))
    rw [List.length_erase_of_mem hx] at h3
    have h4 := List.length_pos_of_mem hx
    simp only [List.length_cons]
    omega
theorem key_in {L : Lv} (hM : May L) (k : Int) : k ∈ (allL L).map Ent.key ↔ isB L k = true := by
  have hl := allL_look hM.mE k
  rw [lv_is (chkR_zero.2 hM)] at hl
  constructor
  · intro hm
    obtain ⟨e, he, hk⟩ := List.mem_map.1 hm
    have h5 := look_mem (allL_ris hM) he
    rw [hk, hl] at h5
    by_cases hb : isB L k = true
    · exact hb
    · rw [if_neg hb] at h5; cases h5
  · intro hb
    rw [if_pos hb] at hl
    obtain ⟨h5, h6⟩ := look_key hl
    exact List.mem_map.2 ⟨_, h6, h5⟩
theorem keys_nodup {L : Lv} (hM : May L) : ((allL L).map Ent.key).Nodup := by
  have h := allL_ris hM
  unfold RisE at h
  unfold List.Nodup
  rw [List.pairwise_map]
  exact h.imp fun h => by omega
theorem add_keys {L : Lv} {n : Int} {y : Ent} (ha : addE L y = 0) : (allL (addL L n y)).length ≤ (allL L).length + (if y.dead = true ∨ isB L y.key = true then 0 else 1) := by
  have hM := (addE_zero.1 ha).1
  have hM' := (add_may ha n).1
  have hk : ∀ k, k ≠ y.key → isB L k = isB (addL L n y) k := fun k => (adds_ok ha n k).alike
  have hn := keys_nodup hM'
  by_cases h : y.dead = true ∨ isB L y.key = true
  · rw [if_pos h]
    have := len_sub (b := (allL L).map Ent.key) hn fun x hx => by
      have hx' := (key_in hM' x).1 hx
      refine (key_in hM x).2 ?_
      by_cases hxy : x = y.key
      · subst hxy
        rcases h with h | h
        · unfold isB at hx'
          simp at hx'
          have := (adds_ok ha n y.key).went h hx'.1
          rw [this] at hx'
          exact absurd hx'.2 (by simp)
        · exact h
      · rw [hk x hxy]; exact hx'
    simpa using this
  · rw [if_neg h]
    have := len_sub (b := y.key :: (allL L).map Ent.key) hn fun x hx => by
      have hx' := (key_in hM' x).1 hx
      by_cases hxy : x = y.key
      · subst hxy; exact List.mem_cons_self
      · exact List.mem_cons_of_mem _ ((key_in hM x).2 (by rw [hk x hxy]; exact hx'))
    simpa using this
theorem isB_ve {c : Cfg} {L : Lv} {k : Int} (h : errL c L = 0) : veD c L k = 0 ↔ isB L k = true := by
  unfold veD
  rw [if_pos h]
  by_cases hb : isB L k = true
  · rw [if_pos hb]; simp [hb]
  · rw [if_neg hb]; simp [hb]
theorem ve_two {c : Cfg} {L : Lv} {k : Int} (h : errL c L = 0) : veD c L k = 0 ∨ veD c L k = 6 := by
  unfold veD
  rw [if_pos h]
  split <;> simp
theorem ve_same {c : Cfg} {L L' : Lv} {k : Int} (h : errL c L = 0) (h' : errL c L' = 0) (hb : isB L k = isB L' k) (hs : isB L k = true → gxR L k = gxR L' k) : veD c L' k = veD c L k ∧ vlD c L' k = vlD c L k := by
  unfold veD vlD
  rw [if_pos h, if_pos h', ← hb]
  refine ⟨rfl, ?_⟩
  by_cases hi : isB L k = true
  · rw [if_pos ⟨h', hi⟩, if_pos ⟨h, hi⟩, hs hi]
  · rw [if_neg (fun x => hi x.2), if_neg (fun x => hi x.2)]
structure Gets (c : Cfg) (L L' : Lv) (key other ve vl : Int) : Prop where
  err : errL c L' = 0
  e : veD c L' key = ve
  v : ve = 0 → vlD c L' key = vl
  le : tot L' ≤ 65536
  ln : L'.length ≤ 17
  same : other ≠ key → veD c L' other = veD c L other ∧ vlD c L' other = vlD c L other
theorem up_zero {e0 : Int} {L : Lv} {y : Ent} (h : upE e0 L y = 0) (n : Int) : e0 = 0 ∧ addE L y = 0 ∧ upL e0 L n y = addL L n y := by
  unfold upE at h
  by_cases h0 : e0 = 0
  · rw [if_pos h0] at h
    exact ⟨h0, h, by unfold upL; rw [if_pos h0]⟩
  · rw [if_neg h0] at h; exact absurd h h0
theorem put_gets {c : Cfg} {L : Lv} {n key val : Int} (other : Int) (he : errL c L = 0) (hg : upE (putE0 c L key) L (putY key val) = 0) : Gets c L (upL (putE0 c L key) L n (putY key val)) key other 0 val := by
  obtain ⟨h0, ha, hL⟩ := up_zero hg n
  rw [hL]
  obtain ⟨hC, hR, hm, _⟩ := errL_zero he
  rw [prR_len hR] at hm
  have hlen : ((allL (addL L n (putY key val))).length : Int) ≤ c.most := by
    have hk := add_keys (n := n) ha
    by_cases hb : isB L key = true
    · rw [if_pos (show (putY key val).dead = true ∨ isB L (putY key val).key = true from Or.inr hb)] at hk
      omega
    · rw [if_neg (show ¬ ((putY key val).dead = true ∨ isB L (putY key val).key = true) from fun h => h.elim (fun h => by cases h) hb)] at hk
      have hv : veD c L key = 6 := by
        rcases ve_two (k := key) he with h | h
        · exact absurd ((isB_ve he).1 h) hb
        · exact h
      unfold putE0 at h0
      rw [if_pos hv, prR_len hR] at h0
      by_cases hq : ((allL L).length : Int) = c.most
      · rw [if_pos hq] at h0; cases h0
      · omega
  have hE := errL_ok hC (add_may ha n).1 hlen (add_may ha n).2.1
  have hA := adds_ok ha n other
  have hd := hA.had rfl
  have hb : isB (addL L n (putY key val)) key = true := by
    unfold isB
    rw [show geR (addL L n (putY key val)) key = 0 from hd.1, show gxR (addL L n (putY key val)) key = putY key val from hd.2]
    rfl
  refine ⟨hE, (isB_ve hE).2 hb, fun _ => ?_, (add_may ha n).1.size, (add_may ha n).1.len, fun hne => ve_same he hE (hA.alike hne) (hA.same hne)⟩
  unfold vlD
  rw [if_pos ⟨hE, hb⟩, show gxR (addL L n (putY key val)) key = putY key val from hd.2]
  rfl
theorem del_gets {c : Cfg} {L : Lv} {n key : Int} (other vl : Int) (he : errL c L = 0) (hg : upE (veD c L key) L (delY key) = 0) : Gets c L (upL (veD c L key) L n (delY key)) key other 6 vl := by
  obtain ⟨h0, ha, hL⟩ := up_zero hg n
  rw [hL]
  obtain ⟨hC, hR, hm, _⟩ := errL_zero he
  rw [prR_len hR] at hm
  have hlen : ((allL (addL L n (delY key))).length : Int) ≤ c.most := by
    have hk := add_keys (n := n) ha
    rw [if_pos (show (delY key).dead = true ∨ isB L (delY key).key = true from Or.inl rfl)] at hk
    omega
  have hE := errL_ok hC (add_may ha n).1 hlen (add_may ha n).2.1
  have hA := adds_ok ha n other
  have hb : ¬ isB (addL L n (delY key)) key = true := by
    intro hb
    unfold isB at hb
    simp at hb
    have := hA.went rfl hb.1
    rw [show gxR (addL L n (delY key)) (delY key).key = gxR (addL L n (delY key)) key from rfl, hb.2] at this
    cases this
  refine ⟨hE, ?_, fun h => absurd h (by decide), (add_may ha n).1.size, (add_may ha n).1.len, fun hne => ve_same he hE (hA.alike hne) (hA.same hne)⟩
  rcases ve_two (k := key) hE with h | h
  · exact absurd ((isB_ve hE).1 h) hb
  · exact h
theorem up_add {e0 : Int} {L : Lv} {y : Ent} (hR : chkR L = 0) (ht : tot L ≤ 300) (hy : badEnt y = false) : upE e0 L y = e0 := by
  unfold upE
  by_cases h : e0 = 0
  · rw [if_pos h, h]
    exact addE_zero.2 ⟨chkR_zero.1 hR, by omega, hy⟩
  · rw [if_neg h]
theorem put_iff {c : Cfg} {L : Lv} {key val : Int} (he : errL c L = 0) (ht : tot L ≤ 300) : (upE (putE0 c L key) L (putY key val) = 0) ↔ (veD c L key = 0 ∨ ((prD c L).length : Int) < c.most) := by
  obtain ⟨hC, hR, hm, _⟩ := errL_zero he
  rw [up_add hR ht (by rfl)]
  unfold prD putE0
  rw [if_pos he]
  rcases ve_two (k := key) he with h | h
  · rw [h]; simp
  · rw [h, if_pos rfl]
    by_cases hq : ((prR L).length : Int) = c.most
    · rw [if_pos hq]; simp; omega
    · rw [if_neg hq]; simp; omega
theorem del_iff {c : Cfg} {L : Lv} {key : Int} (he : errL c L = 0) (ht : tot L ≤ 300) : upE (veD c L key) L (delY key) = veD c L key :=
  up_add (errL_zero he).2.1 ht (by rfl)
theorem errL_vals (c : Cfg) (L : Lv) : errL c L = 0 ∨ errL c L = 8 ∨ errL c L = 50 := by
  unfold errL
  rcases errC_vals c with h | h
  · rw [if_pos h]; split <;> simp
  · rw [h]; simp
theorem bad_all {c : Cfg} {L : Lv} (he : errL c L ≠ 0) (k key val : Int) : veD c L k = errL c L ∧ upE (putE0 c L key) L (putY key val) = errL c L ∧ upE (veD c L key) L (delY key) = errL c L := by
  have hv : ∀ k, veD c L k = errL c L := fun k => by unfold veD; rw [if_neg he]
  have h6 : errL c L ≠ 6 := by rcases errL_vals c L with h | h | h <;> rw [h] <;> decide
  refine ⟨hv k, ?_, ?_⟩
  · unfold upE putE0
    rw [hv key, if_neg h6, if_neg he]
  · unfold upE
    rw [hv key, if_neg he]
end Go.Proofs.YthbppblmecdekaaDoor

/- Ladders read as data. -/
namespace Go.Proofs.YthbppblmecdekaaDoor
open Go Go.ChangeShapes Go.WideShapes Go.ChangeAt Go.RowKit
set_option maxRecDepth 100000

theorem dec_cfg {H : Type} {enc : TypeId × Value → H} {w : World} (fuel : Nat) (cs : List Value) (y : DataW H × List MemPlace) (h : DataW.trod enc Tryd.prog w 0 (fun _ => true) true fuel 63 cs = some y) :
    ∃ c : Cfg, cs = c.row.toList := by
  obtain ⟨xs, n, _, _, hlen, hxl, hg⟩ := DataW.trod_struct Tryd.underlying63 h
  rw [show Tryd.prog.cellsOf 63 = 9 from by kernel_rfl] at hlen
  match cs, hlen with
  | [c0, c1, c2, c3, c4, c5, c6, c7, c8], _ =>
    match xs, hxl with
    | [x0, x1, x2, x3, x4, x5, x6, x7, x8], _ =>
      have h0 : DataW.trod enc Tryd.prog w 0 (fun _ => true) true n 5 (List.take (Tryd.prog.cellsOf 5) (List.drop 0 [c0, c1, c2, c3, c4, c5, c6, c7, c8])) = some x0 := hg 0 _ rfl
      rw [show Tryd.prog.cellsOf 5 = 1 from by kernel_rfl] at h0
      obtain ⟨n0, e0, _, _⟩ := DataW.trod_int Tryd.underlying5 h0
      have h1 : DataW.trod enc Tryd.prog w 0 (fun _ => true) true n 3 (List.take (Tryd.prog.cellsOf 3) (List.drop 1 [c0, c1, c2, c3, c4, c5, c6, c7, c8])) = some x1 := hg 1 _ rfl
      rw [show Tryd.prog.cellsOf 3 = 1 from by kernel_rfl] at h1
      obtain ⟨n1, e1, _, _⟩ := DataW.trod_int Tryd.underlying3 h1
      have h2 : DataW.trod enc Tryd.prog w 0 (fun _ => true) true n 3 (List.take (Tryd.prog.cellsOf 3) (List.drop 2 [c0, c1, c2, c3, c4, c5, c6, c7, c8])) = some x2 := hg 2 _ rfl
      rw [show Tryd.prog.cellsOf 3 = 1 from by kernel_rfl] at h2
      obtain ⟨n2, e2, _, _⟩ := DataW.trod_int Tryd.underlying3 h2
      have h3 : DataW.trod enc Tryd.prog w 0 (fun _ => true) true n 3 (List.take (Tryd.prog.cellsOf 3) (List.drop 3 [c0, c1, c2, c3, c4, c5, c6, c7, c8])) = some x3 := hg 3 _ rfl
      rw [show Tryd.prog.cellsOf 3 = 1 from by kernel_rfl] at h3
      obtain ⟨n3, e3, _, _⟩ := DataW.trod_int Tryd.underlying3 h3
      have h4 : DataW.trod enc Tryd.prog w 0 (fun _ => true) true n 3 (List.take (Tryd.prog.cellsOf 3) (List.drop 4 [c0, c1, c2, c3, c4, c5, c6, c7, c8])) = some x4 := hg 4 _ rfl
      rw [show Tryd.prog.cellsOf 3 = 1 from by kernel_rfl] at h4
      obtain ⟨n4, e4, _, _⟩ := DataW.trod_int Tryd.underlying3 h4
      have h5 : DataW.trod enc Tryd.prog w 0 (fun _ => true) true n 3 (List.take (Tryd.prog.cellsOf 3) (List.drop 5 [c0, c1, c2, c3, c4, c5, c6, c7, c8])) = some x5 := hg 5 _ rfl
      rw [show Tryd.prog.cellsOf 3 = 1 from by kernel_rfl] at h5
      obtain ⟨n5, e5, _, _⟩ := DataW.trod_int Tryd.underlying3 h5
      have h6 : DataW.trod enc Tryd.prog w 0 (fun _ => true) true n 3 (List.take (Tryd.prog.cellsOf 3) (List.drop 6 [c0, c1, c2, c3, c4, c5, c6, c7, c8])) = some x6 := hg 6 _ rfl
      rw [show Tryd.prog.cellsOf 3 = 1 from by kernel_rfl] at h6
      obtain ⟨n6, e6, _, _⟩ := DataW.trod_int Tryd.underlying3 h6
      have h7 : DataW.trod enc Tryd.prog w 0 (fun _ => true) true n 3 (List.take (Tryd.prog.cellsOf 3) (List.drop 7 [c0, c1, c2, c3, c4, c5, c6, c7, c8])) = some x7 := hg 7 _ rfl
      rw [show Tryd.prog.cellsOf 3 = 1 from by kernel_rfl] at h7
      obtain ⟨n7, e7, _, _⟩ := DataW.trod_int Tryd.underlying3 h7
      have h8 : DataW.trod enc Tryd.prog w 0 (fun _ => true) true n 3 (List.take (Tryd.prog.cellsOf 3) (List.drop 8 [c0, c1, c2, c3, c4, c5, c6, c7, c8])) = some x8 := hg 8 _ rfl
      rw [show Tryd.prog.cellsOf 3 = 1 from by kernel_rfl] at h8
      obtain ⟨n8, e8, _, _⟩ := DataW.trod_int Tryd.underlying3 h8
      simp at e0 e1 e2 e3 e4 e5 e6 e7 e8
      subst e0 e1 e2 e3 e4 e5 e6 e7 e8
      exact ⟨⟨n0, n1, n2, n3, n4, n5, n6, n7, n8⟩, rfl⟩
theorem dec_rungs {H : Type} {enc : TypeId × Value → H} {w : World} (fuel : Nat) (cs : List Value) (y : DataW H × List MemPlace) (h : DataW.trod enc Tryd.prog w 0 (fun _ => true) true fuel 25 cs = some y) :
    ∃ (B : Option Addr) (Rs : List Rm) (c : Nat) (n : Int), cs = [.slice B Rs.length c, .int .u64 n] ∧ RunsAt w B Rs ∧ 0 ≤ n ∧ n ≤ 18446744073709551615 := by
  obtain ⟨xs, m, _, _, hlen, hxl, hg⟩ := DataW.trod_struct Tryd.underlying25 h
  rw [show Tryd.prog.cellsOf 25 = 2 from by kernel_rfl] at hlen
  match cs, hlen with
  | [c0, c1], _ =>
    match xs, hxl with
    | [x0, x1], _ =>
      have h0 : DataW.trod enc Tryd.prog w 0 (fun _ => true) true m 22 (List.take (Tryd.prog.cellsOf 22) (List.drop 0 [c0, c1])) = some x0 := hg 0 _ rfl
      have h1 : DataW.trod enc Tryd.prog w 0 (fun _ => true) true m 23 (List.take (Tryd.prog.cellsOf 23) (List.drop 1 [c0, c1])) = some x1 := hg 1 _ rfl
      rw [show Tryd.prog.cellsOf 22 = 1 from by kernel_rfl] at h0
      rw [show Tryd.prog.cellsOf 23 = 1 from by kernel_rfl] at h1
      obtain ⟨n, e1, _, f1⟩ := DataW.trod_int Tryd.underlying23 h1
      have hv : ∃ a len cap, List.take 1 (List.drop 0 [c0, c1]) = [.slice a len cap] := by
        rcases Go.Deep.open_slice Tryd.underlying22 h0 with ⟨h1, _⟩ | ⟨a, len, cap, _, _, _, _, h1, _⟩
        · exact ⟨_, _, _, h1⟩
        · exact ⟨_, _, _, h1⟩
      obtain ⟨a, len, cap, e0⟩ := hv
      simp at e0 e1
      subst e0 e1
      obtain ⟨B, Rs, c, h2, h3, h4, h5, h6⟩ := read_slice (v := .slice a len cap) (s := 1) (fun r : Rm => [r.v]) (fun r => r.Ok w) (fun _ => rfl) (by omega) Tryd.underlying22 (by kernel_rfl) (fun fuel cs y h => dec_run fuel cs y h) ⟨_, _, _, rfl⟩ h0
      have hm : Rs.flatMap (fun r => [r.v]) = Rs.map Rm.v := by
        clear h2 h3 h5 h6
        induction Rs with
        | nil => rfl
        | cons r Rs ih => rw [List.flatMap_cons, ih]; rfl
      rw [hm] at h5
      obtain ⟨g1, g2⟩ := wf_u64g f1
      exact ⟨B, Rs, c, n, by rw [h2], ⟨h5, h6⟩, g1, g2⟩
theorem read_ladder {H : Type} {enc : TypeId × Value → H} {w : World} {base : Nat} {v : Value} {d : DataW H} {p : List MemPlace} (hok : Value.okWide Tryd.prog w .any base 65 v)
    (h : DataW.Trod enc Tryd.prog w 0 (fun _ => true) true 65 v d p) : ∃ (B : Option Addr) (Rs : List Rm) (k : Nat) (c : Cfg) (n : Int), v = .agg (lrow c B Rs.length k n) ∧ RunsAt w B Rs ∧ 0 ≤ n ∧ n ≤ 18446744073709551615 := by
  obtain ⟨cs, rfl, _⟩ := okWide_struct Tryd.underlying65 hok
  obtain ⟨fuel, hf⟩ := h
  obtain ⟨xs, m, _, _, hlen, hxl, hg⟩ := DataW.trod_struct Tryd.underlying65 hf
  rw [show Tryd.prog.cellsOf 65 = 11 from by kernel_rfl] at hlen
  obtain ⟨cl⟩ := cs
  have hL : cl.length = 11 := hlen
  match xs, hxl with
  | [x0, x1], _ =>
    have h0 : DataW.trod enc Tryd.prog w 0 (fun _ => true) true m 63 (List.take (Tryd.prog.cellsOf 63) (List.drop 0 cl)) = some x0 := hg 0 _ rfl
    have h1 : DataW.trod enc Tryd.prog w 0 (fun _ => true) true m 25 (List.take (Tryd.prog.cellsOf 25) (List.drop 9 cl)) = some x1 := hg 1 _ rfl
    rw [show Tryd.prog.cellsOf 63 = 9 from by kernel_rfl] at h0
    rw [show Tryd.prog.cellsOf 25 = 2 from by kernel_rfl] at h1
    obtain ⟨c, e0⟩ := dec_cfg _ _ _ h0
    obtain ⟨B, Rs, k, n, e1, hr, g1, g2⟩ := dec_rungs _ _ _ h1
    have hcl : cl = c.row.toList ++ [.slice B Rs.length k, .int .u64 n] := by
      have h9 : cl = List.take 9 cl ++ List.take 2 (List.drop 9 cl) := by
        have hd : List.take 2 (List.drop 9 cl) = List.drop 9 cl := List.take_of_length_le (by rw [List.length_drop, hL]; decide)
        rw [hd, List.take_append_drop]
      rw [h9, e1]
      rw [List.drop_zero] at e0
      rw [e0]
    subst hcl
    exact ⟨B, Rs, k, c, n, rfl, hr, g1, g2⟩
end Go.Proofs.YthbppblmecdekaaDoor
