/- Di: texts of the claim, in this order. -/
import Derived.Test.YthdcllnmnmemdaaDoorWb22
import Derived.BigQuiet
/- The law LadderGets: for every map, keys and value it returns true; its arguments stay as they were. -/
namespace Go.Proofs.YthdcllnmnmemdaaDoor
open Go Go.RowKit
set_option maxRecDepth 100000
set_option maxHeartbeats 16000000 in
theorem ladderGets_any (B : Option Addr) (Rs : List Rm) (k : Nat) (c : Cfg) (n : Int) (key val other : Int) (w : World) (hB : RunsAt w B Rs) (hTb : TabAt 1 Lib.deBruijn64tab w) :
    Calls Tryd.prog 7 #[.agg #[.int .u8 c.tag, .int .i64 c.most, .int .i64 c.seg, .int .i64 c.least, .int .i64 c.den, .int .i64 c.leafLow, .int .i64 c.rootLow, .int .i64 c.rootHigh, .int .i64 c.leafHigh, .slice B Rs.length k, .int .u64 n], .int .i64 key, .int .i64 val, .int .i64 other] w fun r w' => r = .returned (.bool true) ∧ Below w.heap.size w w' := by
  have HB0 := Lib.hid hB
  have HT0 := Lib.hid hTb
  clear hB hTb
  go_enter Tryd.func7, Tryd.ntmps7
  have HF := Lib.hid (Below.refl w.heap.size w)
  have HY1 := Lib.hid (HB0.out)
  have HY2 := Lib.hid (HT0.out)
  go_upto_region 1 with fail
  obtain ⟨U3, h5⟩ : ∃ U, w.alloc (.cells #[.int .u8 c.tag, .int .i64 c.most, .int .i64 c.seg, .int .i64 c.least, .int .i64 c.den, .int .i64 c.leafLow, .int .i64 c.rootLow, .int .i64 c.rootHigh, .int .i64 c.leafHigh, .slice B Rs.length k, .int .u64 n] 65) = U := ⟨_, rfl⟩
  have ba6 : Below w.heap.size w U3 := by rw [← h5]; exact (Below.refl _ _).alloc (Nat.le_refl _) _
  have bn7 : Blk U3 w.heap.size 65 #[.int .u8 c.tag, .int .i64 c.most, .int .i64 c.seg, .int .i64 c.least, .int .i64 c.den, .int .i64 c.leafLow, .int .i64 c.rootLow, .int .i64 c.rootHigh, .int .i64 c.leafHigh, .slice B Rs.length k, .int .u64 n] := by rw [← h5]; exact Blk.new _ _ _
  try rw [h5]
  have HF8 := Lib.hid (bext HF.out ba6)
  have HY9 := Lib.hid (RunsAt.below HY1.out ba6)
  have HY10 := Lib.hid (tab_below2 HY2.out ba6)
  clear HF HY1 HY2
  obtain ⟨g4, h11⟩ : ∃ g, w.heap.size = g := ⟨_, rfl⟩
  rw [h11] at bn7
  try rw [h11]
  have HX12 := Lib.hid bn7
  clear h5 ba6 bn7 h11
  go_wp2_with fail
  refine (alive27_any _ HY10.out).mono ?_
  rintro e w13 ⟨rfl, hb14⟩
  have HF15 := Lib.hid (bext HF8.out hb14)
  have HX16 := Lib.hid (HX12.out.below hb14 HX12.out.lt)
  have HY17 := Lib.hid (RunsAt.below HY9.out hb14)
  have HY18 := Lib.hid (tab_below2 HY10.out hb14)
  clear HF8 HX12 HY9 HY10
  clear hb14
  have c19 : w13.cell? ⟨g4, 0, none⟩ = some (.int .u8 c.tag) := HX16.out.cell 0
  have c20 : w13.cell? ⟨g4, 1, none⟩ = some (.int .i64 c.most) := HX16.out.cell 1
  have c21 : w13.cell? ⟨g4, 2, none⟩ = some (.int .i64 c.seg) := HX16.out.cell 2
  have c22 : w13.cell? ⟨g4, 3, none⟩ = some (.int .i64 c.least) := HX16.out.cell 3
  have c23 : w13.cell? ⟨g4, 4, none⟩ = some (.int .i64 c.den) := HX16.out.cell 4
  have c24 : w13.cell? ⟨g4, 5, none⟩ = some (.int .i64 c.leafLow) := HX16.out.cell 5
  have c25 : w13.cell? ⟨g4, 6, none⟩ = some (.int .i64 c.rootLow) := HX16.out.cell 6
  have c26 : w13.cell? ⟨g4, 7, none⟩ = some (.int .i64 c.rootHigh) := HX16.out.cell 7
  have c27 : w13.cell? ⟨g4, 8, none⟩ = some (.int .i64 c.leafHigh) := HX16.out.cell 8
  have c28 : w13.cell? ⟨g4, 9, none⟩ = some (.slice B Rs.length k) := HX16.out.cell 9
  have c29 : w13.cell? ⟨g4, 10, none⟩ = some (.int .u64 n) := HX16.out.cell 10
  have l30 : g4 < w13.heap.size := HX16.out.lt
  go_wp2_with fail
  clear c19 c20 c21 c22 c23 c24 c25 c26 c27 c28 c29 l30
  refine (great27_any B Rs k 300 c n _ HY17.out (by omega)).mono ?_
  rintro e w31 ⟨G, rfl, hG, hb32⟩
  have HF33 := Lib.hid (bext HF15.out hb32)
  have HX34 := Lib.hid (HX16.out.below hb32 HX16.out.lt)
  have HY35 := Lib.hid (RunsAt.below HY17.out hb32)
  have HY36 := Lib.hid (tab_below2 HY18.out hb32)
  clear HF15 HX16 HY17 HY18
  clear hb32
  cases G with
  | true =>
    clear hG
    go_wp2
    go_ret
    exact ⟨rfl, HF33.out⟩
  | false =>
  have hG2 := hG rfl
  clear hG
  have hT3 : tot (lvs Rs) ≤ 300 := by omega
  have hR3 : Rs.length ≤ 300 := by omega
  clear hG2
  have hput : ∀ n W, RunsAt W B Rs → TabAt 1 Lib.deBruijn64tab W → Calls Tryd.prog 33 #[.agg (lrow c B Rs.length k n), .int .i64 key, .int .i64 val] W _ := fun n W hW hq => putD_any B Rs k c n key val W hW (by omega) (by omega) hq
  have hdel : ∀ n W, RunsAt W B Rs → TabAt 1 Lib.deBruijn64tab W → Calls Tryd.prog 34 #[.agg (lrow c B Rs.length k n), .int .i64 key] W _ := fun n W hW hq => delD_any B Rs k c n key W hW (by omega) (by omega) hq
  have hpg := fun he hg => put_gets (c := c) (L := lvs Rs) (n := n) (key := key) (val := val) other he hg
  have hdg := fun he hg => del_gets (c := c) (L := lvs Rs) (n := n) (key := key) other 0 he hg
  have hpi := fun he => put_iff (c := c) (L := lvs Rs) (key := key) (val := val) he hT3
  have hdi := fun he => del_iff (c := c) (L := lvs Rs) (key := key) he hT3
  have hba := fun he => bad_all (c := c) (L := lvs Rs) he other key val
  have hv2 := fun he => ve_two (c := c) (L := lvs Rs) (k := key) he
  obtain ⟨eg, heg⟩ : ∃ x, upE (putE0 c (lvs Rs) key) (lvs Rs) (putY key val) = x := ⟨_, rfl⟩
  obtain ⟨Lx, hLx⟩ : ∃ x, upL (putE0 c (lvs Rs) key) (lvs Rs) n (putY key val) = x := ⟨_, rfl⟩
  obtain ⟨Nx, hNx⟩ : ∃ x, upN (putE0 c (lvs Rs) key) (lvs Rs) n (putY key val) = x := ⟨_, rfl⟩
  obtain ⟨eh, heh⟩ : ∃ x, upE (veD c (lvs Rs) key) (lvs Rs) (delY key) = x := ⟨_, rfl⟩
  obtain ⟨Ly, hLy⟩ : ∃ x, upL (veD c (lvs Rs) key) (lvs Rs) n (delY key) = x := ⟨_, rfl⟩
  obtain ⟨Ny, hNy⟩ : ∃ x, upN (veD c (lvs Rs) key) (lvs Rs) n (delY key) = x := ⟨_, rfl⟩
  have hput := hput n
  have hdel := hdel n
  rw [heg, hLx, hNx] at hput
  rw [heh, hLy, hNy] at hdel
  rw [heg] at hpg hpi hba
  rw [heh] at hdg hdi hba
  rw [hLx] at hpg
  rw [hLy] at hdg
  obtain ⟨cx, hcx⟩ : ∃ x, ldC c eg = x := ⟨_, rfl⟩
  obtain ⟨cy, hcy⟩ : ∃ x, ldC c eh = x := ⟨_, rfl⟩
  rw [hcx] at hput
  rw [hcy] at hdel
  have hcx0 : eg = 0 → cx = c := fun h => by rw [← hcx, h]; rfl
  have hcy0 : eh = 0 → cy = c := fun h => by rw [← hcy, h]; rfl
  have hprs : ∀ W, RunsAt W B Rs → Calls Tryd.prog 31 #[.agg (lrow c B Rs.length k n)] W _ := fun W hW => pairsD_any B Rs k c n W hW (by omega) (by omega)
  have hg1 : ∀ W, RunsAt W B Rs → TabAt 1 Lib.deBruijn64tab W → Calls Tryd.prog 32 #[.agg (lrow c B Rs.length k n), .int .i64 other] W _ := fun W hW hq => getD_any B Rs k c n other W hW (by omega) (by omega) hq
  have hg2 : ∀ W, RunsAt W B Rs → TabAt 1 Lib.deBruijn64tab W → Calls Tryd.prog 32 #[.agg (lrow c B Rs.length k n), .int .i64 key] W _ := fun W hW hq => getD_any B Rs k c n key W hW (by omega) (by omega) hq
  obtain ⟨P, hP⟩ : ∃ x, prD c (lvs Rs) = x := ⟨_, rfl⟩
  obtain ⟨N, hN⟩ : ∃ x, P.length = x := ⟨_, rfl⟩
  rw [hP] at hprs hpi
  rw [hN] at hpi
  obtain ⟨v1, hv1⟩ : ∃ x, vlD c (lvs Rs) other = x := ⟨_, rfl⟩
  obtain ⟨e1, he1⟩ : ∃ x, veD c (lvs Rs) other = x := ⟨_, rfl⟩
  obtain ⟨w2, hw2⟩ : ∃ x, vlD c (lvs Rs) key = x := ⟨_, rfl⟩
  obtain ⟨e2, he2⟩ : ∃ x, veD c (lvs Rs) key = x := ⟨_, rfl⟩
  rw [hv1, he1] at hg1
  rw [hw2, he2] at hg2
  rw [he1] at hba
  rw [he2] at hpi hdi hv2
  have hpg : errL c (lvs Rs) = 0 → eg = 0 → errL c Lx = 0 ∧ veD c Lx key = 0 ∧ vlD c Lx key = val ∧ tot Lx ≤ 65536 ∧ Lx.length ≤ 17 ∧ (other ≠ key → veD c Lx other = e1 ∧ vlD c Lx other = v1) := fun h1 h2 => by
    obtain ⟨g1, g2, g3, g4, g5, g6⟩ := hpg h1 h2
    rw [hv1, he1] at g6
    exact ⟨g1, g2, g3 rfl, g4, g5, g6⟩
  have hdg : errL c (lvs Rs) = 0 → eh = 0 → errL c Ly = 0 ∧ veD c Ly key = 6 ∧ tot Ly ≤ 65536 ∧ Ly.length ≤ 17 ∧ (other ≠ key → veD c Ly other = e1 ∧ vlD c Ly other = v1) := fun h1 h2 => by
    obtain ⟨g1, g2, g3, g4, g5, g6⟩ := hdg h1 h2
    rw [hv1, he1] at g6
    exact ⟨g1, g2, g4, g5, g6⟩
  obtain ⟨e, he⟩ : ∃ x, errL c (lvs Rs) = x := ⟨_, rfl⟩
  rw [he] at hprs hpg hdg hba hpi hdi hv2
  have HPUT := Lib.hid hput
  have HDEL := Lib.hid hdel
  have HPRS := Lib.hid hprs
  have HG1 := Lib.hid hg1
  have HG2 := Lib.hid hg2
  have HPG := Lib.hid hpg
  have HDG := Lib.hid hdg
  have HBA := Lib.hid hba
  have HPI := Lib.hid hpi
  have HDI := Lib.hid hdi
  have HV2 := Lib.hid hv2
  have HCX := Lib.hid hcx0
  have HCY := Lib.hid hcy0
  have HN := Lib.hid hN
  clear hput hdel hprs hg1 hg2 hpg hdg hba hpi hdi hv2 hcx hcy hcx0 hcy0 hP hv1 he1 hw2 he2 he heg heh hLx hNx hLy hNy hT3 hR3 hN
  have c37 : w31.cell? ⟨g4, 0, none⟩ = some (.int .u8 c.tag) := HX34.out.cell 0
  have c38 : w31.cell? ⟨g4, 1, none⟩ = some (.int .i64 c.most) := HX34.out.cell 1
  have c39 : w31.cell? ⟨g4, 2, none⟩ = some (.int .i64 c.seg) := HX34.out.cell 2
  have c40 : w31.cell? ⟨g4, 3, none⟩ = some (.int .i64 c.least) := HX34.out.cell 3
  have c41 : w31.cell? ⟨g4, 4, none⟩ = some (.int .i64 c.den) := HX34.out.cell 4
  have c42 : w31.cell? ⟨g4, 5, none⟩ = some (.int .i64 c.leafLow) := HX34.out.cell 5
  have c43 : w31.cell? ⟨g4, 6, none⟩ = some (.int .i64 c.rootLow) := HX34.out.cell 6
  have c44 : w31.cell? ⟨g4, 7, none⟩ = some (.int .i64 c.rootHigh) := HX34.out.cell 7
  have c45 : w31.cell? ⟨g4, 8, none⟩ = some (.int .i64 c.leafHigh) := HX34.out.cell 8
  have c46 : w31.cell? ⟨g4, 9, none⟩ = some (.slice B Rs.length k) := HX34.out.cell 9
  have c47 : w31.cell? ⟨g4, 10, none⟩ = some (.int .u64 n) := HX34.out.cell 10
  have l48 : g4 < w31.heap.size := HX34.out.lt
  go_wp2_with fail
  clear c37 c38 c39 c40 c41 c42 c43 c44 c45 c46 c47 l48
  refine (HPRS.out _ HY35.out).mono ?_
  rintro e w49 ⟨Ap, cp, rfl, hop, hb50⟩
  clear hop
  rw [HN.out]
  have HF51 := Lib.hid (bext HF33.out hb50)
  have HX52 := Lib.hid (HX34.out.below hb50 HX34.out.lt)
  have HY53 := Lib.hid (RunsAt.below HY35.out hb50)
  have HY54 := Lib.hid (tab_below2 HY36.out hb50)
  clear HF33 HX34 HY35 HY36
  clear hb50
  have c55 : w49.cell? ⟨g4, 0, none⟩ = some (.int .u8 c.tag) := HX52.out.cell 0
  have c56 : w49.cell? ⟨g4, 1, none⟩ = some (.int .i64 c.most) := HX52.out.cell 1
  have c57 : w49.cell? ⟨g4, 2, none⟩ = some (.int .i64 c.seg) := HX52.out.cell 2
  have c58 : w49.cell? ⟨g4, 3, none⟩ = some (.int .i64 c.least) := HX52.out.cell 3
  have c59 : w49.cell? ⟨g4, 4, none⟩ = some (.int .i64 c.den) := HX52.out.cell 4
  have c60 : w49.cell? ⟨g4, 5, none⟩ = some (.int .i64 c.leafLow) := HX52.out.cell 5
  have c61 : w49.cell? ⟨g4, 6, none⟩ = some (.int .i64 c.rootLow) := HX52.out.cell 6
  have c62 : w49.cell? ⟨g4, 7, none⟩ = some (.int .i64 c.rootHigh) := HX52.out.cell 7
  have c63 : w49.cell? ⟨g4, 8, none⟩ = some (.int .i64 c.leafHigh) := HX52.out.cell 8
  have c64 : w49.cell? ⟨g4, 9, none⟩ = some (.slice B Rs.length k) := HX52.out.cell 9
  have c65 : w49.cell? ⟨g4, 10, none⟩ = some (.int .u64 n) := HX52.out.cell 10
  have l66 : g4 < w49.heap.size := HX52.out.lt
  go_wp2_with fail
  clear c55 c56 c57 c58 c59 c60 c61 c62 c63 c64 c65 l66
  refine (HG1.out _ HY53.out HY54.out).mono ?_
  rintro e w67 ⟨rfl, hb68⟩
  have HF69 := Lib.hid (bext HF51.out hb68)
  have HX70 := Lib.hid (HX52.out.below hb68 HX52.out.lt)
  have HY71 := Lib.hid (RunsAt.below HY53.out hb68)
  have HY72 := Lib.hid (tab_below2 HY54.out hb68)
  clear HF51 HX52 HY53 HY54
  clear hb68
  have c73 : w67.cell? ⟨g4, 0, none⟩ = some (.int .u8 c.tag) := HX70.out.cell 0
  have c74 : w67.cell? ⟨g4, 1, none⟩ = some (.int .i64 c.most) := HX70.out.cell 1
  have c75 : w67.cell? ⟨g4, 2, none⟩ = some (.int .i64 c.seg) := HX70.out.cell 2
  have c76 : w67.cell? ⟨g4, 3, none⟩ = some (.int .i64 c.least) := HX70.out.cell 3
  have c77 : w67.cell? ⟨g4, 4, none⟩ = some (.int .i64 c.den) := HX70.out.cell 4
  have c78 : w67.cell? ⟨g4, 5, none⟩ = some (.int .i64 c.leafLow) := HX70.out.cell 5
  have c79 : w67.cell? ⟨g4, 6, none⟩ = some (.int .i64 c.rootLow) := HX70.out.cell 6
  have c80 : w67.cell? ⟨g4, 7, none⟩ = some (.int .i64 c.rootHigh) := HX70.out.cell 7
  have c81 : w67.cell? ⟨g4, 8, none⟩ = some (.int .i64 c.leafHigh) := HX70.out.cell 8
  have c82 : w67.cell? ⟨g4, 9, none⟩ = some (.slice B Rs.length k) := HX70.out.cell 9
  have c83 : w67.cell? ⟨g4, 10, none⟩ = some (.int .u64 n) := HX70.out.cell 10
  have l84 : g4 < w67.heap.size := HX70.out.lt
  go_wp2_with fail
  clear c73 c74 c75 c76 c77 c78 c79 c80 c81 c82 c83 l84
  refine (HG2.out _ HY71.out HY72.out).mono ?_
  rintro e w85 ⟨rfl, hb86⟩
  have HF87 := Lib.hid (bext HF69.out hb86)
  have HX88 := Lib.hid (HX70.out.below hb86 HX70.out.lt)
  have HY89 := Lib.hid (RunsAt.below HY71.out hb86)
  have HY90 := Lib.hid (tab_below2 HY72.out hb86)
  clear HF69 HX70 HY71 HY72
  clear hb86
  have c91 : w85.cell? ⟨g4, 0, none⟩ = some (.int .u8 c.tag) := HX88.out.cell 0
  have c92 : w85.cell? ⟨g4, 1, none⟩ = some (.int .i64 c.most) := HX88.out.cell 1
  have c93 : w85.cell? ⟨g4, 2, none⟩ = some (.int .i64 c.seg) := HX88.out.cell 2
  have c94 : w85.cell? ⟨g4, 3, none⟩ = some (.int .i64 c.least) := HX88.out.cell 3
  have c95 : w85.cell? ⟨g4, 4, none⟩ = some (.int .i64 c.den) := HX88.out.cell 4
  have c96 : w85.cell? ⟨g4, 5, none⟩ = some (.int .i64 c.leafLow) := HX88.out.cell 5
  have c97 : w85.cell? ⟨g4, 6, none⟩ = some (.int .i64 c.rootLow) := HX88.out.cell 6
  have c98 : w85.cell? ⟨g4, 7, none⟩ = some (.int .i64 c.rootHigh) := HX88.out.cell 7
  have c99 : w85.cell? ⟨g4, 8, none⟩ = some (.int .i64 c.leafHigh) := HX88.out.cell 8
  have c100 : w85.cell? ⟨g4, 9, none⟩ = some (.slice B Rs.length k) := HX88.out.cell 9
  have c101 : w85.cell? ⟨g4, 10, none⟩ = some (.int .u64 n) := HX88.out.cell 10
  have l102 : g4 < w85.heap.size := HX88.out.lt
  go_wp2_with fail
  clear c91 c92 c93 c94 c95 c96 c97 c98 c99 c100 c101 l102
  refine (HPUT.out _ HY89.out HY90.out).mono ?_
  rintro e w103 ⟨Bx, kx, Rx, rfl, hlx, hox, hb104⟩
  have HOx := Lib.hid hox.runsAt
  have HLx := Lib.hid hlx
  obtain ⟨Mx, hMx⟩ : ∃ N, Rx.length = N := ⟨_, rfl⟩
  rw [hMx]
  have HMx := Lib.hid hMx
  clear hlx hox hMx
  have HF105 := Lib.hid (bext HF87.out hb104)
  have HX106 := Lib.hid (HX88.out.below hb104 HX88.out.lt)
  have HY107 := Lib.hid (RunsAt.below HY89.out hb104)
  have HY108 := Lib.hid (tab_below2 HY90.out hb104)
  clear HF87 HX88 HY89 HY90
  clear hb104
  have HY109 := Lib.hid (HOx.out)
  go_upto_region 8 with fail
  obtain ⟨U110, h112⟩ : ∃ U, w103.alloc (.cells #[.int .u8 cx.tag, .int .i64 cx.most, .int .i64 cx.seg, .int .i64 cx.least, .int .i64 cx.den, .int .i64 cx.leafLow, .int .i64 cx.rootLow, .int .i64 cx.rootHigh, .int .i64 cx.leafHigh, .slice Bx Mx kx, .int .u64 Nx] 65) = U := ⟨_, rfl⟩
  have ba113 : Below w103.heap.size w103 U110 := by rw [← h112]; exact (Below.refl _ _).alloc (Nat.le_refl _) _
  have bn114 : Blk U110 w103.heap.size 65 #[.int .u8 cx.tag, .int .i64 cx.most, .int .i64 cx.seg, .int .i64 cx.least, .int .i64 cx.den, .int .i64 cx.leafLow, .int .i64 cx.rootLow, .int .i64 cx.rootHigh, .int .i64 cx.leafHigh, .slice Bx Mx kx, .int .u64 Nx] := by rw [← h112]; exact Blk.new _ _ _
  try rw [h112]
  have HF115 := Lib.hid (bext HF105.out ba113)
  have HX116 := Lib.hid (HX106.out.below ba113 HX106.out.lt)
  have HY117 := Lib.hid (RunsAt.below HY107.out ba113)
  have HY118 := Lib.hid (tab_below2 HY108.out ba113)
  have HY119 := Lib.hid (RunsAt.below HY109.out ba113)
  clear HF105 HX106 HY107 HY108 HY109
  obtain ⟨g111, h120⟩ : ∃ g, w103.heap.size = g := ⟨_, rfl⟩
  rw [h120] at bn114
  try rw [h120]
  have HX121 := Lib.hid bn114
  clear h112 ba113 bn114 h120
  have c122 : U110.cell? ⟨g4, 0, none⟩ = some (.int .u8 c.tag) := HX116.out.cell 0
  have c123 : U110.cell? ⟨g4, 1, none⟩ = some (.int .i64 c.most) := HX116.out.cell 1
  have c124 : U110.cell? ⟨g4, 2, none⟩ = some (.int .i64 c.seg) := HX116.out.cell 2
  have c125 : U110.cell? ⟨g4, 3, none⟩ = some (.int .i64 c.least) := HX116.out.cell 3
  have c126 : U110.cell? ⟨g4, 4, none⟩ = some (.int .i64 c.den) := HX116.out.cell 4
  have c127 : U110.cell? ⟨g4, 5, none⟩ = some (.int .i64 c.leafLow) := HX116.out.cell 5
  have c128 : U110.cell? ⟨g4, 6, none⟩ = some (.int .i64 c.rootLow) := HX116.out.cell 6
  have c129 : U110.cell? ⟨g4, 7, none⟩ = some (.int .i64 c.rootHigh) := HX116.out.cell 7
  have c130 : U110.cell? ⟨g4, 8, none⟩ = some (.int .i64 c.leafHigh) := HX116.out.cell 8
  have c131 : U110.cell? ⟨g4, 9, none⟩ = some (.slice B Rs.length k) := HX116.out.cell 9
  have c132 : U110.cell? ⟨g4, 10, none⟩ = some (.int .u64 n) := HX116.out.cell 10
  have l133 : g4 < U110.heap.size := HX116.out.lt
  go_wp2_with fail
  clear c122 c123 c124 c125 c126 c127 c128 c129 c130 c131 c132 l133
  refine (HDEL.out _ HY117.out HY118.out).mono ?_
  rintro e w134 ⟨By, ky, Ry, rfl, hly, hoy, hb135⟩
  have HOy := Lib.hid hoy.runsAt
  have HLy := Lib.hid hly
  obtain ⟨My, hMy⟩ : ∃ N, Ry.length = N := ⟨_, rfl⟩
  rw [hMy]
  have HMy := Lib.hid hMy
  clear hly hoy hMy
  have HF136 := Lib.hid (bext HF115.out hb135)
  have HX137 := Lib.hid (HX116.out.below hb135 HX116.out.lt)
  have HX138 := Lib.hid (HX121.out.below hb135 HX121.out.lt)
  have HY139 := Lib.hid (RunsAt.below HY117.out hb135)
  have HY140 := Lib.hid (tab_below2 HY118.out hb135)
  have HY141 := Lib.hid (RunsAt.below HY119.out hb135)
  clear HF115 HX116 HX121 HY117 HY118 HY119
  clear hb135
  have HY142 := Lib.hid (HOy.out)
  go_upto_region 9 with fail
  obtain ⟨U143, h145⟩ : ∃ U, w134.alloc (.cells #[.int .u8 cy.tag, .int .i64 cy.most, .int .i64 cy.seg, .int .i64 cy.least, .int .i64 cy.den, .int .i64 cy.leafLow, .int .i64 cy.rootLow, .int .i64 cy.rootHigh, .int .i64 cy.leafHigh, .slice By My ky, .int .u64 Ny] 65) = U := ⟨_, rfl⟩
  have ba146 : Below w134.heap.size w134 U143 := by rw [← h145]; exact (Below.refl _ _).alloc (Nat.le_refl _) _
  have bn147 : Blk U143 w134.heap.size 65 #[.int .u8 cy.tag, .int .i64 cy.most, .int .i64 cy.seg, .int .i64 cy.least, .int .i64 cy.den, .int .i64 cy.leafLow, .int .i64 cy.rootLow, .int .i64 cy.rootHigh, .int .i64 cy.leafHigh, .slice By My ky, .int .u64 Ny] := by rw [← h145]; exact Blk.new _ _ _
  try rw [h145]
  have HF148 := Lib.hid (bext HF136.out ba146)
  have HX149 := Lib.hid (HX137.out.below ba146 HX137.out.lt)
  have HX150 := Lib.hid (HX138.out.below ba146 HX138.out.lt)
  have HY151 := Lib.hid (RunsAt.below HY139.out ba146)
  have HY152 := Lib.hid (tab_below2 HY140.out ba146)
  have HY153 := Lib.hid (RunsAt.below HY141.out ba146)
  have HY154 := Lib.hid (RunsAt.below HY142.out ba146)
  clear HF136 HX137 HX138 HY139 HY140 HY141 HY142
  obtain ⟨g144, h155⟩ : ∃ g, w134.heap.size = g := ⟨_, rfl⟩
  rw [h155] at bn147
  try rw [h155]
  have HX156 := Lib.hid bn147
  clear h145 ba146 bn147 h155
  by_cases hE0 : e = 0
  case neg =>
    obtain ⟨h1, h2, h3⟩ := HBA.out hE0
    have h4 : (e != 0) = true := by simpa using hE0
    subst h1 h2 h3
    go_wp2_with fail
    go_ret
    refine ⟨?_, HF148.out⟩
    rfl
  case pos =>
  subst hE0
  have hpg := HPG.out rfl
  have hdg := HDG.out rfl
  have hpi := HPI.out rfl
  have hdi := HDI.out rfl
  have hv2 := HV2.out rfl
  subst hdi
  have HPG2 := Lib.hid hpg
  have HDG2 := Lib.hid hdg
  have HPI2 := Lib.hid hpi
  clear hpg hdg hpi HPG HDG HBA HPI HDI HV2
  rcases hv2 with hv2 | hv2
  · subst hv2
    have hg0 := HPI2.out.2 (Or.inl rfl)
    subst hg0
    clear HPI2
    by_cases hko : other = key
    · skip
      obtain ⟨p1x, p2x, p3x, p4x, p5x, p6x⟩ := HPG2.out rfl
      have hcx := HCX.out rfl
      obtain ⟨p1y, p2y, p4y, p5y, p6y⟩ := HDG2.out rfl
      obtain ⟨vky, p3y⟩ : ∃ x, vlD c Ly key = x := ⟨_, rfl⟩
      have hcy := HCY.out rfl
      clear p6x
      obtain ⟨eox, q1x⟩ : ∃ x, veD c Lx other = x := ⟨_, rfl⟩
      obtain ⟨vox, q2x⟩ : ∃ x, vlD c Lx other = x := ⟨_, rfl⟩
      clear p6y
      obtain ⟨eoy, q1y⟩ : ∃ x, veD c Ly other = x := ⟨_, rfl⟩
      obtain ⟨voy, q2y⟩ : ∃ x, vlD c Ly other = x := ⟨_, rfl⟩
      have hk1 : (other == key) = true := by simpa using hko
      have hk2 : (other != key) = false := by simpa using hko
      clear hko
      have HCKx := Lib.hid (show ∀ W, RunsAt W Bx Rx → Calls Tryd.prog 35 #[.agg (lrow cx Bx Mx kx Nx)] W (fun r w' => r = .returned (.int .i64 0) ∧ Below W.heap.size W w') from fun W hW => by
        have h8 := checkD_any Bx Rx kx cx Nx W hW (by rw [HLx.out]; omega) (by rw [rs_len HLx.out]; omega)
        rw [HLx.out, HMx.out, hcx, p1x] at h8
        rw [hcx]
        exact h8)
      have HGKx := Lib.hid (show ∀ W, RunsAt W Bx Rx → TabAt 1 Lib.deBruijn64tab W → Calls Tryd.prog 32 #[.agg (lrow cx Bx Mx kx Nx), .int .i64 key] W (fun r w' => r = .returned (.tuple #[.int .i64 val, .int .i64 0]) ∧ Below W.heap.size W w') from fun W hW hq => by
        have h8 := getD_any Bx Rx kx cx Nx key W hW (by rw [HLx.out]; omega) (by rw [rs_len HLx.out]; omega) hq
        rw [HLx.out, HMx.out, hcx, p2x, p3x] at h8
        rw [hcx]
        exact h8)
      have HGOx := Lib.hid (show ∀ W, RunsAt W Bx Rx → TabAt 1 Lib.deBruijn64tab W → Calls Tryd.prog 32 #[.agg (lrow cx Bx Mx kx Nx), .int .i64 other] W (fun r w' => r = .returned (.tuple #[.int .i64 vox, .int .i64 eox]) ∧ Below W.heap.size W w') from fun W hW hq => by
        have h8 := getD_any Bx Rx kx cx Nx other W hW (by rw [HLx.out]; omega) (by rw [rs_len HLx.out]; omega) hq
        rw [HLx.out, HMx.out, hcx, q1x, q2x] at h8
        rw [hcx]
        exact h8)
      clear hcx p1x p2x p3x p4x p5x q1x q2x
      have c157 : U143.cell? ⟨g111, 0, none⟩ = some (.int .u8 cx.tag) := HX150.out.cell 0
      have c158 : U143.cell? ⟨g111, 1, none⟩ = some (.int .i64 cx.most) := HX150.out.cell 1
      have c159 : U143.cell? ⟨g111, 2, none⟩ = some (.int .i64 cx.seg) := HX150.out.cell 2
      have c160 : U143.cell? ⟨g111, 3, none⟩ = some (.int .i64 cx.least) := HX150.out.cell 3
      have c161 : U143.cell? ⟨g111, 4, none⟩ = some (.int .i64 cx.den) := HX150.out.cell 4
      have c162 : U143.cell? ⟨g111, 5, none⟩ = some (.int .i64 cx.leafLow) := HX150.out.cell 5
      have c163 : U143.cell? ⟨g111, 6, none⟩ = some (.int .i64 cx.rootLow) := HX150.out.cell 6
      have c164 : U143.cell? ⟨g111, 7, none⟩ = some (.int .i64 cx.rootHigh) := HX150.out.cell 7
      have c165 : U143.cell? ⟨g111, 8, none⟩ = some (.int .i64 cx.leafHigh) := HX150.out.cell 8
      have c166 : U143.cell? ⟨g111, 9, none⟩ = some (.slice Bx Mx kx) := HX150.out.cell 9
      have c167 : U143.cell? ⟨g111, 10, none⟩ = some (.int .u64 Nx) := HX150.out.cell 10
      have l168 : g111 < U143.heap.size := HX150.out.lt
      go_wp2_with fail
      clear c157 c158 c159 c160 c161 c162 c163 c164 c165 c166 c167 l168
      refine (HGKx.out _ HY153.out HY152.out).mono ?_
      rintro e w169 ⟨rfl, hb170⟩
      have HF171 := Lib.hid (bext HF148.out hb170)
      have HX172 := Lib.hid (HX149.out.below hb170 HX149.out.lt)
      have HX173 := Lib.hid (HX150.out.below hb170 HX150.out.lt)
      have HX174 := Lib.hid (HX156.out.below hb170 HX156.out.lt)
      have HY175 := Lib.hid (RunsAt.below HY151.out hb170)
      have HY176 := Lib.hid (tab_below2 HY152.out hb170)
      have HY177 := Lib.hid (RunsAt.below HY153.out hb170)
      have HY178 := Lib.hid (RunsAt.below HY154.out hb170)
      clear HF148 HX149 HX150 HX156 HY151 HY152 HY153 HY154
      clear hb170
      have c179 : w169.cell? ⟨g111, 0, none⟩ = some (.int .u8 cx.tag) := HX173.out.cell 0
      have c180 : w169.cell? ⟨g111, 1, none⟩ = some (.int .i64 cx.most) := HX173.out.cell 1
      have c181 : w169.cell? ⟨g111, 2, none⟩ = some (.int .i64 cx.seg) := HX173.out.cell 2
      have c182 : w169.cell? ⟨g111, 3, none⟩ = some (.int .i64 cx.least) := HX173.out.cell 3
      have c183 : w169.cell? ⟨g111, 4, none⟩ = some (.int .i64 cx.den) := HX173.out.cell 4
      have c184 : w169.cell? ⟨g111, 5, none⟩ = some (.int .i64 cx.leafLow) := HX173.out.cell 5
      have c185 : w169.cell? ⟨g111, 6, none⟩ = some (.int .i64 cx.rootLow) := HX173.out.cell 6
      have c186 : w169.cell? ⟨g111, 7, none⟩ = some (.int .i64 cx.rootHigh) := HX173.out.cell 7
      have c187 : w169.cell? ⟨g111, 8, none⟩ = some (.int .i64 cx.leafHigh) := HX173.out.cell 8
      have c188 : w169.cell? ⟨g111, 9, none⟩ = some (.slice Bx Mx kx) := HX173.out.cell 9
      have c189 : w169.cell? ⟨g111, 10, none⟩ = some (.int .u64 Nx) := HX173.out.cell 10
      have l190 : g111 < w169.heap.size := HX173.out.lt
      go_wp2_with fail
      clear c179 c180 c181 c182 c183 c184 c185 c186 c187 c188 c189 l190
      refine (HGOx.out _ HY177.out HY176.out).mono ?_
      rintro e w191 ⟨rfl, hb192⟩
      have HF193 := Lib.hid (bext HF171.out hb192)
      have HX194 := Lib.hid (HX172.out.below hb192 HX172.out.lt)
      have HX195 := Lib.hid (HX173.out.below hb192 HX173.out.lt)
      have HX196 := Lib.hid (HX174.out.below hb192 HX174.out.lt)
      have HY197 := Lib.hid (RunsAt.below HY175.out hb192)
      have HY198 := Lib.hid (tab_below2 HY176.out hb192)
      have HY199 := Lib.hid (RunsAt.below HY177.out hb192)
      have HY200 := Lib.hid (RunsAt.below HY178.out hb192)
      clear HF171 HX172 HX173 HX174 HY175 HY176 HY177 HY178
      clear hb192
      have c201 : w191.cell? ⟨g111, 0, none⟩ = some (.int .u8 cx.tag) := HX195.out.cell 0
      have c202 : w191.cell? ⟨g111, 1, none⟩ = some (.int .i64 cx.most) := HX195.out.cell 1
      have c203 : w191.cell? ⟨g111, 2, none⟩ = some (.int .i64 cx.seg) := HX195.out.cell 2
      have c204 : w191.cell? ⟨g111, 3, none⟩ = some (.int .i64 cx.least) := HX195.out.cell 3
      have c205 : w191.cell? ⟨g111, 4, none⟩ = some (.int .i64 cx.den) := HX195.out.cell 4
      have c206 : w191.cell? ⟨g111, 5, none⟩ = some (.int .i64 cx.leafLow) := HX195.out.cell 5
      have c207 : w191.cell? ⟨g111, 6, none⟩ = some (.int .i64 cx.rootLow) := HX195.out.cell 6
      have c208 : w191.cell? ⟨g111, 7, none⟩ = some (.int .i64 cx.rootHigh) := HX195.out.cell 7
      have c209 : w191.cell? ⟨g111, 8, none⟩ = some (.int .i64 cx.leafHigh) := HX195.out.cell 8
      have c210 : w191.cell? ⟨g111, 9, none⟩ = some (.slice Bx Mx kx) := HX195.out.cell 9
      have c211 : w191.cell? ⟨g111, 10, none⟩ = some (.int .u64 Nx) := HX195.out.cell 10
      have l212 : g111 < w191.heap.size := HX195.out.lt
      go_wp2_with fail
      clear c201 c202 c203 c204 c205 c206 c207 c208 c209 c210 c211 l212
      refine (HCKx.out _ HY199.out).mono ?_
      rintro e w213 ⟨rfl, hb214⟩
      have HF215 := Lib.hid (bext HF193.out hb214)
      have HX216 := Lib.hid (HX194.out.below hb214 HX194.out.lt)
      have HX217 := Lib.hid (HX195.out.below hb214 HX195.out.lt)
      have HX218 := Lib.hid (HX196.out.below hb214 HX196.out.lt)
      have HY219 := Lib.hid (RunsAt.below HY197.out hb214)
      have HY220 := Lib.hid (tab_below2 HY198.out hb214)
      have HY221 := Lib.hid (RunsAt.below HY199.out hb214)
      have HY222 := Lib.hid (RunsAt.below HY200.out hb214)
      clear HF193 HX194 HX195 HX196 HY197 HY198 HY199 HY200
      clear hb214
      have HCKy := Lib.hid (show ∀ W, RunsAt W By Ry → Calls Tryd.prog 35 #[.agg (lrow cy By My ky Ny)] W (fun r w' => r = .returned (.int .i64 0) ∧ Below W.heap.size W w') from fun W hW => by
        have h8 := checkD_any By Ry ky cy Ny W hW (by rw [HLy.out]; omega) (by rw [rs_len HLy.out]; omega)
        rw [HLy.out, HMy.out, hcy, p1y] at h8
        rw [hcy]
        exact h8)
      have HGKy := Lib.hid (show ∀ W, RunsAt W By Ry → TabAt 1 Lib.deBruijn64tab W → Calls Tryd.prog 32 #[.agg (lrow cy By My ky Ny), .int .i64 key] W (fun r w' => r = .returned (.tuple #[.int .i64 vky, .int .i64 6]) ∧ Below W.heap.size W w') from fun W hW hq => by
        have h8 := getD_any By Ry ky cy Ny key W hW (by rw [HLy.out]; omega) (by rw [rs_len HLy.out]; omega) hq
        rw [HLy.out, HMy.out, hcy, p2y, p3y] at h8
        rw [hcy]
        exact h8)
      have HGOy := Lib.hid (show ∀ W, RunsAt W By Ry → TabAt 1 Lib.deBruijn64tab W → Calls Tryd.prog 32 #[.agg (lrow cy By My ky Ny), .int .i64 other] W (fun r w' => r = .returned (.tuple #[.int .i64 voy, .int .i64 eoy]) ∧ Below W.heap.size W w') from fun W hW hq => by
        have h8 := getD_any By Ry ky cy Ny other W hW (by rw [HLy.out]; omega) (by rw [rs_len HLy.out]; omega) hq
        rw [HLy.out, HMy.out, hcy, q1y, q2y] at h8
        rw [hcy]
        exact h8)
      clear hcy p1y p2y p3y p4y p5y q1y q2y
      have c223 : w213.cell? ⟨g144, 0, none⟩ = some (.int .u8 cy.tag) := HX218.out.cell 0
      have c224 : w213.cell? ⟨g144, 1, none⟩ = some (.int .i64 cy.most) := HX218.out.cell 1
      have c225 : w213.cell? ⟨g144, 2, none⟩ = some (.int .i64 cy.seg) := HX218.out.cell 2
      have c226 : w213.cell? ⟨g144, 3, none⟩ = some (.int .i64 cy.least) := HX218.out.cell 3
      have c227 : w213.cell? ⟨g144, 4, none⟩ = some (.int .i64 cy.den) := HX218.out.cell 4
      have c228 : w213.cell? ⟨g144, 5, none⟩ = some (.int .i64 cy.leafLow) := HX218.out.cell 5
      have c229 : w213.cell? ⟨g144, 6, none⟩ = some (.int .i64 cy.rootLow) := HX218.out.cell 6
      have c230 : w213.cell? ⟨g144, 7, none⟩ = some (.int .i64 cy.rootHigh) := HX218.out.cell 7
      have c231 : w213.cell? ⟨g144, 8, none⟩ = some (.int .i64 cy.leafHigh) := HX218.out.cell 8
      have c232 : w213.cell? ⟨g144, 9, none⟩ = some (.slice By My ky) := HX218.out.cell 9
      have c233 : w213.cell? ⟨g144, 10, none⟩ = some (.int .u64 Ny) := HX218.out.cell 10
      have l234 : g144 < w213.heap.size := HX218.out.lt
      go_wp2_with fail
      clear c223 c224 c225 c226 c227 c228 c229 c230 c231 c232 c233 l234
      refine (HGKy.out _ HY222.out HY220.out).mono ?_
      rintro e w235 ⟨rfl, hb236⟩
      have HF237 := Lib.hid (bext HF215.out hb236)
      have HX238 := Lib.hid (HX216.out.below hb236 HX216.out.lt)
      have HX239 := Lib.hid (HX217.out.below hb236 HX217.out.lt)
      have HX240 := Lib.hid (HX218.out.below hb236 HX218.out.lt)
      have HY241 := Lib.hid (RunsAt.below HY219.out hb236)
      have HY242 := Lib.hid (tab_below2 HY220.out hb236)
      have HY243 := Lib.hid (RunsAt.below HY221.out hb236)
      have HY244 := Lib.hid (RunsAt.below HY222.out hb236)
      clear HF215 HX216 HX217 HX218 HY219 HY220 HY221 HY222
      clear hb236
      have c245 : w235.cell? ⟨g144, 0, none⟩ = some (.int .u8 cy.tag) := HX240.out.cell 0
      have c246 : w235.cell? ⟨g144, 1, none⟩ = some (.int .i64 cy.most) := HX240.out.cell 1
      have c247 : w235.cell? ⟨g144, 2, none⟩ = some (.int .i64 cy.seg) := HX240.out.cell 2
      have c248 : w235.cell? ⟨g144, 3, none⟩ = some (.int .i64 cy.least) := HX240.out.cell 3
      have c249 : w235.cell? ⟨g144, 4, none⟩ = some (.int .i64 cy.den) := HX240.out.cell 4
      have c250 : w235.cell? ⟨g144, 5, none⟩ = some (.int .i64 cy.leafLow) := HX240.out.cell 5
      have c251 : w235.cell? ⟨g144, 6, none⟩ = some (.int .i64 cy.rootLow) := HX240.out.cell 6
      have c252 : w235.cell? ⟨g144, 7, none⟩ = some (.int .i64 cy.rootHigh) := HX240.out.cell 7
      have c253 : w235.cell? ⟨g144, 8, none⟩ = some (.int .i64 cy.leafHigh) := HX240.out.cell 8
      have c254 : w235.cell? ⟨g144, 9, none⟩ = some (.slice By My ky) := HX240.out.cell 9
      have c255 : w235.cell? ⟨g144, 10, none⟩ = some (.int .u64 Ny) := HX240.out.cell 10
      have l256 : g144 < w235.heap.size := HX240.out.lt
      go_wp2_with fail
      clear c245 c246 c247 c248 c249 c250 c251 c252 c253 c254 c255 l256
      refine (HGOy.out _ HY244.out HY242.out).mono ?_
      rintro e w257 ⟨rfl, hb258⟩
      have HF259 := Lib.hid (bext HF237.out hb258)
      have HX260 := Lib.hid (HX238.out.below hb258 HX238.out.lt)
      have HX261 := Lib.hid (HX239.out.below hb258 HX239.out.lt)
      have HX262 := Lib.hid (HX240.out.below hb258 HX240.out.lt)
      have HY263 := Lib.hid (RunsAt.below HY241.out hb258)
      have HY264 := Lib.hid (tab_below2 HY242.out hb258)
      have HY265 := Lib.hid (RunsAt.below HY243.out hb258)
      have HY266 := Lib.hid (RunsAt.below HY244.out hb258)
      clear HF237 HX238 HX239 HX240 HY241 HY242 HY243 HY244
      clear hb258
      have c267 : w257.cell? ⟨g144, 0, none⟩ = some (.int .u8 cy.tag) := HX262.out.cell 0
      have c268 : w257.cell? ⟨g144, 1, none⟩ = some (.int .i64 cy.most) := HX262.out.cell 1
      have c269 : w257.cell? ⟨g144, 2, none⟩ = some (.int .i64 cy.seg) := HX262.out.cell 2
      have c270 : w257.cell? ⟨g144, 3, none⟩ = some (.int .i64 cy.least) := HX262.out.cell 3
      have c271 : w257.cell? ⟨g144, 4, none⟩ = some (.int .i64 cy.den) := HX262.out.cell 4
      have c272 : w257.cell? ⟨g144, 5, none⟩ = some (.int .i64 cy.leafLow) := HX262.out.cell 5
      have c273 : w257.cell? ⟨g144, 6, none⟩ = some (.int .i64 cy.rootLow) := HX262.out.cell 6
      have c274 : w257.cell? ⟨g144, 7, none⟩ = some (.int .i64 cy.rootHigh) := HX262.out.cell 7
      have c275 : w257.cell? ⟨g144, 8, none⟩ = some (.int .i64 cy.leafHigh) := HX262.out.cell 8
      have c276 : w257.cell? ⟨g144, 9, none⟩ = some (.slice By My ky) := HX262.out.cell 9
      have c277 : w257.cell? ⟨g144, 10, none⟩ = some (.int .u64 Ny) := HX262.out.cell 10
      have l278 : g144 < w257.heap.size := HX262.out.lt
      go_wp2_with fail
      clear c267 c268 c269 c270 c271 c272 c273 c274 c275 c276 c277 l278
      refine (HCKy.out _ HY266.out).mono ?_
      rintro e w279 ⟨rfl, hb280⟩
      have HF281 := Lib.hid (bext HF259.out hb280)
      have HX282 := Lib.hid (HX260.out.below hb280 HX260.out.lt)
      have HX283 := Lib.hid (HX261.out.below hb280 HX261.out.lt)
      have HX284 := Lib.hid (HX262.out.below hb280 HX262.out.lt)
      have HY285 := Lib.hid (RunsAt.below HY263.out hb280)
      have HY286 := Lib.hid (tab_below2 HY264.out hb280)
      have HY287 := Lib.hid (RunsAt.below HY265.out hb280)
      have HY288 := Lib.hid (RunsAt.below HY266.out hb280)
      clear HF259 HX260 HX261 HX262 HY263 HY264 HY265 HY266
      clear hb280
      have c289 : w279.cell? ⟨g4, 0, none⟩ = some (.int .u8 c.tag) := HX282.out.cell 0
      have c290 : w279.cell? ⟨g4, 1, none⟩ = some (.int .i64 c.most) := HX282.out.cell 1
      have c291 : w279.cell? ⟨g4, 2, none⟩ = some (.int .i64 c.seg) := HX282.out.cell 2
      have c292 : w279.cell? ⟨g4, 3, none⟩ = some (.int .i64 c.least) := HX282.out.cell 3
      have c293 : w279.cell? ⟨g4, 4, none⟩ = some (.int .i64 c.den) := HX282.out.cell 4
      have c294 : w279.cell? ⟨g4, 5, none⟩ = some (.int .i64 c.leafLow) := HX282.out.cell 5
      have c295 : w279.cell? ⟨g4, 6, none⟩ = some (.int .i64 c.rootLow) := HX282.out.cell 6
      have c296 : w279.cell? ⟨g4, 7, none⟩ = some (.int .i64 c.rootHigh) := HX282.out.cell 7
      have c297 : w279.cell? ⟨g4, 8, none⟩ = some (.int .i64 c.leafHigh) := HX282.out.cell 8
      have c298 : w279.cell? ⟨g4, 9, none⟩ = some (.slice B Rs.length k) := HX282.out.cell 9
      have c299 : w279.cell? ⟨g4, 10, none⟩ = some (.int .u64 n) := HX282.out.cell 10
      have l300 : g4 < w279.heap.size := HX282.out.lt
      go_wp2_with fail
      go_ret
      refine ⟨?_, HF281.out⟩
      rfl
    · skip
      obtain ⟨p1x, p2x, p3x, p4x, p5x, p6x⟩ := HPG2.out rfl
      have hcx := HCX.out rfl
      obtain ⟨p1y, p2y, p4y, p5y, p6y⟩ := HDG2.out rfl
      obtain ⟨vky, p3y⟩ : ∃ x, vlD c Ly key = x := ⟨_, rfl⟩
      have hcy := HCY.out rfl
      obtain ⟨q1x, q2x⟩ := p6x hko
      clear p6x
      obtain ⟨q1y, q2y⟩ := p6y hko
      clear p6y
      have hk1 : (other == key) = false := by simpa using hko
      have hk2 : (other != key) = true := by simpa using hko
      clear hko
      have HCKx := Lib.hid (show ∀ W, RunsAt W Bx Rx → Calls Tryd.prog 35 #[.agg (lrow cx Bx Mx kx Nx)] W (fun r w' => r = .returned (.int .i64 0) ∧ Below W.heap.size W w') from fun W hW => by
        have h8 := checkD_any Bx Rx kx cx Nx W hW (by rw [HLx.out]; omega) (by rw [rs_len HLx.out]; omega)
        rw [HLx.out, HMx.out, hcx, p1x] at h8
        rw [hcx]
        exact h8)
      have HGKx := Lib.hid (show ∀ W, RunsAt W Bx Rx → TabAt 1 Lib.deBruijn64tab W → Calls Tryd.prog 32 #[.agg (lrow cx Bx Mx kx Nx), .int .i64 key] W (fun r w' => r = .returned (.tuple #[.int .i64 val, .int .i64 0]) ∧ Below W.heap.size W w') from fun W hW hq => by
        have h8 := getD_any Bx Rx kx cx Nx key W hW (by rw [HLx.out]; omega) (by rw [rs_len HLx.out]; omega) hq
        rw [HLx.out, HMx.out, hcx, p2x, p3x] at h8
        rw [hcx]
        exact h8)
      have HGOx := Lib.hid (show ∀ W, RunsAt W Bx Rx → TabAt 1 Lib.deBruijn64tab W → Calls Tryd.prog 32 #[.agg (lrow cx Bx Mx kx Nx), .int .i64 other] W (fun r w' => r = .returned (.tuple #[.int .i64 v1, .int .i64 e1]) ∧ Below W.heap.size W w') from fun W hW hq => by
        have h8 := getD_any Bx Rx kx cx Nx other W hW (by rw [HLx.out]; omega) (by rw [rs_len HLx.out]; omega) hq
        rw [HLx.out, HMx.out, hcx, q1x, q2x] at h8
        rw [hcx]
        exact h8)
      clear hcx p1x p2x p3x p4x p5x q1x q2x
      have c157 : U143.cell? ⟨g111, 0, none⟩ = some (.int .u8 cx.tag) := HX150.out.cell 0
      have c158 : U143.cell? ⟨g111, 1, none⟩ = some (.int .i64 cx.most) := HX150.out.cell 1
      have c159 : U143.cell? ⟨g111, 2, none⟩ = some (.int .i64 cx.seg) := HX150.out.cell 2
      have c160 : U143.cell? ⟨g111, 3, none⟩ = some (.int .i64 cx.least) := HX150.out.cell 3
      have c161 : U143.cell? ⟨g111, 4, none⟩ = some (.int .i64 cx.den) := HX150.out.cell 4
      have c162 : U143.cell? ⟨g111, 5, none⟩ = some (.int .i64 cx.leafLow) := HX150.out.cell 5
      have c163 : U143.cell? ⟨g111, 6, none⟩ = some (.int .i64 cx.rootLow) := HX150.out.cell 6
      have c164 : U143.cell? ⟨g111, 7, none⟩ = some (.int .i64 cx.rootHigh) := HX150.out.cell 7
      have c165 : U143.cell? ⟨g111, 8, none⟩ = some (.int .i64 cx.leafHigh) := HX150.out.cell 8
      have c166 : U143.cell? ⟨g111, 9, none⟩ = some (.slice Bx Mx kx) := HX150.out.cell 9
      have c167 : U143.cell? ⟨g111, 10, none⟩ = some (.int .u64 Nx) := HX150.out.cell 10
      have l168 : g111 < U143.heap.size := HX150.out.lt
      go_wp2_with fail
      clear c157 c158 c159 c160 c161 c162 c163 c164 c165 c166 c167 l168
      refine (HGKx.out _ HY153.out HY152.out).mono ?_
      rintro e w169 ⟨rfl, hb170⟩
      have HF171 := Lib.hid (bext HF148.out hb170)
      have HX172 := Lib.hid (HX149.out.below hb170 HX149.out.lt)
      have HX173 := Lib.hid (HX150.out.below hb170 HX150.out.lt)
      have HX174 := Lib.hid (HX156.out.below hb170 HX156.out.lt)
      have HY175 := Lib.hid (RunsAt.below HY151.out hb170)
      have HY176 := Lib.hid (tab_below2 HY152.out hb170)
      have HY177 := Lib.hid (RunsAt.below HY153.out hb170)
      have HY178 := Lib.hid (RunsAt.below HY154.out hb170)
      clear HF148 HX149 HX150 HX156 HY151 HY152 HY153 HY154
      clear hb170
      have c179 : w169.cell? ⟨g111, 0, none⟩ = some (.int .u8 cx.tag) := HX173.out.cell 0
      have c180 : w169.cell? ⟨g111, 1, none⟩ = some (.int .i64 cx.most) := HX173.out.cell 1
      have c181 : w169.cell? ⟨g111, 2, none⟩ = some (.int .i64 cx.seg) := HX173.out.cell 2
      have c182 : w169.cell? ⟨g111, 3, none⟩ = some (.int .i64 cx.least) := HX173.out.cell 3
      have c183 : w169.cell? ⟨g111, 4, none⟩ = some (.int .i64 cx.den) := HX173.out.cell 4
      have c184 : w169.cell? ⟨g111, 5, none⟩ = some (.int .i64 cx.leafLow) := HX173.out.cell 5
      have c185 : w169.cell? ⟨g111, 6, none⟩ = some (.int .i64 cx.rootLow) := HX173.out.cell 6
      have c186 : w169.cell? ⟨g111, 7, none⟩ = some (.int .i64 cx.rootHigh) := HX173.out.cell 7
      have c187 : w169.cell? ⟨g111, 8, none⟩ = some (.int .i64 cx.leafHigh) := HX173.out.cell 8
      have c188 : w169.cell? ⟨g111, 9, none⟩ = some (.slice Bx Mx kx) := HX173.out.cell 9
      have c189 : w169.cell? ⟨g111, 10, none⟩ = some (.int .u64 Nx) := HX173.out.cell 10
      have l190 : g111 < w169.heap.size := HX173.out.lt
      go_wp2_with fail
      clear c179 c180 c181 c182 c183 c184 c185 c186 c187 c188 c189 l190
      refine (HGOx.out _ HY177.out HY176.out).mono ?_
      rintro e w191 ⟨rfl, hb192⟩
      have HF193 := Lib.hid (bext HF171.out hb192)
      have HX194 := Lib.hid (HX172.out.below hb192 HX172.out.lt)
      have HX195 := Lib.hid (HX173.out.below hb192 HX173.out.lt)
      have HX196 := Lib.hid (HX174.out.below hb192 HX174.out.lt)
      have HY197 := Lib.hid (RunsAt.below HY175.out hb192)
      have HY198 := Lib.hid (tab_below2 HY176.out hb192)
      have HY199 := Lib.hid (RunsAt.below HY177.out hb192)
      have HY200 := Lib.hid (RunsAt.below HY178.out hb192)
      clear HF171 HX172 HX173 HX174 HY175 HY176 HY177 HY178
      clear hb192
      have c201 : w191.cell? ⟨g111, 0, none⟩ = some (.int .u8 cx.tag) := HX195.out.cell 0
      have c202 : w191.cell? ⟨g111, 1, none⟩ = some (.int .i64 cx.most) := HX195.out.cell 1
      have c203 : w191.cell? ⟨g111, 2, none⟩ = some (.int .i64 cx.seg) := HX195.out.cell 2
      have c204 : w191.cell? ⟨g111, 3, none⟩ = some (.int .i64 cx.least) := HX195.out.cell 3
      have c205 : w191.cell? ⟨g111, 4, none⟩ = some (.int .i64 cx.den) := HX195.out.cell 4
      have c206 : w191.cell? ⟨g111, 5, none⟩ = some (.int .i64 cx.leafLow) := HX195.out.cell 5
      have c207 : w191.cell? ⟨g111, 6, none⟩ = some (.int .i64 cx.rootLow) := HX195.out.cell 6
      have c208 : w191.cell? ⟨g111, 7, none⟩ = some (.int .i64 cx.rootHigh) := HX195.out.cell 7
      have c209 : w191.cell? ⟨g111, 8, none⟩ = some (.int .i64 cx.leafHigh) := HX195.out.cell 8
      have c210 : w191.cell? ⟨g111, 9, none⟩ = some (.slice Bx Mx kx) := HX195.out.cell 9
      have c211 : w191.cell? ⟨g111, 10, none⟩ = some (.int .u64 Nx) := HX195.out.cell 10
      have l212 : g111 < w191.heap.size := HX195.out.lt
      go_wp2_with fail
      clear c201 c202 c203 c204 c205 c206 c207 c208 c209 c210 c211 l212
      refine (HCKx.out _ HY199.out).mono ?_
      rintro e w213 ⟨rfl, hb214⟩
      have HF215 := Lib.hid (bext HF193.out hb214)
      have HX216 := Lib.hid (HX194.out.below hb214 HX194.out.lt)
      have HX217 := Lib.hid (HX195.out.below hb214 HX195.out.lt)
      have HX218 := Lib.hid (HX196.out.below hb214 HX196.out.lt)
      have HY219 := Lib.hid (RunsAt.below HY197.out hb214)
      have HY220 := Lib.hid (tab_below2 HY198.out hb214)
      have HY221 := Lib.hid (RunsAt.below HY199.out hb214)
      have HY222 := Lib.hid (RunsAt.below HY200.out hb214)
      clear HF193 HX194 HX195 HX196 HY197 HY198 HY199 HY200
      clear hb214
      have HCKy := Lib.hid (show ∀ W, RunsAt W By Ry → Calls Tryd.prog 35 #[.agg (lrow cy By My ky Ny)] W (fun r w' => r = .returned (.int .i64 0) ∧ Below W.heap.size W w') from fun W hW => by
        have h8 := checkD_any By Ry ky cy Ny W hW (by rw [HLy.out]; omega) (by rw [rs_len HLy.out]; omega)
        rw [HLy.out, HMy.out, hcy, p1y] at h8
        rw [hcy]
        exact h8)
      have HGKy := Lib.hid (show ∀ W, RunsAt W By Ry → TabAt 1 Lib.deBruijn64tab W → Calls Tryd.prog 32 #[.agg (lrow cy By My ky Ny), .int .i64 key] W (fun r w' => r = .returned (.tuple #[.int .i64 vky, .int .i64 6]) ∧ Below W.heap.size W w') from fun W hW hq => by
        have h8 := getD_any By Ry ky cy Ny key W hW (by rw [HLy.out]; omega) (by rw [rs_len HLy.out]; omega) hq
        rw [HLy.out, HMy.out, hcy, p2y, p3y] at h8
        rw [hcy]
        exact h8)
      have HGOy := Lib.hid (show ∀ W, RunsAt W By Ry → TabAt 1 Lib.deBruijn64tab W → Calls Tryd.prog 32 #[.agg (lrow cy By My ky Ny), .int .i64 other] W (fun r w' => r = .returned (.tuple #[.int .i64 v1, .int .i64 e1]) ∧ Below W.heap.size W w') from fun W hW hq => by
        have h8 := getD_any By Ry ky cy Ny other W hW (by rw [HLy.out]; omega) (by rw [rs_len HLy.out]; omega) hq
        rw [HLy.out, HMy.out, hcy, q1y, q2y] at h8
        rw [hcy]
        exact h8)
      clear hcy p1y p2y p3y p4y p5y q1y q2y
      have c223 : w213.cell? ⟨g144, 0, none⟩ = some (.int .u8 cy.tag) := HX218.out.cell 0
      have c224 : w213.cell? ⟨g144, 1, none⟩ = some (.int .i64 cy.most) := HX218.out.cell 1
      have c225 : w213.cell? ⟨g144, 2, none⟩ = some (.int .i64 cy.seg) := HX218.out.cell 2
      have c226 : w213.cell? ⟨g144, 3, none⟩ = some (.int .i64 cy.least) := HX218.out.cell 3
      have c227 : w213.cell? ⟨g144, 4, none⟩ = some (.int .i64 cy.den) := HX218.out.cell 4
      have c228 : w213.cell? ⟨g144, 5, none⟩ = some (.int .i64 cy.leafLow) := HX218.out.cell 5
      have c229 : w213.cell? ⟨g144, 6, none⟩ = some (.int .i64 cy.rootLow) := HX218.out.cell 6
      have c230 : w213.cell? ⟨g144, 7, none⟩ = some (.int .i64 cy.rootHigh) := HX218.out.cell 7
      have c231 : w213.cell? ⟨g144, 8, none⟩ = some (.int .i64 cy.leafHigh) := HX218.out.cell 8
      have c232 : w213.cell? ⟨g144, 9, none⟩ = some (.slice By My ky) := HX218.out.cell 9
      have c233 : w213.cell? ⟨g144, 10, none⟩ = some (.int .u64 Ny) := HX218.out.cell 10
      have l234 : g144 < w213.heap.size := HX218.out.lt
      go_wp2_with fail
      clear c223 c224 c225 c226 c227 c228 c229 c230 c231 c232 c233 l234
      refine (HGKy.out _ HY222.out HY220.out).mono ?_
      rintro e w235 ⟨rfl, hb236⟩
      have HF237 := Lib.hid (bext HF215.out hb236)
      have HX238 := Lib.hid (HX216.out.below hb236 HX216.out.lt)
      have HX239 := Lib.hid (HX217.out.below hb236 HX217.out.lt)
      have HX240 := Lib.hid (HX218.out.below hb236 HX218.out.lt)
      have HY241 := Lib.hid (RunsAt.below HY219.out hb236)
      have HY242 := Lib.hid (tab_below2 HY220.out hb236)
      have HY243 := Lib.hid (RunsAt.below HY221.out hb236)
      have HY244 := Lib.hid (RunsAt.below HY222.out hb236)
      clear HF215 HX216 HX217 HX218 HY219 HY220 HY221 HY222
      clear hb236
      have c245 : w235.cell? ⟨g144, 0, none⟩ = some (.int .u8 cy.tag) := HX240.out.cell 0
      have c246 : w235.cell? ⟨g144, 1, none⟩ = some (.int .i64 cy.most) := HX240.out.cell 1
      have c247 : w235.cell? ⟨g144, 2, none⟩ = some (.int .i64 cy.seg) := HX240.out.cell 2
      have c248 : w235.cell? ⟨g144, 3, none⟩ = some (.int .i64 cy.least) := HX240.out.cell 3
      have c249 : w235.cell? ⟨g144, 4, none⟩ = some (.int .i64 cy.den) := HX240.out.cell 4
      have c250 : w235.cell? ⟨g144, 5, none⟩ = some (.int .i64 cy.leafLow) := HX240.out.cell 5
      have c251 : w235.cell? ⟨g144, 6, none⟩ = some (.int .i64 cy.rootLow) := HX240.out.cell 6
      have c252 : w235.cell? ⟨g144, 7, none⟩ = some (.int .i64 cy.rootHigh) := HX240.out.cell 7
      have c253 : w235.cell? ⟨g144, 8, none⟩ = some (.int .i64 cy.leafHigh) := HX240.out.cell 8
      have c254 : w235.cell? ⟨g144, 9, none⟩ = some (.slice By My ky) := HX240.out.cell 9
      have c255 : w235.cell? ⟨g144, 10, none⟩ = some (.int .u64 Ny) := HX240.out.cell 10
      have l256 : g144 < w235.heap.size := HX240.out.lt
      go_wp2_with fail
      clear c245 c246 c247 c248 c249 c250 c251 c252 c253 c254 c255 l256
      refine (HGOy.out _ HY244.out HY242.out).mono ?_
      rintro e w257 ⟨rfl, hb258⟩
      have HF259 := Lib.hid (bext HF237.out hb258)
      have HX260 := Lib.hid (HX238.out.below hb258 HX238.out.lt)
      have HX261 := Lib.hid (HX239.out.below hb258 HX239.out.lt)
      have HX262 := Lib.hid (HX240.out.below hb258 HX240.out.lt)
      have HY263 := Lib.hid (RunsAt.below HY241.out hb258)
      have HY264 := Lib.hid (tab_below2 HY242.out hb258)
      have HY265 := Lib.hid (RunsAt.below HY243.out hb258)
      have HY266 := Lib.hid (RunsAt.below HY244.out hb258)
      clear HF237 HX238 HX239 HX240 HY241 HY242 HY243 HY244
      clear hb258
      have c267 : w257.cell? ⟨g144, 0, none⟩ = some (.int .u8 cy.tag) := HX262.out.cell 0
      have c268 : w257.cell? ⟨g144, 1, none⟩ = some (.int .i64 cy.most) := HX262.out.cell 1
      have c269 : w257.cell? ⟨g144, 2, none⟩ = some (.int .i64 cy.seg) := HX262.out.cell 2
      have c270 : w257.cell? ⟨g144, 3, none⟩ = some (.int .i64 cy.least) := HX262.out.cell 3
      have c271 : w257.cell? ⟨g144, 4, none⟩ = some (.int .i64 cy.den) := HX262.out.cell 4
      have c272 : w257.cell? ⟨g144, 5, none⟩ = some (.int .i64 cy.leafLow) := HX262.out.cell 5
      have c273 : w257.cell? ⟨g144, 6, none⟩ = some (.int .i64 cy.rootLow) := HX262.out.cell 6
      have c274 : w257.cell? ⟨g144, 7, none⟩ = some (.int .i64 cy.rootHigh) := HX262.out.cell 7
      have c275 : w257.cell? ⟨g144, 8, none⟩ = some (.int .i64 cy.leafHigh) := HX262.out.cell 8
      have c276 : w257.cell? ⟨g144, 9, none⟩ = some (.slice By My ky) := HX262.out.cell 9
      have c277 : w257.cell? ⟨g144, 10, none⟩ = some (.int .u64 Ny) := HX262.out.cell 10
      have l278 : g144 < w257.heap.size := HX262.out.lt
      go_wp2_with fail
      clear c267 c268 c269 c270 c271 c272 c273 c274 c275 c276 c277 l278
      refine (HCKy.out _ HY266.out).mono ?_
      rintro e w279 ⟨rfl, hb280⟩
      have HF281 := Lib.hid (bext HF259.out hb280)
      have HX282 := Lib.hid (HX260.out.below hb280 HX260.out.lt)
      have HX283 := Lib.hid (HX261.out.below hb280 HX261.out.lt)
      have HX284 := Lib.hid (HX262.out.below hb280 HX262.out.lt)
      have HY285 := Lib.hid (RunsAt.below HY263.out hb280)
      have HY286 := Lib.hid (tab_below2 HY264.out hb280)
      have HY287 := Lib.hid (RunsAt.below HY265.out hb280)
      have HY288 := Lib.hid (RunsAt.below HY266.out hb280)
      clear HF259 HX260 HX261 HX262 HY263 HY264 HY265 HY266
      clear hb280
      have c289 : w279.cell? ⟨g4, 0, none⟩ = some (.int .u8 c.tag) := HX282.out.cell 0
      have c290 : w279.cell? ⟨g4, 1, none⟩ = some (.int .i64 c.most) := HX282.out.cell 1
      have c291 : w279.cell? ⟨g4, 2, none⟩ = some (.int .i64 c.seg) := HX282.out.cell 2
      have c292 : w279.cell? ⟨g4, 3, none⟩ = some (.int .i64 c.least) := HX282.out.cell 3
      have c293 : w279.cell? ⟨g4, 4, none⟩ = some (.int .i64 c.den) := HX282.out.cell 4
      have c294 : w279.cell? ⟨g4, 5, none⟩ = some (.int .i64 c.leafLow) := HX282.out.cell 5
      have c295 : w279.cell? ⟨g4, 6, none⟩ = some (.int .i64 c.rootLow) := HX282.out.cell 6
      have c296 : w279.cell? ⟨g4, 7, none⟩ = some (.int .i64 c.rootHigh) := HX282.out.cell 7
      have c297 : w279.cell? ⟨g4, 8, none⟩ = some (.int .i64 c.leafHigh) := HX282.out.cell 8
      have c298 : w279.cell? ⟨g4, 9, none⟩ = some (.slice B Rs.length k) := HX282.out.cell 9
      have c299 : w279.cell? ⟨g4, 10, none⟩ = some (.int .u64 n) := HX282.out.cell 10
      have l300 : g4 < w279.heap.size := HX282.out.lt
      go_wp2_with fail
      go_ret
      refine ⟨?_, HF281.out⟩
      rfl
  · subst hv2
    by_cases hg0 : eg = 0
    · subst hg0
      have hlt : (N : Int) < c.most := (HPI2.out.1 rfl).resolve_left (by decide)
      have hltd : decide ((N : Int) < c.most) = true := decide_eq_true hlt
      clear HPI2 hlt
      by_cases hko : other = key
      · skip
        obtain ⟨p1x, p2x, p3x, p4x, p5x, p6x⟩ := HPG2.out rfl
        have hcx := HCX.out rfl
        clear p6x
        obtain ⟨eox, q1x⟩ : ∃ x, veD c Lx other = x := ⟨_, rfl⟩
        obtain ⟨vox, q2x⟩ : ∃ x, vlD c Lx other = x := ⟨_, rfl⟩
        have hk1 : (other == key) = true := by simpa using hko
        have hk2 : (other != key) = false := by simpa using hko
        clear hko
        have HCKx := Lib.hid (show ∀ W, RunsAt W Bx Rx → Calls Tryd.prog 35 #[.agg (lrow cx Bx Mx kx Nx)] W (fun r w' => r = .returned (.int .i64 0) ∧ Below W.heap.size W w') from fun W hW => by
          have h8 := checkD_any Bx Rx kx cx Nx W hW (by rw [HLx.out]; omega) (by rw [rs_len HLx.out]; omega)
          rw [HLx.out, HMx.out, hcx, p1x] at h8
          rw [hcx]
          exact h8)
        have HGKx := Lib.hid (show ∀ W, RunsAt W Bx Rx → TabAt 1 Lib.deBruijn64tab W → Calls Tryd.prog 32 #[.agg (lrow cx Bx Mx kx Nx), .int .i64 key] W (fun r w' => r = .returned (.tuple #[.int .i64 val, .int .i64 0]) ∧ Below W.heap.size W w') from fun W hW hq => by
          have h8 := getD_any Bx Rx kx cx Nx key W hW (by rw [HLx.out]; omega) (by rw [rs_len HLx.out]; omega) hq
          rw [HLx.out, HMx.out, hcx, p2x, p3x] at h8
          rw [hcx]
          exact h8)
        have HGOx := Lib.hid (show ∀ W, RunsAt W Bx Rx → TabAt 1 Lib.deBruijn64tab W → Calls Tryd.prog 32 #[.agg (lrow cx Bx Mx kx Nx), .int .i64 other] W (fun r w' => r = .returned (.tuple #[.int .i64 vox, .int .i64 eox]) ∧ Below W.heap.size W w') from fun W hW hq => by
          have h8 := getD_any Bx Rx kx cx Nx other W hW (by rw [HLx.out]; omega) (by rw [rs_len HLx.out]; omega) hq
          rw [HLx.out, HMx.out, hcx, q1x, q2x] at h8
          rw [hcx]
          exact h8)
        clear hcx p1x p2x p3x p4x p5x q1x q2x
        have c157 : U143.cell? ⟨g111, 0, none⟩ = some (.int .u8 cx.tag) := HX150.out.cell 0
        have c158 : U143.cell? ⟨g111, 1, none⟩ = some (.int .i64 cx.most) := HX150.out.cell 1
        have c159 : U143.cell? ⟨g111, 2, none⟩ = some (.int .i64 cx.seg) := HX150.out.cell 2
        have c160 : U143.cell? ⟨g111, 3, none⟩ = some (.int .i64 cx.least) := HX150.out.cell 3
        have c161 : U143.cell? ⟨g111, 4, none⟩ = some (.int .i64 cx.den) := HX150.out.cell 4
        have c162 : U143.cell? ⟨g111, 5, none⟩ = some (.int .i64 cx.leafLow) := HX150.out.cell 5
        have c163 : U143.cell? ⟨g111, 6, none⟩ = some (.int .i64 cx.rootLow) := HX150.out.cell 6
        have c164 : U143.cell? ⟨g111, 7, none⟩ = some (.int .i64 cx.rootHigh) := HX150.out.cell 7
        have c165 : U143.cell? ⟨g111, 8, none⟩ = some (.int .i64 cx.leafHigh) := HX150.out.cell 8
        have c166 : U143.cell? ⟨g111, 9, none⟩ = some (.slice Bx Mx kx) := HX150.out.cell 9
        have c167 : U143.cell? ⟨g111, 10, none⟩ = some (.int .u64 Nx) := HX150.out.cell 10
        have l168 : g111 < U143.heap.size := HX150.out.lt
        go_wp2_with fail
        clear c157 c158 c159 c160 c161 c162 c163 c164 c165 c166 c167 l168
        refine (HGKx.out _ HY153.out HY152.out).mono ?_
        rintro e w169 ⟨rfl, hb170⟩
        have HF171 := Lib.hid (bext HF148.out hb170)
        have HX172 := Lib.hid (HX149.out.below hb170 HX149.out.lt)
        have HX173 := Lib.hid (HX150.out.below hb170 HX150.out.lt)
        have HX174 := Lib.hid (HX156.out.below hb170 HX156.out.lt)
        have HY175 := Lib.hid (RunsAt.below HY151.out hb170)
        have HY176 := Lib.hid (tab_below2 HY152.out hb170)
        have HY177 := Lib.hid (RunsAt.below HY153.out hb170)
        have HY178 := Lib.hid (RunsAt.below HY154.out hb170)
        clear HF148 HX149 HX150 HX156 HY151 HY152 HY153 HY154
        clear hb170
        have c179 : w169.cell? ⟨g111, 0, none⟩ = some (.int .u8 cx.tag) := HX173.out.cell 0
        have c180 : w169.cell? ⟨g111, 1, none⟩ = some (.int .i64 cx.most) := HX173.out.cell 1
        have c181 : w169.cell? ⟨g111, 2, none⟩ = some (.int .i64 cx.seg) := HX173.out.cell 2
        have c182 : w169.cell? ⟨g111, 3, none⟩ = some (.int .i64 cx.least) := HX173.out.cell 3
        have c183 : w169.cell? ⟨g111, 4, none⟩ = some (.int .i64 cx.den) := HX173.out.cell 4
        have c184 : w169.cell? ⟨g111, 5, none⟩ = some (.int .i64 cx.leafLow) := HX173.out.cell 5
        have c185 : w169.cell? ⟨g111, 6, none⟩ = some (.int .i64 cx.rootLow) := HX173.out.cell 6
        have c186 : w169.cell? ⟨g111, 7, none⟩ = some (.int .i64 cx.rootHigh) := HX173.out.cell 7
        have c187 : w169.cell? ⟨g111, 8, none⟩ = some (.int .i64 cx.leafHigh) := HX173.out.cell 8
        have c188 : w169.cell? ⟨g111, 9, none⟩ = some (.slice Bx Mx kx) := HX173.out.cell 9
        have c189 : w169.cell? ⟨g111, 10, none⟩ = some (.int .u64 Nx) := HX173.out.cell 10
        have l190 : g111 < w169.heap.size := HX173.out.lt
        go_wp2_with fail
        clear c179 c180 c181 c182 c183 c184 c185 c186 c187 c188 c189 l190
        refine (HGOx.out _ HY177.out HY176.out).mono ?_
        rintro e w191 ⟨rfl, hb192⟩
        have HF193 := Lib.hid (bext HF171.out hb192)
        have HX194 := Lib.hid (HX172.out.below hb192 HX172.out.lt)
        have HX195 := Lib.hid (HX173.out.below hb192 HX173.out.lt)
        have HX196 := Lib.hid (HX174.out.below hb192 HX174.out.lt)
        have HY197 := Lib.hid (RunsAt.below HY175.out hb192)
        have HY198 := Lib.hid (tab_below2 HY176.out hb192)
        have HY199 := Lib.hid (RunsAt.below HY177.out hb192)
        have HY200 := Lib.hid (RunsAt.below HY178.out hb192)
        clear HF171 HX172 HX173 HX174 HY175 HY176 HY177 HY178
        clear hb192
        have c201 : w191.cell? ⟨g111, 0, none⟩ = some (.int .u8 cx.tag) := HX195.out.cell 0
        have c202 : w191.cell? ⟨g111, 1, none⟩ = some (.int .i64 cx.most) := HX195.out.cell 1
        have c203 : w191.cell? ⟨g111, 2, none⟩ = some (.int .i64 cx.seg) := HX195.out.cell 2
        have c204 : w191.cell? ⟨g111, 3, none⟩ = some (.int .i64 cx.least) := HX195.out.cell 3
        have c205 : w191.cell? ⟨g111, 4, none⟩ = some (.int .i64 cx.den) := HX195.out.cell 4
        have c206 : w191.cell? ⟨g111, 5, none⟩ = some (.int .i64 cx.leafLow) := HX195.out.cell 5
        have c207 : w191.cell? ⟨g111, 6, none⟩ = some (.int .i64 cx.rootLow) := HX195.out.cell 6
        have c208 : w191.cell? ⟨g111, 7, none⟩ = some (.int .i64 cx.rootHigh) := HX195.out.cell 7
        have c209 : w191.cell? ⟨g111, 8, none⟩ = some (.int .i64 cx.leafHigh) := HX195.out.cell 8
        have c210 : w191.cell? ⟨g111, 9, none⟩ = some (.slice Bx Mx kx) := HX195.out.cell 9
        have c211 : w191.cell? ⟨g111, 10, none⟩ = some (.int .u64 Nx) := HX195.out.cell 10
        have l212 : g111 < w191.heap.size := HX195.out.lt
        go_wp2_with fail
        clear c201 c202 c203 c204 c205 c206 c207 c208 c209 c210 c211 l212
        refine (HCKx.out _ HY199.out).mono ?_
        rintro e w213 ⟨rfl, hb214⟩
        have HF215 := Lib.hid (bext HF193.out hb214)
        have HX216 := Lib.hid (HX194.out.below hb214 HX194.out.lt)
        have HX217 := Lib.hid (HX195.out.below hb214 HX195.out.lt)
        have HX218 := Lib.hid (HX196.out.below hb214 HX196.out.lt)
        have HY219 := Lib.hid (RunsAt.below HY197.out hb214)
        have HY220 := Lib.hid (tab_below2 HY198.out hb214)
        have HY221 := Lib.hid (RunsAt.below HY199.out hb214)
        have HY222 := Lib.hid (RunsAt.below HY200.out hb214)
        clear HF193 HX194 HX195 HX196 HY197 HY198 HY199 HY200
        clear hb214
        have c223 : w213.cell? ⟨g4, 0, none⟩ = some (.int .u8 c.tag) := HX216.out.cell 0
        have c224 : w213.cell? ⟨g4, 1, none⟩ = some (.int .i64 c.most) := HX216.out.cell 1
        have c225 : w213.cell? ⟨g4, 2, none⟩ = some (.int .i64 c.seg) := HX216.out.cell 2
        have c226 : w213.cell? ⟨g4, 3, none⟩ = some (.int .i64 c.least) := HX216.out.cell 3
        have c227 : w213.cell? ⟨g4, 4, none⟩ = some (.int .i64 c.den) := HX216.out.cell 4
        have c228 : w213.cell? ⟨g4, 5, none⟩ = some (.int .i64 c.leafLow) := HX216.out.cell 5
        have c229 : w213.cell? ⟨g4, 6, none⟩ = some (.int .i64 c.rootLow) := HX216.out.cell 6
        have c230 : w213.cell? ⟨g4, 7, none⟩ = some (.int .i64 c.rootHigh) := HX216.out.cell 7
        have c231 : w213.cell? ⟨g4, 8, none⟩ = some (.int .i64 c.leafHigh) := HX216.out.cell 8
        have c232 : w213.cell? ⟨g4, 9, none⟩ = some (.slice B Rs.length k) := HX216.out.cell 9
        have c233 : w213.cell? ⟨g4, 10, none⟩ = some (.int .u64 n) := HX216.out.cell 10
        have l234 : g4 < w213.heap.size := HX216.out.lt
        go_wp2_with fail
        go_ret
        refine ⟨?_, HF215.out⟩
        rfl
      · skip
        obtain ⟨p1x, p2x, p3x, p4x, p5x, p6x⟩ := HPG2.out rfl
        have hcx := HCX.out rfl
        obtain ⟨q1x, q2x⟩ := p6x hko
        clear p6x
        have hk1 : (other == key) = false := by simpa using hko
        have hk2 : (other != key) = true := by simpa using hko
        clear hko
        have HCKx := Lib.hid (show ∀ W, RunsAt W Bx Rx → Calls Tryd.prog 35 #[.agg (lrow cx Bx Mx kx Nx)] W (fun r w' => r = .returned (.int .i64 0) ∧ Below W.heap.size W w') from fun W hW => by
          have h8 := checkD_any Bx Rx kx cx Nx W hW (by rw [HLx.out]; omega) (by rw [rs_len HLx.out]; omega)
          rw [HLx.out, HMx.out, hcx, p1x] at h8
          rw [hcx]
          exact h8)
        have HGKx := Lib.hid (show ∀ W, RunsAt W Bx Rx → TabAt 1 Lib.deBruijn64tab W → Calls Tryd.prog 32 #[.agg (lrow cx Bx Mx kx Nx), .int .i64 key] W (fun r w' => r = .returned (.tuple #[.int .i64 val, .int .i64 0]) ∧ Below W.heap.size W w') from fun W hW hq => by
          have h8 := getD_any Bx Rx kx cx Nx key W hW (by rw [HLx.out]; omega) (by rw [rs_len HLx.out]; omega) hq
          rw [HLx.out, HMx.out, hcx, p2x, p3x] at h8
          rw [hcx]
          exact h8)
        have HGOx := Lib.hid (show ∀ W, RunsAt W Bx Rx → TabAt 1 Lib.deBruijn64tab W → Calls Tryd.prog 32 #[.agg (lrow cx Bx Mx kx Nx), .int .i64 other] W (fun r w' => r = .returned (.tuple #[.int .i64 v1, .int .i64 e1]) ∧ Below W.heap.size W w') from fun W hW hq => by
          have h8 := getD_any Bx Rx kx cx Nx other W hW (by rw [HLx.out]; omega) (by rw [rs_len HLx.out]; omega) hq
          rw [HLx.out, HMx.out, hcx, q1x, q2x] at h8
          rw [hcx]
          exact h8)
        clear hcx p1x p2x p3x p4x p5x q1x q2x
        have c157 : U143.cell? ⟨g111, 0, none⟩ = some (.int .u8 cx.tag) := HX150.out.cell 0
        have c158 : U143.cell? ⟨g111, 1, none⟩ = some (.int .i64 cx.most) := HX150.out.cell 1
        have c159 : U143.cell? ⟨g111, 2, none⟩ = some (.int .i64 cx.seg) := HX150.out.cell 2
        have c160 : U143.cell? ⟨g111, 3, none⟩ = some (.int .i64 cx.least) := HX150.out.cell 3
        have c161 : U143.cell? ⟨g111, 4, none⟩ = some (.int .i64 cx.den) := HX150.out.cell 4
        have c162 : U143.cell? ⟨g111, 5, none⟩ = some (.int .i64 cx.leafLow) := HX150.out.cell 5
        have c163 : U143.cell? ⟨g111, 6, none⟩ = some (.int .i64 cx.rootLow) := HX150.out.cell 6
        have c164 : U143.cell? ⟨g111, 7, none⟩ = some (.int .i64 cx.rootHigh) := HX150.out.cell 7
        have c165 : U143.cell? ⟨g111, 8, none⟩ = some (.int .i64 cx.leafHigh) := HX150.out.cell 8
        have c166 : U143.cell? ⟨g111, 9, none⟩ = some (.slice Bx Mx kx) := HX150.out.cell 9
        have c167 : U143.cell? ⟨g111, 10, none⟩ = some (.int .u64 Nx) := HX150.out.cell 10
        have l168 : g111 < U143.heap.size := HX150.out.lt
        go_wp2_with fail
        clear c157 c158 c159 c160 c161 c162 c163 c164 c165 c166 c167 l168
        refine (HGKx.out _ HY153.out HY152.out).mono ?_
        rintro e w169 ⟨rfl, hb170⟩
        have HF171 := Lib.hid (bext HF148.out hb170)
        have HX172 := Lib.hid (HX149.out.below hb170 HX149.out.lt)
        have HX173 := Lib.hid (HX150.out.below hb170 HX150.out.lt)
        have HX174 := Lib.hid (HX156.out.below hb170 HX156.out.lt)
        have HY175 := Lib.hid (RunsAt.below HY151.out hb170)
        have HY176 := Lib.hid (tab_below2 HY152.out hb170)
        have HY177 := Lib.hid (RunsAt.below HY153.out hb170)
        have HY178 := Lib.hid (RunsAt.below HY154.out hb170)
        clear HF148 HX149 HX150 HX156 HY151 HY152 HY153 HY154
        clear hb170
        have c179 : w169.cell? ⟨g111, 0, none⟩ = some (.int .u8 cx.tag) := HX173.out.cell 0
        have c180 : w169.cell? ⟨g111, 1, none⟩ = some (.int .i64 cx.most) := HX173.out.cell 1
        have c181 : w169.cell? ⟨g111, 2, none⟩ = some (.int .i64 cx.seg) := HX173.out.cell 2
        have c182 : w169.cell? ⟨g111, 3, none⟩ = some (.int .i64 cx.least) := HX173.out.cell 3
        have c183 : w169.cell? ⟨g111, 4, none⟩ = some (.int .i64 cx.den) := HX173.out.cell 4
        have c184 : w169.cell? ⟨g111, 5, none⟩ = some (.int .i64 cx.leafLow) := HX173.out.cell 5
        have c185 : w169.cell? ⟨g111, 6, none⟩ = some (.int .i64 cx.rootLow) := HX173.out.cell 6
        have c186 : w169.cell? ⟨g111, 7, none⟩ = some (.int .i64 cx.rootHigh) := HX173.out.cell 7
        have c187 : w169.cell? ⟨g111, 8, none⟩ = some (.int .i64 cx.leafHigh) := HX173.out.cell 8
        have c188 : w169.cell? ⟨g111, 9, none⟩ = some (.slice Bx Mx kx) := HX173.out.cell 9
        have c189 : w169.cell? ⟨g111, 10, none⟩ = some (.int .u64 Nx) := HX173.out.cell 10
        have l190 : g111 < w169.heap.size := HX173.out.lt
        go_wp2_with fail
        clear c179 c180 c181 c182 c183 c184 c185 c186 c187 c188 c189 l190
        refine (HGOx.out _ HY177.out HY176.out).mono ?_
        rintro e w191 ⟨rfl, hb192⟩
        have HF193 := Lib.hid (bext HF171.out hb192)
        have HX194 := Lib.hid (HX172.out.below hb192 HX172.out.lt)
        have HX195 := Lib.hid (HX173.out.below hb192 HX173.out.lt)
        have HX196 := Lib.hid (HX174.out.below hb192 HX174.out.lt)
        have HY197 := Lib.hid (RunsAt.below HY175.out hb192)
        have HY198 := Lib.hid (tab_below2 HY176.out hb192)
        have HY199 := Lib.hid (RunsAt.below HY177.out hb192)
        have HY200 := Lib.hid (RunsAt.below HY178.out hb192)
        clear HF171 HX172 HX173 HX174 HY175 HY176 HY177 HY178
        clear hb192
        have c201 : w191.cell? ⟨g111, 0, none⟩ = some (.int .u8 cx.tag) := HX195.out.cell 0
        have c202 : w191.cell? ⟨g111, 1, none⟩ = some (.int .i64 cx.most) := HX195.out.cell 1
        have c203 : w191.cell? ⟨g111, 2, none⟩ = some (.int .i64 cx.seg) := HX195.out.cell 2
        have c204 : w191.cell? ⟨g111, 3, none⟩ = some (.int .i64 cx.least) := HX195.out.cell 3
        have c205 : w191.cell? ⟨g111, 4, none⟩ = some (.int .i64 cx.den) := HX195.out.cell 4
        have c206 : w191.cell? ⟨g111, 5, none⟩ = some (.int .i64 cx.leafLow) := HX195.out.cell 5
        have c207 : w191.cell? ⟨g111, 6, none⟩ = some (.int .i64 cx.rootLow) := HX195.out.cell 6
        have c208 : w191.cell? ⟨g111, 7, none⟩ = some (.int .i64 cx.rootHigh) := HX195.out.cell 7
        have c209 : w191.cell? ⟨g111, 8, none⟩ = some (.int .i64 cx.leafHigh) := HX195.out.cell 8
        have c210 : w191.cell? ⟨g111, 9, none⟩ = some (.slice Bx Mx kx) := HX195.out.cell 9
        have c211 : w191.cell? ⟨g111, 10, none⟩ = some (.int .u64 Nx) := HX195.out.cell 10
        have l212 : g111 < w191.heap.size := HX195.out.lt
        go_wp2_with fail
        clear c201 c202 c203 c204 c205 c206 c207 c208 c209 c210 c211 l212
        refine (HCKx.out _ HY199.out).mono ?_
        rintro e w213 ⟨rfl, hb214⟩
        have HF215 := Lib.hid (bext HF193.out hb214)
        have HX216 := Lib.hid (HX194.out.below hb214 HX194.out.lt)
        have HX217 := Lib.hid (HX195.out.below hb214 HX195.out.lt)
        have HX218 := Lib.hid (HX196.out.below hb214 HX196.out.lt)
        have HY219 := Lib.hid (RunsAt.below HY197.out hb214)
        have HY220 := Lib.hid (tab_below2 HY198.out hb214)
        have HY221 := Lib.hid (RunsAt.below HY199.out hb214)
        have HY222 := Lib.hid (RunsAt.below HY200.out hb214)
        clear HF193 HX194 HX195 HX196 HY197 HY198 HY199 HY200
        clear hb214
        have c223 : w213.cell? ⟨g4, 0, none⟩ = some (.int .u8 c.tag) := HX216.out.cell 0
        have c224 : w213.cell? ⟨g4, 1, none⟩ = some (.int .i64 c.most) := HX216.out.cell 1
        have c225 : w213.cell? ⟨g4, 2, none⟩ = some (.int .i64 c.seg) := HX216.out.cell 2
        have c226 : w213.cell? ⟨g4, 3, none⟩ = some (.int .i64 c.least) := HX216.out.cell 3
        have c227 : w213.cell? ⟨g4, 4, none⟩ = some (.int .i64 c.den) := HX216.out.cell 4
        have c228 : w213.cell? ⟨g4, 5, none⟩ = some (.int .i64 c.leafLow) := HX216.out.cell 5
        have c229 : w213.cell? ⟨g4, 6, none⟩ = some (.int .i64 c.rootLow) := HX216.out.cell 6
        have c230 : w213.cell? ⟨g4, 7, none⟩ = some (.int .i64 c.rootHigh) := HX216.out.cell 7
        have c231 : w213.cell? ⟨g4, 8, none⟩ = some (.int .i64 c.leafHigh) := HX216.out.cell 8
        have c232 : w213.cell? ⟨g4, 9, none⟩ = some (.slice B Rs.length k) := HX216.out.cell 9
        have c233 : w213.cell? ⟨g4, 10, none⟩ = some (.int .u64 n) := HX216.out.cell 10
        have l234 : g4 < w213.heap.size := HX216.out.lt
        go_wp2_with fail
        go_ret
        refine ⟨?_, HF215.out⟩
        rfl
    · have hnl : ¬ (N : Int) < c.most := fun h => hg0 (HPI2.out.2 (Or.inr h))
      have hltd : decide ((N : Int) < c.most) = false := decide_eq_false hnl
      have hgb : (eg == 0) = false := by simpa using hg0
      clear HPI2 hnl hg0
      by_cases hko : other = key
      · skip
        have hk1 : (other == key) = true := by simpa using hko
        have hk2 : (other != key) = false := by simpa using hko
        clear hko
        have c157 : U143.cell? ⟨g4, 0, none⟩ = some (.int .u8 c.tag) := HX149.out.cell 0
        have c158 : U143.cell? ⟨g4, 1, none⟩ = some (.int .i64 c.most) := HX149.out.cell 1
        have c159 : U143.cell? ⟨g4, 2, none⟩ = some (.int .i64 c.seg) := HX149.out.cell 2
        have c160 : U143.cell? ⟨g4, 3, none⟩ = some (.int .i64 c.least) := HX149.out.cell 3
        have c161 : U143.cell? ⟨g4, 4, none⟩ = some (.int .i64 c.den) := HX149.out.cell 4
        have c162 : U143.cell? ⟨g4, 5, none⟩ = some (.int .i64 c.leafLow) := HX149.out.cell 5
        have c163 : U143.cell? ⟨g4, 6, none⟩ = some (.int .i64 c.rootLow) := HX149.out.cell 6
        have c164 : U143.cell? ⟨g4, 7, none⟩ = some (.int .i64 c.rootHigh) := HX149.out.cell 7
        have c165 : U143.cell? ⟨g4, 8, none⟩ = some (.int .i64 c.leafHigh) := HX149.out.cell 8
        have c166 : U143.cell? ⟨g4, 9, none⟩ = some (.slice B Rs.length k) := HX149.out.cell 9
        have c167 : U143.cell? ⟨g4, 10, none⟩ = some (.int .u64 n) := HX149.out.cell 10
        have l168 : g4 < U143.heap.size := HX149.out.lt
        go_wp2_with fail
        go_ret
        refine ⟨?_, HF148.out⟩
        rfl
      · skip
        have hk1 : (other == key) = false := by simpa using hko
        have hk2 : (other != key) = true := by simpa using hko
        clear hko
        have c157 : U143.cell? ⟨g4, 0, none⟩ = some (.int .u8 c.tag) := HX149.out.cell 0
        have c158 : U143.cell? ⟨g4, 1, none⟩ = some (.int .i64 c.most) := HX149.out.cell 1
        have c159 : U143.cell? ⟨g4, 2, none⟩ = some (.int .i64 c.seg) := HX149.out.cell 2
        have c160 : U143.cell? ⟨g4, 3, none⟩ = some (.int .i64 c.least) := HX149.out.cell 3
        have c161 : U143.cell? ⟨g4, 4, none⟩ = some (.int .i64 c.den) := HX149.out.cell 4
        have c162 : U143.cell? ⟨g4, 5, none⟩ = some (.int .i64 c.leafLow) := HX149.out.cell 5
        have c163 : U143.cell? ⟨g4, 6, none⟩ = some (.int .i64 c.rootLow) := HX149.out.cell 6
        have c164 : U143.cell? ⟨g4, 7, none⟩ = some (.int .i64 c.rootHigh) := HX149.out.cell 7
        have c165 : U143.cell? ⟨g4, 8, none⟩ = some (.int .i64 c.leafHigh) := HX149.out.cell 8
        have c166 : U143.cell? ⟨g4, 9, none⟩ = some (.slice B Rs.length k) := HX149.out.cell 9
        have c167 : U143.cell? ⟨g4, 10, none⟩ = some (.int .u64 n) := HX149.out.cell 10
        have l168 : g4 < U143.heap.size := HX149.out.lt
        go_wp2_with fail
        go_ret
        refine ⟨?_, HF148.out⟩
        rfl
end Go.Proofs.YthdcllnmnmemdaaDoor
