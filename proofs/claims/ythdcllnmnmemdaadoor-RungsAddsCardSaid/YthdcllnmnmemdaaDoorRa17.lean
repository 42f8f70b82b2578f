/- The law RungsAdds: for every levels, entry and key it returns true; its arguments stay as they were. As a card: math/bits' tables read as their initialisers lay them; no further condition. -/
import Derived.Test.YthdcllnmnmemdaaDoorRa15
import Derived.Test.YthdcllnmnmemdaaDoorRa16
import Derived.Test.YthdcllnmnmemdaaDoorRa11
import Derived.BigQuiet
import Derived.Test.YthdcllnmnmemdaaDoorRa1
import Derived.ProofKit
import Derived.OpenShut
import Derived.JoinedCond
import Derived.Deep.Slices
import Derived.Test.YthdcllnmnmemdaaDoorProg
import Derived.Test.YthdcllnmnmemdaaDoorCards
import Derived.Test.YthdcllnmnmemdaaDoorTie
import Derived.Lib.LaidTab
import Derived.Lib.TrailingZeros
import Derived.Shelf.Spec.TrailingZeros
import Derived.Stop.LaidErr
import Derived.Deep.DeepHandedRow
import Derived.Test.YthdcllnmnmemdaaDoorRa6
import Derived.Test.YthdcllnmnmemdaaDoorRa10
/- The law RungsAdds: for every levels, entry and key it returns true; its arguments stay as they were. -/
namespace Go.Proofs.YthdcllnmnmemdaaDoor
open Go Go.RowKit
set_option maxRecDepth 100000
set_option maxHeartbeats 8000000 in
theorem rungsAdds_any (B : Option Addr) (Rs : List Rm) (c : Nat) (n : Int) (y : Ent) (key : Int) (w : World) (hB : RunsAt w B Rs) (hTb : TabAt 1 Lib.deBruijn64tab w) :
    Calls Tryd.prog 3 #[.agg #[.slice B Rs.length c, .int .u64 n], .agg #[.int .i64 y.key, .int .i64 y.val, .bool y.dead], .int .i64 key] w fun r w' => r = .returned (.bool true) ∧ Below w.heap.size w w' := by
  have HB0 := Lib.hid hB
  have HT0 := Lib.hid hTb
  clear hB hTb
  go_enter Tryd.func3, Tryd.ntmps3
  have HF := Lib.hid (Below.refl w.heap.size w)
  have HY1 := Lib.hid (HB0.out)
  have HY2 := Lib.hid (HT0.out)
  go_upto_region 1 with fail
  obtain ⟨U3, h4⟩ : ∃ U, (w.alloc (.cells #[.slice B Rs.length c, .int .u64 n] 25)).alloc (.cells #[.int .i64 y.key, .int .i64 y.val, .bool y.dead] 27) = U := ⟨_, rfl⟩
  have ba5 : Below w.heap.size w U3 := by rw [← h4]; exact ((Below.refl _ _).alloc (by first | (simp; done) | (simp; omega)) _).alloc (by first | (simp; done) | (simp; omega)) _
  have bn6 : Blk U3 (w.heap.size) 25 #[.slice B Rs.length c, .int .u64 n] := by
    rw [← h4]
    have hq := (Blk.new w 25 #[.slice B Rs.length c, .int .u64 n])
    exact (hq.alloc _)
  have bn7 : Blk U3 (w.heap.size + 1) 27 #[.int .i64 y.key, .int .i64 y.val, .bool y.dead] := by
    rw [← h4]
    have hq := (Blk.new (w.alloc (.cells #[.slice B Rs.length c, .int .u64 n] 25)) 27 #[.int .i64 y.key, .int .i64 y.val, .bool y.dead])
    simp only [World.size_alloc] at hq
    exact hq
  try rw [h4]
  have HF8 := Lib.hid (bext HF.out ba5)
  have HY9 := Lib.hid (RunsAt.below HY1.out ba5)
  have HY10 := Lib.hid (tab_below' HY2.out ba5)
  clear HF HY1 HY2
  obtain ⟨g11, h12⟩ : ∃ g, (w.heap.size + 1) = g := ⟨_, rfl⟩
  rw [h12] at bn7
  try rw [h12]
  have HX13 := Lib.hid bn7
  clear bn7 h12
  obtain ⟨g14, h15⟩ : ∃ g, (w.heap.size) = g := ⟨_, rfl⟩
  rw [h15] at bn6
  try rw [h15]
  have HX16 := Lib.hid bn6
  clear bn6 h15
  clear h4 ba5
  go_wp2_with fail
  refine (alive26_any _).mono ?_
  rintro e w17 ⟨rfl, hb18⟩
  have HF19 := Lib.hid (bext HF8.out hb18)
  have HX20 := Lib.hid (HX13.out.below hb18 HX13.out.lt)
  have HX21 := Lib.hid (HX16.out.below hb18 HX16.out.lt)
  have HY22 := Lib.hid (RunsAt.below HY9.out hb18)
  have HY23 := Lib.hid (tab_below' HY10.out hb18)
  clear HF8 HX13 HX16 HY9 HY10
  clear hb18
  have c24 : w17.cell? ⟨g14, 0, none⟩ = some (.slice B Rs.length c) := HX21.out.cell 0
  have c25 : w17.cell? ⟨g14, 1, none⟩ = some (.int .u64 n) := HX21.out.cell 1
  have l26 : g14 < w17.heap.size := HX21.out.lt
  go_wp2_with fail
  clear c24 c25 l26
  refine (great26_any B Rs c 300 n _ HY22.out (by omega)).mono ?_
  rintro e w27 ⟨G, rfl, hG, hb28⟩
  have HF29 := Lib.hid (bext HF19.out hb28)
  have HX30 := Lib.hid (HX20.out.below hb28 HX20.out.lt)
  have HX31 := Lib.hid (HX21.out.below hb28 HX21.out.lt)
  have HY32 := Lib.hid (RunsAt.below HY22.out hb28)
  have HY33 := Lib.hid (tab_below' HY23.out hb28)
  clear HF19 HX20 HX21 HY22 HY23
  clear hb28
  cases G with
  | true =>
    clear hG
    go_wp2
    go_ret
    exact ⟨rfl, HF29.out⟩
  | false =>
  have hG2 := hG rfl
  clear hG
  have hT3 : tot (lvs Rs) ≤ 300 := by omega
  have hR3 : Rs.length ≤ 300 := by omega
  clear hG2
  obtain ⟨LA, hLA⟩ : ∃ L, addL (lvs Rs) n y = L := ⟨_, rfl⟩
  obtain ⟨NA, hNA⟩ : ∃ L, addN (lvs Rs) n y = L := ⟨_, rfl⟩
  obtain ⟨EA, hEA⟩ : ∃ L, addE (lvs Rs) y = L := ⟨_, rfl⟩
  obtain ⟨x1, hx1⟩ : ∃ x, gxR LA y.key = x := ⟨_, rfl⟩
  obtain ⟨e1, he1⟩ : ∃ x, geR LA y.key = x := ⟨_, rfl⟩
  obtain ⟨x2, hx2⟩ : ∃ x, gxR (lvs Rs) key = x := ⟨_, rfl⟩
  obtain ⟨e2, he2⟩ : ∃ x, geR (lvs Rs) key = x := ⟨_, rfl⟩
  obtain ⟨x3, hx3⟩ : ∃ x, gxR LA key = x := ⟨_, rfl⟩
  obtain ⟨e3, he3⟩ : ∃ x, geR LA key = x := ⟨_, rfl⟩
  have hok : EA = 0 → chkR LA = 0 ∧ tot LA ≤ 65536 ∧ LA.length ≤ 17 ∧ (y.dead = false → e1 = 0 ∧ x1 = y) ∧ (y.dead = true → e1 = 0 → x1.dead = true) ∧ (key ≠ y.key → (decide (e2 = 0) && !x2.dead) = (decide (e3 = 0) && !x3.dead)) ∧ (key ≠ y.key → (decide (e2 = 0) && !x2.dead) = true → x2 = x3) := fun h => by
    have h1 := adds_ok (hEA.trans h) n key
    have h2 := addL_le (n := n) (hEA.trans h)
    obtain ⟨g1, g2, g3, g4, g5⟩ := h1
    unfold isB at g4 g5
    rw [hLA] at g1 g2 g3 g4 g5 h2
    rw [hx1, he1] at g2
    rw [hx1, he1] at g3
    rw [hx2, he2, hx3, he3] at g4
    rw [hx2, he2, hx3] at g5
    exact ⟨g1, h2.1, h2.2, g2, g3, g4, g5⟩
  have HOK := Lib.hid hok
  have hno : EA ≠ 0 → LA = [] := fun h => by rw [← hLA]; unfold addL; rw [if_neg (by rw [hEA]; exact h)]
  have HNO := Lib.hid hno
  have HADD := Lib.hid (show ∀ W, RunsAt W B Rs → Calls Tryd.prog 12 #[.agg #[.slice B Rs.length c, .int .u64 n], .agg #[.int .i64 y.key, .int .i64 y.val, .bool y.dead]] W (GivesRgE LA NA EA W) from fun W hW => by
    have h8 := addR_any B Rs c n y W hW (by omega) (by omega)
    rw [hLA, hNA, hEA] at h8
    exact h8)
  have HG2 := Lib.hid (show ∀ W, RunsAt W B Rs → TabAt 1 Lib.deBruijn64tab W → Calls Tryd.prog 13 #[.agg #[.slice B Rs.length c, .int .u64 n], .int .i64 key] W (GivesX x2 e2 W) from fun W hW hq => by
    have h8 := getR_any B Rs c n key W hW (by omega) (by omega) hq
    rw [hx2, he2] at h8
    exact h8)
  have HX1 := Lib.hid hx1
  have HE1 := Lib.hid he1
  have HX3 := Lib.hid hx3
  have HE3 := Lib.hid he3
  clear hLA hNA hEA hok hno hT3 hR3 hx1 he1 hx2 he2 hx3 he3
  have c34 : w27.cell? ⟨g14, 0, none⟩ = some (.slice B Rs.length c) := HX31.out.cell 0
  have c35 : w27.cell? ⟨g14, 1, none⟩ = some (.int .u64 n) := HX31.out.cell 1
  have l36 : g14 < w27.heap.size := HX31.out.lt
  have c37 : w27.cell? ⟨g11, 0, none⟩ = some (.int .i64 y.key) := HX30.out.cell 0
  have c38 : w27.cell? ⟨g11, 1, none⟩ = some (.int .i64 y.val) := HX30.out.cell 1
  have c39 : w27.cell? ⟨g11, 2, none⟩ = some (.bool y.dead) := HX30.out.cell 2
  have l40 : g11 < w27.heap.size := HX30.out.lt
  go_wp2_with fail
  clear c34 c35 l36 c37 c38 c39 l40
  refine (HADD.out _ HY32.out).mono ?_
  rintro e w41 ⟨Ba, ca, Ra, rfl, hla, hoa, hb42⟩
  have HOA := Lib.hid hoa.runsAt
  have HLA := Lib.hid hla
  obtain ⟨Na, hNa⟩ : ∃ N, Ra.length = N := ⟨_, rfl⟩
  rw [hNa]
  have HNA := Lib.hid hNa
  clear hla hoa hNa
  have HF43 := Lib.hid (bext HF29.out hb42)
  have HX44 := Lib.hid (HX30.out.below hb42 HX30.out.lt)
  have HX45 := Lib.hid (HX31.out.below hb42 HX31.out.lt)
  have HY46 := Lib.hid (RunsAt.below HY32.out hb42)
  have HY47 := Lib.hid (tab_below' HY33.out hb42)
  clear HF29 HX30 HX31 HY32 HY33
  clear hb42
  have HY48 := Lib.hid (HOA.out)
  go_upto_region 5 with fail
  obtain ⟨U49, h51⟩ : ∃ U, w41.alloc (.cells #[.slice Ba Na ca, .int .u64 NA] 25) = U := ⟨_, rfl⟩
  have ba52 : Below w41.heap.size w41 U49 := by rw [← h51]; exact (Below.refl _ _).alloc (Nat.le_refl _) _
  have bn53 : Blk U49 w41.heap.size 25 #[.slice Ba Na ca, .int .u64 NA] := by rw [← h51]; exact Blk.new _ _ _
  try rw [h51]
  have HF54 := Lib.hid (bext HF43.out ba52)
  have HX55 := Lib.hid (HX44.out.below ba52 HX44.out.lt)
  have HX56 := Lib.hid (HX45.out.below ba52 HX45.out.lt)
  have HY57 := Lib.hid (RunsAt.below HY46.out ba52)
  have HY58 := Lib.hid (tab_below' HY47.out ba52)
  have HY59 := Lib.hid (RunsAt.below HY48.out ba52)
  clear HF43 HX44 HX45 HY46 HY47 HY48
  obtain ⟨g50, h60⟩ : ∃ g, w41.heap.size = g := ⟨_, rfl⟩
  rw [h60] at bn53
  try rw [h60]
  have HX61 := Lib.hid bn53
  clear h51 ba52 bn53 h60
  by_cases hE0 : EA = 0
  case neg =>
    have h1 : (EA != 0) = true := by simpa using hE0
    have hz : Na = 0 := by rw [← HNA.out, rs_len HLA.out, HNO.out hE0]; rfl
    subst hz
    have cn : U49.cell? ⟨g50, 0, none⟩ = some (.slice Ba 0 ca) := HX61.out.cell 0
    clear hE0
    go_wp2
    go_ret
    exact ⟨rfl, HF54.out⟩
  case pos =>
  subst hE0
  obtain ⟨hck, hta, hla, hd1, hd2, hd3, hd4⟩ := HOK.out rfl
  have HCK := Lib.hid (show ∀ W, RunsAt W Ba Ra → Calls Tryd.prog 14 #[.agg #[.slice Ba Na ca, .int .u64 NA]] W (fun r w' => r = .returned (.int .i64 0) ∧ Below W.heap.size W w') from fun W hW => by
    have h8 := checkR_any Ba Ra ca NA W hW (by rw [HLA.out]; omega) (by rw [rs_len HLA.out]; omega)
    rw [HLA.out, hck, HNA.out] at h8
    exact h8)
  have HG1 := Lib.hid (show ∀ W, RunsAt W Ba Ra → TabAt 1 Lib.deBruijn64tab W → Calls Tryd.prog 13 #[.agg #[.slice Ba Na ca, .int .u64 NA], .int .i64 y.key] W (GivesX x1 e1 W) from fun W hW hq => by
    have h8 := getR_any Ba Ra ca NA y.key W hW (by rw [HLA.out]; omega) (by rw [rs_len HLA.out]; omega) hq
    rw [HLA.out, HX1.out, HE1.out, HNA.out] at h8
    exact h8)
  have HG3 := Lib.hid (show ∀ W, RunsAt W Ba Ra → TabAt 1 Lib.deBruijn64tab W → Calls Tryd.prog 13 #[.agg #[.slice Ba Na ca, .int .u64 NA], .int .i64 key] W (GivesX x3 e3 W) from fun W hW hq => by
    have h8 := getR_any Ba Ra ca NA key W hW (by rw [HLA.out]; omega) (by rw [rs_len HLA.out]; omega) hq
    rw [HLA.out, HX3.out, HE3.out, HNA.out] at h8
    exact h8)
  have HD1 := Lib.hid hd1
  have HD2 := Lib.hid hd2
  have HD3 := Lib.hid hd3
  have HD4 := Lib.hid hd4
  clear hck hta hla hd1 hd2 hd3 hd4
  have c62 : U49.cell? ⟨g50, 0, none⟩ = some (.slice Ba Na ca) := HX61.out.cell 0
  have c63 : U49.cell? ⟨g50, 1, none⟩ = some (.int .u64 NA) := HX61.out.cell 1
  have l64 : g50 < U49.heap.size := HX61.out.lt
  have c65 : U49.cell? ⟨g11, 0, none⟩ = some (.int .i64 y.key) := HX55.out.cell 0
  have c66 : U49.cell? ⟨g11, 1, none⟩ = some (.int .i64 y.val) := HX55.out.cell 1
  have c67 : U49.cell? ⟨g11, 2, none⟩ = some (.bool y.dead) := HX55.out.cell 2
  have l68 : g11 < U49.heap.size := HX55.out.lt
  go_wp2_with fail
  clear c62 c63 l64 c65 c66 c67 l68
  refine (HG1.out _ HY59.out HY58.out).mono ?_
  rintro e w69 ⟨rfl, hb70⟩
  have HF71 := Lib.hid (bext HF54.out hb70)
  have HX72 := Lib.hid (HX55.out.below hb70 HX55.out.lt)
  have HX73 := Lib.hid (HX56.out.below hb70 HX56.out.lt)
  have HX74 := Lib.hid (HX61.out.below hb70 HX61.out.lt)
  have HY75 := Lib.hid (RunsAt.below HY57.out hb70)
  have HY76 := Lib.hid (tab_below' HY58.out hb70)
  have HY77 := Lib.hid (RunsAt.below HY59.out hb70)
  clear HF54 HX55 HX56 HX61 HY57 HY58 HY59
  clear hb70
  go_upto_region 8 with fail
  obtain ⟨U78, h80⟩ : ∃ U, w69.alloc (.cells #[.int .i64 x1.key, .int .i64 x1.val, .bool x1.dead] 27) = U := ⟨_, rfl⟩
  have ba81 : Below w69.heap.size w69 U78 := by rw [← h80]; exact (Below.refl _ _).alloc (Nat.le_refl _) _
  have bn82 : Blk U78 w69.heap.size 27 #[.int .i64 x1.key, .int .i64 x1.val, .bool x1.dead] := by rw [← h80]; exact Blk.new _ _ _
  try rw [h80]
  have HF83 := Lib.hid (bext HF71.out ba81)
  have HX84 := Lib.hid (HX72.out.below ba81 HX72.out.lt)
  have HX85 := Lib.hid (HX73.out.below ba81 HX73.out.lt)
  have HX86 := Lib.hid (HX74.out.below ba81 HX74.out.lt)
  have HY87 := Lib.hid (RunsAt.below HY75.out ba81)
  have HY88 := Lib.hid (tab_below' HY76.out ba81)
  have HY89 := Lib.hid (RunsAt.below HY77.out ba81)
  clear HF71 HX72 HX73 HX74 HY75 HY76 HY77
  obtain ⟨g79, h90⟩ : ∃ g, w69.heap.size = g := ⟨_, rfl⟩
  rw [h90] at bn82
  try rw [h90]
  have HX91 := Lib.hid bn82
  clear h80 ba81 bn82 h90
  have c92 : U78.cell? ⟨g14, 0, none⟩ = some (.slice B Rs.length c) := HX85.out.cell 0
  have c93 : U78.cell? ⟨g14, 1, none⟩ = some (.int .u64 n) := HX85.out.cell 1
  have l94 : g14 < U78.heap.size := HX85.out.lt
  go_wp2_with fail
  clear c92 c93 l94
  refine (HG2.out _ HY87.out HY88.out).mono ?_
  rintro e w95 ⟨rfl, hb96⟩
  have HF97 := Lib.hid (bext HF83.out hb96)
  have HX98 := Lib.hid (HX84.out.below hb96 HX84.out.lt)
  have HX99 := Lib.hid (HX85.out.below hb96 HX85.out.lt)
  have HX100 := Lib.hid (HX86.out.below hb96 HX86.out.lt)
  have HX101 := Lib.hid (HX91.out.below hb96 HX91.out.lt)
  have HY102 := Lib.hid (RunsAt.below HY87.out hb96)
  have HY103 := Lib.hid (tab_below' HY88.out hb96)
  have HY104 := Lib.hid (RunsAt.below HY89.out hb96)
  clear HF83 HX84 HX85 HX86 HX91 HY87 HY88 HY89
  clear hb96
  go_upto_region 9 with fail
  obtain ⟨U105, h107⟩ : ∃ U, w95.alloc (.cells #[.int .i64 x2.key, .int .i64 x2.val, .bool x2.dead] 27) = U := ⟨_, rfl⟩
  have ba108 : Below w95.heap.size w95 U105 := by rw [← h107]; exact (Below.refl _ _).alloc (Nat.le_refl _) _
  have bn109 : Blk U105 w95.heap.size 27 #[.int .i64 x2.key, .int .i64 x2.val, .bool x2.dead] := by rw [← h107]; exact Blk.new _ _ _
  try rw [h107]
  have HF110 := Lib.hid (bext HF97.out ba108)
  have HX111 := Lib.hid (HX98.out.below ba108 HX98.out.lt)
  have HX112 := Lib.hid (HX99.out.below ba108 HX99.out.lt)
  have HX113 := Lib.hid (HX100.out.below ba108 HX100.out.lt)
  have HX114 := Lib.hid (HX101.out.below ba108 HX101.out.lt)
  have HY115 := Lib.hid (RunsAt.below HY102.out ba108)
  have HY116 := Lib.hid (tab_below' HY103.out ba108)
  have HY117 := Lib.hid (RunsAt.below HY104.out ba108)
  clear HF97 HX98 HX99 HX100 HX101 HY102 HY103 HY104
  obtain ⟨g106, h118⟩ : ∃ g, w95.heap.size = g := ⟨_, rfl⟩
  rw [h118] at bn109
  try rw [h118]
  have HX119 := Lib.hid bn109
  clear h107 ba108 bn109 h118
  have c120 : U105.cell? ⟨g50, 0, none⟩ = some (.slice Ba Na ca) := HX113.out.cell 0
  have c121 : U105.cell? ⟨g50, 1, none⟩ = some (.int .u64 NA) := HX113.out.cell 1
  have l122 : g50 < U105.heap.size := HX113.out.lt
  go_wp2_with fail
  clear c120 c121 l122
  refine (HG3.out _ HY117.out HY116.out).mono ?_
  rintro e w123 ⟨rfl, hb124⟩
  have HF125 := Lib.hid (bext HF110.out hb124)
  have HX126 := Lib.hid (HX111.out.below hb124 HX111.out.lt)
  have HX127 := Lib.hid (HX112.out.below hb124 HX112.out.lt)
  have HX128 := Lib.hid (HX113.out.below hb124 HX113.out.lt)
  have HX129 := Lib.hid (HX114.out.below hb124 HX114.out.lt)
  have HX130 := Lib.hid (HX119.out.below hb124 HX119.out.lt)
  have HY131 := Lib.hid (RunsAt.below HY115.out hb124)
  have HY132 := Lib.hid (tab_below' HY116.out hb124)
  have HY133 := Lib.hid (RunsAt.below HY117.out hb124)
  clear HF110 HX111 HX112 HX113 HX114 HX119 HY115 HY116 HY117
  clear hb124
  go_upto_region 10 with fail
  obtain ⟨U134, h136⟩ : ∃ U, w123.alloc (.cells #[.int .i64 x3.key, .int .i64 x3.val, .bool x3.dead] 27) = U := ⟨_, rfl⟩
  have ba137 : Below w123.heap.size w123 U134 := by rw [← h136]; exact (Below.refl _ _).alloc (Nat.le_refl _) _
  have bn138 : Blk U134 w123.heap.size 27 #[.int .i64 x3.key, .int .i64 x3.val, .bool x3.dead] := by rw [← h136]; exact Blk.new _ _ _
  try rw [h136]
  have HF139 := Lib.hid (bext HF125.out ba137)
  have HX140 := Lib.hid (HX126.out.below ba137 HX126.out.lt)
  have HX141 := Lib.hid (HX127.out.below ba137 HX127.out.lt)
  have HX142 := Lib.hid (HX128.out.below ba137 HX128.out.lt)
  have HX143 := Lib.hid (HX129.out.below ba137 HX129.out.lt)
  have HX144 := Lib.hid (HX130.out.below ba137 HX130.out.lt)
  have HY145 := Lib.hid (RunsAt.below HY131.out ba137)
  have HY146 := Lib.hid (tab_below' HY132.out ba137)
  have HY147 := Lib.hid (RunsAt.below HY133.out ba137)
  clear HF125 HX126 HX127 HX128 HX129 HX130 HY131 HY132 HY133
  obtain ⟨g135, h148⟩ : ∃ g, w123.heap.size = g := ⟨_, rfl⟩
  rw [h148] at bn138
  try rw [h148]
  have HX149 := Lib.hid bn138
  clear h136 ba137 bn138 h148
  have c150 : U134.cell? ⟨g50, 0, none⟩ = some (.slice Ba Na ca) := HX142.out.cell 0
  have c151 : U134.cell? ⟨g50, 1, none⟩ = some (.int .u64 NA) := HX142.out.cell 1
  have l152 : g50 < U134.heap.size := HX142.out.lt
  go_wp2_with fail
  clear c150 c151 l152
  refine (HCK.out _ HY147.out).mono ?_
  rintro e w153 ⟨rfl, hb154⟩
  have HF155 := Lib.hid (bext HF139.out hb154)
  have HX156 := Lib.hid (HX140.out.below hb154 HX140.out.lt)
  have HX157 := Lib.hid (HX141.out.below hb154 HX141.out.lt)
  have HX158 := Lib.hid (HX142.out.below hb154 HX142.out.lt)
  have HX159 := Lib.hid (HX143.out.below hb154 HX143.out.lt)
  have HX160 := Lib.hid (HX144.out.below hb154 HX144.out.lt)
  have HX161 := Lib.hid (HX149.out.below hb154 HX149.out.lt)
  have HY162 := Lib.hid (RunsAt.below HY145.out hb154)
  have HY163 := Lib.hid (tab_below' HY146.out hb154)
  have HY164 := Lib.hid (RunsAt.below HY147.out hb154)
  clear HF139 HX140 HX141 HX142 HX143 HX144 HX149 HY145 HY146 HY147
  clear hb154
  cases hyd : y.dead with
  | false =>
    obtain ⟨h1, h2⟩ := HD1.out hyd
    have hne := fun w => run_neq_ent y y w
    have hnn : neE y y = false := by unfold neE; simp
    rw [hyd] at hne
    have c165 : w153.cell? ⟨g11, 0, none⟩ = some (.int .i64 y.key) := HX156.out.cell 0
    have c166 : w153.cell? ⟨g11, 1, none⟩ = some (.int .i64 y.val) := HX156.out.cell 1
    have c167 : w153.cell? ⟨g11, 2, none⟩ = some (.bool y.dead) := HX156.out.cell 2
    have l168 : g11 < w153.heap.size := HX156.out.lt
    have c169 : w153.cell? ⟨g79, 0, none⟩ = some (.int .i64 x1.key) := HX159.out.cell 0
    have c170 : w153.cell? ⟨g79, 1, none⟩ = some (.int .i64 x1.val) := HX159.out.cell 1
    have c171 : w153.cell? ⟨g79, 2, none⟩ = some (.bool x1.dead) := HX159.out.cell 2
    have l172 : g79 < w153.heap.size := HX159.out.lt
    clear HD1 HD2 HOK HX1
    subst h1
    subst h2
    go_upto_region 12 with fail
    clear hne hnn
    by_cases hkk : key = x1.key
    · have hk1 : (key == x1.key) = true := by simpa using hkk
      clear hkk
      go_wp2_with fail
      go_ret
      refine ⟨?_, by first | exact HF155.out | exact ⟨HF155.out.os, HF155.out.tape, HF155.out.output, HF155.out.size, HF155.out.block⟩⟩
      rfl
    have hk1 : (key == x1.key) = false := by simpa using hkk
    have h3 := HD3.out hkk
    have h4 := HD4.out hkk
    clear hkk
    have c165 : w153.cell? ⟨g106, 0, none⟩ = some (.int .i64 x2.key) := HX160.out.cell 0
    have c166 : w153.cell? ⟨g106, 1, none⟩ = some (.int .i64 x2.val) := HX160.out.cell 1
    have c167 : w153.cell? ⟨g106, 2, none⟩ = some (.bool x2.dead) := HX160.out.cell 2
    have l168 : g106 < w153.heap.size := HX160.out.lt
    have c169 : w153.cell? ⟨g135, 0, none⟩ = some (.int .i64 x3.key) := HX161.out.cell 0
    have c170 : w153.cell? ⟨g135, 1, none⟩ = some (.int .i64 x3.val) := HX161.out.cell 1
    have c171 : w153.cell? ⟨g135, 2, none⟩ = some (.bool x3.dead) := HX161.out.cell 2
    have l172 : g135 < w153.heap.size := HX161.out.lt
    by_cases q2 : e2 = 0
    · subst q2
      cases d2 : x2.dead
      · rw [d2] at h3 h4
        have hx := h4 (by simp)
        obtain ⟨q3, d3⟩ : e3 = 0 ∧ x3.dead = false := by simpa using h3.symm
        subst q3 hx
        have hxx := fun w => run_eql_ent x2 x2 w
        have hxy := eqX_self x2
        rw [d2] at hxx
        clear h3 h4 d3
        go_upto_region 14 with fail
        go_quiet (fail)
        go_wp2_with fail
        go_ret
        refine ⟨?_, by first | exact HF155.out | exact ⟨HF155.out.os, HF155.out.tape, HF155.out.output, HF155.out.size, HF155.out.block⟩⟩
        rfl
      · rw [d2] at h3
        by_cases q3 : e3 = 0
        · subst q3
          have d3 : x3.dead = true := by simpa using h3
          clear h3 h4
          go_upto_region 14 with fail
          go_quiet (fail)
          go_wp2_with fail
          go_ret
          refine ⟨?_, by first | exact HF155.out | exact ⟨HF155.out.os, HF155.out.tape, HF155.out.output, HF155.out.size, HF155.out.block⟩⟩
          rfl
        · have p3 : (e3 == 0) = false := by simpa using q3
          clear h3 h4 q3
          go_upto_region 14 with fail
          go_quiet (fail)
          go_wp2_with fail
          go_ret
          refine ⟨?_, by first | exact HF155.out | exact ⟨HF155.out.os, HF155.out.tape, HF155.out.output, HF155.out.size, HF155.out.block⟩⟩
          rfl
    · have p2 : (e2 == 0) = false := by simpa using q2
      by_cases q3 : e3 = 0
      · subst q3
        have d3 : x3.dead = true := by simpa [q2] using h3
        clear h3 h4 q2
        go_upto_region 14 with fail
        go_quiet (fail)
        go_wp2_with fail
        go_ret
        refine ⟨?_, by first | exact HF155.out | exact ⟨HF155.out.os, HF155.out.tape, HF155.out.output, HF155.out.size, HF155.out.block⟩⟩
        rfl
      · have p3 : (e3 == 0) = false := by simpa using q3
        clear h3 h4 q2 q3
        go_upto_region 14 with fail
        go_quiet (fail)
        go_wp2_with fail
        go_ret
        refine ⟨?_, by first | exact HF155.out | exact ⟨HF155.out.os, HF155.out.tape, HF155.out.output, HF155.out.size, HF155.out.block⟩⟩
        rfl
  | true =>
    have h2 := HD2.out hyd
    have c165 : w153.cell? ⟨g11, 0, none⟩ = some (.int .i64 y.key) := HX156.out.cell 0
    have c166 : w153.cell? ⟨g11, 1, none⟩ = some (.int .i64 y.val) := HX156.out.cell 1
    have c167 : w153.cell? ⟨g11, 2, none⟩ = some (.bool y.dead) := HX156.out.cell 2
    have l168 : g11 < w153.heap.size := HX156.out.lt
    have c169 : w153.cell? ⟨g79, 0, none⟩ = some (.int .i64 x1.key) := HX159.out.cell 0
    have c170 : w153.cell? ⟨g79, 1, none⟩ = some (.int .i64 x1.val) := HX159.out.cell 1
    have c171 : w153.cell? ⟨g79, 2, none⟩ = some (.bool x1.dead) := HX159.out.cell 2
    have l172 : g79 < w153.heap.size := HX159.out.lt
    clear HD1 HD2 HOK
    by_cases h1 : e1 = 0
    · have hd := h2 h1
      subst h1
      clear h2
      go_upto_region 12 with fail
      by_cases hkk : key = y.key
      · have hk1 : (key == y.key) = true := by simpa using hkk
        clear hkk
        go_wp2_with fail
        go_ret
        refine ⟨?_, by first | exact HF155.out | exact ⟨HF155.out.os, HF155.out.tape, HF155.out.output, HF155.out.size, HF155.out.block⟩⟩
        rfl
      have hk1 : (key == y.key) = false := by simpa using hkk
      have h3 := HD3.out hkk
      have h4 := HD4.out hkk
      clear hkk
      have c165 : w153.cell? ⟨g106, 0, none⟩ = some (.int .i64 x2.key) := HX160.out.cell 0
      have c166 : w153.cell? ⟨g106, 1, none⟩ = some (.int .i64 x2.val) := HX160.out.cell 1
      have c167 : w153.cell? ⟨g106, 2, none⟩ = some (.bool x2.dead) := HX160.out.cell 2
      have l168 : g106 < w153.heap.size := HX160.out.lt
      have c169 : w153.cell? ⟨g135, 0, none⟩ = some (.int .i64 x3.key) := HX161.out.cell 0
      have c170 : w153.cell? ⟨g135, 1, none⟩ = some (.int .i64 x3.val) := HX161.out.cell 1
      have c171 : w153.cell? ⟨g135, 2, none⟩ = some (.bool x3.dead) := HX161.out.cell 2
      have l172 : g135 < w153.heap.size := HX161.out.lt
      by_cases q2 : e2 = 0
      · subst q2
        cases d2 : x2.dead
        · rw [d2] at h3 h4
          have hx := h4 (by simp)
          obtain ⟨q3, d3⟩ : e3 = 0 ∧ x3.dead = false := by simpa using h3.symm
          subst q3 hx
          have hxx := fun w => run_eql_ent x2 x2 w
          have hxy := eqX_self x2
          rw [d2] at hxx
          clear h3 h4 d3
          go_upto_region 14 with fail
          go_quiet (fail)
          go_wp2_with fail
          go_ret
          refine ⟨?_, by first | exact HF155.out | exact ⟨HF155.out.os, HF155.out.tape, HF155.out.output, HF155.out.size, HF155.out.block⟩⟩
          rfl
        · rw [d2] at h3
          by_cases q3 : e3 = 0
          · subst q3
            have d3 : x3.dead = true := by simpa using h3
            clear h3 h4
            go_upto_region 14 with fail
            go_quiet (fail)
            go_wp2_with fail
            go_ret
            refine ⟨?_, by first | exact HF155.out | exact ⟨HF155.out.os, HF155.out.tape, HF155.out.output, HF155.out.size, HF155.out.block⟩⟩
            rfl
          · have p3 : (e3 == 0) = false := by simpa using q3
            clear h3 h4 q3
            go_upto_region 14 with fail
            go_quiet (fail)
            go_wp2_with fail
            go_ret
            refine ⟨?_, by first | exact HF155.out | exact ⟨HF155.out.os, HF155.out.tape, HF155.out.output, HF155.out.size, HF155.out.block⟩⟩
            rfl
      · have p2 : (e2 == 0) = false := by simpa using q2
        by_cases q3 : e3 = 0
        · subst q3
          have d3 : x3.dead = true := by simpa [q2] using h3
          clear h3 h4 q2
          go_upto_region 14 with fail
          go_quiet (fail)
          go_wp2_with fail
          go_ret
          refine ⟨?_, by first | exact HF155.out | exact ⟨HF155.out.os, HF155.out.tape, HF155.out.output, HF155.out.size, HF155.out.block⟩⟩
          rfl
        · have p3 : (e3 == 0) = false := by simpa using q3
          clear h3 h4 q2 q3
          go_upto_region 14 with fail
          go_quiet (fail)
          go_wp2_with fail
          go_ret
          refine ⟨?_, by first | exact HF155.out | exact ⟨HF155.out.os, HF155.out.tape, HF155.out.output, HF155.out.size, HF155.out.block⟩⟩
          rfl
    · have h1b : (e1 == 0) = false := by simpa using h1
      clear h1 h2
      go_upto_region 12 with fail
      by_cases hkk : key = y.key
      · have hk1 : (key == y.key) = true := by simpa using hkk
        clear hkk
        go_wp2_with fail
        go_ret
        refine ⟨?_, by first | exact HF155.out | exact ⟨HF155.out.os, HF155.out.tape, HF155.out.output, HF155.out.size, HF155.out.block⟩⟩
        rfl
      have hk1 : (key == y.key) = false := by simpa using hkk
      have h3 := HD3.out hkk
      have h4 := HD4.out hkk
      clear hkk
      have c165 : w153.cell? ⟨g106, 0, none⟩ = some (.int .i64 x2.key) := HX160.out.cell 0
      have c166 : w153.cell? ⟨g106, 1, none⟩ = some (.int .i64 x2.val) := HX160.out.cell 1
      have c167 : w153.cell? ⟨g106, 2, none⟩ = some (.bool x2.dead) := HX160.out.cell 2
      have l168 : g106 < w153.heap.size := HX160.out.lt
      have c169 : w153.cell? ⟨g135, 0, none⟩ = some (.int .i64 x3.key) := HX161.out.cell 0
      have c170 : w153.cell? ⟨g135, 1, none⟩ = some (.int .i64 x3.val) := HX161.out.cell 1
      have c171 : w153.cell? ⟨g135, 2, none⟩ = some (.bool x3.dead) := HX161.out.cell 2
      have l172 : g135 < w153.heap.size := HX161.out.lt
      by_cases q2 : e2 = 0
      · subst q2
        cases d2 : x2.dead
        · rw [d2] at h3 h4
          have hx := h4 (by simp)
          obtain ⟨q3, d3⟩ : e3 = 0 ∧ x3.dead = false := by simpa using h3.symm
          subst q3 hx
          have hxx := fun w => run_eql_ent x2 x2 w
          have hxy := eqX_self x2
          rw [d2] at hxx
          clear h3 h4 d3
          go_upto_region 14 with fail
          go_quiet (fail)
          go_wp2_with fail
          go_ret
          refine ⟨?_, by first | exact HF155.out | exact ⟨HF155.out.os, HF155.out.tape, HF155.out.output, HF155.out.size, HF155.out.block⟩⟩
          rfl
        · rw [d2] at h3
          by_cases q3 : e3 = 0
          · subst q3
            have d3 : x3.dead = true := by simpa using h3
            clear h3 h4
            go_upto_region 14 with fail
            go_quiet (fail)
            go_wp2_with fail
            go_ret
            refine ⟨?_, by first | exact HF155.out | exact ⟨HF155.out.os, HF155.out.tape, HF155.out.output, HF155.out.size, HF155.out.block⟩⟩
            rfl
          · have p3 : (e3 == 0) = false := by simpa using q3
            clear h3 h4 q3
            go_upto_region 14 with fail
            go_quiet (fail)
            go_wp2_with fail
            go_ret
            refine ⟨?_, by first | exact HF155.out | exact ⟨HF155.out.os, HF155.out.tape, HF155.out.output, HF155.out.size, HF155.out.block⟩⟩
            rfl
      · have p2 : (e2 == 0) = false := by simpa using q2
        by_cases q3 : e3 = 0
        · subst q3
          have d3 : x3.dead = true := by simpa [q2] using h3
          clear h3 h4 q2
          go_upto_region 14 with fail
          go_quiet (fail)
          go_wp2_with fail
          go_ret
          refine ⟨?_, by first | exact HF155.out | exact ⟨HF155.out.os, HF155.out.tape, HF155.out.output, HF155.out.size, HF155.out.block⟩⟩
          rfl
        · have p3 : (e3 == 0) = false := by simpa using q3
          clear h3 h4 q2 q3
          go_upto_region 14 with fail
          go_quiet (fail)
          go_wp2_with fail
          go_ret
          refine ⟨?_, by first | exact HF155.out | exact ⟨HF155.out.os, HF155.out.tape, HF155.out.output, HF155.out.size, HF155.out.block⟩⟩
          rfl
end Go.Proofs.YthdcllnmnmemdaaDoor

/- Reading a law's arguments as data, and the last step of a law's row: it returned true and nothing that was there has turned. No program in sight. -/
namespace Go.Proofs.YthdcllnmnmemdaaDoor
open Go Go.ChangeShapes Go.WideShapes Go.ChangeAt Go.RowKit Go.Deep

section
variable {H : Type} {enc : TypeId × Value → H} {P : Program}

theorem trodAll_stays (hl : laidOutB P = true) {W W' : World} {sp : Nat → Bool} : ∀ {ts : List TypeId} {vs : List Value} {ds : List (DataW H)} {ps : List MemPlace},
    (∀ t ∈ ts, P.readableRec t = true ∧ t < P.types.size) → DataW.TrodAll enc P W 0 (fun _ => true) true ts vs ds ps → (∀ p ∈ ps, W.sameAt W' p) → (∀ p ∈ ps, sp p.block = true) →
    DataW.TrodAll enc P W' 0 sp true ts vs ds ps := by
  intro ts
  induction ts with
  | nil =>
    intro vs ds ps _ h _ _
    obtain ⟨rfl, rfl, rfl⟩ := trodAll_nil h
    exact trodAll_mk0
  | cons t ts ih =>
    intro vs ds ps hr h hs hsp
    obtain ⟨v, vs', d, ds', p, q, rfl, rfl, rfl, h0, h1⟩ := trodAll_cons h
    exact ⟨p, q, WideElems.Trod_stays hl (hr t (by simp)).1 (hr t (by simp)).2 h0 (fun x hx => hs x (by simp [hx])) (fun x hx => hsp x (by simp [hx])),
      ih (fun t' ht' => hr t' (by simp [ht'])) h1 (fun x hx => hs x (by simp [hx])) (fun x hx => hsp x (by simp [hx])), rfl⟩

/-- a law's row, its last step -/
theorem law_post {f : Func} {s : ChangeSpec} {W W' : World} {args : Array Value} {ds : List (DataW H)} {before : List MemPlace} {tb : TypeId}
    (hl : laidOutB P = true) (hr : ∀ t ∈ f.params.toList, P.readableRec t = true ∧ t < P.types.size) (hv : s.vars = [])
    (hW : DataW.Whole enc P f.params.toList s.vars false W args.toList ds [] before)
    (hres : (s.fn H (ds ++ [])).results = [.lit (.bool true)]) (harg : (s.fn H (ds ++ [])).args = ds) (hvr : (s.fn H (ds ++ [])).vars = [])
    (hrt : f.resultTypes = #[tb]) (hbt : P.underlying tb = some .bool) (hb : Below W.heap.size W W') :
    s.post enc P f false true false false W args (.bool true) W' := by
  have hlt := hW.lt
  have hW0 := hW
  obtain ⟨p, q, hA, hV, rfl, _, _⟩ := hW
  rw [hv] at hV
  obtain ⟨_, rfl⟩ := trodVars_none hV
  refine ⟨ds, [], p ++ [], [], p, [], hW0, ?_, ?_, ?_, World.keptBut_mono (fun x hx => ⟨hx, ?_⟩) (hb.frame (· ∈ p ++ [])), fun h => by cases h⟩
  · rw [hres, hrt]
    exact trodAll_cons_mk (shut_bool hbt _) trodAll_mk0
  · rw [harg]
    refine trodAll_stays hl hr hA (fun x hx => hb.same (hlt x (by simp [hx]))) (fun x hx => ?_)
    have := hlt x (by simp [hx])
    simpa using this
  · rw [hv, hvr]; rfl
  · rw [List.append_nil] at hx; exact .inr (.inl hx)

theorem addr_flat {w : World} {a : Addr} {v : Value} (h : w.cell? a = some v) : a = ⟨a.block, a.off, none⟩ := by
  obtain ⟨b, o, s⟩ := a
  cases s with
  | none => rfl
  | some s =>
    unfold World.cell? at h
    split at h <;> simp at h

/-- a slice's reading, where each element's cells are those of some datum x of which R holds -/
theorem read_slice {α : Type} {w : World} {t e : TypeId} {s fuel : Nat} {v : Value} {x : DataW H × List MemPlace} (f : α → List Value) (R : α → Prop) (hf : ∀ x, (f x).length = s) (hs : 0 < s)
    (ht : P.underlying t = some (.slice e)) (hc : P.cellsOf e = s)
    (hdec : ∀ fuel cs y, DataW.trod enc P w 0 (fun _ => true) true fuel e cs = some y → ∃ x, cs = f x ∧ R x)
    (hv : ∃ a len cap, v = .slice a len cap) (h : DataW.trod enc P w 0 (fun _ => true) true fuel t v.cells.toList = some x) :
    ∃ (A : Option Addr) (l : List α) (c : Nat), v = .slice A l.length c ∧ l.length ≤ c ∧ c ≤ maxLen ∧ Sl w A (l.flatMap f) ∧ ∀ x ∈ l, R x := by
  obtain ⟨a0, len0, cap0, rfl⟩ := hv
  rcases open_slice ht h with ⟨hcs, _⟩ | ⟨a, len, cap, m, n, D, Pl, hcs, -, hlc, hcm, hm, -, hi⟩
  · simp only [Value.cells] at hcs
    injection hcs with hcs _
    rw [hcs]
    exact ⟨none, [], 0, rfl, Nat.le_refl _, Nat.zero_le _, .inl rfl, by simp⟩
  · simp only [Value.cells] at hcs
    injection hcs with hcs _
    rw [hcs]
    have hlm : len ≤ m := by rw [hm]; simp; exact hlc
    have hx : ∀ i, i < len → ∃ x, (∀ j, j < s → w.cell? (a.add (i * s + j)) = (f x)[j]?) ∧ R x := fun i hil => by
      obtain ⟨cs', h1, h2⟩ := hi i (by omega)
      obtain ⟨x, rfl, hR⟩ := hdec _ _ _ h2
      rw [hc] at h1
      obtain ⟨_, _, h3⟩ := World.cells?_some h1
      refine ⟨x, fun j hj => ?_, hR⟩
      rw [← h3 j hj, Go.Deep.add_add]
    have hl : ∃ l : List α, l.length = len ∧ ∀ i (hil : i < l.length), (∀ j, j < s → w.cell? (a.add (i * s + j)) = (f (l[i]'hil))[j]?) ∧ R (l[i]'hil) := by
      clear hi hlm hcs hm hlc hcm h
      induction len with
      | zero => exact ⟨[], rfl, fun i hil => by simp at hil⟩
      | succ len ih =>
        obtain ⟨l, hl, hg⟩ := ih fun i hi => hx i (by omega)
        obtain ⟨y, hy⟩ := hx len (by omega)
        refine ⟨l ++ [y], by simp [hl], fun i hil => ?_⟩
        by_cases e : i < l.length
        · rw [List.getElem_append_left e]; exact hg i e
        · have : i = len := by simp at hil; omega
          subst this
          rw [List.getElem_append_right (by omega)]
          simpa [hl] using hy
    obtain ⟨l, rfl, hg⟩ := hl
    refine ⟨some a, l, cap, rfl, hlc, hcm, ?_, fun x hx => ?_⟩
    · by_cases h0 : l.length = 0
      · left; rw [List.eq_nil_of_length_eq_zero h0]; rfl
      · right
        have hc0 := (hg 0 (by omega)).1 0 hs
        have hf0 : (f (l[0]'(by omega)))[0]? = some ((f (l[0]'(by omega)))[0]'(by rw [hf]; exact hs)) := List.getElem?_eq_getElem _
        rw [hf0] at hc0
        have ha0 : a.add (0 * s + 0) = a := by simp [Addr.add]
        rw [ha0] at hc0
        have ha := addr_flat hc0
        refine ⟨a.block, a.off, by rw [← ha], World.block_lt_of_cell? w a hc0, fun j u hu => ?_⟩
        have hjl : j < l.length * s := by
          have := (List.getElem?_eq_some_iff.1 hu).1
          rwa [flat_length f s hf] at this
        have hi : j / s < l.length := Nat.div_lt_of_lt_mul (by rw [Nat.mul_comm]; exact hjl)
        have hjs : j % s < s := Nat.mod_lt _ hs
        have hj : j / s * s + j % s = j := by rw [Nat.mul_comm]; exact Nat.div_add_mod j s
        have hc1 := (hg (j / s) hi).1 (j % s) hjs
        rw [hj] at hc1
        have hfl := flat_get f s hf l (j / s) (j % s) hi hjs
        rw [hj, hu] at hfl
        rw [← hfl] at hc1
        rw [ha, Addr.add_lit] at hc1
        exact hc1
    · obtain ⟨i, hi, rfl⟩ := List.getElem_of_mem hx
      exact (hg i hi).2

theorem dec_ent {w : World} {e ti tb : TypeId} (he : P.underlying e = some (.struct #[⟨ "Key", ti, 0, false, "", "", 0⟩, ⟨ "Val", ti, 1, false, "", "", 8⟩, ⟨ "Dead", tb, 2, false, "", "", 16⟩]))
    (hi : P.underlying ti = some (.int .i64)) (hb : P.underlying tb = some .bool) (hc : P.cellsOf e = 3) (hci : P.cellsOf ti = 1) (hcb : P.cellsOf tb = 1)
    (fuel : Nat) (cs : List Value) (y : DataW H × List MemPlace) (h : DataW.trod enc P w 0 (fun _ => true) true fuel e cs = some y) : ∃ x : Ent, cs = x.cells ∧ True := by
  obtain ⟨xs, n, _, _, hlen, hxl, hf⟩ := DataW.trod_struct he h
  rw [hc] at hlen
  match cs, hlen with
  | [c0, c1, c2], _ =>
    match xs, hxl with
    | [x0, x1, x2], _ =>
      have h0 := hf 0 ⟨ "Key", ti, 0, false, "", "", 0⟩ rfl
      have h1 := hf 1 ⟨ "Val", ti, 1, false, "", "", 8⟩ rfl
      have h2 := hf 2 ⟨ "Dead", tb, 2, false, "", "", 16⟩ rfl
      dsimp only at h0 h1 h2
      rw [hci] at h0 h1
      rw [hcb] at h2
      obtain ⟨k, e0, _⟩ := DataW.trod_int hi h0
      obtain ⟨v, e1, _⟩ := DataW.trod_int hi h1
      obtain ⟨d, e2, _⟩ := DataW.trod_bool hb h2
      simp at e0 e1 e2
      subst e0 e1 e2
      exact ⟨⟨k, v, d⟩, rfl, trivial⟩

theorem dec_pr {w : World} {e ti : TypeId} (he : P.underlying e = some (.struct #[⟨ "Key", ti, 0, false, "", "", 0⟩, ⟨ "Val", ti, 1, false, "", "", 8⟩]))
    (hi : P.underlying ti = some (.int .i64)) (hc : P.cellsOf e = 2) (hci : P.cellsOf ti = 1)
    (fuel : Nat) (cs : List Value) (y : DataW H × List MemPlace) (h : DataW.trod enc P w 0 (fun _ => true) true fuel e cs = some y) : ∃ x : Pr, cs = x.cells ∧ True := by
  obtain ⟨xs, n, _, _, hlen, hxl, hf⟩ := DataW.trod_struct he h
  rw [hc] at hlen
  match cs, hlen with
  | [c0, c1], _ =>
    match xs, hxl with
    | [x0, x1], _ =>
      have h0 := hf 0 ⟨ "Key", ti, 0, false, "", "", 0⟩ rfl
      have h1 := hf 1 ⟨ "Val", ti, 1, false, "", "", 8⟩ rfl
      dsimp only at h0 h1
      rw [hci] at h0 h1
      obtain ⟨k, e0, _⟩ := DataW.trod_int hi h0
      obtain ⟨v, e1, _⟩ := DataW.trod_int hi h1
      simp at e0 e1
      subst e0 e1
      exact ⟨⟨k, v⟩, rfl, trivial⟩
end
end Go.Proofs.YthdcllnmnmemdaaDoor

/- The arguments of this seat's laws, read as data. -/
namespace Go.Proofs.YthdcllnmnmemdaaDoor
open Go Go.ChangeShapes Go.WideShapes Go.ChangeAt Go.RowKit
set_option maxRecDepth 100000

theorem own : ownKnob Tryd.prog.godebug = none := by kernel_rfl
theorem laidOut : laidOutB Tryd.prog = true := by kernel_rfl

theorem read_ents {H : Type} {enc : TypeId × Value → H} {w : World} {base : Nat} {v : Value} {d : DataW H} {p : List MemPlace} (hok : Value.okWide Tryd.prog w .any base 59 v)
    (h : DataW.Trod enc Tryd.prog w 0 (fun _ => true) true 59 v d p) : ∃ (A : Option Addr) (l : List Ent) (c : Nat), v = .slice A l.length c ∧ l.length ≤ c ∧ c ≤ maxLen ∧ Sl w A (l.flatMap Ent.cells) := by
  obtain ⟨fuel, hf⟩ := h
  obtain ⟨A, l, c, h1, h2, h3, h4, _⟩ := read_slice Ent.cells (fun _ => True) Ent.cells_length (by omega) Tryd.underlying59 (by kernel_rfl)
    (fun fuel cs y h => dec_ent Tryd.underlying27 Tryd.underlying2 Tryd.underlying4 (by kernel_rfl) (by kernel_rfl) (by kernel_rfl) fuel cs y h) (okWide_slice Tryd.underlying59 hok) hf
  exact ⟨A, l, c, h1, h2, h3, h4⟩

theorem read_prs {H : Type} {enc : TypeId × Value → H} {w : World} {base : Nat} {v : Value} {d : DataW H} {p : List MemPlace} (hok : Value.okWide Tryd.prog w .any base 38 v)
    (h : DataW.Trod enc Tryd.prog w 0 (fun _ => true) true 38 v d p) : ∃ (A : Option Addr) (l : List Pr) (c : Nat), v = .slice A l.length c ∧ l.length ≤ c ∧ c ≤ maxLen ∧ Sl w A (l.flatMap Pr.cells) := by
  obtain ⟨fuel, hf⟩ := h
  obtain ⟨A, l, c, h1, h2, h3, h4, _⟩ := read_slice Pr.cells (fun _ => True) Pr.cells_length (by omega) Tryd.underlying38 (by kernel_rfl)
    (fun fuel cs y h => dec_pr Tryd.underlying56 Tryd.underlying2 (by kernel_rfl) (by kernel_rfl) fuel cs y h) (okWide_slice Tryd.underlying38 hok) hf
  exact ⟨A, l, c, h1, h2, h3, h4⟩

theorem read_ent {H : Type} {enc : TypeId × Value → H} {w : World} {base : Nat} {v : Value} {d : DataW H} {p : List MemPlace} (hok : Value.okWide Tryd.prog w .any base 27 v)
    (h : DataW.Trod enc Tryd.prog w 0 (fun _ => true) true 27 v d p) : ∃ x : Ent, v = .agg #[.int .i64 x.key, .int .i64 x.val, .bool x.dead] := by
  obtain ⟨cs, rfl, _⟩ := okWide_struct Tryd.underlying27 hok
  obtain ⟨fuel, hf⟩ := h
  obtain ⟨x, hx, _⟩ := dec_ent Tryd.underlying27 Tryd.underlying2 Tryd.underlying4 (by kernel_rfl) (by kernel_rfl) (by kernel_rfl) fuel _ _ hf
  refine ⟨x, ?_⟩
  obtain ⟨l⟩ := cs
  simp only [Value.cells] at hx
  simp only [Value.agg.injEq]
  rw [show l = x.cells from hx]
  rfl
end Go.Proofs.YthdcllnmnmemdaaDoor

/- The table of math/bits out of the row's list; a run read as data; a world for the witness. -/
namespace Go.Proofs.YthdcllnmnmemdaaDoor
open Go Go.ChangeShapes Go.WideShapes Go.ChangeAt Go.RowKit
set_option maxRecDepth 100000

theorem gTab : Tryd.prog.globalNamed "math/bits.deBruijn64tab" = some 1 := by kernel_rfl
theorem gTabType : (Tryd.prog.globals[1]?).map (·.type) = some 188 := by kernel_rfl
theorem cellsTab : Tryd.prog.cellsOf 188 = 64 := by kernel_rfl
theorem cellsU8 : Tryd.prog.cellsOf 5 = 1 := by kernel_rfl
def tabZ : List Int := Lib.deBruijn64tab.map fun n : Nat => (n : Int)
theorem tabZ_is : (Rows.laid_math_bits_deBruijn64tab : DataW Unit) = Lib.tabData .u8 tabZ := by kernel_rfl
theorem tab_at {W : World} (h : laidMetH Tryd.prog [("math/bits.deBruijn32tab", Rows.laid_math_bits_deBruijn32tab), ("math/bits.deBruijn64tab", Rows.laid_math_bits_deBruijn64tab)] W) : TabAt 1 Lib.deBruijn64tab W := by
  have h1 : laidMet Tryd.prog [("math/bits.deBruijn32tab", Rows.laid_math_bits_deBruijn32tab), ("math/bits.deBruijn64tab", Rows.laid_math_bits_deBruijn64tab)] W := h
  have h2 := laidMet.tail h1
  have h3 : laidMet Tryd.prog [("math/bits.deBruijn64tab", Lib.tabData .u8 tabZ)] W := by rw [← tabZ_is]; exact h2
  have h4 : Lib.TabIs Tryd.prog W "math/bits.deBruijn64tab" .u8 tabZ := Lib.tabIs_of_head (rest := []) gTab gTabType Tryd.underlying188 Tryd.underlying5 cellsU8 cellsTab h3
  intro j hj
  have := h4.cell gTab j (by simpa [tabZ] using hj)
  rw [this]
  congr 2
  simp only [tabZ, List.getD_eq_getElem?_getD, List.getElem?_map]
  rw [List.getElem?_eq_getElem hj]
  rfl

theorem dec_ents {H : Type} {enc : TypeId × Value → H} {w : World} (fuel : Nat) (cs : List Value) (y : DataW H × List MemPlace) (h : DataW.trod enc Tryd.prog w 0 (fun _ => true) true fuel 59 cs = some y) :
    ∃ (A : Option Addr) (l : List Ent) (c : Nat), cs = [.slice A l.length c] ∧ l.length ≤ c ∧ c ≤ maxLen ∧ Sl w A (l.flatMap Ent.cells) := by
  have hv : ∃ a len cap, cs = [.slice a len cap] := by
    rcases Go.Deep.open_slice Tryd.underlying59 h with ⟨h1, _⟩ | ⟨a, len, cap, _, _, _, _, h1, _⟩
    · exact ⟨_, _, _, h1⟩
    · exact ⟨_, _, _, h1⟩
  obtain ⟨a, len, cap, rfl⟩ := hv
  obtain ⟨A, l, c, h1, h2, h3, h4, _⟩ := read_slice (v := .slice a len cap) Ent.cells (fun _ => True) Ent.cells_length (by omega) Tryd.underlying59 (by kernel_rfl)
    (fun fuel cs y h => dec_ent Tryd.underlying27 Tryd.underlying2 Tryd.underlying4 (by kernel_rfl) (by kernel_rfl) (by kernel_rfl) fuel cs y h) ⟨_, _, _, rfl⟩ h
  exact ⟨A, l, c, by rw [h1], h2, h3, h4⟩
theorem read_run {H : Type} {enc : TypeId × Value → H} {w : World} {base : Nat} {v : Value} {d : DataW H} {p : List MemPlace} (hok : Value.okWide Tryd.prog w .any base 61 v)
    (h : DataW.Trod enc Tryd.prog w 0 (fun _ => true) true 61 v d p) : ∃ (A : Option Addr) (l : List Ent) (c : Nat), v = .agg #[.slice A l.length c] ∧ l.length ≤ c ∧ c ≤ maxLen ∧ Sl w A (l.flatMap Ent.cells) := by
  obtain ⟨cs, rfl, _⟩ := okWide_struct Tryd.underlying61 hok
  obtain ⟨fuel, hf⟩ := h
  obtain ⟨xs, n, _, _, hlen, hxl, hg⟩ := DataW.trod_struct Tryd.underlying61 hf
  rw [show Tryd.prog.cellsOf 61 = 1 from by kernel_rfl] at hlen
  obtain ⟨cl⟩ := cs
  match cl, hlen with
  | [c0], _ =>
    match xs, hxl with
    | [x0], _ =>
      have h0 : DataW.trod enc Tryd.prog w 0 (fun _ => true) true n 59 (List.take (Tryd.prog.cellsOf 59) (List.drop 0 [c0])) = some x0 := hg 0 _ rfl
      rw [show Tryd.prog.cellsOf 59 = 1 from by kernel_rfl] at h0
      obtain ⟨A, l, c, e, h2, h3, h4⟩ := dec_ents _ _ _ h0
      simp at e
      subst e
      exact ⟨A, l, c, rfl, h2, h3, h4⟩

def put32 : Obj → Obj
  | .cells _ t frozen => .cells (Lib.deBruijn32tab.map fun n : Nat => Value.int .u8 (n : Int)).toArray t frozen
  | o => o
def put64 : Obj → Obj
  | .cells _ t frozen => .cells (Lib.deBruijn64tab.map fun n : Nat => Value.int .u8 (n : Int)).toArray t frozen
  | o => o
/-- the settled world, the tables as their initialisers lay them -/
noncomputable def laidWorld (os : Os) : World :=
  { World.holding Tryd.prog os ⟨#[], #[], []⟩ with heap := ((World.holding Tryd.prog os ⟨#[], #[], []⟩).heap.modify 0 put32).modify 1 put64 }
end Go.Proofs.YthdcllnmnmemdaaDoor

/- Runs read as data (beside Cargs). -/
namespace Go.Proofs.YthdcllnmnmemdaaDoor
open Go Go.ChangeShapes Go.WideShapes Go.ChangeAt Go.RowKit
set_option maxRecDepth 100000

/-- runs -/
theorem dec_run {H : Type} {enc : TypeId × Value → H} {w : World} (fuel : Nat) (cs : List Value) (y : DataW H × List MemPlace) (h : DataW.trod enc Tryd.prog w 0 (fun _ => true) true fuel 61 cs = some y) :
    ∃ r : Rm, cs = [r.v] ∧ r.Ok w := by
  obtain ⟨xs, n, _, _, hlen, hxl, hg⟩ := DataW.trod_struct Tryd.underlying61 h
  rw [show Tryd.prog.cellsOf 61 = 1 from by kernel_rfl] at hlen
  match cs, hlen with
  | [c0], _ =>
    match xs, hxl with
    | [x0], _ =>
      have h0 : DataW.trod enc Tryd.prog w 0 (fun _ => true) true n 59 (List.take (Tryd.prog.cellsOf 59) (List.drop 0 [c0])) = some x0 := hg 0 _ rfl
      rw [show Tryd.prog.cellsOf 59 = 1 from by kernel_rfl] at h0
      obtain ⟨A, l, c, e, h2, h3, h4⟩ := dec_ents _ _ _ h0
      simp at e
      subst e
      exact ⟨⟨l, A, c⟩, rfl, h4, h2, h3⟩
theorem read_runs {H : Type} {enc : TypeId × Value → H} {w : World} {base : Nat} {v : Value} {d : DataW H} {p : List MemPlace} (hok : Value.okWide Tryd.prog w .any base 22 v)
    (h : DataW.Trod enc Tryd.prog w 0 (fun _ => true) true 22 v d p) : ∃ (B : Option Addr) (Rs : List Rm) (c : Nat), v = .slice B Rs.length c ∧ Rs.length ≤ c ∧ c ≤ maxLen ∧ RunsAt w B Rs := by
  obtain ⟨fuel, hf⟩ := h
  obtain ⟨B, Rs, c, h1, h2, h3, h4, h5⟩ := read_slice (s := 1) (fun r : Rm => [r.v]) (fun r => r.Ok w) (fun _ => rfl) (by omega) Tryd.underlying22 (by kernel_rfl) (fun fuel cs y h => dec_run fuel cs y h) (okWide_slice Tryd.underlying22 hok) hf
  have hm : Rs.flatMap (fun r => [r.v]) = Rs.map Rm.v := by
    clear h1 h2 h4 h5
    induction Rs with
    | nil => rfl
    | cons r Rs ih => rw [List.flatMap_cons, ih]; rfl
  rw [hm] at h4
  exact ⟨B, Rs, c, h1, h2, h3, h4, h5⟩
end Go.Proofs.YthdcllnmnmemdaaDoor

/- Rungs read as data. -/
namespace Go.Proofs.YthdcllnmnmemdaaDoor
open Go Go.ChangeShapes Go.WideShapes Go.ChangeAt Go.RowKit
set_option maxRecDepth 100000

theorem wf_u64g {n : Int} (h : (Lit.int .u64 n).wf = true) : 0 ≤ n ∧ n ≤ 18446744073709551615 := by
  simp only [Lit.wf, Bool.and_eq_true, decide_eq_true_eq] at h
  exact h
theorem read_rungs {H : Type} {enc : TypeId × Value → H} {w : World} {base : Nat} {v : Value} {d : DataW H} {p : List MemPlace} (hok : Value.okWide Tryd.prog w .any base 25 v)
    (h : DataW.Trod enc Tryd.prog w 0 (fun _ => true) true 25 v d p) : ∃ (B : Option Addr) (Rs : List Rm) (c : Nat) (n : Int), v = .agg #[.slice B Rs.length c, .int .u64 n] ∧ Rs.length ≤ c ∧ c ≤ maxLen ∧ RunsAt w B Rs ∧ 0 ≤ n ∧ n ≤ 18446744073709551615 := by
  obtain ⟨cs, rfl, _⟩ := okWide_struct Tryd.underlying25 hok
  obtain ⟨fuel, hf⟩ := h
  obtain ⟨xs, m, _, _, hlen, hxl, hg⟩ := DataW.trod_struct Tryd.underlying25 hf
  rw [show Tryd.prog.cellsOf 25 = 2 from by kernel_rfl] at hlen
  obtain ⟨cl⟩ := cs
  match cl, hlen with
  | [c0, c1], _ =>
    match xs, hxl with
    | [x0, x1], _ =>
      have h0 : DataW.trod enc Tryd.prog w 0 (fun _ => true) true m 22 (List.take (Tryd.prog.cellsOf 22) (List.drop 0 [c0, c1])) = some x0 := hg 0 _ rfl
      have h1 : DataW.trod enc Tryd.prog w 0 (fun _ => true) true m 23 (List.take (Tryd.prog.cellsOf 23) (List.drop 1 [c0, c1])) = some x1 := hg 1 _ rfl
      rw [show Tryd.prog.cellsOf 22 = 1 from by kernel_rfl] at h0
      rw [show Tryd.prog.cellsOf 23 = 1 from by kernel_rfl] at h1
      obtain ⟨n, e1, _, f1⟩ := DataW.trod_int Tryd.underlying23 h1
      have hv : ∃ a len cap, List.take 1 (List.drop 0 [c0, c1]) = [.slice a len cap] := by
        rcases Go.Deep.open_slice Tryd.underlying22 h0 with ⟨h1, _⟩ | ⟨a, len, cap, _, _, _, _, h1, _⟩
        · exact ⟨_, _, _, h1⟩
        · exact ⟨_, _, _, h1⟩
      obtain ⟨a, len, cap, e0⟩ := hv
      simp at e0 e1
      subst e0 e1
      obtain ⟨B, Rs, c, h2, h3, h4, h5, h6⟩ := read_slice (v := .slice a len cap) (s := 1) (fun r : Rm => [r.v]) (fun r => r.Ok w) (fun _ => rfl) (by omega) Tryd.underlying22 (by kernel_rfl) (fun fuel cs y h => dec_run fuel cs y h) ⟨_, _, _, rfl⟩ h0
      have hm : Rs.flatMap (fun r => [r.v]) = Rs.map Rm.v := by
        clear h2 h3 h5 h6
        induction Rs with
        | nil => rfl
        | cons r Rs ih => rw [List.flatMap_cons, ih]; rfl
      rw [hm] at h5
      obtain ⟨g1, g2⟩ := wf_u64g f1
      exact ⟨B, Rs, c, n, by rw [h2], h3, h4, ⟨h5, h6⟩, g1, g2⟩
end Go.Proofs.YthdcllnmnmemdaaDoor

namespace Go.Proofs.YthdcllnmnmemdaaDoor
open Go Go.ChangeShapes Go.WideShapes Go.ChangeAt Go.RowKit
set_option maxRecDepth 100000

theorem rungsAdds_contract (H : Type) (enc : TypeId × Value → H) (W : World) (base : Nat) (args : Array Value) (ds gs : List (DataW H)) (before : List MemPlace)
    (hval0 : ∀ (j : Nat) t v, Tryd.f3.params[j]? = some t → args[j]? = some v → Value.okWide Tryd.prog W .any base t v)
    (hW : DataW.Whole enc Tryd.prog Tryd.f3.params.toList Rows.rungsAddsSpec.vars false W args.toList ds gs before) (hL : laidMetH Tryd.prog Rows.rungsAddsRow.laid W) :
    Calls Tryd.prog 3 args W fun e W' => ∃ v, e = .returned v ∧ Rows.rungsAddsSpec.post enc Tryd.prog Tryd.f3 false true false false W args v W' := by
  have hval : ∀ (j : Nat) t v, Tryd.f3.params[j]? = some t → args[j]? = some v → Value.okWide Tryd.prog W .any base t v := hval0
  have hT := tab_at hL
  have hW' := hW
  obtain ⟨p, q, hA0, hV, rfl, hfz, hnd⟩ := hW
  have hA : DataW.TrodAll enc Tryd.prog W 0 (fun _ => true) true Tryd.f3.params.toList args.toList ds p := hA0
  rw [Tryd.params3] at hA hval
  obtain ⟨v0, v1, v2, d0, d1, d2, p0, p1, p2, rfl, rfl, rfl, h0, h1, h2⟩ := trodAll_three hA
  obtain ⟨rfl, rfl⟩ := trodVars_none hV
  obtain ⟨B, Rs, c, n, rfl, _, _, hs, _, _⟩ := read_rungs (hval 0 25 v0 rfl rfl) h0
  obtain ⟨y, rfl⟩ := read_ent (hval 1 27 v1 rfl rfl) h1
  obtain ⟨key, rfl⟩ := okWide_int Tryd.underlying2 (hval 2 2 v2 rfl rfl)
  refine (rungsAdds_any B Rs c n y key W hs hT).mono fun e W' ⟨he, hb⟩ => ?_
  subst he
  exact ⟨_, rfl, law_post (tb := 4) laidOut (by intro t ht; rw [Tryd.params3] at ht; simp at ht; rcases ht with rfl | rfl | rfl <;> exact ⟨by kernel_rfl, of_decide_eq_true (by kernel_rfl)⟩) rfl hW' rfl rfl rfl (by kernel_rfl) Tryd.underlying4 hb⟩

theorem rungsAdds_met (os : Os) : laidMet Tryd.prog Rows.rungsAddsRow.laid ((laidWorld os).forCall (fun _ _ => 0) ⟨#[], #[.agg #[.slice none 0 0, .int .u64 0], .agg #[.int .i64 0, .int .i64 0, .bool false], .int .i64 0], []⟩).memory :=
  laidMet_of_run' 8 (by kernel_rfl) (by kernel_rfl)
theorem rungsAdds_reads (os : Os) {H : Type} (enc : TypeId × Value → H) : ∃ places, DataW.whole enc Tryd.prog ((laidWorld os).forCall (fun _ _ => 0) ⟨#[], #[.agg #[.slice none 0 0, .int .u64 0], .agg #[.int .i64 0, .int .i64 0, .bool false], .int .i64 0], []⟩).memory Tryd.f3.params.toList Rows.rungsAddsSpec.vars false (#[.agg #[.slice none 0 0, .int .u64 0], .agg #[.int .i64 0, .int .i64 0, .bool false], .int .i64 0] : Array Value).toList 8 = some ([.agg [.nil, .lit (.int .u64 0)], .agg [.lit (.int .i64 0), .lit (.int .i64 0), .lit (.bool false)], .lit (.int .i64 0)], [], places) :=
  ⟨[], by kernel_rfl⟩
theorem rungsAdds_lifted (os : Os) (started : os.Started) (H : Type) (enc : TypeId × Value → H) (F : Stop.Interp) :
    ReturnsInHanded {} Tryd.checked os 3 .any ((OpenSpec.ofChange Rows.rungsAddsSpec).preRow enc Tryd.prog Tryd.f3 Rows.rungsAddsRow.domain false Rows.rungsAddsRow.laid) (((OpenSpec.ofChange Rows.rungsAddsSpec).at F).post enc Tryd.prog Tryd.f3 false true false false) := by
  obtain ⟨places, hx⟩ := rungsAdds_reads os enc
  refine returnsInHanded_of_row (C := Tryd.checked) (s := OpenSpec.ofChange Rows.rungsAddsSpec) own started (by kernel_rfl) Tryd.func3
    (witness_row_at (enc := enc) (C := Tryd.checked) false (laidWorld os) #[.agg #[.slice none 0 0, .int .u64 0], .agg #[.int .i64 0, .int .i64 0, .bool false], .int .i64 0] rfl (by kernel_rfl) (by kernel_rfl) (by kernel_rfl)
      (OpenSpec.preRow_of_cond 8 hx (by kernel_rfl) (fun k hk => by cases hk) (by kernel_rfl) (rungsAdds_met os))) ?_
  intro W base args ds gs before hval hW _ _ _ hL _ _
  exact rungsAdds_contract H enc W base args ds gs before hval hW hL
theorem rungsAdds_said : Rows.RungsAddsSaid :=
  OpenClaim.holds_of_cond 3 Tryd.f3 rfl rfl rfl rfl rfl rfl rfl ⟨rfl, rfl, rfl, rfl, rfl⟩ rfl rfl rfl rfl rfl (by kernel_rfl) Tryd.func3 (by kernel_rfl)
    (of_decide_eq_true (by kernel_rfl)) (by unfold Func.isWrapper; first | (rw [if_pos (by decide +kernel)]; kernel_rfl) | (rw [if_neg (by decide +kernel)]; exact ⟨rfl, rfl⟩))
    (fun os started H enc _ F => by rw [OpenClaim.pre_eq_preRow]; exact rungsAdds_lifted os started H enc F)
theorem rungsAdds_plain (f : FuncId) (fn : Func) (hf : Tryd.pinned.checked.prog.funcNamed "shelfmark/shelfmarklaw26.RungsAdds" = some f) (hfn : Tryd.pinned.checked.prog.funcs[f]? = some fn) :
    false = Tryd.pinned.checked.prog.looks [] ∧ ∀ (j : Nat) t, fn.params[j]? = some t → Tryd.pinned.checked.prog.wantsStandIn t = false := by
  obtain rfl : f = 3 := Option.some.inj ((show Tryd.prog.funcNamed "shelfmark/shelfmarklaw26.RungsAdds" = some 3 by kernel_rfl).symm.trans hf) |>.symm
  obtain rfl : fn = Tryd.f3 := (Option.some.inj (Tryd.func3.symm.trans hfn)).symm
  refine ⟨by kernel_rfl, fun j t ht => ?_⟩
  rw [Tryd.params3] at ht
  have : t = 25 ∨ t = 27 ∨ t = 2 := by
    have := Array.mem_of_getElem? ht
    simpa using this
  rcases this with rfl | rfl | rfl <;> first | exact (show Tryd.prog.wantsStandIn 25 = false by kernel_rfl) | exact (show Tryd.prog.wantsStandIn 27 = false by kernel_rfl) | exact (show Tryd.prog.wantsStandIn 2 = false by kernel_rfl)

/-- the card -/
theorem rungsAdds_card : Rows.RungsAddsCardSaid :=
  Claim7.holds_tied_plain_at .later [] _ _ _ _ rungsAdds_said (fun _ h => by cases h) (by kernel_rfl) (fun _ h => by cases h) rungsAdds_row_tie rfl ⟨rfl, rfl⟩ (by kernel_rfl) rfl rungsAdds_plain (by kernel_rfl)
end Go.Proofs.YthdcllnmnmemdaaDoor
