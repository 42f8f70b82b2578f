/- The law RungsAdds: for every levels, entry and key it returns true; its arguments stay as they were. As a card: math/bits' tables read as their initialisers lay them; no further condition. -/
import Derived.Test.YthdcllnmnmemdaaDoorWb16
import Derived.Test.YthdcllnmnmemdaaDoorWb13
import Derived.BigQuiet
import Derived.Test.YthdcllnmnmemdaaDoorWb17
/- The law RungsAdds: for every levels, entry and key it returns true; its arguments stay as they were. -/
namespace Go.Proofs.YthdcllnmnmemdaaDoor
open Go Go.RowKit
set_option maxRecDepth 100000
set_option maxHeartbeats 8000000 in
theorem rungsAdds_any (B : Option Addr) (Rs : List Rm) (c : Nat) (n : Int) (y : Ent) (key : Int) (w : World) (hB : RunsAt w B Rs) (hTb : TabAt 1 Lib.deBruijn64tab w) :
    Calls Tryd.prog 3 #[.agg #[.slice B Rs.length c, .int .u64 n], .agg #[.int .i64 y.key, .int .i64 y.val, .bool y.dead], .int .i64 key] w fun r w' => r = .returned (.bool true) ∧ Below w.heap.size w w' := by
  have HB0 := Lib.hid hB
  have HT0 := Lib.hid hTb
  clear hB hTb
  go_enter Tryd.func3, Tryd.ntmps3
  have HF := Lib.hid (Below.refl w.heap.size w)
  have HY1 := Lib.hid (HB0.out)
  have HY2 := Lib.hid (HT0.out)
  go_upto_region 1 with fail
  obtain ⟨U3, h4⟩ : ∃ U, (w.alloc (.cells #[.slice B Rs.length c, .int .u64 n] 25)).alloc (.cells #[.int .i64 y.key, .int .i64 y.val, .bool y.dead] 27) = U := ⟨_, rfl⟩
  have ba5 : Below w.heap.size w U3 := by rw [← h4]; exact ((Below.refl _ _).alloc (by first | (simp; done) | (simp; omega)) _).alloc (by first | (simp; done) | (simp; omega)) _
  have bn6 : Blk U3 (w.heap.size) 25 #[.slice B Rs.length c, .int .u64 n] := by
    rw [← h4]
    have hq := (Blk.new w 25 #[.slice B Rs.length c, .int .u64 n])
    exact (hq.alloc _)
  have bn7 : Blk U3 (w.heap.size + 1) 27 #[.int .i64 y.key, .int .i64 y.val, .bool y.dead] := by
    rw [← h4]
    have hq := (Blk.new (w.alloc (.cells #[.slice B Rs.length c, .int .u64 n] 25)) 27 #[.int .i64 y.key, .int .i64 y.val, .bool y.dead])
    simp only [World.size_alloc] at hq
    exact hq
  try rw [h4]
  have HF8 := Lib.hid (bext HF.out ba5)
  have HY9 := Lib.hid (RunsAt.below HY1.out ba5)
  have HY10 := Lib.hid (tab_below' HY2.out ba5)
  clear HF HY1 HY2
  obtain ⟨g11, h12⟩ : ∃ g, (w.heap.size + 1) = g := ⟨_, rfl⟩
  rw [h12] at bn7
  try rw [h12]
  have HX13 := Lib.hid bn7
  clear bn7 h12
  obtain ⟨g14, h15⟩ : ∃ g, (w.heap.size) = g := ⟨_, rfl⟩
  rw [h15] at bn6
  try rw [h15]
  have HX16 := Lib.hid bn6
  clear bn6 h15
  clear h4 ba5
  go_wp2_with fail
  refine (alive26_any _).mono ?_
  rintro e w17 ⟨rfl, hb18⟩
  have HF19 := Lib.hid (bext HF8.out hb18)
  have HX20 := Lib.hid (HX13.out.below hb18 HX13.out.lt)
  have HX21 := Lib.hid (HX16.out.below hb18 HX16.out.lt)
  have HY22 := Lib.hid (RunsAt.below HY9.out hb18)
  have HY23 := Lib.hid (tab_below' HY10.out hb18)
  clear HF8 HX13 HX16 HY9 HY10
  clear hb18
  have c24 : w17.cell? ⟨g14, 0, none⟩ = some (.slice B Rs.length c) := HX21.out.cell 0
  have c25 : w17.cell? ⟨g14, 1, none⟩ = some (.int .u64 n) := HX21.out.cell 1
  have l26 : g14 < w17.heap.size := HX21.out.lt
  go_wp2_with fail
  clear c24 c25 l26
  refine (great26_any B Rs c 300 n _ HY22.out (by omega)).mono ?_
  rintro e w27 ⟨G, rfl, hG, hb28⟩
  have HF29 := Lib.hid (bext HF19.out hb28)
  have HX30 := Lib.hid (HX20.out.below hb28 HX20.out.lt)
  have HX31 := Lib.hid (HX21.out.below hb28 HX21.out.lt)
  have HY32 := Lib.hid (RunsAt.below HY22.out hb28)
  have HY33 := Lib.hid (tab_below' HY23.out hb28)
  clear HF19 HX20 HX21 HY22 HY23
  clear hb28
  cases G with
  | true =>
    clear hG
    go_wp2
    go_ret
    exact ⟨rfl, HF29.out⟩
  | false =>
  have hG2 := hG rfl
  clear hG
  have hT3 : tot (lvs Rs) ≤ 300 := by omega
  have hR3 : Rs.length ≤ 300 := by omega
  clear hG2
  obtain ⟨LA, hLA⟩ : ∃ L, addL (lvs Rs) n y = L := ⟨_, rfl⟩
  obtain ⟨NA, hNA⟩ : ∃ L, addN (lvs Rs) n y = L := ⟨_, rfl⟩
  obtain ⟨EA, hEA⟩ : ∃ L, addE (lvs Rs) y = L := ⟨_, rfl⟩
  obtain ⟨x1, hx1⟩ : ∃ x, gxR LA y.key = x := ⟨_, rfl⟩
  obtain ⟨e1, he1⟩ : ∃ x, geR LA y.key = x := ⟨_, rfl⟩
  obtain ⟨x2, hx2⟩ : ∃ x, gxR (lvs Rs) key = x := ⟨_, rfl⟩
  obtain ⟨e2, he2⟩ : ∃ x, geR (lvs Rs) key = x := ⟨_, rfl⟩
  obtain ⟨x3, hx3⟩ : ∃ x, gxR LA key = x := ⟨_, rfl⟩
  obtain ⟨e3, he3⟩ : ∃ x, geR LA key = x := ⟨_, rfl⟩
  have hok : EA = 0 → chkR LA = 0 ∧ tot LA ≤ 65536 ∧ LA.length ≤ 17 ∧ (y.dead = false → e1 = 0 ∧ x1 = y) ∧ (y.dead = true → e1 = 0 → x1.dead = true) ∧ (key ≠ y.key → (decide (e2 = 0) && !x2.dead) = (decide (e3 = 0) && !x3.dead)) ∧ (key ≠ y.key → (decide (e2 = 0) && !x2.dead) = true → x2 = x3) := fun h => by
    have h1 := adds_ok (hEA.trans h) n key
    have h2 := addL_le (n := n) (hEA.trans h)
    obtain ⟨g1, g2, g3, g4, g5⟩ := h1
    unfold isB at g4 g5
    rw [hLA] at g1 g2 g3 g4 g5 h2
    rw [hx1, he1] at g2
    rw [hx1, he1] at g3
    rw [hx2, he2, hx3, he3] at g4
    rw [hx2, he2, hx3] at g5
    exact ⟨g1, h2.1, h2.2, g2, g3, g4, g5⟩
  have HOK := Lib.hid hok
  have hno : EA ≠ 0 → LA = [] := fun h => by rw [← hLA]; unfold addL; rw [if_neg (by rw [hEA]; exact h)]
  have HNO := Lib.hid hno
  have HADD := Lib.hid (show ∀ W, RunsAt W B Rs → Calls Tryd.prog 12 #[.agg #[.slice B Rs.length c, .int .u64 n], .agg #[.int .i64 y.key, .int .i64 y.val, .bool y.dead]] W (GivesRgE LA NA EA W) from fun W hW => by
    have h8 := addR_any B Rs c n y W hW (by omega) (by omega)
    rw [hLA, hNA, hEA] at h8
    exact h8)
  have HG2 := Lib.hid (show ∀ W, RunsAt W B Rs → TabAt 1 Lib.deBruijn64tab W → Calls Tryd.prog 13 #[.agg #[.slice B Rs.length c, .int .u64 n], .int .i64 key] W (GivesX x2 e2 W) from fun W hW hq => by
    have h8 := getR_any B Rs c n key W hW (by omega) (by omega) hq
    rw [hx2, he2] at h8
    exact h8)
  have HX1 := Lib.hid hx1
  have HE1 := Lib.hid he1
  have HX3 := Lib.hid hx3
  have HE3 := Lib.hid he3
  clear hLA hNA hEA hok hno hT3 hR3 hx1 he1 hx2 he2 hx3 he3
  have c34 : w27.cell? ⟨g14, 0, none⟩ = some (.slice B Rs.length c) := HX31.out.cell 0
  have c35 : w27.cell? ⟨g14, 1, none⟩ = some (.int .u64 n) := HX31.out.cell 1
  have l36 : g14 < w27.heap.size := HX31.out.lt
  have c37 : w27.cell? ⟨g11, 0, none⟩ = some (.int .i64 y.key) := HX30.out.cell 0
  have c38 : w27.cell? ⟨g11, 1, none⟩ = some (.int .i64 y.val) := HX30.out.cell 1
  have c39 : w27.cell? ⟨g11, 2, none⟩ = some (.bool y.dead) := HX30.out.cell 2
  have l40 : g11 < w27.heap.size := HX30.out.lt
  go_wp2_with fail
  clear c34 c35 l36 c37 c38 c39 l40
  refine (HADD.out _ HY32.out).mono ?_
  rintro e w41 ⟨Ba, ca, Ra, rfl, hla, hoa, hb42⟩
  have HOA := Lib.hid hoa.runsAt
  have HLA := Lib.hid hla
  obtain ⟨Na, hNa⟩ : ∃ N, Ra.length = N := ⟨_, rfl⟩
  rw [hNa]
  have HNA := Lib.hid hNa
  clear hla hoa hNa
  have HF43 := Lib.hid (bext HF29.out hb42)
  have HX44 := Lib.hid (HX30.out.below hb42 HX30.out.lt)
  have HX45 := Lib.hid (HX31.out.below hb42 HX31.out.lt)
  have HY46 := Lib.hid (RunsAt.below HY32.out hb42)
  have HY47 := Lib.hid (tab_below' HY33.out hb42)
  clear HF29 HX30 HX31 HY32 HY33
  clear hb42
  have HY48 := Lib.hid (HOA.out)
  go_upto_region 5 with fail
  obtain ⟨U49, h51⟩ : ∃ U, w41.alloc (.cells #[.slice Ba Na ca, .int .u64 NA] 25) = U := ⟨_, rfl⟩
  have ba52 : Below w41.heap.size w41 U49 := by rw [← h51]; exact (Below.refl _ _).alloc (Nat.le_refl _) _
  have bn53 : Blk U49 w41.heap.size 25 #[.slice Ba Na ca, .int .u64 NA] := by rw [← h51]; exact Blk.new _ _ _
  try rw [h51]
  have HF54 := Lib.hid (bext HF43.out ba52)
  have HX55 := Lib.hid (HX44.out.below ba52 HX44.out.lt)
  have HX56 := Lib.hid (HX45.out.below ba52 HX45.out.lt)
  have HY57 := Lib.hid (RunsAt.below HY46.out ba52)
  have HY58 := Lib.hid (tab_below' HY47.out ba52)
  have HY59 := Lib.hid (RunsAt.below HY48.out ba52)
  clear HF43 HX44 HX45 HY46 HY47 HY48
  obtain ⟨g50, h60⟩ : ∃ g, w41.heap.size = g := ⟨_, rfl⟩
  rw [h60] at bn53
  try rw [h60]
  have HX61 := Lib.hid bn53
  clear h51 ba52 bn53 h60
  by_cases hE0 : EA = 0
  case neg =>
    have h1 : (EA != 0) = true := by simpa using hE0
    have hz : Na = 0 := by rw [← HNA.out, rs_len HLA.out, HNO.out hE0]; rfl
    subst hz
    have cn : U49.cell? ⟨g50, 0, none⟩ = some (.slice Ba 0 ca) := HX61.out.cell 0
    clear hE0
    go_wp2
    go_ret
    exact ⟨rfl, HF54.out⟩
  case pos =>
  subst hE0
  obtain ⟨hck, hta, hla, hd1, hd2, hd3, hd4⟩ := HOK.out rfl
  have HCK := Lib.hid (show ∀ W, RunsAt W Ba Ra → Calls Tryd.prog 14 #[.agg #[.slice Ba Na ca, .int .u64 NA]] W (fun r w' => r = .returned (.int .i64 0) ∧ Below W.heap.size W w') from fun W hW => by
    have h8 := checkR_any Ba Ra ca NA W hW (by rw [HLA.out]; omega) (by rw [rs_len HLA.out]; omega)
    rw [HLA.out, hck, HNA.out] at h8
    exact h8)
  have HG1 := Lib.hid (show ∀ W, RunsAt W Ba Ra → TabAt 1 Lib.deBruijn64tab W → Calls Tryd.prog 13 #[.agg #[.slice Ba Na ca, .int .u64 NA], .int .i64 y.key] W (GivesX x1 e1 W) from fun W hW hq => by
    have h8 := getR_any Ba Ra ca NA y.key W hW (by rw [HLA.out]; omega) (by rw [rs_len HLA.out]; omega) hq
    rw [HLA.out, HX1.out, HE1.out, HNA.out] at h8
    exact h8)
  have HG3 := Lib.hid (show ∀ W, RunsAt W Ba Ra → TabAt 1 Lib.deBruijn64tab W → Calls Tryd.prog 13 #[.agg #[.slice Ba Na ca, .int .u64 NA], .int .i64 key] W (GivesX x3 e3 W) from fun W hW hq => by
    have h8 := getR_any Ba Ra ca NA key W hW (by rw [HLA.out]; omega) (by rw [rs_len HLA.out]; omega) hq
    rw [HLA.out, HX3.out, HE3.out, HNA.out] at h8
    exact h8)
  have HD1 := Lib.hid hd1
  have HD2 := Lib.hid hd2
  have HD3 := Lib.hid hd3
  have HD4 := Lib.hid hd4
  clear hck hta hla hd1 hd2 hd3 hd4
  have c62 : U49.cell? ⟨g50, 0, none⟩ = some (.slice Ba Na ca) := HX61.out.cell 0
  have c63 : U49.cell? ⟨g50, 1, none⟩ = some (.int .u64 NA) := HX61.out.cell 1
  have l64 : g50 < U49.heap.size := HX61.out.lt
  have c65 : U49.cell? ⟨g11, 0, none⟩ = some (.int .i64 y.key) := HX55.out.cell 0
  have c66 : U49.cell? ⟨g11, 1, none⟩ = some (.int .i64 y.val) := HX55.out.cell 1
  have c67 : U49.cell? ⟨g11, 2, none⟩ = some (.bool y.dead) := HX55.out.cell 2
  have l68 : g11 < U49.heap.size := HX55.out.lt
  go_wp2_with fail
  clear c62 c63 l64 c65 c66 c67 l68
  refine (HG1.out _ HY59.out HY58.out).mono ?_
  rintro e w69 ⟨rfl, hb70⟩
  have HF71 := Lib.hid (bext HF54.out hb70)
  have HX72 := Lib.hid (HX55.out.below hb70 HX55.out.lt)
  have HX73 := Lib.hid (HX56.out.below hb70 HX56.out.lt)
  have HX74 := Lib.hid (HX61.out.below hb70 HX61.out.lt)
  have HY75 := Lib.hid (RunsAt.below HY57.out hb70)
  have HY76 := Lib.hid (tab_below' HY58.out hb70)
  have HY77 := Lib.hid (RunsAt.below HY59.out hb70)
  clear HF54 HX55 HX56 HX61 HY57 HY58 HY59
  clear hb70
  go_upto_region 8 with fail
  obtain ⟨U78, h80⟩ : ∃ U, w69.alloc (.cells #[.int .i64 x1.key, .int .i64 x1.val, .bool x1.dead] 27) = U := ⟨_, rfl⟩
  have ba81 : Below w69.heap.size w69 U78 := by rw [← h80]; exact (Below.refl _ _).alloc (Nat.le_refl _) _
  have bn82 : Blk U78 w69.heap.size 27 #[.int .i64 x1.key, .int .i64 x1.val, .bool x1.dead] := by rw [← h80]; exact Blk.new _ _ _
  try rw [h80]
  have HF83 := Lib.hid (bext HF71.out ba81)
  have HX84 := Lib.hid (HX72.out.below ba81 HX72.out.lt)
  have HX85 := Lib.hid (HX73.out.below ba81 HX73.out.lt)
  have HX86 := Lib.hid (HX74.out.below ba81 HX74.out.lt)
  have HY87 := Lib.hid (RunsAt.below HY75.out ba81)
  have HY88 := Lib.hid (tab_below' HY76.out ba81)
  have HY89 := Lib.hid (RunsAt.below HY77.out ba81)
  clear HF71 HX72 HX73 HX74 HY75 HY76 HY77
  obtain ⟨g79, h90⟩ : ∃ g, w69.heap.size = g := ⟨_, rfl⟩
  rw [h90] at bn82
  try rw [h90]
  have HX91 := Lib.hid bn82
  clear h80 ba81 bn82 h90
  have c92 : U78.cell? ⟨g14, 0, none⟩ = some (.slice B Rs.length c) := HX85.out.cell 0
  have c93 : U78.cell? ⟨g14, 1, none⟩ = some (.int .u64 n) := HX85.out.cell 1
  have l94 : g14 < U78.heap.size := HX85.out.lt
  go_wp2_with fail
  clear c92 c93 l94
  refine (HG2.out _ HY87.out HY88.out).mono ?_
  rintro e w95 ⟨rfl, hb96⟩
  have HF97 := Lib.hid (bext HF83.out hb96)
  have HX98 := Lib.hid (HX84.out.below hb96 HX84.out.lt)
  have HX99 := Lib.hid (HX85.out.below hb96 HX85.out.lt)
  have HX100 := Lib.hid (HX86.out.below hb96 HX86.out.lt)
  have HX101 := Lib.hid (HX91.out.below hb96 HX91.out.lt)
  have HY102 := Lib.hid (RunsAt.below HY87.out hb96)
  have HY103 := Lib.hid (tab_below' HY88.out hb96)
  have HY104 := Lib.hid (RunsAt.below HY89.out hb96)
  clear HF83 HX84 HX85 HX86 HX91 HY87 HY88 HY89
  clear hb96
  go_upto_region 9 with fail
  obtain ⟨U105, h107⟩ : ∃ U, w95.alloc (.cells #[.int .i64 x2.key, .int .i64 x2.val, .bool x2.dead] 27) = U := ⟨_, rfl⟩
  have ba108 : Below w95.heap.size w95 U105 := by rw [← h107]; exact (Below.refl _ _).alloc (Nat.le_refl _) _
  have bn109 : Blk U105 w95.heap.size 27 #[.int .i64 x2.key, .int .i64 x2.val, .bool x2.dead] := by rw [← h107]; exact Blk.new _ _ _
  try rw [h107]
  have HF110 := Lib.hid (bext HF97.out ba108)
  have HX111 := Lib.hid (HX98.out.below ba108 HX98.out.lt)
  have HX112 := Lib.hid (HX99.out.below ba108 HX99.out.lt)
  have HX113 := Lib.hid (HX100.out.below ba108 HX100.out.lt)
  have HX114 := Lib.hid (HX101.out.below ba108 HX101.out.lt)
  have HY115 := Lib.hid (RunsAt.below HY102.out ba108)
  have HY116 := Lib.hid (tab_below' HY103.out ba108)
  have HY117 := Lib.hid (RunsAt.below HY104.out ba108)
  clear HF97 HX98 HX99 HX100 HX101 HY102 HY103 HY104
  obtain ⟨g106, h118⟩ : ∃ g, w95.heap.size = g := ⟨_, rfl⟩
  rw [h118] at bn109
  try rw [h118]
  have HX119 := Lib.hid bn109
  clear h107 ba108 bn109 h118
  have c120 : U105.cell? ⟨g50, 0, none⟩ = some (.slice Ba Na ca) := HX113.out.cell 0
  have c121 : U105.cell? ⟨g50, 1, none⟩ = some (.int .u64 NA) := HX113.out.cell 1
  have l122 : g50 < U105.heap.size := HX113.out.lt
  go_wp2_with fail
  clear c120 c121 l122
  refine (HG3.out _ HY117.out HY116.out).mono ?_
  rintro e w123 ⟨rfl, hb124⟩
  have HF125 := Lib.hid (bext HF110.out hb124)
  have HX126 := Lib.hid (HX111.out.below hb124 HX111.out.lt)
  have HX127 := Lib.hid (HX112.out.below hb124 HX112.out.lt)
  have HX128 := Lib.hid (HX113.out.below hb124 HX113.out.lt)
  have HX129 := Lib.hid (HX114.out.below hb124 HX114.out.lt)
  have HX130 := Lib.hid (HX119.out.below hb124 HX119.out.lt)
  have HY131 := Lib.hid (RunsAt.below HY115.out hb124)
  have HY132 := Lib.hid (tab_below' HY116.out hb124)
  have HY133 := Lib.hid (RunsAt.below HY117.out hb124)
  clear HF110 HX111 HX112 HX113 HX114 HX119 HY115 HY116 HY117
  clear hb124
  go_upto_region 10 with fail
  obtain ⟨U134, h136⟩ : ∃ U, w123.alloc (.cells #[.int .i64 x3.key, .int .i64 x3.val, .bool x3.dead] 27) = U := ⟨_, rfl⟩
  have ba137 : Below w123.heap.size w123 U134 := by rw [← h136]; exact (Below.refl _ _).alloc (Nat.le_refl _) _
  have bn138 : Blk U134 w123.heap.size 27 #[.int .i64 x3.key, .int .i64 x3.val, .bool x3.dead] := by rw [← h136]; exact Blk.new _ _ _
  try rw [h136]
  have HF139 := Lib.hid (bext HF125.out ba137)
  have HX140 := Lib.hid (HX126.out.below ba137 HX126.out.lt)
  have HX141 := Lib.hid (HX127.out.below ba137 HX127.out.lt)
  have HX142 := Lib.hid (HX128.out.below ba137 HX128.out.lt)
  have HX143 := Lib.hid (HX129.out.below ba137 HX129.out.lt)
  have HX144 := Lib.hid (HX130.out.below ba137 HX130.out.lt)
  have HY145 := Lib.hid (RunsAt.below HY131.out ba137)
  have HY146 := Lib.hid (tab_below' HY132.out ba137)
  have HY147 := Lib.hid (RunsAt.below HY133.out ba137)
  clear HF125 HX126 HX127 HX128 HX129 HX130 HY131 HY132 HY133
  obtain ⟨g135, h148⟩ : ∃ g, w123.heap.size = g := ⟨_, rfl⟩
  rw [h148] at bn138
  try rw [h148]
  have HX149 := Lib.hid bn138
  clear h136 ba137 bn138 h148
  have c150 : U134.cell? ⟨g50, 0, none⟩ = some (.slice Ba Na ca) := HX142.out.cell 0
  have c151 : U134.cell? ⟨g50, 1, none⟩ = some (.int .u64 NA) := HX142.out.cell 1
  have l152 : g50 < U134.heap.size := HX142.out.lt
  go_wp2_with fail
  clear c150 c151 l152
  refine (HCK.out _ HY147.out).mono ?_
  rintro e w153 ⟨rfl, hb154⟩
  have HF155 := Lib.hid (bext HF139.out hb154)
  have HX156 := Lib.hid (HX140.out.below hb154 HX140.out.lt)
  have HX157 := Lib.hid (HX141.out.below hb154 HX141.out.lt)
  have HX158 := Lib.hid (HX142.out.below hb154 HX142.out.lt)
  have HX159 := Lib.hid (HX143.out.below hb154 HX143.out.lt)
  have HX160 := Lib.hid (HX144.out.below hb154 HX144.out.lt)
  have HX161 := Lib.hid (HX149.out.below hb154 HX149.out.lt)
  have HY162 := Lib.hid (RunsAt.below HY145.out hb154)
  have HY163 := Lib.hid (tab_below' HY146.out hb154)
  have HY164 := Lib.hid (RunsAt.below HY147.out hb154)
  clear HF139 HX140 HX141 HX142 HX143 HX144 HX149 HY145 HY146 HY147
  clear hb154
  cases hyd : y.dead with
  | false =>
    obtain ⟨h1, h2⟩ := HD1.out hyd
    have hne := fun w => run_neq_ent y y w
    have hnn : neE y y = false := by unfold neE; simp
    rw [hyd] at hne
    have c165 : w153.cell? ⟨g11, 0, none⟩ = some (.int .i64 y.key) := HX156.out.cell 0
    have c166 : w153.cell? ⟨g11, 1, none⟩ = some (.int .i64 y.val) := HX156.out.cell 1
    have c167 : w153.cell? ⟨g11, 2, none⟩ = some (.bool y.dead) := HX156.out.cell 2
    have l168 : g11 < w153.heap.size := HX156.out.lt
    have c169 : w153.cell? ⟨g79, 0, none⟩ = some (.int .i64 x1.key) := HX159.out.cell 0
    have c170 : w153.cell? ⟨g79, 1, none⟩ = some (.int .i64 x1.val) := HX159.out.cell 1
    have c171 : w153.cell? ⟨g79, 2, none⟩ = some (.bool x1.dead) := HX159.out.cell 2
    have l172 : g79 < w153.heap.size := HX159.out.lt
    clear HD1 HD2 HOK HX1
    subst h1
    subst h2
    go_upto_region 12 with fail
    clear hne hnn
    by_cases hkk : key = x1.key
    · have hk1 : (key == x1.key) = true := by simpa using hkk
      clear hkk
      go_wp2_with fail
      go_ret
      refine ⟨?_, by first | exact HF155.out | exact ⟨HF155.out.os, HF155.out.tape, HF155.out.output, HF155.out.size, HF155.out.block⟩⟩
      rfl
    have hk1 : (key == x1.key) = false := by simpa using hkk
    have h3 := HD3.out hkk
    have h4 := HD4.out hkk
    clear hkk
    have c165 : w153.cell? ⟨g106, 0, none⟩ = some (.int .i64 x2.key) := HX160.out.cell 0
    have c166 : w153.cell? ⟨g106, 1, none⟩ = some (.int .i64 x2.val) := HX160.out.cell 1
    have c167 : w153.cell? ⟨g106, 2, none⟩ = some (.bool x2.dead) := HX160.out.cell 2
    have l168 : g106 < w153.heap.size := HX160.out.lt
    have c169 : w153.cell? ⟨g135, 0, none⟩ = some (.int .i64 x3.key) := HX161.out.cell 0
    have c170 : w153.cell? ⟨g135, 1, none⟩ = some (.int .i64 x3.val) := HX161.out.cell 1
    have c171 : w153.cell? ⟨g135, 2, none⟩ = some (.bool x3.dead) := HX161.out.cell 2
    have l172 : g135 < w153.heap.size := HX161.out.lt
    by_cases q2 : e2 = 0
    · subst q2
      cases d2 : x2.dead
      · rw [d2] at h3 h4
        have hx := h4 (by simp)
        obtain ⟨q3, d3⟩ : e3 = 0 ∧ x3.dead = false := by simpa using h3.symm
        subst q3 hx
        have hxx := fun w => run_eql_ent x2 x2 w
        have hxy := eqX_self x2
        rw [d2] at hxx
        clear h3 h4 d3
        go_upto_region 14 with fail
        go_quiet (fail)
        go_wp2_with fail
        go_ret
        refine ⟨?_, by first | exact HF155.out | exact ⟨HF155.out.os, HF155.out.tape, HF155.out.output, HF155.out.size, HF155.out.block⟩⟩
        rfl
      · rw [d2] at h3
        by_cases q3 : e3 = 0
        · subst q3
          have d3 : x3.dead = true := by simpa using h3
          clear h3 h4
          go_upto_region 14 with fail
          go_quiet (fail)
          go_wp2_with fail
          go_ret
          refine ⟨?_, by first | exact HF155.out | exact ⟨HF155.out.os, HF155.out.tape, HF155.out.output, HF155.out.size, HF155.out.block⟩⟩
          rfl
        · have p3 : (e3 == 0) = false := by simpa using q3
          clear h3 h4 q3
          go_upto_region 14 with fail
          go_quiet (fail)
          go_wp2_with fail
          go_ret
          refine ⟨?_, by first | exact HF155.out | exact ⟨HF155.out.os, HF155.out.tape, HF155.out.output, HF155.out.size, HF155.out.block⟩⟩
          rfl
    · have p2 : (e2 == 0) = false := by simpa using q2
      by_cases q3 : e3 = 0
      · subst q3
        have d3 : x3.dead = true := by simpa [q2] using h3
        clear h3 h4 q2
        go_upto_region 14 with fail
        go_quiet (fail)
        go_wp2_with fail
        go_ret
        refine ⟨?_, by first | exact HF155.out | exact ⟨HF155.out.os, HF155.out.tape, HF155.out.output, HF155.out.size, HF155.out.block⟩⟩
        rfl
      · have p3 : (e3 == 0) = false := by simpa using q3
        clear h3 h4 q2 q3
        go_upto_region 14 with fail
        go_quiet (fail)
        go_wp2_with fail
        go_ret
        refine ⟨?_, by first | exact HF155.out | exact ⟨HF155.out.os, HF155.out.tape, HF155.out.output, HF155.out.size, HF155.out.block⟩⟩
        rfl
  | true =>
    have h2 := HD2.out hyd
    have c165 : w153.cell? ⟨g11, 0, none⟩ = some (.int .i64 y.key) := HX156.out.cell 0
    have c166 : w153.cell? ⟨g11, 1, none⟩ = some (.int .i64 y.val) := HX156.out.cell 1
    have c167 : w153.cell? ⟨g11, 2, none⟩ = some (.bool y.dead) := HX156.out.cell 2
    have l168 : g11 < w153.heap.size := HX156.out.lt
    have c169 : w153.cell? ⟨g79, 0, none⟩ = some (.int .i64 x1.key) := HX159.out.cell 0
    have c170 : w153.cell? ⟨g79, 1, none⟩ = some (.int .i64 x1.val) := HX159.out.cell 1
    have c171 : w153.cell? ⟨g79, 2, none⟩ = some (.bool x1.dead) := HX159.out.cell 2
    have l172 : g79 < w153.heap.size := HX159.out.lt
    clear HD1 HD2 HOK
    by_cases h1 : e1 = 0
    · have hd := h2 h1
      subst h1
      clear h2
      go_upto_region 12 with fail
      by_cases hkk : key = y.key
      · have hk1 : (key == y.key) = true := by simpa using hkk
        clear hkk
        go_wp2_with fail
        go_ret
        refine ⟨?_, by first | exact HF155.out | exact ⟨HF155.out.os, HF155.out.tape, HF155.out.output, HF155.out.size, HF155.out.block⟩⟩
        rfl
      have hk1 : (key == y.key) = false := by simpa using hkk
      have h3 := HD3.out hkk
      have h4 := HD4.out hkk
      clear hkk
      have c165 : w153.cell? ⟨g106, 0, none⟩ = some (.int .i64 x2.key) := HX160.out.cell 0
      have c166 : w153.cell? ⟨g106, 1, none⟩ = some (.int .i64 x2.val) := HX160.out.cell 1
      have c167 : w153.cell? ⟨g106, 2, none⟩ = some (.bool x2.dead) := HX160.out.cell 2
      have l168 : g106 < w153.heap.size := HX160.out.lt
      have c169 : w153.cell? ⟨g135, 0, none⟩ = some (.int .i64 x3.key) := HX161.out.cell 0
      have c170 : w153.cell? ⟨g135, 1, none⟩ = some (.int .i64 x3.val) := HX161.out.cell 1
      have c171 : w153.cell? ⟨g135, 2, none⟩ = some (.bool x3.dead) := HX161.out.cell 2
      have l172 : g135 < w153.heap.size := HX161.out.lt
      by_cases q2 : e2 = 0
      · subst q2
        cases d2 : x2.dead
        · rw [d2] at h3 h4
          have hx := h4 (by simp)
          obtain ⟨q3, d3⟩ : e3 = 0 ∧ x3.dead = false := by simpa using h3.symm
          subst q3 hx
          have hxx := fun w => run_eql_ent x2 x2 w
          have hxy := eqX_self x2
          rw [d2] at hxx
          clear h3 h4 d3
          go_upto_region 14 with fail
          go_quiet (fail)
          go_wp2_with fail
          go_ret
          refine ⟨?_, by first | exact HF155.out | exact ⟨HF155.out.os, HF155.out.tape, HF155.out.output, HF155.out.size, HF155.out.block⟩⟩
          rfl
        · rw [d2] at h3
          by_cases q3 : e3 = 0
          · subst q3
            have d3 : x3.dead = true := by simpa using h3
            clear h3 h4
            go_upto_region 14 with fail
            go_quiet (fail)
            go_wp2_with fail
            go_ret
            refine ⟨?_, by first | exact HF155.out | exact ⟨HF155.out.os, HF155.out.tape, HF155.out.output, HF155.out.size, HF155.out.block⟩⟩
            rfl
          · have p3 : (e3 == 0) = false := by simpa using q3
            clear h3 h4 q3
            go_upto_region 14 with fail
            go_quiet (fail)
            go_wp2_with fail
            go_ret
            refine ⟨?_, by first | exact HF155.out | exact ⟨HF155.out.os, HF155.out.tape, HF155.out.output, HF155.out.size, HF155.out.block⟩⟩
            rfl
      · have p2 : (e2 == 0) = false := by simpa using q2
        by_cases q3 : e3 = 0
        · subst q3
          have d3 : x3.dead = true := by simpa [q2] using h3
          clear h3 h4 q2
          go_upto_region 14 with fail
          go_quiet (fail)
          go_wp2_with fail
          go_ret
          refine ⟨?_, by first | exact HF155.out | exact ⟨HF155.out.os, HF155.out.tape, HF155.out.output, HF155.out.size, HF155.out.block⟩⟩
          rfl
        · have p3 : (e3 == 0) = false := by simpa using q3
          clear h3 h4 q2 q3
          go_upto_region 14 with fail
          go_quiet (fail)
          go_wp2_with fail
          go_ret
          refine ⟨?_, by first | exact HF155.out | exact ⟨HF155.out.os, HF155.out.tape, HF155.out.output, HF155.out.size, HF155.out.block⟩⟩
          rfl
    · have h1b : (e1 == 0) = false := by simpa using h1
      clear h1 h2
      go_upto_region 12 with fail
      by_cases hkk : key = y.key
      · have hk1 : (key == y.key) = true := by simpa using hkk
        clear hkk
        go_wp2_with fail
        go_ret
        refine ⟨?_, by first | exact HF155.out | exact ⟨HF155.out.os, HF155.out.tape, HF155.out.output, HF155.out.size, HF155.out.block⟩⟩
        rfl
      have hk1 : (key == y.key) = false := by simpa using hkk
      have h3 := HD3.out hkk
      have h4 := HD4.out hkk
      clear hkk
      have c165 : w153.cell? ⟨g106, 0, none⟩ = some (.int .i64 x2.key) := HX160.out.cell 0
      have c166 : w153.cell? ⟨g106, 1, none⟩ = some (.int .i64 x2.val) := HX160.out.cell 1
      have c167 : w153.cell? ⟨g106, 2, none⟩ = some (.bool x2.dead) := HX160.out.cell 2
      have l168 : g106 < w153.heap.size := HX160.out.lt
      have c169 : w153.cell? ⟨g135, 0, none⟩ = some (.int .i64 x3.key) := HX161.out.cell 0
      have c170 : w153.cell? ⟨g135, 1, none⟩ = some (.int .i64 x3.val) := HX161.out.cell 1
      have c171 : w153.cell? ⟨g135, 2, none⟩ = some (.bool x3.dead) := HX161.out.cell 2
      have l172 : g135 < w153.heap.size := HX161.out.lt
      by_cases q2 : e2 = 0
      · subst q2
        cases d2 : x2.dead
        · rw [d2] at h3 h4
          have hx := h4 (by simp)
          obtain ⟨q3, d3⟩ : e3 = 0 ∧ x3.dead = false := by simpa using h3.symm
          subst q3 hx
          have hxx := fun w => run_eql_ent x2 x2 w
          have hxy := eqX_self x2
          rw [d2] at hxx
          clear h3 h4 d3
          go_upto_region 14 with fail
          go_quiet (fail)
          go_wp2_with fail
          go_ret
          refine ⟨?_, by first | exact HF155.out | exact ⟨HF155.out.os, HF155.out.tape, HF155.out.output, HF155.out.size, HF155.out.block⟩⟩
          rfl
        · rw [d2] at h3
          by_cases q3 : e3 = 0
          · subst q3
            have d3 : x3.dead = true := by simpa using h3
            clear h3 h4
            go_upto_region 14 with fail
            go_quiet (fail)
            go_wp2_with fail
            go_ret
            refine ⟨?_, by first | exact HF155.out | exact ⟨HF155.out.os, HF155.out.tape, HF155.out.output, HF155.out.size, HF155.out.block⟩⟩
            rfl
          · have p3 : (e3 == 0) = false := by simpa using q3
            clear h3 h4 q3
            go_upto_region 14 with fail
            go_quiet (fail)
            go_wp2_with fail
            go_ret
            refine ⟨?_, by first | exact HF155.out | exact ⟨HF155.out.os, HF155.out.tape, HF155.out.output, HF155.out.size, HF155.out.block⟩⟩
            rfl
      · have p2 : (e2 == 0) = false := by simpa using q2
        by_cases q3 : e3 = 0
        · subst q3
          have d3 : x3.dead = true := by simpa [q2] using h3
          clear h3 h4 q2
          go_upto_region 14 with fail
          go_quiet (fail)
          go_wp2_with fail
          go_ret
          refine ⟨?_, by first | exact HF155.out | exact ⟨HF155.out.os, HF155.out.tape, HF155.out.output, HF155.out.size, HF155.out.block⟩⟩
          rfl
        · have p3 : (e3 == 0) = false := by simpa using q3
          clear h3 h4 q2 q3
          go_upto_region 14 with fail
          go_quiet (fail)
          go_wp2_with fail
          go_ret
          refine ⟨?_, by first | exact HF155.out | exact ⟨HF155.out.os, HF155.out.tape, HF155.out.output, HF155.out.size, HF155.out.block⟩⟩
          rfl
end Go.Proofs.YthdcllnmnmemdaaDoor

namespace Go.Proofs.YthdcllnmnmemdaaDoor
open Go Go.ChangeShapes Go.WideShapes Go.ChangeAt Go.RowKit
set_option maxRecDepth 100000

theorem rungsAdds_contract (H : Type) (enc : TypeId × Value → H) (W : World) (base : Nat) (args : Array Value) (ds gs : List (DataW H)) (before : List MemPlace)
    (hval0 : ∀ (j : Nat) t v, Tryd.f3.params[j]? = some t → args[j]? = some v → Value.okWide Tryd.prog W .any base t v)
    (hW : DataW.Whole enc Tryd.prog Tryd.f3.params.toList Rows.rungsAddsSpec.vars false W args.toList ds gs before) (hL : laidMetH Tryd.prog Rows.rungsAddsRow.laid W) :
    Calls Tryd.prog 3 args W fun e W' => ∃ v, e = .returned v ∧ Rows.rungsAddsSpec.post enc Tryd.prog Tryd.f3 false true false false W args v W' := by
  have hval : ∀ (j : Nat) t v, Tryd.f3.params[j]? = some t → args[j]? = some v → Value.okWide Tryd.prog W .any base t v := hval0
  have hT := tab_at hL
  have hW' := hW
  obtain ⟨p, q, hA0, hV, rfl, hfz, hnd⟩ := hW
  have hA : DataW.TrodAll enc Tryd.prog W 0 (fun _ => true) true Tryd.f3.params.toList args.toList ds p := hA0
  rw [Tryd.params3] at hA hval
  obtain ⟨v0, v1, v2, d0, d1, d2, p0, p1, p2, rfl, rfl, rfl, h0, h1, h2⟩ := trodAll_three hA
  obtain ⟨rfl, rfl⟩ := trodVars_none hV
  obtain ⟨B, Rs, c, n, rfl, _, _, hs, _, _⟩ := read_rungs (hval 0 25 v0 rfl rfl) h0
  obtain ⟨y, rfl⟩ := read_ent (hval 1 27 v1 rfl rfl) h1
  obtain ⟨key, rfl⟩ := okWide_int Tryd.underlying2 (hval 2 2 v2 rfl rfl)
  refine (rungsAdds_any B Rs c n y key W hs hT).mono fun e W' ⟨he, hb⟩ => ?_
  subst he
  exact ⟨_, rfl, law_post (tb := 4) laidOut (by intro t ht; rw [Tryd.params3] at ht; simp at ht; rcases ht with rfl | rfl | rfl <;> exact ⟨by kernel_rfl, of_decide_eq_true (by kernel_rfl)⟩) rfl hW' rfl rfl rfl (by kernel_rfl) Tryd.underlying4 hb⟩

theorem rungsAdds_met (os : Os) : laidMet Tryd.prog Rows.rungsAddsRow.laid ((laidWorld os).forCall (fun _ _ => 0) ⟨#[], #[.agg #[.slice none 0 0, .int .u64 0], .agg #[.int .i64 0, .int .i64 0, .bool false], .int .i64 0], []⟩).memory :=
  laidMet_of_run' 8 (by kernel_rfl) (by kernel_rfl)
theorem rungsAdds_reads (os : Os) {H : Type} (enc : TypeId × Value → H) : ∃ places, DataW.whole enc Tryd.prog ((laidWorld os).forCall (fun _ _ => 0) ⟨#[], #[.agg #[.slice none 0 0, .int .u64 0], .agg #[.int .i64 0, .int .i64 0, .bool false], .int .i64 0], []⟩).memory Tryd.f3.params.toList Rows.rungsAddsSpec.vars false (#[.agg #[.slice none 0 0, .int .u64 0], .agg #[.int .i64 0, .int .i64 0, .bool false], .int .i64 0] : Array Value).toList 8 = some ([.agg [.nil, .lit (.int .u64 0)], .agg [.lit (.int .i64 0), .lit (.int .i64 0), .lit (.bool false)], .lit (.int .i64 0)], [], places) :=
  ⟨[], by kernel_rfl⟩
theorem rungsAdds_lifted (os : Os) (started : os.Started) (H : Type) (enc : TypeId × Value → H) (F : Stop.Interp) :
    ReturnsInHanded {} Tryd.checked os 3 .any ((OpenSpec.ofChange Rows.rungsAddsSpec).preRow enc Tryd.prog Tryd.f3 Rows.rungsAddsRow.domain false Rows.rungsAddsRow.laid) (((OpenSpec.ofChange Rows.rungsAddsSpec).at F).post enc Tryd.prog Tryd.f3 false true false false) := by
  obtain ⟨places, hx⟩ := rungsAdds_reads os enc
  refine returnsInHanded_of_row (C := Tryd.checked) (s := OpenSpec.ofChange Rows.rungsAddsSpec) own started (by kernel_rfl) Tryd.func3
    (witness_row_at (enc := enc) (C := Tryd.checked) false (laidWorld os) #[.agg #[.slice none 0 0, .int .u64 0], .agg #[.int .i64 0, .int .i64 0, .bool false], .int .i64 0] rfl (by kernel_rfl) (by kernel_rfl) (by kernel_rfl)
      (OpenSpec.preRow_of_cond 8 hx (by kernel_rfl) (fun k hk => by cases hk) (by kernel_rfl) (rungsAdds_met os))) ?_
  intro W base args ds gs before hval hW _ _ _ hL _ _
  exact rungsAdds_contract H enc W base args ds gs before hval hW hL
theorem rungsAdds_said : Rows.RungsAddsSaid :=
  OpenClaim.holds_of_cond 3 Tryd.f3 rfl rfl rfl rfl rfl rfl rfl ⟨rfl, rfl, rfl, rfl, rfl⟩ rfl rfl rfl rfl rfl (by kernel_rfl) Tryd.func3 (by kernel_rfl)
    (of_decide_eq_true (by kernel_rfl)) (by unfold Func.isWrapper; first | (rw [if_pos (by decide +kernel)]; kernel_rfl) | (rw [if_neg (by decide +kernel)]; exact ⟨rfl, rfl⟩))
    (fun os started H enc _ F => by rw [OpenClaim.pre_eq_preRow]; exact rungsAdds_lifted os started H enc F)
theorem rungsAdds_plain (f : FuncId) (fn : Func) (hf : Tryd.pinned.checked.prog.funcNamed "shelfmark/shelfmarklaw26.RungsAdds" = some f) (hfn : Tryd.pinned.checked.prog.funcs[f]? = some fn) :
    false = Tryd.pinned.checked.prog.looks [] ∧ ∀ (j : Nat) t, fn.params[j]? = some t → Tryd.pinned.checked.prog.wantsStandIn t = false := by
  obtain rfl : f = 3 := Option.some.inj ((show Tryd.prog.funcNamed "shelfmark/shelfmarklaw26.RungsAdds" = some 3 by kernel_rfl).symm.trans hf) |>.symm
  obtain rfl : fn = Tryd.f3 := (Option.some.inj (Tryd.func3.symm.trans hfn)).symm
  refine ⟨by kernel_rfl, fun j t ht => ?_⟩
  rw [Tryd.params3] at ht
  have : t = 25 ∨ t = 27 ∨ t = 2 := by
    have := Array.mem_of_getElem? ht
    simpa using this
  rcases this with rfl | rfl | rfl <;> first | exact (show Tryd.prog.wantsStandIn 25 = false by kernel_rfl) | exact (show Tryd.prog.wantsStandIn 27 = false by kernel_rfl) | exact (show Tryd.prog.wantsStandIn 2 = false by kernel_rfl)

/-- the card -/
theorem rungsAdds_card : Rows.RungsAddsCardSaid :=
  Claim7.holds_tied_plain_at .later [] _ _ _ _ rungsAdds_said (fun _ h => by cases h) (by kernel_rfl) (fun _ h => by cases h) rungsAdds_row_tie rfl ⟨rfl, rfl⟩ (by kernel_rfl) rfl rungsAdds_plain (by kernel_rfl)
end Go.Proofs.YthdcllnmnmemdaaDoor
