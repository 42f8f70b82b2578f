/- Lt: texts of the claim, in this order. -/
import Derived.Test.YthbppblmecdekaaGreatDoorWt4
import Derived.Test.YthbppblmecdekaaGreatDoorWg7
import Derived.Deep.CutRange
import Derived.Deep.RegionHeld3
/- The law LadderTells: for every two maps and key it returns true; its arguments stay as they were. -/
namespace Go.Proofs.YthbppblmecdekaaGreatDoor
open Go Go.RowKit
set_option maxRecDepth 100000
theorem ls_of {Rs : List Rm} {L : Lv} {T : Nat} (h : lvs Rs = L) (h1 : L.length + tot L ≤ T) (h3 : T ≤ 1000000 := by omega) : Rs.length ≤ 1000000 ∧ ∀ r ∈ Rs, r.l.length ≤ 1000000 := by
  refine ⟨by rw [rs_len h]; omega, fun r hr => ?_⟩
  have h5 := le_sum (List.mem_map.2 ⟨r.l, List.mem_map.2 ⟨r, hr, rfl⟩, rfl⟩ : r.l.length ∈ ((lvs Rs).map List.length))
  rw [h] at h5
  unfold tot at h1
  omega
set_option maxHeartbeats 32000000 in
theorem ladderTells_any (c d : Cfg) (B D : Option Addr) (Rs Ts : List Rm) (k q : Nat) (n m : Int) (key : Int) (w : World) (hB : RunsAt w B Rs) (hD : RunsAt w D Ts) (hkb : ∀ l ∈ lvs Rs, ∀ e ∈ l, -9223372036854775808 ≤ e.key ∧ e.key ≤ 9223372036854775807) (hTb : TabAt 1 Lib.deBruijn64tab w) :
    Calls Tryz.prog 3 #[.agg (lrow c B Rs.length k n), .agg (lrow d D Ts.length q m), .int .i64 key] w fun r w' => r = .returned (.bool true) ∧ Below w.heap.size w w' := by
  have HB0 := Lib.hid hB
  have HD0 := Lib.hid hD
  have HT0 := Lib.hid hTb
  have HKB := Lib.hid hkb
  clear hB hD hTb hkb
  go_enter Tryz.func3, Tryz.ntmps3
  have HF := Lib.hid (Below.refl w.heap.size w)
  have HY1 := Lib.hid (HB0.out)
  have HY2 := Lib.hid (HD0.out)
  have HY3 := Lib.hid (HT0.out)
  go_upto_region 1 with fail
  obtain ⟨U4, h5⟩ : ∃ U, (w.alloc (.cells #[.int .u8 c.tag, .int .i64 c.most, .int .i64 c.seg, .int .i64 c.least, .int .i64 c.den, .int .i64 c.leafLow, .int .i64 c.rootLow, .int .i64 c.rootHigh, .int .i64 c.leafHigh, .slice B Rs.length k, .int .u64 n] 29)).alloc (.cells #[.int .u8 d.tag, .int .i64 d.most, .int .i64 d.seg, .int .i64 d.least, .int .i64 d.den, .int .i64 d.leafLow, .int .i64 d.rootLow, .int .i64 d.rootHigh, .int .i64 d.leafHigh, .slice D Ts.length q, .int .u64 m] 29) = U := ⟨_, rfl⟩
  have ba6 : Below w.heap.size w U4 := by rw [← h5]; exact ((Below.refl _ _).alloc (by first | (simp; done) | (simp; omega)) _).alloc (by first | (simp; done) | (simp; omega)) _
  have bn7 : Blk U4 (w.heap.size) 29 #[.int .u8 c.tag, .int .i64 c.most, .int .i64 c.seg, .int .i64 c.least, .int .i64 c.den, .int .i64 c.leafLow, .int .i64 c.rootLow, .int .i64 c.rootHigh, .int .i64 c.leafHigh, .slice B Rs.length k, .int .u64 n] := by
    rw [← h5]
    have hq := (Blk.new w 29 #[.int .u8 c.tag, .int .i64 c.most, .int .i64 c.seg, .int .i64 c.least, .int .i64 c.den, .int .i64 c.leafLow, .int .i64 c.rootLow, .int .i64 c.rootHigh, .int .i64 c.leafHigh, .slice B Rs.length k, .int .u64 n])
    exact (hq.alloc _)
  have bn8 : Blk U4 (w.heap.size + 1) 29 #[.int .u8 d.tag, .int .i64 d.most, .int .i64 d.seg, .int .i64 d.least, .int .i64 d.den, .int .i64 d.leafLow, .int .i64 d.rootLow, .int .i64 d.rootHigh, .int .i64 d.leafHigh, .slice D Ts.length q, .int .u64 m] := by
    rw [← h5]
    have hq := (Blk.new (w.alloc (.cells #[.int .u8 c.tag, .int .i64 c.most, .int .i64 c.seg, .int .i64 c.least, .int .i64 c.den, .int .i64 c.leafLow, .int .i64 c.rootLow, .int .i64 c.rootHigh, .int .i64 c.leafHigh, .slice B Rs.length k, .int .u64 n] 29)) 29 #[.int .u8 d.tag, .int .i64 d.most, .int .i64 d.seg, .int .i64 d.least, .int .i64 d.den, .int .i64 d.leafLow, .int .i64 d.rootLow, .int .i64 d.rootHigh, .int .i64 d.leafHigh, .slice D Ts.length q, .int .u64 m])
    simp only [World.size_alloc] at hq
    exact hq
  try rw [h5]
  have HF9 := Lib.hid (bext HF.out ba6)
  have HY10 := Lib.hid (RunsAt.below HY1.out ba6)
  have HY11 := Lib.hid (RunsAt.below HY2.out ba6)
  have HY12 := Lib.hid (tab_below' HY3.out ba6)
  clear HF HY1 HY2 HY3
  obtain ⟨g13, h14⟩ : ∃ g, (w.heap.size + 1) = g := ⟨_, rfl⟩
  rw [h14] at bn8
  try rw [h14]
  have HX15 := Lib.hid bn8
  clear bn8 h14
  obtain ⟨g16, h17⟩ : ∃ g, (w.heap.size) = g := ⟨_, rfl⟩
  rw [h17] at bn7
  try rw [h17]
  have HX18 := Lib.hid bn7
  clear bn7 h17
  clear h5 ba6
  have c19 : U4.cell? ⟨g16, 0, none⟩ = some (.int .u8 c.tag) := HX18.out.cell 0
  have c20 : U4.cell? ⟨g16, 1, none⟩ = some (.int .i64 c.most) := HX18.out.cell 1
  have c21 : U4.cell? ⟨g16, 2, none⟩ = some (.int .i64 c.seg) := HX18.out.cell 2
  have c22 : U4.cell? ⟨g16, 3, none⟩ = some (.int .i64 c.least) := HX18.out.cell 3
  have c23 : U4.cell? ⟨g16, 4, none⟩ = some (.int .i64 c.den) := HX18.out.cell 4
  have c24 : U4.cell? ⟨g16, 5, none⟩ = some (.int .i64 c.leafLow) := HX18.out.cell 5
  have c25 : U4.cell? ⟨g16, 6, none⟩ = some (.int .i64 c.rootLow) := HX18.out.cell 6
  have c26 : U4.cell? ⟨g16, 7, none⟩ = some (.int .i64 c.rootHigh) := HX18.out.cell 7
  have c27 : U4.cell? ⟨g16, 8, none⟩ = some (.int .i64 c.leafHigh) := HX18.out.cell 8
  have c28 : U4.cell? ⟨g16, 9, none⟩ = some (.slice B Rs.length k) := HX18.out.cell 9
  have c29 : U4.cell? ⟨g16, 10, none⟩ = some (.int .u64 n) := HX18.out.cell 10
  have l30 : g16 < U4.heap.size := HX18.out.lt
  go_wp2_with fail
  clear c19 c20 c21 c22 c23 c24 c25 c26 c27 c28 c29 l30
  refine (great27_any B Rs k 300 c n _ HY10.out (by omega)).mono ?_
  rintro e w31 ⟨G, rfl, hG, hb32⟩
  have HF33 := Lib.hid (bext HF9.out hb32)
  have HX34 := Lib.hid (HX15.out.below hb32 HX15.out.lt)
  have HX35 := Lib.hid (HX18.out.below hb32 HX18.out.lt)
  have HY36 := Lib.hid (RunsAt.below HY10.out hb32)
  have HY37 := Lib.hid (RunsAt.below HY11.out hb32)
  have HY38 := Lib.hid (tab_below' HY12.out hb32)
  clear HF9 HX15 HX18 HY10 HY11 HY12
  clear hb32
  cases G with
  | true =>
    clear hG
    go_wp2
    go_ret
    exact ⟨rfl, HF33.out⟩
  | false =>
  have hGm := hG rfl
  clear hG
  have c39 : w31.cell? ⟨g13, 0, none⟩ = some (.int .u8 d.tag) := HX34.out.cell 0
  have c40 : w31.cell? ⟨g13, 1, none⟩ = some (.int .i64 d.most) := HX34.out.cell 1
  have c41 : w31.cell? ⟨g13, 2, none⟩ = some (.int .i64 d.seg) := HX34.out.cell 2
  have c42 : w31.cell? ⟨g13, 3, none⟩ = some (.int .i64 d.least) := HX34.out.cell 3
  have c43 : w31.cell? ⟨g13, 4, none⟩ = some (.int .i64 d.den) := HX34.out.cell 4
  have c44 : w31.cell? ⟨g13, 5, none⟩ = some (.int .i64 d.leafLow) := HX34.out.cell 5
  have c45 : w31.cell? ⟨g13, 6, none⟩ = some (.int .i64 d.rootLow) := HX34.out.cell 6
  have c46 : w31.cell? ⟨g13, 7, none⟩ = some (.int .i64 d.rootHigh) := HX34.out.cell 7
  have c47 : w31.cell? ⟨g13, 8, none⟩ = some (.int .i64 d.leafHigh) := HX34.out.cell 8
  have c48 : w31.cell? ⟨g13, 9, none⟩ = some (.slice D Ts.length q) := HX34.out.cell 9
  have c49 : w31.cell? ⟨g13, 10, none⟩ = some (.int .u64 m) := HX34.out.cell 10
  have l50 : g13 < w31.heap.size := HX34.out.lt
  go_wp2_with fail
  clear c39 c40 c41 c42 c43 c44 c45 c46 c47 c48 c49 l50
  refine (great27_any D Ts q 300 d m _ HY37.out (by omega)).mono ?_
  rintro e w51 ⟨G, rfl, hG, hb52⟩
  have HF53 := Lib.hid (bext HF33.out hb52)
  have HX54 := Lib.hid (HX34.out.below hb52 HX34.out.lt)
  have HX55 := Lib.hid (HX35.out.below hb52 HX35.out.lt)
  have HY56 := Lib.hid (RunsAt.below HY36.out hb52)
  have HY57 := Lib.hid (RunsAt.below HY37.out hb52)
  have HY58 := Lib.hid (tab_below' HY38.out hb52)
  clear HF33 HX34 HX35 HY36 HY37 HY38
  clear hb52
  cases G with
  | true =>
    clear hG
    go_wp2
    go_ret
    exact ⟨rfl, HF53.out⟩
  | false =>
  have hGo := hG rfl
  clear hG
  have hT3 : tot (lvs Rs) ≤ 300 := by omega
  have hR3 : Rs.length ≤ 300 := by omega
  have HSR := Lib.hid (ls_of (Rs := Rs) (T := 300) rfl (by rw [lvs_len]; omega))
  have HST := Lib.hid (ls_of (Rs := Ts) (T := 300) rfl (by rw [lvs_len]; omega))
  clear hGm hGo
  obtain ⟨L, hL⟩ : ∃ L, lvs Rs = L := ⟨_, rfl⟩
  have HLL := Lib.hid (show L.length + tot L ≤ 600 by rw [← hL, lvs_len]; omega)
  obtain ⟨E, hE⟩ : ∃ x, errL c L = x := ⟨_, rfl⟩
  obtain ⟨P, hP⟩ : ∃ x, prD c L = x := ⟨_, rfl⟩
  obtain ⟨v1, hv1⟩ : ∃ x, vlD c L key = x := ⟨_, rfl⟩
  obtain ⟨e1, he1⟩ : ∃ x, veD c L key = x := ⟨_, rfl⟩
  obtain ⟨X, hX⟩ : ∃ x, resP E (nxO L key) = x := ⟨_, rfl⟩
  obtain ⟨F, hF⟩ : ∃ x, resE E (nxO L key) = x := ⟨_, rfl⟩
  obtain ⟨Y, hY⟩ : ∃ x, resP E (lsO L key) = x := ⟨_, rfl⟩
  obtain ⟨G, hG⟩ : ∃ x, resE E (lsO L key) = x := ⟨_, rfl⟩
  obtain ⟨Q, hQ⟩ : ∃ x, sameB c d n m L (lvs Ts) = x := ⟨_, rfl⟩
  have HPL := Lib.hid (show P.length ≤ 300 by rw [← hP, ← hL]; exact Nat.le_trans (prD_len _ _) hT3)
  have hT4 : tot L ≤ 300 := by rw [← hL]; exact hT3
  have HCON := Lib.hid (show ∀ (A : Option Addr) (Qs : List Rm) (a : Nat) (W : World), lvs Qs = L → RunsAt W A Qs →
      Calls Tryz.prog 11 #[.agg (lrow c A Rs.length a n)] W (GivesPrs P E W) ∧
      (TabAt 1 Lib.deBruijn64tab W → Calls Tryz.prog 13 #[.agg (lrow c A Rs.length a n), .int .i64 key] W (fun r w' => r = .returned (.tuple #[.int .i64 v1, .int .i64 e1]) ∧ Below W.heap.size W w')) ∧
      (TabAt 1 Lib.deBruijn64tab W → Calls Tryz.prog 15 #[.agg (lrow c A Rs.length a n), .int .i64 key] W (fun r w' => r = .returned (.tuple #[.agg #[.int .i64 X.key, .int .i64 X.val], .int .i64 F]) ∧ Below W.heap.size W w')) ∧
      (TabAt 1 Lib.deBruijn64tab W → Calls Tryz.prog 17 #[.agg (lrow c A Rs.length a n), .int .i64 key] W (fun r w' => r = .returned (.tuple #[.agg #[.int .i64 Y.key, .int .i64 Y.val], .int .i64 G]) ∧ Below W.heap.size W w')) ∧
      Calls Tryz.prog 19 #[.agg (lrow c A Rs.length a n)] W (fun r w' => r = .returned (.int .i64 E) ∧ Below W.heap.size W w') ∧
      (∀ Z, RunsAt Z D Ts → RunsAt Z A Qs → Calls Tryz.prog 21 #[.agg (lrow c A Rs.length a n), .agg (lrow d D Ts.length q m)] Z (fun r w' => r = .returned (.bool Q) ∧ Below Z.heap.size Z w')) ∧
      (∀ Z, RunsAt Z B Rs → RunsAt Z A Qs → Calls Tryz.prog 21 #[.agg (lrow c A Rs.length a n), .agg (lrow c B Rs.length k n)] Z (fun r w' => r = .returned (.bool true) ∧ Below Z.heap.size Z w')) ∧
      (∀ Z, RunsAt Z B Rs → RunsAt Z A Qs → Calls Tryz.prog 22 #[.agg (lrow c A Rs.length a n), .agg (lrow c B Rs.length k n)] Z (fun r w' => r = .returned (.bool true) ∧ Below Z.heap.size Z w')) from by
    intro A Qs a W hq hW
    have hn : Qs.length = Rs.length := by rw [rs_len hq, ← hL, lvs_len]
    have hs := ls_of (Rs := Qs) (T := 600) hq HLL.out
    have k1 := pairsD_any A Qs a c n W hW (by rw [hq]; omega) hs.1
    have k2 := fun h => getD_any A Qs a c n key W hW (by rw [hq]; omega) hs.1 h
    have k3 := fun h => nextD_any A Qs a c n key W hW (by rw [hq]; omega) hs.1 (by rw [hq, ← hL]; exact HKB.out) h
    have k4 := fun h => lastD_any A Qs a c n key W hW (by rw [hq]; omega) hs.1 h
    have k5 := checkD_any A Qs a c n W hW (by rw [hq]; omega) hs.1
    have k6 := fun Z (hz : RunsAt Z D Ts) (hz2 : RunsAt Z A Qs) => sameD_any c d A D Qs Ts Rs.length Ts.length a q n m Z hn rfl hz2 hz hs.1 hs.2 HST.out.2
    have k7 := fun Z (hz : RunsAt Z B Rs) (hz2 : RunsAt Z A Qs) => sameD_any c c A B Qs Rs Rs.length Rs.length a k n n Z hn rfl hz2 hz hs.1 hs.2 HSR.out.2
    have k8 := fun Z (hz : RunsAt Z B Rs) (hz2 : RunsAt Z A Qs) => same27_any c c A B Qs Rs Rs.length Rs.length a k n n Z hn rfl hz2 hz hs.1 hs.2 HSR.out.2
    rw [hq, hn, hP, hE] at k1
    rw [hq, hn, hv1, he1] at k2
    rw [hq, hn, hE, hX, hF] at k3
    rw [hq, hn, hE, hY, hG] at k4
    rw [hq, hn, hE] at k5
    rw [hq, hQ] at k6
    rw [hq, hL, sameB_self] at k7 k8
    exact ⟨k1, k2, k3, k4, k5, k6, k7, k8⟩)
  have HREF := Lib.hid (show ∀ W, RunsAt W B Rs →
      Calls Tryz.prog 12 #[.agg (lrow c B Rs.length k n)] W (GivesPrs P E W) ∧
      Calls Tryz.prog 14 #[.agg (lrow c B Rs.length k n), .int .i64 key] W (fun r w' => r = .returned (.tuple #[.int .i64 v1, .int .i64 e1]) ∧ Below W.heap.size W w') ∧
      Calls Tryz.prog 16 #[.agg (lrow c B Rs.length k n), .int .i64 key] W (fun r w' => r = .returned (.tuple #[.agg #[.int .i64 X.key, .int .i64 X.val], .int .i64 F]) ∧ Below W.heap.size W w') ∧
      Calls Tryz.prog 18 #[.agg (lrow c B Rs.length k n), .int .i64 key] W (fun r w' => r = .returned (.tuple #[.agg #[.int .i64 Y.key, .int .i64 Y.val], .int .i64 G]) ∧ Below W.heap.size W w') ∧
      Calls Tryz.prog 20 #[.agg (lrow c B Rs.length k n)] W (fun r w' => r = .returned (.int .i64 E) ∧ Below W.heap.size W w') ∧
      (∀ Z, RunsAt Z D Ts → RunsAt Z B Rs → Calls Tryz.prog 22 #[.agg (lrow c B Rs.length k n), .agg (lrow d D Ts.length q m)] Z (fun r w' => r = .returned (.bool Q) ∧ Below Z.heap.size Z w')) from by
    intro W hW
    have k1 := pairs27_any B Rs k c n W hW (by omega) HSR.out.1
    have k2 := get27_any B Rs k c n key W hW (by omega) HSR.out.1
    have k3 := next27_any B Rs k c n key W hW (by omega) HSR.out.1
    have k4 := last27_any B Rs k c n key W hW (by omega) HSR.out.1
    have k5 := check27_any B Rs k c n W hW (by omega) HSR.out.1
    have k6 := fun Z (hz : RunsAt Z D Ts) (hz2 : RunsAt Z B Rs) => same27_any c d B D Rs Ts Rs.length Ts.length k q n m Z rfl rfl hz2 hz HSR.out.1 HSR.out.2 HST.out.2
    rw [hL, hP, hE] at k1
    rw [hL, hv1, he1] at k2
    rw [hL, hE, hX, hF] at k3
    rw [hL, hE, hY, hG] at k4
    rw [hL, hE] at k5
    rw [hL, hQ] at k6
    exact ⟨k1, k2, k3, k4, k5, k6⟩)
  have HL := Lib.hid hL
  clear hL hE hP hv1 he1 hX hF hY hG hQ hT3 hT4 hR3
  have c59 : w51.cell? ⟨g16, 0, none⟩ = some (.int .u8 c.tag) := HX55.out.cell 0
  have c60 : w51.cell? ⟨g16, 1, none⟩ = some (.int .i64 c.most) := HX55.out.cell 1
  have c61 : w51.cell? ⟨g16, 2, none⟩ = some (.int .i64 c.seg) := HX55.out.cell 2
  have c62 : w51.cell? ⟨g16, 3, none⟩ = some (.int .i64 c.least) := HX55.out.cell 3
  have c63 : w51.cell? ⟨g16, 4, none⟩ = some (.int .i64 c.den) := HX55.out.cell 4
  have c64 : w51.cell? ⟨g16, 5, none⟩ = some (.int .i64 c.leafLow) := HX55.out.cell 5
  have c65 : w51.cell? ⟨g16, 6, none⟩ = some (.int .i64 c.rootLow) := HX55.out.cell 6
  have c66 : w51.cell? ⟨g16, 7, none⟩ = some (.int .i64 c.rootHigh) := HX55.out.cell 7
  have c67 : w51.cell? ⟨g16, 8, none⟩ = some (.int .i64 c.leafHigh) := HX55.out.cell 8
  have c68 : w51.cell? ⟨g16, 9, none⟩ = some (.slice B Rs.length k) := HX55.out.cell 9
  have c69 : w51.cell? ⟨g16, 10, none⟩ = some (.int .u64 n) := HX55.out.cell 10
  have l70 : g16 < w51.heap.size := HX55.out.lt
  go_wp2_with fail
  clear c59 c60 c61 c62 c63 c64 c65 c66 c67 c68 c69 l70
  refine (twin27_any B Rs k c n _ HY56.out HSR.out.1 HSR.out.2).mono ?_
  rintro e w71 ⟨B2, k2, R2, rfl, hl2, ho2, hb72⟩
  have HL2 := Lib.hid (hl2.trans HL.out)
  have hn2 : R2.length = Rs.length := by rw [rs_len HL2.out, ← HL.out, lvs_len]
  rw [hn2]
  have HN2 := Lib.hid hn2
  have HS2 := Lib.hid (ls_of (Rs := R2) (T := 600) HL2.out HLL.out)
  have HO2 := Lib.hid ho2.runsAt
  clear hl2 ho2 hn2
  have HF73 := Lib.hid (bext HF53.out hb72)
  have HX74 := Lib.hid (HX54.out.below hb72 HX54.out.lt)
  have HX75 := Lib.hid (HX55.out.below hb72 HX55.out.lt)
  have HY76 := Lib.hid (RunsAt.below HY56.out hb72)
  have HY77 := Lib.hid (RunsAt.below HY57.out hb72)
  have HY78 := Lib.hid (tab_below' HY58.out hb72)
  clear HF53 HX54 HX55 HY56 HY57 HY58
  clear hb72
  have HY79 := Lib.hid (HO2.out)
  go_upto_region 4 with fail
  obtain ⟨U80, h82⟩ : ∃ U, w71.alloc (.cells #[.int .u8 c.tag, .int .i64 c.most, .int .i64 c.seg, .int .i64 c.least, .int .i64 c.den, .int .i64 c.leafLow, .int .i64 c.rootLow, .int .i64 c.rootHigh, .int .i64 c.leafHigh, .slice B2 Rs.length k2, .int .u64 n] 29) = U := ⟨_, rfl⟩
  have ba83 : Below w71.heap.size w71 U80 := by rw [← h82]; exact (Below.refl _ _).alloc (Nat.le_refl _) _
  have bn84 : Blk U80 w71.heap.size 29 #[.int .u8 c.tag, .int .i64 c.most, .int .i64 c.seg, .int .i64 c.least, .int .i64 c.den, .int .i64 c.leafLow, .int .i64 c.rootLow, .int .i64 c.rootHigh, .int .i64 c.leafHigh, .slice B2 Rs.length k2, .int .u64 n] := by rw [← h82]; exact Blk.new _ _ _
  try rw [h82]
  have HF85 := Lib.hid (bext HF73.out ba83)
  have HX86 := Lib.hid (HX74.out.below ba83 HX74.out.lt)
  have HX87 := Lib.hid (HX75.out.below ba83 HX75.out.lt)
  have HY88 := Lib.hid (RunsAt.below HY76.out ba83)
  have HY89 := Lib.hid (RunsAt.below HY77.out ba83)
  have HY90 := Lib.hid (tab_below' HY78.out ba83)
  have HY91 := Lib.hid (RunsAt.below HY79.out ba83)
  clear HF73 HX74 HX75 HY76 HY77 HY78 HY79
  obtain ⟨g81, h92⟩ : ∃ g, w71.heap.size = g := ⟨_, rfl⟩
  rw [h92] at bn84
  try rw [h92]
  have HX93 := Lib.hid bn84
  clear h82 ba83 bn84 h92
  have KX := HX87
  have KO := HX93
  have KB := HY88
  have KR := HY91
  have KF := HF85
  have HF0 := Lib.hid (Below.refl U80.heap.size U80)
  have htw := twinD_any B2 R2 k2 c n U80 HY91.out HS2.out.1 HS2.out.2
  rw [HN2.out, HL2.out] at htw
  have HTW := Lib.hid htw
  clear htw
  have HY94 := Lib.hid (HF0.out)
  have c95 : U80.cell? ⟨g81, 0, none⟩ = some (.int .u8 c.tag) := HX93.out.cell 0
  have c96 : U80.cell? ⟨g81, 1, none⟩ = some (.int .i64 c.most) := HX93.out.cell 1
  have c97 : U80.cell? ⟨g81, 2, none⟩ = some (.int .i64 c.seg) := HX93.out.cell 2
  have c98 : U80.cell? ⟨g81, 3, none⟩ = some (.int .i64 c.least) := HX93.out.cell 3
  have c99 : U80.cell? ⟨g81, 4, none⟩ = some (.int .i64 c.den) := HX93.out.cell 4
  have c100 : U80.cell? ⟨g81, 5, none⟩ = some (.int .i64 c.leafLow) := HX93.out.cell 5
  have c101 : U80.cell? ⟨g81, 6, none⟩ = some (.int .i64 c.rootLow) := HX93.out.cell 6
  have c102 : U80.cell? ⟨g81, 7, none⟩ = some (.int .i64 c.rootHigh) := HX93.out.cell 7
  have c103 : U80.cell? ⟨g81, 8, none⟩ = some (.int .i64 c.leafHigh) := HX93.out.cell 8
  have c104 : U80.cell? ⟨g81, 9, none⟩ = some (.slice B2 Rs.length k2) := HX93.out.cell 9
  have c105 : U80.cell? ⟨g81, 10, none⟩ = some (.int .u64 n) := HX93.out.cell 10
  have l106 : g81 < U80.heap.size := HX93.out.lt
  go_wp2_with fail
  clear c95 c96 c97 c98 c99 c100 c101 c102 c103 c104 c105 l106
  refine (HTW.out).mono ?_
  rintro e w107 ⟨B3, k3, R3, rfl, hl3, ho3, hb108⟩
  have HL3 := Lib.hid (hl3)
  have hn3 : R3.length = Rs.length := by rw [rs_len HL3.out, ← HL.out, lvs_len]
  rw [hn3]
  have HN3 := Lib.hid hn3
  have HS3 := Lib.hid (ls_of (Rs := R3) (T := 600) HL3.out HLL.out)
  have KO3 := Lib.hid ho3
  clear hl3 ho3 hn3
  have HF109 := Lib.hid (bext HF85.out hb108)
  have HX110 := Lib.hid (HX86.out.below hb108 HX86.out.lt)
  have HX111 := Lib.hid (HX87.out.below hb108 HX87.out.lt)
  have HX112 := Lib.hid (HX93.out.below hb108 HX93.out.lt)
  have HY113 := Lib.hid (RunsAt.below HY88.out hb108)
  have HY114 := Lib.hid (RunsAt.below HY89.out hb108)
  have HY115 := Lib.hid (tab_below' HY90.out hb108)
  have HY116 := Lib.hid (RunsAt.below HY91.out hb108)
  have HY117 := Lib.hid (bext HY94.out hb108)
  clear HF85 HX86 HX87 HX93 HY88 HY89 HY90 HY91 HY94
  clear hb108
  have HY118 := Lib.hid (KO3.out)
  have HY119 := Lib.hid ((Below.refl w107.heap.size w107))
  go_upto_region 5 with fail
  obtain ⟨U120, h122⟩ : ∃ U, w107.alloc (.cells #[.int .u8 c.tag, .int .i64 c.most, .int .i64 c.seg, .int .i64 c.least, .int .i64 c.den, .int .i64 c.leafLow, .int .i64 c.rootLow, .int .i64 c.rootHigh, .int .i64 c.leafHigh, .slice B3 Rs.length k3, .int .u64 n] 29) = U := ⟨_, rfl⟩
  have ba123 : Below w107.heap.size w107 U120 := by rw [← h122]; exact (Below.refl _ _).alloc (Nat.le_refl _) _
  have bn124 : Blk U120 w107.heap.size 29 #[.int .u8 c.tag, .int .i64 c.most, .int .i64 c.seg, .int .i64 c.least, .int .i64 c.den, .int .i64 c.leafLow, .int .i64 c.rootLow, .int .i64 c.rootHigh, .int .i64 c.leafHigh, .slice B3 Rs.length k3, .int .u64 n] := by rw [← h122]; exact Blk.new _ _ _
  try rw [h122]
  have HF125 := Lib.hid (bext HF109.out ba123)
  have HX126 := Lib.hid (HX110.out.below ba123 HX110.out.lt)
  have HX127 := Lib.hid (HX111.out.below ba123 HX111.out.lt)
  have HX128 := Lib.hid (HX112.out.below ba123 HX112.out.lt)
  have HY129 := Lib.hid (RunsAt.below HY113.out ba123)
  have HY130 := Lib.hid (RunsAt.below HY114.out ba123)
  have HY131 := Lib.hid (tab_below' HY115.out ba123)
  have HY132 := Lib.hid (RunsAt.below HY116.out ba123)
  have HY133 := Lib.hid (bext HY117.out ba123)
  have HY134 := Lib.hid (HY118.out.below ba123)
  have HY135 := Lib.hid (bext HY119.out ba123)
  clear HF109 HX110 HX111 HX112 HY113 HY114 HY115 HY116 HY117 HY118 HY119
  obtain ⟨g121, h136⟩ : ∃ g, w107.heap.size = g := ⟨_, rfl⟩
  rw [h136] at bn124
  try rw [h136]
  have HX137 := Lib.hid bn124
  clear h122 ba123 bn124 h136
  have HC2 := Lib.hid (fun W (hW : RunsAt W B2 R2) => HCON.out B2 R2 k2 W HL2.out hW)
  have HC3 := Lib.hid (fun W (hW : RunsAt W B3 R3) => (HCON.out B3 R3 k3 W HL3.out hW).2.2.2.2.2.2.2)
  clear HCON HTW
  obtain ⟨ec, hec⟩ : ∃ x, errC c = x := ⟨_, rfl⟩
  obtain ⟨cc, hcc⟩ : ∃ x, ldC c ec = x := ⟨_, rfl⟩
  have hnw := fun W => newD_any c W
  have hn7 := fun W => new27_any c W
  rw [hec, hcc] at hnw hn7
  have HNW := Lib.hid hnw
  have HN7 := Lib.hid hn7
  clear hnw hn7 hcc hec
  have c138 : U120.cell? ⟨g16, 0, none⟩ = some (.int .u8 c.tag) := HX127.out.cell 0
  have c139 : U120.cell? ⟨g16, 1, none⟩ = some (.int .i64 c.most) := HX127.out.cell 1
  have c140 : U120.cell? ⟨g16, 2, none⟩ = some (.int .i64 c.seg) := HX127.out.cell 2
  have c141 : U120.cell? ⟨g16, 3, none⟩ = some (.int .i64 c.least) := HX127.out.cell 3
  have c142 : U120.cell? ⟨g16, 4, none⟩ = some (.int .i64 c.den) := HX127.out.cell 4
  have c143 : U120.cell? ⟨g16, 5, none⟩ = some (.int .i64 c.leafLow) := HX127.out.cell 5
  have c144 : U120.cell? ⟨g16, 6, none⟩ = some (.int .i64 c.rootLow) := HX127.out.cell 6
  have c145 : U120.cell? ⟨g16, 7, none⟩ = some (.int .i64 c.rootHigh) := HX127.out.cell 7
  have c146 : U120.cell? ⟨g16, 8, none⟩ = some (.int .i64 c.leafHigh) := HX127.out.cell 8
  have c147 : U120.cell? ⟨g16, 9, none⟩ = some (.slice B Rs.length k) := HX127.out.cell 9
  have c148 : U120.cell? ⟨g16, 10, none⟩ = some (.int .u64 n) := HX127.out.cell 10
  have l149 : g16 < U120.heap.size := HX127.out.lt
  go_wp2_with fail
  clear c138 c139 c140 c141 c142 c143 c144 c145 c146 c147 c148 l149
  refine (HNW.out _).mono ?_
  rintro e w150 ⟨B8, k8, R8, rfl, hl8, ho8, hb151⟩
  have HL8 := Lib.hid hl8
  have hn8 : R8.length = 0 := by rw [rs_len hl8]; rfl
  rw [hn8]
  have HN8 := Lib.hid hn8
  have HOX8 := Lib.hid ho8.runsAt
  clear hl8 ho8 hn8
  have HF152 := Lib.hid (bext HF125.out hb151)
  have HX153 := Lib.hid (HX126.out.below hb151 HX126.out.lt)
  have HX154 := Lib.hid (HX127.out.below hb151 HX127.out.lt)
  have HX155 := Lib.hid (HX128.out.below hb151 HX128.out.lt)
  have HX156 := Lib.hid (HX137.out.below hb151 HX137.out.lt)
  have HY157 := Lib.hid (RunsAt.below HY129.out hb151)
  have HY158 := Lib.hid (RunsAt.below HY130.out hb151)
  have HY159 := Lib.hid (tab_below' HY131.out hb151)
  have HY160 := Lib.hid (RunsAt.below HY132.out hb151)
  have HY161 := Lib.hid (bext HY133.out hb151)
  have HY162 := Lib.hid (HY134.out.below hb151)
  have HY163 := Lib.hid (bext HY135.out hb151)
  clear HF125 HX126 HX127 HX128 HX137 HY129 HY130 HY131 HY132 HY133 HY134 HY135
  clear hb151
  have HY164 := Lib.hid (HOX8.out)
  clear HOX8
  go_upto_region 6 with fail
  obtain ⟨U165, h167⟩ : ∃ U, w150.alloc (.cells #[.int .u8 cc.tag, .int .i64 cc.most, .int .i64 cc.seg, .int .i64 cc.least, .int .i64 cc.den, .int .i64 cc.leafLow, .int .i64 cc.rootLow, .int .i64 cc.rootHigh, .int .i64 cc.leafHigh, .slice B8 0 k8, .int .u64 0] 29) = U := ⟨_, rfl⟩
  have ba168 : Below w150.heap.size w150 U165 := by rw [← h167]; exact (Below.refl _ _).alloc (Nat.le_refl _) _
  have bn169 : Blk U165 w150.heap.size 29 #[.int .u8 cc.tag, .int .i64 cc.most, .int .i64 cc.seg, .int .i64 cc.least, .int .i64 cc.den, .int .i64 cc.leafLow, .int .i64 cc.rootLow, .int .i64 cc.rootHigh, .int .i64 cc.leafHigh, .slice B8 0 k8, .int .u64 0] := by rw [← h167]; exact Blk.new _ _ _
  try rw [h167]
  have HF170 := Lib.hid (bext HF152.out ba168)
  have HX171 := Lib.hid (HX153.out.below ba168 HX153.out.lt)
  have HX172 := Lib.hid (HX154.out.below ba168 HX154.out.lt)
  have HX173 := Lib.hid (HX155.out.below ba168 HX155.out.lt)
  have HX174 := Lib.hid (HX156.out.below ba168 HX156.out.lt)
  have HY175 := Lib.hid (RunsAt.below HY157.out ba168)
  have HY176 := Lib.hid (RunsAt.below HY158.out ba168)
  have HY177 := Lib.hid (tab_below' HY159.out ba168)
  have HY178 := Lib.hid (RunsAt.below HY160.out ba168)
  have HY179 := Lib.hid (bext HY161.out ba168)
  have HY180 := Lib.hid (HY162.out.below ba168)
  have HY181 := Lib.hid (bext HY163.out ba168)
  have HY182 := Lib.hid (RunsAt.below HY164.out ba168)
  clear HF152 HX153 HX154 HX155 HX156 HY157 HY158 HY159 HY160 HY161 HY162 HY163 HY164
  obtain ⟨g166, h183⟩ : ∃ g, w150.heap.size = g := ⟨_, rfl⟩
  rw [h183] at bn169
  try rw [h183]
  have HX184 := Lib.hid bn169
  clear h167 ba168 bn169 h183
  have c185 : U165.cell? ⟨g16, 0, none⟩ = some (.int .u8 c.tag) := HX172.out.cell 0
  have c186 : U165.cell? ⟨g16, 1, none⟩ = some (.int .i64 c.most) := HX172.out.cell 1
  have c187 : U165.cell? ⟨g16, 2, none⟩ = some (.int .i64 c.seg) := HX172.out.cell 2
  have c188 : U165.cell? ⟨g16, 3, none⟩ = some (.int .i64 c.least) := HX172.out.cell 3
  have c189 : U165.cell? ⟨g16, 4, none⟩ = some (.int .i64 c.den) := HX172.out.cell 4
  have c190 : U165.cell? ⟨g16, 5, none⟩ = some (.int .i64 c.leafLow) := HX172.out.cell 5
  have c191 : U165.cell? ⟨g16, 6, none⟩ = some (.int .i64 c.rootLow) := HX172.out.cell 6
  have c192 : U165.cell? ⟨g16, 7, none⟩ = some (.int .i64 c.rootHigh) := HX172.out.cell 7
  have c193 : U165.cell? ⟨g16, 8, none⟩ = some (.int .i64 c.leafHigh) := HX172.out.cell 8
  have c194 : U165.cell? ⟨g16, 9, none⟩ = some (.slice B Rs.length k) := HX172.out.cell 9
  have c195 : U165.cell? ⟨g16, 10, none⟩ = some (.int .u64 n) := HX172.out.cell 10
  have l196 : g16 < U165.heap.size := HX172.out.lt
  go_wp2_with fail
  clear c185 c186 c187 c188 c189 c190 c191 c192 c193 c194 c195 l196
  refine (HN7.out _).mono ?_
  rintro e w197 ⟨B9, k9, R9, rfl, hl9, ho9, hb198⟩
  have HL9 := Lib.hid hl9
  have hn9 : R9.length = 0 := by rw [rs_len hl9]; rfl
  rw [hn9]
  have HN9 := Lib.hid hn9
  have HOX9 := Lib.hid ho9.runsAt
  clear hl9 ho9 hn9
  have HF199 := Lib.hid (bext HF170.out hb198)
  have HX200 := Lib.hid (HX171.out.below hb198 HX171.out.lt)
  have HX201 := Lib.hid (HX172.out.below hb198 HX172.out.lt)
  have HX202 := Lib.hid (HX173.out.below hb198 HX173.out.lt)
  have HX203 := Lib.hid (HX174.out.below hb198 HX174.out.lt)
  have HX204 := Lib.hid (HX184.out.below hb198 HX184.out.lt)
  have HY205 := Lib.hid (RunsAt.below HY175.out hb198)
  have HY206 := Lib.hid (RunsAt.below HY176.out hb198)
  have HY207 := Lib.hid (tab_below' HY177.out hb198)
  have HY208 := Lib.hid (RunsAt.below HY178.out hb198)
  have HY209 := Lib.hid (bext HY179.out hb198)
  have HY210 := Lib.hid (HY180.out.below hb198)
  have HY211 := Lib.hid (bext HY181.out hb198)
  have HY212 := Lib.hid (RunsAt.below HY182.out hb198)
  clear HF170 HX171 HX172 HX173 HX174 HX184 HY175 HY176 HY177 HY178 HY179 HY180 HY181 HY182
  clear hb198
  have HY213 := Lib.hid (HOX9.out)
  clear HOX9
  go_upto_region 7 with fail
  obtain ⟨U214, h216⟩ : ∃ U, w197.alloc (.cells #[.int .u8 cc.tag, .int .i64 cc.most, .int .i64 cc.seg, .int .i64 cc.least, .int .i64 cc.den, .int .i64 cc.leafLow, .int .i64 cc.rootLow, .int .i64 cc.rootHigh, .int .i64 cc.leafHigh, .slice B9 0 k9, .int .u64 0] 29) = U := ⟨_, rfl⟩
  have ba217 : Below w197.heap.size w197 U214 := by rw [← h216]; exact (Below.refl _ _).alloc (Nat.le_refl _) _
  have bn218 : Blk U214 w197.heap.size 29 #[.int .u8 cc.tag, .int .i64 cc.most, .int .i64 cc.seg, .int .i64 cc.least, .int .i64 cc.den, .int .i64 cc.leafLow, .int .i64 cc.rootLow, .int .i64 cc.rootHigh, .int .i64 cc.leafHigh, .slice B9 0 k9, .int .u64 0] := by rw [← h216]; exact Blk.new _ _ _
  try rw [h216]
  have HF219 := Lib.hid (bext HF199.out ba217)
  have HX220 := Lib.hid (HX200.out.below ba217 HX200.out.lt)
  have HX221 := Lib.hid (HX201.out.below ba217 HX201.out.lt)
  have HX222 := Lib.hid (HX202.out.below ba217 HX202.out.lt)
  have HX223 := Lib.hid (HX203.out.below ba217 HX203.out.lt)
  have HX224 := Lib.hid (HX204.out.below ba217 HX204.out.lt)
  have HY225 := Lib.hid (RunsAt.below HY205.out ba217)
  have HY226 := Lib.hid (RunsAt.below HY206.out ba217)
  have HY227 := Lib.hid (tab_below' HY207.out ba217)
  have HY228 := Lib.hid (RunsAt.below HY208.out ba217)
  have HY229 := Lib.hid (bext HY209.out ba217)
  have HY230 := Lib.hid (HY210.out.below ba217)
  have HY231 := Lib.hid (bext HY211.out ba217)
  have HY232 := Lib.hid (RunsAt.below HY212.out ba217)
  have HY233 := Lib.hid (RunsAt.below HY213.out ba217)
  clear HF199 HX200 HX201 HX202 HX203 HX204 HY205 HY206 HY207 HY208 HY209 HY210 HY211 HY212 HY213
  obtain ⟨g215, h234⟩ : ∃ g, w197.heap.size = g := ⟨_, rfl⟩
  rw [h234] at bn218
  try rw [h234]
  have HX235 := Lib.hid bn218
  clear h216 ba217 bn218 h234
  have hsz5 := HY231.out.size
  have c236 : U214.cell? ⟨g81, 0, none⟩ = some (.int .u8 c.tag) := HX222.out.cell 0
  have c237 : U214.cell? ⟨g81, 1, none⟩ = some (.int .i64 c.most) := HX222.out.cell 1
  have c238 : U214.cell? ⟨g81, 2, none⟩ = some (.int .i64 c.seg) := HX222.out.cell 2
  have c239 : U214.cell? ⟨g81, 3, none⟩ = some (.int .i64 c.least) := HX222.out.cell 3
  have c240 : U214.cell? ⟨g81, 4, none⟩ = some (.int .i64 c.den) := HX222.out.cell 4
  have c241 : U214.cell? ⟨g81, 5, none⟩ = some (.int .i64 c.leafLow) := HX222.out.cell 5
  have c242 : U214.cell? ⟨g81, 6, none⟩ = some (.int .i64 c.rootLow) := HX222.out.cell 6
  have c243 : U214.cell? ⟨g81, 7, none⟩ = some (.int .i64 c.rootHigh) := HX222.out.cell 7
  have c244 : U214.cell? ⟨g81, 8, none⟩ = some (.int .i64 c.leafHigh) := HX222.out.cell 8
  have c245 : U214.cell? ⟨g81, 9, none⟩ = some (.slice B2 Rs.length k2) := HX222.out.cell 9
  have c246 : U214.cell? ⟨g81, 10, none⟩ = some (.int .u64 n) := HX222.out.cell 10
  have l247 : g81 < U214.heap.size := HX222.out.lt
  go_wp2_with fail
  clear c236 c237 c238 c239 c240 c241 c242 c243 c244 c245 c246 l247
  refine ((HC2.out _ HY228.out).1).mono ?_
  rintro e w248 ⟨A5, a5, rfl, ho5, hb249⟩
  have HF250 := Lib.hid (bext HF219.out hb249)
  have HX251 := Lib.hid (HX220.out.below hb249 HX220.out.lt)
  have HX252 := Lib.hid (HX221.out.below hb249 HX221.out.lt)
  have HX253 := Lib.hid (HX222.out.below hb249 HX222.out.lt)
  have HX254 := Lib.hid (HX223.out.below hb249 HX223.out.lt)
  have HX255 := Lib.hid (HX224.out.below hb249 HX224.out.lt)
  have HX256 := Lib.hid (HX235.out.below hb249 HX235.out.lt)
  have HY257 := Lib.hid (RunsAt.below HY225.out hb249)
  have HY258 := Lib.hid (RunsAt.below HY226.out hb249)
  have HY259 := Lib.hid (tab_below' HY227.out hb249)
  have HY260 := Lib.hid (RunsAt.below HY228.out hb249)
  have HY261 := Lib.hid (bext HY229.out hb249)
  have HY262 := Lib.hid (HY230.out.below hb249)
  have HY263 := Lib.hid (bext HY231.out hb249)
  have HY264 := Lib.hid (RunsAt.below HY232.out hb249)
  have HY265 := Lib.hid (RunsAt.below HY233.out hb249)
  clear HF219 HX220 HX221 HX222 HX223 HX224 HX235 HY225 HY226 HY227 HY228 HY229 HY230 HY231 HY232 HY233
  clear hb249
  have HY266 := Lib.hid (ho5)
  have HZ5 := Lib.hid hsz5
  clear ho5 hsz5
  have hsz6 := HY263.out.size
  have c267 : w248.cell? ⟨g16, 0, none⟩ = some (.int .u8 c.tag) := HX252.out.cell 0
  have c268 : w248.cell? ⟨g16, 1, none⟩ = some (.int .i64 c.most) := HX252.out.cell 1
  have c269 : w248.cell? ⟨g16, 2, none⟩ = some (.int .i64 c.seg) := HX252.out.cell 2
  have c270 : w248.cell? ⟨g16, 3, none⟩ = some (.int .i64 c.least) := HX252.out.cell 3
  have c271 : w248.cell? ⟨g16, 4, none⟩ = some (.int .i64 c.den) := HX252.out.cell 4
  have c272 : w248.cell? ⟨g16, 5, none⟩ = some (.int .i64 c.leafLow) := HX252.out.cell 5
  have c273 : w248.cell? ⟨g16, 6, none⟩ = some (.int .i64 c.rootLow) := HX252.out.cell 6
  have c274 : w248.cell? ⟨g16, 7, none⟩ = some (.int .i64 c.rootHigh) := HX252.out.cell 7
  have c275 : w248.cell? ⟨g16, 8, none⟩ = some (.int .i64 c.leafHigh) := HX252.out.cell 8
  have c276 : w248.cell? ⟨g16, 9, none⟩ = some (.slice B Rs.length k) := HX252.out.cell 9
  have c277 : w248.cell? ⟨g16, 10, none⟩ = some (.int .u64 n) := HX252.out.cell 10
  have l278 : g16 < w248.heap.size := HX252.out.lt
  go_wp2_with fail
  clear c267 c268 c269 c270 c271 c272 c273 c274 c275 c276 c277 l278
  refine ((HREF.out _ HY257.out).1).mono ?_
  rintro e w279 ⟨A6, a6, rfl, ho6, hb280⟩
  have HF281 := Lib.hid (bext HF250.out hb280)
  have HX282 := Lib.hid (HX251.out.below hb280 HX251.out.lt)
  have HX283 := Lib.hid (HX252.out.below hb280 HX252.out.lt)
  have HX284 := Lib.hid (HX253.out.below hb280 HX253.out.lt)
  have HX285 := Lib.hid (HX254.out.below hb280 HX254.out.lt)
  have HX286 := Lib.hid (HX255.out.below hb280 HX255.out.lt)
  have HX287 := Lib.hid (HX256.out.below hb280 HX256.out.lt)
  have HY288 := Lib.hid (RunsAt.below HY257.out hb280)
  have HY289 := Lib.hid (RunsAt.below HY258.out hb280)
  have HY290 := Lib.hid (tab_below' HY259.out hb280)
  have HY291 := Lib.hid (RunsAt.below HY260.out hb280)
  have HY292 := Lib.hid (bext HY261.out hb280)
  have HY293 := Lib.hid (HY262.out.below hb280)
  have HY294 := Lib.hid (bext HY263.out hb280)
  have HY295 := Lib.hid (RunsAt.below HY264.out hb280)
  have HY296 := Lib.hid (RunsAt.below HY265.out hb280)
  have HY297 := Lib.hid (own_below HY266.out hb280)
  clear HF250 HX251 HX252 HX253 HX254 HX255 HX256 HY257 HY258 HY259 HY260 HY261 HY262 HY263 HY264 HY265 HY266
  clear hb280
  have HY298 := Lib.hid (ho6)
  have HZ6 := Lib.hid hsz6
  clear ho6 hsz6
  have c299 : w279.cell? ⟨g81, 0, none⟩ = some (.int .u8 c.tag) := HX284.out.cell 0
  have c300 : w279.cell? ⟨g81, 1, none⟩ = some (.int .i64 c.most) := HX284.out.cell 1
  have c301 : w279.cell? ⟨g81, 2, none⟩ = some (.int .i64 c.seg) := HX284.out.cell 2
  have c302 : w279.cell? ⟨g81, 3, none⟩ = some (.int .i64 c.least) := HX284.out.cell 3
  have c303 : w279.cell? ⟨g81, 4, none⟩ = some (.int .i64 c.den) := HX284.out.cell 4
  have c304 : w279.cell? ⟨g81, 5, none⟩ = some (.int .i64 c.leafLow) := HX284.out.cell 5
  have c305 : w279.cell? ⟨g81, 6, none⟩ = some (.int .i64 c.rootLow) := HX284.out.cell 6
  have c306 : w279.cell? ⟨g81, 7, none⟩ = some (.int .i64 c.rootHigh) := HX284.out.cell 7
  have c307 : w279.cell? ⟨g81, 8, none⟩ = some (.int .i64 c.leafHigh) := HX284.out.cell 8
  have c308 : w279.cell? ⟨g81, 9, none⟩ = some (.slice B2 Rs.length k2) := HX284.out.cell 9
  have c309 : w279.cell? ⟨g81, 10, none⟩ = some (.int .u64 n) := HX284.out.cell 10
  have l310 : g81 < w279.heap.size := HX284.out.lt
  go_wp2_with fail
  clear c299 c300 c301 c302 c303 c304 c305 c306 c307 c308 c309 l310
  refine ((HC2.out _ HY291.out).2.1 HY290.out).mono ?_
  rintro e w311 ⟨rfl, hb312⟩
  have HF313 := Lib.hid (bext HF281.out hb312)
  have HX314 := Lib.hid (HX282.out.below hb312 HX282.out.lt)
  have HX315 := Lib.hid (HX283.out.below hb312 HX283.out.lt)
  have HX316 := Lib.hid (HX284.out.below hb312 HX284.out.lt)
  have HX317 := Lib.hid (HX285.out.below hb312 HX285.out.lt)
  have HX318 := Lib.hid (HX286.out.below hb312 HX286.out.lt)
  have HX319 := Lib.hid (HX287.out.below hb312 HX287.out.lt)
  have HY320 := Lib.hid (RunsAt.below HY288.out hb312)
  have HY321 := Lib.hid (RunsAt.below HY289.out hb312)
  have HY322 := Lib.hid (tab_below' HY290.out hb312)
  have HY323 := Lib.hid (RunsAt.below HY291.out hb312)
  have HY324 := Lib.hid (bext HY292.out hb312)
  have HY325 := Lib.hid (HY293.out.below hb312)
  have HY326 := Lib.hid (bext HY294.out hb312)
  have HY327 := Lib.hid (RunsAt.below HY295.out hb312)
  have HY328 := Lib.hid (RunsAt.below HY296.out hb312)
  have HY329 := Lib.hid (own_below HY297.out hb312)
  have HY330 := Lib.hid (own_below HY298.out hb312)
  clear HF281 HX282 HX283 HX284 HX285 HX286 HX287 HY288 HY289 HY290 HY291 HY292 HY293 HY294 HY295 HY296 HY297 HY298
  clear hb312
  have c331 : w311.cell? ⟨g16, 0, none⟩ = some (.int .u8 c.tag) := HX315.out.cell 0
  have c332 : w311.cell? ⟨g16, 1, none⟩ = some (.int .i64 c.most) := HX315.out.cell 1
  have c333 : w311.cell? ⟨g16, 2, none⟩ = some (.int .i64 c.seg) := HX315.out.cell 2
  have c334 : w311.cell? ⟨g16, 3, none⟩ = some (.int .i64 c.least) := HX315.out.cell 3
  have c335 : w311.cell? ⟨g16, 4, none⟩ = some (.int .i64 c.den) := HX315.out.cell 4
  have c336 : w311.cell? ⟨g16, 5, none⟩ = some (.int .i64 c.leafLow) := HX315.out.cell 5
  have c337 : w311.cell? ⟨g16, 6, none⟩ = some (.int .i64 c.rootLow) := HX315.out.cell 6
  have c338 : w311.cell? ⟨g16, 7, none⟩ = some (.int .i64 c.rootHigh) := HX315.out.cell 7
  have c339 : w311.cell? ⟨g16, 8, none⟩ = some (.int .i64 c.leafHigh) := HX315.out.cell 8
  have c340 : w311.cell? ⟨g16, 9, none⟩ = some (.slice B Rs.length k) := HX315.out.cell 9
  have c341 : w311.cell? ⟨g16, 10, none⟩ = some (.int .u64 n) := HX315.out.cell 10
  have l342 : g16 < w311.heap.size := HX315.out.lt
  go_wp2_with fail
  clear c331 c332 c333 c334 c335 c336 c337 c338 c339 c340 c341 l342
  refine ((HREF.out _ HY320.out).2.1).mono ?_
  rintro e w343 ⟨rfl, hb344⟩
  have HF345 := Lib.hid (bext HF313.out hb344)
  have HX346 := Lib.hid (HX314.out.below hb344 HX314.out.lt)
  have HX347 := Lib.hid (HX315.out.below hb344 HX315.out.lt)
  have HX348 := Lib.hid (HX316.out.below hb344 HX316.out.lt)
  have HX349 := Lib.hid (HX317.out.below hb344 HX317.out.lt)
  have HX350 := Lib.hid (HX318.out.below hb344 HX318.out.lt)
  have HX351 := Lib.hid (HX319.out.below hb344 HX319.out.lt)
  have HY352 := Lib.hid (RunsAt.below HY320.out hb344)
  have HY353 := Lib.hid (RunsAt.below HY321.out hb344)
  have HY354 := Lib.hid (tab_below' HY322.out hb344)
  have HY355 := Lib.hid (RunsAt.below HY323.out hb344)
  have HY356 := Lib.hid (bext HY324.out hb344)
  have HY357 := Lib.hid (HY325.out.below hb344)
  have HY358 := Lib.hid (bext HY326.out hb344)
  have HY359 := Lib.hid (RunsAt.below HY327.out hb344)
  have HY360 := Lib.hid (RunsAt.below HY328.out hb344)
  have HY361 := Lib.hid (own_below HY329.out hb344)
  have HY362 := Lib.hid (own_below HY330.out hb344)
  clear HF313 HX314 HX315 HX316 HX317 HX318 HX319 HY320 HY321 HY322 HY323 HY324 HY325 HY326 HY327 HY328 HY329 HY330
  clear hb344
  have c363 : w343.cell? ⟨g81, 0, none⟩ = some (.int .u8 c.tag) := HX348.out.cell 0
  have c364 : w343.cell? ⟨g81, 1, none⟩ = some (.int .i64 c.most) := HX348.out.cell 1
  have c365 : w343.cell? ⟨g81, 2, none⟩ = some (.int .i64 c.seg) := HX348.out.cell 2
  have c366 : w343.cell? ⟨g81, 3, none⟩ = some (.int .i64 c.least) := HX348.out.cell 3
  have c367 : w343.cell? ⟨g81, 4, none⟩ = some (.int .i64 c.den) := HX348.out.cell 4
  have c368 : w343.cell? ⟨g81, 5, none⟩ = some (.int .i64 c.leafLow) := HX348.out.cell 5
  have c369 : w343.cell? ⟨g81, 6, none⟩ = some (.int .i64 c.rootLow) := HX348.out.cell 6
  have c370 : w343.cell? ⟨g81, 7, none⟩ = some (.int .i64 c.rootHigh) := HX348.out.cell 7
  have c371 : w343.cell? ⟨g81, 8, none⟩ = some (.int .i64 c.leafHigh) := HX348.out.cell 8
  have c372 : w343.cell? ⟨g81, 9, none⟩ = some (.slice B2 Rs.length k2) := HX348.out.cell 9
  have c373 : w343.cell? ⟨g81, 10, none⟩ = some (.int .u64 n) := HX348.out.cell 10
  have l374 : g81 < w343.heap.size := HX348.out.lt
  go_wp2_with fail
  clear c363 c364 c365 c366 c367 c368 c369 c370 c371 c372 c373 l374
  refine ((HC2.out _ HY355.out).2.2.1 HY354.out).mono ?_
  rintro e w375 ⟨rfl, hb376⟩
  have HF377 := Lib.hid (bext HF345.out hb376)
  have HX378 := Lib.hid (HX346.out.below hb376 HX346.out.lt)
  have HX379 := Lib.hid (HX347.out.below hb376 HX347.out.lt)
  have HX380 := Lib.hid (HX348.out.below hb376 HX348.out.lt)
  have HX381 := Lib.hid (HX349.out.below hb376 HX349.out.lt)
  have HX382 := Lib.hid (HX350.out.below hb376 HX350.out.lt)
  have HX383 := Lib.hid (HX351.out.below hb376 HX351.out.lt)
  have HY384 := Lib.hid (RunsAt.below HY352.out hb376)
  have HY385 := Lib.hid (RunsAt.below HY353.out hb376)
  have HY386 := Lib.hid (tab_below' HY354.out hb376)
  have HY387 := Lib.hid (RunsAt.below HY355.out hb376)
  have HY388 := Lib.hid (bext HY356.out hb376)
  have HY389 := Lib.hid (HY357.out.below hb376)
  have HY390 := Lib.hid (bext HY358.out hb376)
  have HY391 := Lib.hid (RunsAt.below HY359.out hb376)
  have HY392 := Lib.hid (RunsAt.below HY360.out hb376)
  have HY393 := Lib.hid (own_below HY361.out hb376)
  have HY394 := Lib.hid (own_below HY362.out hb376)
  clear HF345 HX346 HX347 HX348 HX349 HX350 HX351 HY352 HY353 HY354 HY355 HY356 HY357 HY358 HY359 HY360 HY361 HY362
  clear hb376
  have hza := HY390.out.size
  go_upto_region 12 with fail
  obtain ⟨U395, h397⟩ : ∃ U, w375.alloc (.cells #[.int .i64 X.key, .int .i64 X.val] 47) = U := ⟨_, rfl⟩
  have ba398 : Below w375.heap.size w375 U395 := by rw [← h397]; exact (Below.refl _ _).alloc (Nat.le_refl _) _
  have bn399 : Blk U395 w375.heap.size 47 #[.int .i64 X.key, .int .i64 X.val] := by rw [← h397]; exact Blk.new _ _ _
  try rw [h397]
  have HF400 := Lib.hid (bext HF377.out ba398)
  have HX401 := Lib.hid (HX378.out.below ba398 HX378.out.lt)
  have HX402 := Lib.hid (HX379.out.below ba398 HX379.out.lt)
  have HX403 := Lib.hid (HX380.out.below ba398 HX380.out.lt)
  have HX404 := Lib.hid (HX381.out.below ba398 HX381.out.lt)
  have HX405 := Lib.hid (HX382.out.below ba398 HX382.out.lt)
  have HX406 := Lib.hid (HX383.out.below ba398 HX383.out.lt)
  have HY407 := Lib.hid (RunsAt.below HY384.out ba398)
  have HY408 := Lib.hid (RunsAt.below HY385.out ba398)
  have HY409 := Lib.hid (tab_below' HY386.out ba398)
  have HY410 := Lib.hid (RunsAt.below HY387.out ba398)
  have HY411 := Lib.hid (bext HY388.out ba398)
  have HY412 := Lib.hid (HY389.out.below ba398)
  have HY413 := Lib.hid (bext HY390.out ba398)
  have HY414 := Lib.hid (RunsAt.below HY391.out ba398)
  have HY415 := Lib.hid (RunsAt.below HY392.out ba398)
  have HY416 := Lib.hid (own_below HY393.out ba398)
  have HY417 := Lib.hid (own_below HY394.out ba398)
  clear HF377 HX378 HX379 HX380 HX381 HX382 HX383 HY384 HY385 HY386 HY387 HY388 HY389 HY390 HY391 HY392 HY393 HY394
  obtain ⟨g396, h418⟩ : ∃ g, w375.heap.size = g := ⟨_, rfl⟩
  rw [h418] at bn399
  try rw [h418]
  have HX419 := Lib.hid bn399
  have HZa := Lib.hid (show w107.heap.size ≤ g396 by rw [← h418]; exact hza)
  clear hza
  clear h397 ba398 bn399 h418
  have c420 : U395.cell? ⟨g16, 0, none⟩ = some (.int .u8 c.tag) := HX402.out.cell 0
  have c421 : U395.cell? ⟨g16, 1, none⟩ = some (.int .i64 c.most) := HX402.out.cell 1
  have c422 : U395.cell? ⟨g16, 2, none⟩ = some (.int .i64 c.seg) := HX402.out.cell 2
  have c423 : U395.cell? ⟨g16, 3, none⟩ = some (.int .i64 c.least) := HX402.out.cell 3
  have c424 : U395.cell? ⟨g16, 4, none⟩ = some (.int .i64 c.den) := HX402.out.cell 4
  have c425 : U395.cell? ⟨g16, 5, none⟩ = some (.int .i64 c.leafLow) := HX402.out.cell 5
  have c426 : U395.cell? ⟨g16, 6, none⟩ = some (.int .i64 c.rootLow) := HX402.out.cell 6
  have c427 : U395.cell? ⟨g16, 7, none⟩ = some (.int .i64 c.rootHigh) := HX402.out.cell 7
  have c428 : U395.cell? ⟨g16, 8, none⟩ = some (.int .i64 c.leafHigh) := HX402.out.cell 8
  have c429 : U395.cell? ⟨g16, 9, none⟩ = some (.slice B Rs.length k) := HX402.out.cell 9
  have c430 : U395.cell? ⟨g16, 10, none⟩ = some (.int .u64 n) := HX402.out.cell 10
  have l431 : g16 < U395.heap.size := HX402.out.lt
  go_wp2_with fail
  clear c420 c421 c422 c423 c424 c425 c426 c427 c428 c429 c430 l431
  refine ((HREF.out _ HY407.out).2.2.1).mono ?_
  rintro e w432 ⟨rfl, hb433⟩
  have HF434 := Lib.hid (bext HF400.out hb433)
  have HX435 := Lib.hid (HX401.out.below hb433 HX401.out.lt)
  have HX436 := Lib.hid (HX402.out.below hb433 HX402.out.lt)
  have HX437 := Lib.hid (HX403.out.below hb433 HX403.out.lt)
  have HX438 := Lib.hid (HX404.out.below hb433 HX404.out.lt)
  have HX439 := Lib.hid (HX405.out.below hb433 HX405.out.lt)
  have HX440 := Lib.hid (HX406.out.below hb433 HX406.out.lt)
  have HX441 := Lib.hid (HX419.out.below hb433 HX419.out.lt)
  have HY442 := Lib.hid (RunsAt.below HY407.out hb433)
  have HY443 := Lib.hid (RunsAt.below HY408.out hb433)
  have HY444 := Lib.hid (tab_below' HY409.out hb433)
  have HY445 := Lib.hid (RunsAt.below HY410.out hb433)
  have HY446 := Lib.hid (bext HY411.out hb433)
  have HY447 := Lib.hid (HY412.out.below hb433)
  have HY448 := Lib.hid (bext HY413.out hb433)
  have HY449 := Lib.hid (RunsAt.below HY414.out hb433)
  have HY450 := Lib.hid (RunsAt.below HY415.out hb433)
  have HY451 := Lib.hid (own_below HY416.out hb433)
  have HY452 := Lib.hid (own_below HY417.out hb433)
  clear HF400 HX401 HX402 HX403 HX404 HX405 HX406 HX419 HY407 HY408 HY409 HY410 HY411 HY412 HY413 HY414 HY415 HY416 HY417
  clear hb433
  have hzb := HY448.out.size
  go_upto_region 13 with fail
  obtain ⟨U453, h455⟩ : ∃ U, w432.alloc (.cells #[.int .i64 X.key, .int .i64 X.val] 47) = U := ⟨_, rfl⟩
  have ba456 : Below w432.heap.size w432 U453 := by rw [← h455]; exact (Below.refl _ _).alloc (Nat.le_refl _) _
  have bn457 : Blk U453 w432.heap.size 47 #[.int .i64 X.key, .int .i64 X.val] := by rw [← h455]; exact Blk.new _ _ _
  try rw [h455]
  have HF458 := Lib.hid (bext HF434.out ba456)
  have HX459 := Lib.hid (HX435.out.below ba456 HX435.out.lt)
  have HX460 := Lib.hid (HX436.out.below ba456 HX436.out.lt)
  have HX461 := Lib.hid (HX437.out.below ba456 HX437.out.lt)
  have HX462 := Lib.hid (HX438.out.below ba456 HX438.out.lt)
  have HX463 := Lib.hid (HX439.out.below ba456 HX439.out.lt)
  have HX464 := Lib.hid (HX440.out.below ba456 HX440.out.lt)
  have HX465 := Lib.hid (HX441.out.below ba456 HX441.out.lt)
  have HY466 := Lib.hid (RunsAt.below HY442.out ba456)
  have HY467 := Lib.hid (RunsAt.below HY443.out ba456)
  have HY468 := Lib.hid (tab_below' HY444.out ba456)
  have HY469 := Lib.hid (RunsAt.below HY445.out ba456)
  have HY470 := Lib.hid (bext HY446.out ba456)
  have HY471 := Lib.hid (HY447.out.below ba456)
  have HY472 := Lib.hid (bext HY448.out ba456)
  have HY473 := Lib.hid (RunsAt.below HY449.out ba456)
  have HY474 := Lib.hid (RunsAt.below HY450.out ba456)
  have HY475 := Lib.hid (own_below HY451.out ba456)
  have HY476 := Lib.hid (own_below HY452.out ba456)
  clear HF434 HX435 HX436 HX437 HX438 HX439 HX440 HX441 HY442 HY443 HY444 HY445 HY446 HY447 HY448 HY449 HY450 HY451 HY452
  obtain ⟨g454, h477⟩ : ∃ g, w432.heap.size = g := ⟨_, rfl⟩
  rw [h477] at bn457
  try rw [h477]
  have HX478 := Lib.hid bn457
  have HZb := Lib.hid (show w107.heap.size ≤ g454 by rw [← h477]; exact hzb)
  clear hzb
  clear h455 ba456 bn457 h477
  have c479 : U453.cell? ⟨g81, 0, none⟩ = some (.int .u8 c.tag) := HX461.out.cell 0
  have c480 : U453.cell? ⟨g81, 1, none⟩ = some (.int .i64 c.most) := HX461.out.cell 1
  have c481 : U453.cell? ⟨g81, 2, none⟩ = some (.int .i64 c.seg) := HX461.out.cell 2
  have c482 : U453.cell? ⟨g81, 3, none⟩ = some (.int .i64 c.least) := HX461.out.cell 3
  have c483 : U453.cell? ⟨g81, 4, none⟩ = some (.int .i64 c.den) := HX461.out.cell 4
  have c484 : U453.cell? ⟨g81, 5, none⟩ = some (.int .i64 c.leafLow) := HX461.out.cell 5
  have c485 : U453.cell? ⟨g81, 6, none⟩ = some (.int .i64 c.rootLow) := HX461.out.cell 6
  have c486 : U453.cell? ⟨g81, 7, none⟩ = some (.int .i64 c.rootHigh) := HX461.out.cell 7
  have c487 : U453.cell? ⟨g81, 8, none⟩ = some (.int .i64 c.leafHigh) := HX461.out.cell 8
  have c488 : U453.cell? ⟨g81, 9, none⟩ = some (.slice B2 Rs.length k2) := HX461.out.cell 9
  have c489 : U453.cell? ⟨g81, 10, none⟩ = some (.int .u64 n) := HX461.out.cell 10
  have l490 : g81 < U453.heap.size := HX461.out.lt
  go_wp2_with fail
  clear c479 c480 c481 c482 c483 c484 c485 c486 c487 c488 c489 l490
  refine ((HC2.out _ HY469.out).2.2.2.1 HY468.out).mono ?_
  rintro e w491 ⟨rfl, hb492⟩
  have HF493 := Lib.hid (bext HF458.out hb492)
  have HX494 := Lib.hid (HX459.out.below hb492 HX459.out.lt)
  have HX495 := Lib.hid (HX460.out.below hb492 HX460.out.lt)
  have HX496 := Lib.hid (HX461.out.below hb492 HX461.out.lt)
  have HX497 := Lib.hid (HX462.out.below hb492 HX462.out.lt)
  have HX498 := Lib.hid (HX463.out.below hb492 HX463.out.lt)
  have HX499 := Lib.hid (HX464.out.below hb492 HX464.out.lt)
  have HX500 := Lib.hid (HX465.out.below hb492 HX465.out.lt)
  have HX501 := Lib.hid (HX478.out.below hb492 HX478.out.lt)
  have HY502 := Lib.hid (RunsAt.below HY466.out hb492)
  have HY503 := Lib.hid (RunsAt.below HY467.out hb492)
  have HY504 := Lib.hid (tab_below' HY468.out hb492)
  have HY505 := Lib.hid (RunsAt.below HY469.out hb492)
  have HY506 := Lib.hid (bext HY470.out hb492)
  have HY507 := Lib.hid (HY471.out.below hb492)
  have HY508 := Lib.hid (bext HY472.out hb492)
  have HY509 := Lib.hid (RunsAt.below HY473.out hb492)
  have HY510 := Lib.hid (RunsAt.below HY474.out hb492)
  have HY511 := Lib.hid (own_below HY475.out hb492)
  have HY512 := Lib.hid (own_below HY476.out hb492)
  clear HF458 HX459 HX460 HX461 HX462 HX463 HX464 HX465 HX478 HY466 HY467 HY468 HY469 HY470 HY471 HY472 HY473 HY474 HY475 HY476
  clear hb492
  have hzc := HY508.out.size
  go_upto_region 14 with fail
  obtain ⟨U513, h515⟩ : ∃ U, w491.alloc (.cells #[.int .i64 Y.key, .int .i64 Y.val] 47) = U := ⟨_, rfl⟩
  have ba516 : Below w491.heap.size w491 U513 := by rw [← h515]; exact (Below.refl _ _).alloc (Nat.le_refl _) _
  have bn517 : Blk U513 w491.heap.size 47 #[.int .i64 Y.key, .int .i64 Y.val] := by rw [← h515]; exact Blk.new _ _ _
  try rw [h515]
  have HF518 := Lib.hid (bext HF493.out ba516)
  have HX519 := Lib.hid (HX494.out.below ba516 HX494.out.lt)
  have HX520 := Lib.hid (HX495.out.below ba516 HX495.out.lt)
  have HX521 := Lib.hid (HX496.out.below ba516 HX496.out.lt)
  have HX522 := Lib.hid (HX497.out.below ba516 HX497.out.lt)
  have HX523 := Lib.hid (HX498.out.below ba516 HX498.out.lt)
  have HX524 := Lib.hid (HX499.out.below ba516 HX499.out.lt)
  have HX525 := Lib.hid (HX500.out.below ba516 HX500.out.lt)
  have HX526 := Lib.hid (HX501.out.below ba516 HX501.out.lt)
  have HY527 := Lib.hid (RunsAt.below HY502.out ba516)
  have HY528 := Lib.hid (RunsAt.below HY503.out ba516)
  have HY529 := Lib.hid (tab_below' HY504.out ba516)
  have HY530 := Lib.hid (RunsAt.below HY505.out ba516)
  have HY531 := Lib.hid (bext HY506.out ba516)
  have HY532 := Lib.hid (HY507.out.below ba516)
  have HY533 := Lib.hid (bext HY508.out ba516)
  have HY534 := Lib.hid (RunsAt.below HY509.out ba516)
  have HY535 := Lib.hid (RunsAt.below HY510.out ba516)
  have HY536 := Lib.hid (own_below HY511.out ba516)
  have HY537 := Lib.hid (own_below HY512.out ba516)
  clear HF493 HX494 HX495 HX496 HX497 HX498 HX499 HX500 HX501 HY502 HY503 HY504 HY505 HY506 HY507 HY508 HY509 HY510 HY511 HY512
  obtain ⟨g514, h538⟩ : ∃ g, w491.heap.size = g := ⟨_, rfl⟩
  rw [h538] at bn517
  try rw [h538]
  have HX539 := Lib.hid bn517
  have HZc := Lib.hid (show w107.heap.size ≤ g514 by rw [← h538]; exact hzc)
  clear hzc
  clear h515 ba516 bn517 h538
  have c540 : U513.cell? ⟨g16, 0, none⟩ = some (.int .u8 c.tag) := HX520.out.cell 0
  have c541 : U513.cell? ⟨g16, 1, none⟩ = some (.int .i64 c.most) := HX520.out.cell 1
  have c542 : U513.cell? ⟨g16, 2, none⟩ = some (.int .i64 c.seg) := HX520.out.cell 2
  have c543 : U513.cell? ⟨g16, 3, none⟩ = some (.int .i64 c.least) := HX520.out.cell 3
  have c544 : U513.cell? ⟨g16, 4, none⟩ = some (.int .i64 c.den) := HX520.out.cell 4
  have c545 : U513.cell? ⟨g16, 5, none⟩ = some (.int .i64 c.leafLow) := HX520.out.cell 5
  have c546 : U513.cell? ⟨g16, 6, none⟩ = some (.int .i64 c.rootLow) := HX520.out.cell 6
  have c547 : U513.cell? ⟨g16, 7, none⟩ = some (.int .i64 c.rootHigh) := HX520.out.cell 7
  have c548 : U513.cell? ⟨g16, 8, none⟩ = some (.int .i64 c.leafHigh) := HX520.out.cell 8
  have c549 : U513.cell? ⟨g16, 9, none⟩ = some (.slice B Rs.length k) := HX520.out.cell 9
  have c550 : U513.cell? ⟨g16, 10, none⟩ = some (.int .u64 n) := HX520.out.cell 10
  have l551 : g16 < U513.heap.size := HX520.out.lt
  go_wp2_with fail
  clear c540 c541 c542 c543 c544 c545 c546 c547 c548 c549 c550 l551
  refine ((HREF.out _ HY527.out).2.2.2.1).mono ?_
  rintro e w552 ⟨rfl, hb553⟩
  have HF554 := Lib.hid (bext HF518.out hb553)
  have HX555 := Lib.hid (HX519.out.below hb553 HX519.out.lt)
  have HX556 := Lib.hid (HX520.out.below hb553 HX520.out.lt)
  have HX557 := Lib.hid (HX521.out.below hb553 HX521.out.lt)
  have HX558 := Lib.hid (HX522.out.below hb553 HX522.out.lt)
  have HX559 := Lib.hid (HX523.out.below hb553 HX523.out.lt)
  have HX560 := Lib.hid (HX524.out.below hb553 HX524.out.lt)
  have HX561 := Lib.hid (HX525.out.below hb553 HX525.out.lt)
  have HX562 := Lib.hid (HX526.out.below hb553 HX526.out.lt)
  have HX563 := Lib.hid (HX539.out.below hb553 HX539.out.lt)
  have HY564 := Lib.hid (RunsAt.below HY527.out hb553)
  have HY565 := Lib.hid (RunsAt.below HY528.out hb553)
  have HY566 := Lib.hid (tab_below' HY529.out hb553)
  have HY567 := Lib.hid (RunsAt.below HY530.out hb553)
  have HY568 := Lib.hid (bext HY531.out hb553)
  have HY569 := Lib.hid (HY532.out.below hb553)
  have HY570 := Lib.hid (bext HY533.out hb553)
  have HY571 := Lib.hid (RunsAt.below HY534.out hb553)
  have HY572 := Lib.hid (RunsAt.below HY535.out hb553)
  have HY573 := Lib.hid (own_below HY536.out hb553)
  have HY574 := Lib.hid (own_below HY537.out hb553)
  clear HF518 HX519 HX520 HX521 HX522 HX523 HX524 HX525 HX526 HX539 HY527 HY528 HY529 HY530 HY531 HY532 HY533 HY534 HY535 HY536 HY537
  clear hb553
  have hzd := HY570.out.size
  go_upto_region 15 with fail
  obtain ⟨U575, h577⟩ : ∃ U, w552.alloc (.cells #[.int .i64 Y.key, .int .i64 Y.val] 47) = U := ⟨_, rfl⟩
  have ba578 : Below w552.heap.size w552 U575 := by rw [← h577]; exact (Below.refl _ _).alloc (Nat.le_refl _) _
  have bn579 : Blk U575 w552.heap.size 47 #[.int .i64 Y.key, .int .i64 Y.val] := by rw [← h577]; exact Blk.new _ _ _
  try rw [h577]
  have HF580 := Lib.hid (bext HF554.out ba578)
  have HX581 := Lib.hid (HX555.out.below ba578 HX555.out.lt)
  have HX582 := Lib.hid (HX556.out.below ba578 HX556.out.lt)
  have HX583 := Lib.hid (HX557.out.below ba578 HX557.out.lt)
  have HX584 := Lib.hid (HX558.out.below ba578 HX558.out.lt)
  have HX585 := Lib.hid (HX559.out.below ba578 HX559.out.lt)
  have HX586 := Lib.hid (HX560.out.below ba578 HX560.out.lt)
  have HX587 := Lib.hid (HX561.out.below ba578 HX561.out.lt)
  have HX588 := Lib.hid (HX562.out.below ba578 HX562.out.lt)
  have HX589 := Lib.hid (HX563.out.below ba578 HX563.out.lt)
  have HY590 := Lib.hid (RunsAt.below HY564.out ba578)
  have HY591 := Lib.hid (RunsAt.below HY565.out ba578)
  have HY592 := Lib.hid (tab_below' HY566.out ba578)
  have HY593 := Lib.hid (RunsAt.below HY567.out ba578)
  have HY594 := Lib.hid (bext HY568.out ba578)
  have HY595 := Lib.hid (HY569.out.below ba578)
  have HY596 := Lib.hid (bext HY570.out ba578)
  have HY597 := Lib.hid (RunsAt.below HY571.out ba578)
  have HY598 := Lib.hid (RunsAt.below HY572.out ba578)
  have HY599 := Lib.hid (own_below HY573.out ba578)
  have HY600 := Lib.hid (own_below HY574.out ba578)
  clear HF554 HX555 HX556 HX557 HX558 HX559 HX560 HX561 HX562 HX563 HY564 HY565 HY566 HY567 HY568 HY569 HY570 HY571 HY572 HY573 HY574
  obtain ⟨g576, h601⟩ : ∃ g, w552.heap.size = g := ⟨_, rfl⟩
  rw [h601] at bn579
  try rw [h601]
  have HX602 := Lib.hid bn579
  have HZd := Lib.hid (show w107.heap.size ≤ g576 by rw [← h601]; exact hzd)
  clear hzd
  clear h577 ba578 bn579 h601
  have c603 : U575.cell? ⟨g16, 0, none⟩ = some (.int .u8 c.tag) := HX582.out.cell 0
  have c604 : U575.cell? ⟨g16, 1, none⟩ = some (.int .i64 c.most) := HX582.out.cell 1
  have c605 : U575.cell? ⟨g16, 2, none⟩ = some (.int .i64 c.seg) := HX582.out.cell 2
  have c606 : U575.cell? ⟨g16, 3, none⟩ = some (.int .i64 c.least) := HX582.out.cell 3
  have c607 : U575.cell? ⟨g16, 4, none⟩ = some (.int .i64 c.den) := HX582.out.cell 4
  have c608 : U575.cell? ⟨g16, 5, none⟩ = some (.int .i64 c.leafLow) := HX582.out.cell 5
  have c609 : U575.cell? ⟨g16, 6, none⟩ = some (.int .i64 c.rootLow) := HX582.out.cell 6
  have c610 : U575.cell? ⟨g16, 7, none⟩ = some (.int .i64 c.rootHigh) := HX582.out.cell 7
  have c611 : U575.cell? ⟨g16, 8, none⟩ = some (.int .i64 c.leafHigh) := HX582.out.cell 8
  have c612 : U575.cell? ⟨g16, 9, none⟩ = some (.slice B Rs.length k) := HX582.out.cell 9
  have c613 : U575.cell? ⟨g16, 10, none⟩ = some (.int .u64 n) := HX582.out.cell 10
  have l614 : g16 < U575.heap.size := HX582.out.lt
  have c615 : U575.cell? ⟨g13, 0, none⟩ = some (.int .u8 d.tag) := HX581.out.cell 0
  have c616 : U575.cell? ⟨g13, 1, none⟩ = some (.int .i64 d.most) := HX581.out.cell 1
  have c617 : U575.cell? ⟨g13, 2, none⟩ = some (.int .i64 d.seg) := HX581.out.cell 2
  have c618 : U575.cell? ⟨g13, 3, none⟩ = some (.int .i64 d.least) := HX581.out.cell 3
  have c619 : U575.cell? ⟨g13, 4, none⟩ = some (.int .i64 d.den) := HX581.out.cell 4
  have c620 : U575.cell? ⟨g13, 5, none⟩ = some (.int .i64 d.leafLow) := HX581.out.cell 5
  have c621 : U575.cell? ⟨g13, 6, none⟩ = some (.int .i64 d.rootLow) := HX581.out.cell 6
  have c622 : U575.cell? ⟨g13, 7, none⟩ = some (.int .i64 d.rootHigh) := HX581.out.cell 7
  have c623 : U575.cell? ⟨g13, 8, none⟩ = some (.int .i64 d.leafHigh) := HX581.out.cell 8
  have c624 : U575.cell? ⟨g13, 9, none⟩ = some (.slice D Ts.length q) := HX581.out.cell 9
  have c625 : U575.cell? ⟨g13, 10, none⟩ = some (.int .u64 m) := HX581.out.cell 10
  have l626 : g13 < U575.heap.size := HX581.out.lt
  have c627 : U575.cell? ⟨g81, 0, none⟩ = some (.int .u8 c.tag) := HX583.out.cell 0
  have c628 : U575.cell? ⟨g81, 1, none⟩ = some (.int .i64 c.most) := HX583.out.cell 1
  have c629 : U575.cell? ⟨g81, 2, none⟩ = some (.int .i64 c.seg) := HX583.out.cell 2
  have c630 : U575.cell? ⟨g81, 3, none⟩ = some (.int .i64 c.least) := HX583.out.cell 3
  have c631 : U575.cell? ⟨g81, 4, none⟩ = some (.int .i64 c.den) := HX583.out.cell 4
  have c632 : U575.cell? ⟨g81, 5, none⟩ = some (.int .i64 c.leafLow) := HX583.out.cell 5
  have c633 : U575.cell? ⟨g81, 6, none⟩ = some (.int .i64 c.rootLow) := HX583.out.cell 6
  have c634 : U575.cell? ⟨g81, 7, none⟩ = some (.int .i64 c.rootHigh) := HX583.out.cell 7
  have c635 : U575.cell? ⟨g81, 8, none⟩ = some (.int .i64 c.leafHigh) := HX583.out.cell 8
  have c636 : U575.cell? ⟨g81, 9, none⟩ = some (.slice B2 Rs.length k2) := HX583.out.cell 9
  have c637 : U575.cell? ⟨g81, 10, none⟩ = some (.int .u64 n) := HX583.out.cell 10
  have l638 : g81 < U575.heap.size := HX583.out.lt
  have c639 : U575.cell? ⟨g121, 0, none⟩ = some (.int .u8 c.tag) := HX584.out.cell 0
  have c640 : U575.cell? ⟨g121, 1, none⟩ = some (.int .i64 c.most) := HX584.out.cell 1
  have c641 : U575.cell? ⟨g121, 2, none⟩ = some (.int .i64 c.seg) := HX584.out.cell 2
  have c642 : U575.cell? ⟨g121, 3, none⟩ = some (.int .i64 c.least) := HX584.out.cell 3
  have c643 : U575.cell? ⟨g121, 4, none⟩ = some (.int .i64 c.den) := HX584.out.cell 4
  have c644 : U575.cell? ⟨g121, 5, none⟩ = some (.int .i64 c.leafLow) := HX584.out.cell 5
  have c645 : U575.cell? ⟨g121, 6, none⟩ = some (.int .i64 c.rootLow) := HX584.out.cell 6
  have c646 : U575.cell? ⟨g121, 7, none⟩ = some (.int .i64 c.rootHigh) := HX584.out.cell 7
  have c647 : U575.cell? ⟨g121, 8, none⟩ = some (.int .i64 c.leafHigh) := HX584.out.cell 8
  have c648 : U575.cell? ⟨g121, 9, none⟩ = some (.slice B3 Rs.length k3) := HX584.out.cell 9
  have c649 : U575.cell? ⟨g121, 10, none⟩ = some (.int .u64 n) := HX584.out.cell 10
  have l650 : g121 < U575.heap.size := HX584.out.lt
  have c651 : U575.cell? ⟨g166, 0, none⟩ = some (.int .u8 cc.tag) := HX585.out.cell 0
  have c652 : U575.cell? ⟨g166, 1, none⟩ = some (.int .i64 cc.most) := HX585.out.cell 1
  have c653 : U575.cell? ⟨g166, 2, none⟩ = some (.int .i64 cc.seg) := HX585.out.cell 2
  have c654 : U575.cell? ⟨g166, 3, none⟩ = some (.int .i64 cc.least) := HX585.out.cell 3
  have c655 : U575.cell? ⟨g166, 4, none⟩ = some (.int .i64 cc.den) := HX585.out.cell 4
  have c656 : U575.cell? ⟨g166, 5, none⟩ = some (.int .i64 cc.leafLow) := HX585.out.cell 5
  have c657 : U575.cell? ⟨g166, 6, none⟩ = some (.int .i64 cc.rootLow) := HX585.out.cell 6
  have c658 : U575.cell? ⟨g166, 7, none⟩ = some (.int .i64 cc.rootHigh) := HX585.out.cell 7
  have c659 : U575.cell? ⟨g166, 8, none⟩ = some (.int .i64 cc.leafHigh) := HX585.out.cell 8
  have c660 : U575.cell? ⟨g166, 9, none⟩ = some (.slice B8 0 k8) := HX585.out.cell 9
  have c661 : U575.cell? ⟨g166, 10, none⟩ = some (.int .u64 0) := HX585.out.cell 10
  have l662 : g166 < U575.heap.size := HX585.out.lt
  have c663 : U575.cell? ⟨g215, 0, none⟩ = some (.int .u8 cc.tag) := HX586.out.cell 0
  have c664 : U575.cell? ⟨g215, 1, none⟩ = some (.int .i64 cc.most) := HX586.out.cell 1
  have c665 : U575.cell? ⟨g215, 2, none⟩ = some (.int .i64 cc.seg) := HX586.out.cell 2
  have c666 : U575.cell? ⟨g215, 3, none⟩ = some (.int .i64 cc.least) := HX586.out.cell 3
  have c667 : U575.cell? ⟨g215, 4, none⟩ = some (.int .i64 cc.den) := HX586.out.cell 4
  have c668 : U575.cell? ⟨g215, 5, none⟩ = some (.int .i64 cc.leafLow) := HX586.out.cell 5
  have c669 : U575.cell? ⟨g215, 6, none⟩ = some (.int .i64 cc.rootLow) := HX586.out.cell 6
  have c670 : U575.cell? ⟨g215, 7, none⟩ = some (.int .i64 cc.rootHigh) := HX586.out.cell 7
  have c671 : U575.cell? ⟨g215, 8, none⟩ = some (.int .i64 cc.leafHigh) := HX586.out.cell 8
  have c672 : U575.cell? ⟨g215, 9, none⟩ = some (.slice B9 0 k9) := HX586.out.cell 9
  have c673 : U575.cell? ⟨g215, 10, none⟩ = some (.int .u64 0) := HX586.out.cell 10
  have l674 : g215 < U575.heap.size := HX586.out.lt
  have HRB := HY590
  have HRD := HY591
  have HRO := HY593
  have HRT := Lib.hid (HY595.out.runsAt)
  have HRX := HY597
  have HRY := HY598
  have HXY := Lib.hid (fun Z (h1 : RunsAt Z B8 R8) (h2 : RunsAt Z B9 R9) => (show Calls Tryz.prog 22 #[.agg (lrow cc B8 0 k8 0), .agg (lrow cc B9 0 k9 0)] Z (fun r w' => r = .returned (.bool true) ∧ Below Z.heap.size Z w') from by
    have k1 := same27_any cc cc B8 B9 R8 R9 0 0 k8 k9 0 0 Z HN8.out HN9.out h1 h2 (by rw [HN8.out]; omega) (fun r hr => by have := List.length_pos_of_mem hr; have := HN8.out; omega) (fun r hr => by have := List.length_pos_of_mem hr; have := HN9.out; omega)
    rw [HL8.out, HL9.out, sameB_self] at k1
    exact k1))
  go_upto_region 15 with fail
  go_cut [29] from 98 to 131 (fun v wx => v = .bool true ∧ Below U575.heap.size U575 wx)
  case first =>
    go_region_held3 (fun w' => (∀ bq jq, bq < U575.heap.size → w'.cell? ⟨bq, jq, none⟩ = U575.cell? ⟨bq, jq, none⟩) ∧ (∀ bq jq, bq < U575.heap.size → w'.frozen? ⟨bq, jq, none⟩ = U575.frozen? ⟨bq, jq, none⟩) ∧ U575.heap.size ≤ w'.heap.size ∧ Below U575.heap.size U575 w') ((with_reducible first | exact SB.init | exact SB.below (by assumption) (by assumption) | assumption))
      (first
        | (go_at_call 19; refine ((HC2.out _ (HRO.out.below (SB.bel (by assumption)))).2.2.2.2.1).mono ?_; rintro e21 v21 ⟨rfl, hv21⟩; have hl21 := SB.le hv21 (by assumption); obtain ⟨hc21, hz21, hs21⟩ := wfacts hv21)
        | (go_at_call 20; refine ((HREF.out _ (HRB.out.below (SB.bel (by assumption)))).2.2.2.2.1).mono ?_; rintro e22 v22 ⟨rfl, hv22⟩; have hl22 := SB.le hv22 (by assumption); obtain ⟨hc22, hz22, hs22⟩ := wfacts hv22)
        | (have hx := hv23; go_at_call 21; refine ((HC2.out _ (HRO.out.below (SB.bel (by assumption)))).2.2.2.2.2.2.1 _ (HRB.out.below (SB.bel (by assumption))) (HRO.out.below (SB.bel (by assumption)))).mono ?_; rintro e25 v25 ⟨rfl, hv25⟩; have hl25 := SB.le hv25 (by assumption); obtain ⟨hc25, hz25, hs25⟩ := wfacts hv25)
        | (go_at_call 21; refine ((HC2.out _ (HRO.out.below (SB.bel (by assumption)))).2.2.2.2.2.1 _ (HRD.out.below (SB.bel (by assumption))) (HRO.out.below (SB.bel (by assumption)))).mono ?_; rintro e23 v23 ⟨rfl, hv23⟩; have hl23 := SB.le hv23 (by assumption); obtain ⟨hc23, hz23, hs23⟩ := wfacts hv23)
        | (have hx := hv26; go_at_call 22; refine (HXY.out _ (HRX.out.below (SB.bel (by assumption))) (HRY.out.below (SB.bel (by assumption)))).mono ?_; rintro e27 v27 ⟨rfl, hv27⟩; have hl27 := SB.le hv27 (by assumption); obtain ⟨hc27, hz27, hs27⟩ := wfacts hv27)
        | (have hx := hv25; go_at_call 22; refine (HC3.out _ (HRT.out.below (SB.bel (by assumption))) _ (HRB.out.below (SB.bel (by assumption))) (HRT.out.below (SB.bel (by assumption)))).mono ?_; rintro e26 v26 ⟨rfl, hv26⟩; have hl26 := SB.le hv26 (by assumption); obtain ⟨hc26, hz26, hs26⟩ := wfacts hv26)
        | (go_at_call 22; refine ((HREF.out _ (HRB.out.below (SB.bel (by assumption)))).2.2.2.2.2 _ (HRD.out.below (SB.bel (by assumption))) (HRB.out.below (SB.bel (by assumption)))).mono ?_; rintro e24 v24 ⟨rfl, hv24⟩; have hl24 := SB.le hv24 (by assumption); obtain ⟨hc24, hz24, hs24⟩ := wfacts hv24)
        | fail "no arm")
    all_goals
      go_wp2_with fail
      go_meet
      exact ⟨by simp, SB.bel (by assumption)⟩
  case rest =>
    obtain ⟨rfl, hbz⟩ := hcut
    clear HRB HRD HRO HRT HRX HRY HXY HC2 HC3 HREF
    have HF675 := Lib.hid (bext HF580.out hbz)
    have HX676 := Lib.hid (HX581.out.below hbz HX581.out.lt)
    have HX677 := Lib.hid (HX582.out.below hbz HX582.out.lt)
    have HX678 := Lib.hid (HX583.out.below hbz HX583.out.lt)
    have HX679 := Lib.hid (HX584.out.below hbz HX584.out.lt)
    have HX680 := Lib.hid (HX585.out.below hbz HX585.out.lt)
    have HX681 := Lib.hid (HX586.out.below hbz HX586.out.lt)
    have HX682 := Lib.hid (HX587.out.below hbz HX587.out.lt)
    have HX683 := Lib.hid (HX588.out.below hbz HX588.out.lt)
    have HX684 := Lib.hid (HX589.out.below hbz HX589.out.lt)
    have HX685 := Lib.hid (HX602.out.below hbz HX602.out.lt)
    have HY686 := Lib.hid (RunsAt.below HY590.out hbz)
    have HY687 := Lib.hid (RunsAt.below HY591.out hbz)
    have HY688 := Lib.hid (tab_below' HY592.out hbz)
    have HY689 := Lib.hid (RunsAt.below HY593.out hbz)
    have HY690 := Lib.hid (bext HY594.out hbz)
    have HY691 := Lib.hid (HY595.out.below hbz)
    have HY692 := Lib.hid (bext HY596.out hbz)
    have HY693 := Lib.hid (RunsAt.below HY597.out hbz)
    have HY694 := Lib.hid (RunsAt.below HY598.out hbz)
    have HY695 := Lib.hid (own_below HY599.out hbz)
    have HY696 := Lib.hid (own_below HY600.out hbz)
    clear HF580 HX581 HX582 HX583 HX584 HX585 HX586 HX587 HX588 HX589 HX602 HY590 HY591 HY592 HY593 HY594 HY595 HY596 HY597 HY598 HY599 HY600
    clear hbz
    have c697 : wc.cell? ⟨g121, 0, none⟩ = some (.int .u8 c.tag) := HX679.out.cell 0
    have c698 : wc.cell? ⟨g121, 1, none⟩ = some (.int .i64 c.most) := HX679.out.cell 1
    have c699 : wc.cell? ⟨g121, 2, none⟩ = some (.int .i64 c.seg) := HX679.out.cell 2
    have c700 : wc.cell? ⟨g121, 3, none⟩ = some (.int .i64 c.least) := HX679.out.cell 3
    have c701 : wc.cell? ⟨g121, 4, none⟩ = some (.int .i64 c.den) := HX679.out.cell 4
    have c702 : wc.cell? ⟨g121, 5, none⟩ = some (.int .i64 c.leafLow) := HX679.out.cell 5
    have c703 : wc.cell? ⟨g121, 6, none⟩ = some (.int .i64 c.rootLow) := HX679.out.cell 6
    have c704 : wc.cell? ⟨g121, 7, none⟩ = some (.int .i64 c.rootHigh) := HX679.out.cell 7
    have c705 : wc.cell? ⟨g121, 8, none⟩ = some (.int .i64 c.leafHigh) := HX679.out.cell 8
    have c706 : wc.cell? ⟨g121, 9, none⟩ = some (.slice B3 Rs.length k3) := HX679.out.cell 9
    have c707 : wc.cell? ⟨g121, 10, none⟩ = some (.int .u64 n) := HX679.out.cell 10
    have l708 : g121 < wc.heap.size := HX679.out.lt
    go_wp2_with fail
    clear c697 c698 c699 c700 c701 c702 c703 c704 c705 c706 c707 l708
    have hsp := spoil27_any c B3 R3 k3 U80.heap.size n w107 _ KO3.out HY691.out HY692.out.size HS3.out.1 HS3.out.2
    rw [HN3.out] at hsp
    refine hsp.mono ?_
    clear hsp
    rintro e wz ⟨⟨vz, rfl⟩, hmz⟩
    have HFZ := Lib.hid (HY690.out.trans (hmz.below (B := U80.heap.size) HY690.out.size (fun k hk => hk.1)))
    have HO5 := Lib.hid (own_sl (own_mod HY695.out hmz (fun k hk hs => by have h1 := HZ5.out; omega)))
    have HO6 := Lib.hid (own_sl (own_mod HY696.out hmz (fun k hk hs => by have h1 := HZ6.out; omega)))
    have HMa := Lib.hid (HX682.out.mod hmz (fun hs => by have h1 := HZa.out; omega))
    have HMb := Lib.hid (HX683.out.mod hmz (fun hs => by have h1 := HZb.out; omega))
    have HMc := Lib.hid (HX684.out.mod hmz (fun hs => by have h1 := HZc.out; omega))
    have HMd := Lib.hid (HX685.out.mod hmz (fun hs => by have h1 := HZd.out; omega))
    clear hmz
    go_wp2_with fail
    refine (samePairs_any A5 A6 P P a5 a6 _ HO5.out HO6.out (by have := HPL.out; omega) (by have := HPL.out; omega)).mono ?_
    rw [decide_eq_true rfl]
    rintro e wy ⟨rfl, hby⟩
    have HFY := Lib.hid (HFZ.out.trans (hby.mono HFZ.out.size))
    have ba1 := HMa.out.below hby HMa.out.lt
    have bb1 := HMb.out.below hby HMb.out.lt
    have bc1 := HMc.out.below hby HMc.out.lt
    have bd1 := HMd.out.below hby HMd.out.lt
    have bo1 := KO.out.below HFY.out KO.out.lt
    have bx1 := KX.out.below HFY.out KX.out.lt
    clear hby
    have qa0 : wy.cell? ⟨g396, 0, none⟩ = some (.int .i64 X.key) := ba1.cell 0
    have qa1 : wy.cell? ⟨g396, 1, none⟩ = some (.int .i64 X.val) := ba1.cell 1
    have qb0 : wy.cell? ⟨g454, 0, none⟩ = some (.int .i64 X.key) := bb1.cell 0
    have qb1 : wy.cell? ⟨g454, 1, none⟩ = some (.int .i64 X.val) := bb1.cell 1
    have qc0 : wy.cell? ⟨g514, 0, none⟩ = some (.int .i64 Y.key) := bc1.cell 0
    have qc1 : wy.cell? ⟨g514, 1, none⟩ = some (.int .i64 Y.val) := bc1.cell 1
    have qd0 : wy.cell? ⟨g576, 0, none⟩ = some (.int .i64 Y.key) := bd1.cell 0
    have qd1 : wy.cell? ⟨g576, 1, none⟩ = some (.int .i64 Y.val) := bd1.cell 1
    have qo0 : wy.cell? ⟨g81, 0, none⟩ = some (.int .u8 c.tag) := bo1.cell 0
    have qo1 : wy.cell? ⟨g81, 1, none⟩ = some (.int .i64 c.most) := bo1.cell 1
    have qo2 : wy.cell? ⟨g81, 2, none⟩ = some (.int .i64 c.seg) := bo1.cell 2
    have qo3 : wy.cell? ⟨g81, 3, none⟩ = some (.int .i64 c.least) := bo1.cell 3
    have qo4 : wy.cell? ⟨g81, 4, none⟩ = some (.int .i64 c.den) := bo1.cell 4
    have qo5 : wy.cell? ⟨g81, 5, none⟩ = some (.int .i64 c.leafLow) := bo1.cell 5
    have qo6 : wy.cell? ⟨g81, 6, none⟩ = some (.int .i64 c.rootLow) := bo1.cell 6
    have qo7 : wy.cell? ⟨g81, 7, none⟩ = some (.int .i64 c.rootHigh) := bo1.cell 7
    have qo8 : wy.cell? ⟨g81, 8, none⟩ = some (.int .i64 c.leafHigh) := bo1.cell 8
    have qo9 : wy.cell? ⟨g81, 9, none⟩ = some (.slice B2 Rs.length k2) := bo1.cell 9
    have qo10 : wy.cell? ⟨g81, 10, none⟩ = some (.int .u64 n) := bo1.cell 10
    have qx0 : wy.cell? ⟨g16, 0, none⟩ = some (.int .u8 c.tag) := bx1.cell 0
    have qx1 : wy.cell? ⟨g16, 1, none⟩ = some (.int .i64 c.most) := bx1.cell 1
    have qx2 : wy.cell? ⟨g16, 2, none⟩ = some (.int .i64 c.seg) := bx1.cell 2
    have qx3 : wy.cell? ⟨g16, 3, none⟩ = some (.int .i64 c.least) := bx1.cell 3
    have qx4 : wy.cell? ⟨g16, 4, none⟩ = some (.int .i64 c.den) := bx1.cell 4
    have qx5 : wy.cell? ⟨g16, 5, none⟩ = some (.int .i64 c.leafLow) := bx1.cell 5
    have qx6 : wy.cell? ⟨g16, 6, none⟩ = some (.int .i64 c.rootLow) := bx1.cell 6
    have qx7 : wy.cell? ⟨g16, 7, none⟩ = some (.int .i64 c.rootHigh) := bx1.cell 7
    have qx8 : wy.cell? ⟨g16, 8, none⟩ = some (.int .i64 c.leafHigh) := bx1.cell 8
    have qx9 : wy.cell? ⟨g16, 9, none⟩ = some (.slice B Rs.length k) := bx1.cell 9
    have qx10 : wy.cell? ⟨g16, 10, none⟩ = some (.int .u64 n) := bx1.cell 10
    have hxx := fun w => run_eql_pr X X w
    have hxy : eqP X X = true := decide_eq_true rfl
    have hyx := fun w => run_eql_pr Y Y w
    have hyy : eqP Y Y = true := decide_eq_true rfl
    clear ba1 bb1 bc1 bd1 bo1 bx1
    go_wp2_with fail
    have hsm := same27_any c c B2 B R2 Rs Rs.length Rs.length k2 k n n wy HN2.out rfl (KR.out.below HFY.out) (KB.out.below HFY.out) HS2.out.1 HS2.out.2 HSR.out.2
    rw [HL2.out, HL.out, sameB_self] at hsm
    refine hsm.mono ?_
    clear hsm
    rintro e wx ⟨rfl, hbx⟩
    clear hxx hxy hyx hyy
    go_wp2_with fail
    go_ret
    refine ⟨?_, bext (bext KF.out HFY.out) hbx⟩
    rfl
end Go.Proofs.YthbppblmecdekaaGreatDoor
