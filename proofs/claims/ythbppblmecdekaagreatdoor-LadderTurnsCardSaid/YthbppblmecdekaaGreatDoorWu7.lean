/- Lu: texts of the claim, in this order. -/
import Derived.Test.YthbppblmecdekaaGreatDoorWu4
import Derived.Test.YthbppblmecdekaaGreatDoorWu6
import Derived.Test.YthbppblmecdekaaGreatDoorWg7
/- The law LadderTurns: for every map, keys and value it returns true; its arguments stay as they were. -/
namespace Go.Proofs.YthbppblmecdekaaGreatDoor
open Go Go.RowKit
set_option maxRecDepth 100000
theorem ls_of {Rs : List Rm} {L : Lv} {T : Nat} (h : lvs Rs = L) (h1 : L.length + tot L ≤ T) (h3 : T ≤ 1000000 := by omega) : Rs.length ≤ 1000000 ∧ ∀ r ∈ Rs, r.l.length ≤ 1000000 := by
  refine ⟨by rw [rs_len h]; omega, fun r hr => ?_⟩
  have h5 := le_sum (List.mem_map.2 ⟨r.l, List.mem_map.2 ⟨r, hr, rfl⟩, rfl⟩ : r.l.length ∈ ((lvs Rs).map List.length))
  rw [h] at h5
  unfold tot at h1
  omega
theorem small_nil : ([] : Lv).length + tot ([] : Lv) ≤ 100000 := by simp [tot]
theorem may_small {L : Lv} (h : May L) : L.length + tot L ≤ 100000 := by
  have h1 := h.len
  have h2 := h.size
  omega
theorem up_small (e0 : Int) (L : Lv) (n : Int) (y : Ent) : (upL e0 L n y).length + tot (upL e0 L n y) ≤ 100000 := by
  unfold upL
  split
  · by_cases h : addE L y = 0
    · exact may_small (add_may h n).1
    · unfold addL; rw [if_neg h]; exact small_nil
  · exact small_nil
theorem rg_small {c : Cfg} {L : Lv} (a b : Int) (hT : tot L ≤ 300) : (rgL c L a b).length + tot (rgL c L a b) ≤ 100000 := by
  unfold rgL
  split
  · unfold newL
    have hl : (withoutL (prD c L) a b).length ≤ 300 := Nat.le_trans (without_len _ _ _) (Nat.le_trans (prD_len c L) hT)
    refine may_small (alone_may (build_chk (alive_build (without_ris (prD_ris c L) a b) (by omega))) ?_)
    unfold deadE
    rw [List.any_eq_false]
    intro e he
    obtain ⟨p, _, rfl⟩ := List.mem_map.1 (laid_mem he)
    simp [aliveE]
  · exact small_nil
theorem OwnRs.mod {Sx : Nat → Prop} {w w' : World} {B0 : Nat} {B : Option Addr} {c : Nat} {Rs : List Rm} (h : OwnRs w B0 B c Rs) (hm : Mod Sx w w') (hn : ∀ k, B0 ≤ k → ¬ Sx k) : OwnRs w' B0 B c Rs := ⟨own_mod h.row hm hn, fun r hr => own_mod (h.ent r hr) hm hn⟩
set_option maxHeartbeats 32000000 in
theorem ladderTurns_any (c : Cfg) (B : Option Addr) (Rs : List Rm) (k : Nat) (n : Int) (key val kt : Int) (w : World) (hB : RunsAt w B Rs) (hn : 0 ≤ n ∧ n ≤ 18446744073709551615) (hTb : TabAt 1 Lib.deBruijn64tab w) :
    Calls Tryz.prog 4 #[.agg (lrow c B Rs.length k n), .int .i64 key, .int .i64 val, .int .i64 kt] w fun r w' => r = .returned (.bool true) ∧ Below w.heap.size w w' := by
  have HB0 := Lib.hid hB
  have HT0 := Lib.hid hTb
  have HNB := Lib.hid hn
  clear hB hTb hn
  go_enter Tryz.func4, Tryz.ntmps4
  have HF := Lib.hid (Below.refl w.heap.size w)
  have HY1 := Lib.hid (HB0.out)
  have HY2 := Lib.hid (HT0.out)
  go_upto_region 1 with fail
  obtain ⟨U3, h5⟩ : ∃ U, w.alloc (.cells #[.int .u8 c.tag, .int .i64 c.most, .int .i64 c.seg, .int .i64 c.least, .int .i64 c.den, .int .i64 c.leafLow, .int .i64 c.rootLow, .int .i64 c.rootHigh, .int .i64 c.leafHigh, .slice B Rs.length k, .int .u64 n] 29) = U := ⟨_, rfl⟩
  have ba6 : Below w.heap.size w U3 := by rw [← h5]; exact (Below.refl _ _).alloc (Nat.le_refl _) _
  have bn7 : Blk U3 w.heap.size 29 #[.int .u8 c.tag, .int .i64 c.most, .int .i64 c.seg, .int .i64 c.least, .int .i64 c.den, .int .i64 c.leafLow, .int .i64 c.rootLow, .int .i64 c.rootHigh, .int .i64 c.leafHigh, .slice B Rs.length k, .int .u64 n] := by rw [← h5]; exact Blk.new _ _ _
  try rw [h5]
  have HF8 := Lib.hid (bext HF.out ba6)
  have HY9 := Lib.hid (RunsAt.below HY1.out ba6)
  have HY10 := Lib.hid (tab_below (tab_lt HY2.out) HY2.out ba6)
  clear HF HY1 HY2
  obtain ⟨g4, h11⟩ : ∃ g, w.heap.size = g := ⟨_, rfl⟩
  rw [h11] at bn7
  try rw [h11]
  have HX12 := Lib.hid bn7
  clear h5 ba6 bn7 h11
  have c13 : U3.cell? ⟨g4, 0, none⟩ = some (.int .u8 c.tag) := HX12.out.cell 0
  have c14 : U3.cell? ⟨g4, 1, none⟩ = some (.int .i64 c.most) := HX12.out.cell 1
  have c15 : U3.cell? ⟨g4, 2, none⟩ = some (.int .i64 c.seg) := HX12.out.cell 2
  have c16 : U3.cell? ⟨g4, 3, none⟩ = some (.int .i64 c.least) := HX12.out.cell 3
  have c17 : U3.cell? ⟨g4, 4, none⟩ = some (.int .i64 c.den) := HX12.out.cell 4
  have c18 : U3.cell? ⟨g4, 5, none⟩ = some (.int .i64 c.leafLow) := HX12.out.cell 5
  have c19 : U3.cell? ⟨g4, 6, none⟩ = some (.int .i64 c.rootLow) := HX12.out.cell 6
  have c20 : U3.cell? ⟨g4, 7, none⟩ = some (.int .i64 c.rootHigh) := HX12.out.cell 7
  have c21 : U3.cell? ⟨g4, 8, none⟩ = some (.int .i64 c.leafHigh) := HX12.out.cell 8
  have c22 : U3.cell? ⟨g4, 9, none⟩ = some (.slice B Rs.length k) := HX12.out.cell 9
  have c23 : U3.cell? ⟨g4, 10, none⟩ = some (.int .u64 n) := HX12.out.cell 10
  have l24 : g4 < U3.heap.size := HX12.out.lt
  go_wp2_with fail
  clear c13 c14 c15 c16 c17 c18 c19 c20 c21 c22 c23 l24
  refine (great27_any B Rs k 300 c n _ HY9.out (by omega)).mono ?_
  rintro e w25 ⟨G, rfl, hG, hb26⟩
  have HF27 := Lib.hid (bext HF8.out hb26)
  have HX28 := Lib.hid (HX12.out.below hb26 HX12.out.lt)
  have HY29 := Lib.hid (RunsAt.below HY9.out hb26)
  have HY30 := Lib.hid (tab_below (tab_lt HY10.out) HY10.out hb26)
  clear HF8 HX12 HY9 HY10
  clear hb26
  cases G with
  | true =>
    clear hG
    go_wp2
    go_ret
    exact ⟨rfl, HF27.out⟩
  | false =>
  have hGm := hG rfl
  clear hG
  have hT3 : tot (lvs Rs) ≤ 300 := by omega
  have hR3 : Rs.length ≤ 300 := by omega
  have HSR := Lib.hid (ls_of (Rs := Rs) (T := 300) rfl (by rw [lvs_len]; omega))
  clear hGm
  obtain ⟨L, hL⟩ : ∃ L, lvs Rs = L := ⟨_, rfl⟩
  have HLL := Lib.hid (show L.length + tot L ≤ 600 by rw [← hL, lvs_len]; omega)
  have hT4 : tot L ≤ 300 := by rw [← hL]; exact hT3
  have sx := up_small (putE0 c L key) L n (putY key val)
  have sz := up_small (veD c L key) L n (delY key)
  have sa := rg_small (c := c) (L := L) key kt hT4
  obtain ⟨ex, hex⟩ : ∃ x, upE (putE0 c L key) L (putY key val) = x := ⟨_, rfl⟩
  obtain ⟨Lx, hLx⟩ : ∃ x, upL (putE0 c L key) L n (putY key val) = x := ⟨_, rfl⟩
  obtain ⟨Nx, hNx⟩ : ∃ x, upN (putE0 c L key) L n (putY key val) = x := ⟨_, rfl⟩
  obtain ⟨cx, hcx⟩ : ∃ x, ldC c ex = x := ⟨_, rfl⟩
  obtain ⟨ez, hez⟩ : ∃ x, upE (veD c L key) L (delY key) = x := ⟨_, rfl⟩
  obtain ⟨Lz, hLz⟩ : ∃ x, upL (veD c L key) L n (delY key) = x := ⟨_, rfl⟩
  obtain ⟨Nz, hNz⟩ : ∃ x, upN (veD c L key) L n (delY key) = x := ⟨_, rfl⟩
  obtain ⟨cz2, hcz⟩ : ∃ x, ldC c ez = x := ⟨_, rfl⟩
  obtain ⟨ea, hea⟩ : ∃ x, errL c L = x := ⟨_, rfl⟩
  obtain ⟨La, hLa⟩ : ∃ x, rgL c L key kt = x := ⟨_, rfl⟩
  obtain ⟨Na, hNa⟩ : ∃ x, rgN c L n key kt = x := ⟨_, rfl⟩
  obtain ⟨Ca, hCa⟩ : ∃ x, rgC c L key kt = x := ⟨_, rfl⟩
  obtain ⟨cca, hca⟩ : ∃ x, ldC c ea = x := ⟨_, rfl⟩
  rw [hLx] at sx
  rw [hLz] at sz
  rw [hLa] at sa
  have HSX := Lib.hid sx
  have HSZ := Lib.hid sz
  have HSA := Lib.hid sa
  have HCON := Lib.hid (show ∀ (A : Option Addr) (Qs : List Rm) (a : Nat) (W : World), lvs Qs = L → RunsAt W A Qs →
      (TabAt 1 Lib.deBruijn64tab W → Calls Tryz.prog 25 #[.agg (lrow c A Rs.length a n), .int .i64 key, .int .i64 val] W (GivesLd cx Lx Nx ex W)) ∧
      (TabAt 1 Lib.deBruijn64tab W → Calls Tryz.prog 27 #[.agg (lrow c A Rs.length a n), .int .i64 key] W (GivesLd cz2 Lz Nz ez W)) ∧
      Calls Tryz.prog 29 #[.agg (lrow c A Rs.length a n), .int .i64 key, .int .i64 kt] W (GivesLn cca La Na Ca ea W) from by
    intro A Qs a W hq hW
    have hn : Qs.length = Rs.length := by rw [rs_len hq, ← hL, lvs_len]
    have hs := ls_of (Rs := Qs) (T := 600) hq HLL.out
    have k1 := fun h => putD_any A Qs a c n key val W hW (by rw [hq]; omega) hs.1 h
    have k2 := fun h => delD_any A Qs a c n key W hW (by rw [hq]; omega) hs.1 h
    have k3 := rangeD_any A Qs a c n key kt W hW (by rw [hq]; omega) hs.1 (by rw [hq]; exact hT4)
    rw [hq, hn, hex, hLx, hNx, hcx] at k1
    rw [hq, hn, hez, hLz, hNz, hcz] at k2
    rw [hq, hn, hea, hLa, hNa, hCa, hca] at k3
    exact ⟨k1, k2, k3⟩)
  have HREF := Lib.hid (show ∀ W, RunsAt W B Rs →
      Calls Tryz.prog 26 #[.agg (lrow c B Rs.length k n), .int .i64 key, .int .i64 val] W (GivesLd cx Lx Nx ex W) ∧
      Calls Tryz.prog 28 #[.agg (lrow c B Rs.length k n), .int .i64 key] W (GivesLd cz2 Lz Nz ez W) ∧
      Calls Tryz.prog 30 #[.agg (lrow c B Rs.length k n), .int .i64 key, .int .i64 kt] W (GivesLn cca La Na Ca ea W) from by
    intro W hW
    have k1 := put27_any B Rs k c n key val W hW (by omega) HSR.out.1 hT3 HNB.out
    have k2 := delete27_any B Rs k c n key W hW (by omega) HSR.out.1 hT3 HNB.out
    have k3 := range27_any B Rs k c n key kt W hW (by omega) HSR.out.1 hT3
    rw [hL, hex, hLx, hNx, hcx] at k1
    rw [hL, hez, hLz, hNz, hcz] at k2
    rw [hL, hea, hLa, hNa, hCa, hca] at k3
    exact ⟨k1, k2, k3⟩)
  have HL := Lib.hid hL
  clear hL hex hLx hNx hcx hez hLz hNz hcz hea hLa hNa hCa hca hT3 hT4 hR3 sx sz sa
  have c31 : w25.cell? ⟨g4, 0, none⟩ = some (.int .u8 c.tag) := HX28.out.cell 0
  have c32 : w25.cell? ⟨g4, 1, none⟩ = some (.int .i64 c.most) := HX28.out.cell 1
  have c33 : w25.cell? ⟨g4, 2, none⟩ = some (.int .i64 c.seg) := HX28.out.cell 2
  have c34 : w25.cell? ⟨g4, 3, none⟩ = some (.int .i64 c.least) := HX28.out.cell 3
  have c35 : w25.cell? ⟨g4, 4, none⟩ = some (.int .i64 c.den) := HX28.out.cell 4
  have c36 : w25.cell? ⟨g4, 5, none⟩ = some (.int .i64 c.leafLow) := HX28.out.cell 5
  have c37 : w25.cell? ⟨g4, 6, none⟩ = some (.int .i64 c.rootLow) := HX28.out.cell 6
  have c38 : w25.cell? ⟨g4, 7, none⟩ = some (.int .i64 c.rootHigh) := HX28.out.cell 7
  have c39 : w25.cell? ⟨g4, 8, none⟩ = some (.int .i64 c.leafHigh) := HX28.out.cell 8
  have c40 : w25.cell? ⟨g4, 9, none⟩ = some (.slice B Rs.length k) := HX28.out.cell 9
  have c41 : w25.cell? ⟨g4, 10, none⟩ = some (.int .u64 n) := HX28.out.cell 10
  have l42 : g4 < w25.heap.size := HX28.out.lt
  go_wp2_with fail
  clear c31 c32 c33 c34 c35 c36 c37 c38 c39 c40 c41 l42
  refine (twin27_any B Rs k c n _ HY29.out HSR.out.1 HSR.out.2).mono ?_
  rintro e w43 ⟨B2, k2, R2, rfl, hl2, ho2, hb44⟩
  have HL2 := Lib.hid (hl2.trans HL.out)
  have hn2 : R2.length = Rs.length := by rw [rs_len HL2.out, ← HL.out, lvs_len]
  rw [hn2]
  have HN2 := Lib.hid hn2
  have HS2 := Lib.hid (ls_of (Rs := R2) (T := 600) HL2.out HLL.out)
  have HO2 := Lib.hid ho2.runsAt
  clear hl2 ho2 hn2
  have HF45 := Lib.hid (bext HF27.out hb44)
  have HX46 := Lib.hid (HX28.out.below hb44 HX28.out.lt)
  have HY47 := Lib.hid (RunsAt.below HY29.out hb44)
  have HY48 := Lib.hid (tab_below (tab_lt HY30.out) HY30.out hb44)
  clear HF27 HX28 HY29 HY30
  clear hb44
  have HY49 := Lib.hid (HO2.out)
  go_upto_region 4 with fail
  obtain ⟨U50, h52⟩ : ∃ U, w43.alloc (.cells #[.int .u8 c.tag, .int .i64 c.most, .int .i64 c.seg, .int .i64 c.least, .int .i64 c.den, .int .i64 c.leafLow, .int .i64 c.rootLow, .int .i64 c.rootHigh, .int .i64 c.leafHigh, .slice B2 Rs.length k2, .int .u64 n] 29) = U := ⟨_, rfl⟩
  have ba53 : Below w43.heap.size w43 U50 := by rw [← h52]; exact (Below.refl _ _).alloc (Nat.le_refl _) _
  have bn54 : Blk U50 w43.heap.size 29 #[.int .u8 c.tag, .int .i64 c.most, .int .i64 c.seg, .int .i64 c.least, .int .i64 c.den, .int .i64 c.leafLow, .int .i64 c.rootLow, .int .i64 c.rootHigh, .int .i64 c.leafHigh, .slice B2 Rs.length k2, .int .u64 n] := by rw [← h52]; exact Blk.new _ _ _
  try rw [h52]
  have HF55 := Lib.hid (bext HF45.out ba53)
  have HX56 := Lib.hid (HX46.out.below ba53 HX46.out.lt)
  have HY57 := Lib.hid (RunsAt.below HY47.out ba53)
  have HY58 := Lib.hid (tab_below (tab_lt HY48.out) HY48.out ba53)
  have HY59 := Lib.hid (RunsAt.below HY49.out ba53)
  clear HF45 HX46 HY47 HY48 HY49
  obtain ⟨g51, h60⟩ : ∃ g, w43.heap.size = g := ⟨_, rfl⟩
  rw [h60] at bn54
  try rw [h60]
  have HX61 := Lib.hid bn54
  clear h52 ba53 bn54 h60
  have KX := HX56
  have KO := HX61
  have KB := HY57
  have KR := HY59
  have KF := HF55
  have HF0 := Lib.hid (Below.refl U50.heap.size U50)
  have HC2 := Lib.hid (fun W (hW : RunsAt W B2 R2) => HCON.out B2 R2 k2 W HL2.out hW)
  clear HCON
  have HY62 := Lib.hid (HF0.out)
  have HUx := Lib.hid HY62.out.size
  have c63 : U50.cell? ⟨g51, 0, none⟩ = some (.int .u8 c.tag) := HX61.out.cell 0
  have c64 : U50.cell? ⟨g51, 1, none⟩ = some (.int .i64 c.most) := HX61.out.cell 1
  have c65 : U50.cell? ⟨g51, 2, none⟩ = some (.int .i64 c.seg) := HX61.out.cell 2
  have c66 : U50.cell? ⟨g51, 3, none⟩ = some (.int .i64 c.least) := HX61.out.cell 3
  have c67 : U50.cell? ⟨g51, 4, none⟩ = some (.int .i64 c.den) := HX61.out.cell 4
  have c68 : U50.cell? ⟨g51, 5, none⟩ = some (.int .i64 c.leafLow) := HX61.out.cell 5
  have c69 : U50.cell? ⟨g51, 6, none⟩ = some (.int .i64 c.rootLow) := HX61.out.cell 6
  have c70 : U50.cell? ⟨g51, 7, none⟩ = some (.int .i64 c.rootHigh) := HX61.out.cell 7
  have c71 : U50.cell? ⟨g51, 8, none⟩ = some (.int .i64 c.leafHigh) := HX61.out.cell 8
  have c72 : U50.cell? ⟨g51, 9, none⟩ = some (.slice B2 Rs.length k2) := HX61.out.cell 9
  have c73 : U50.cell? ⟨g51, 10, none⟩ = some (.int .u64 n) := HX61.out.cell 10
  have l74 : g51 < U50.heap.size := HX61.out.lt
  go_wp2_with fail
  clear c63 c64 c65 c66 c67 c68 c69 c70 c71 c72 c73 l74
  refine ((HC2.out _ HY59.out).1 HY58.out).mono ?_
  rintro e w75 ⟨Bx, kx, Rx, rfl, hlx, hox, hb76⟩
  have HLx := Lib.hid hlx
  obtain ⟨Mx, hMx⟩ : ∃ N, Rx.length = N := ⟨_, rfl⟩
  rw [hMx]
  have HMx := Lib.hid hMx
  have HSx := Lib.hid (ls_of (Rs := Rx) (T := 100000) hlx HSX.out)
  have HOXx := Lib.hid hox
  clear hlx hox hMx
  have HF77 := Lib.hid (bext HF55.out hb76)
  have HX78 := Lib.hid (HX56.out.below hb76 HX56.out.lt)
  have HX79 := Lib.hid (HX61.out.below hb76 HX61.out.lt)
  have HY80 := Lib.hid (RunsAt.below HY57.out hb76)
  have HY81 := Lib.hid (tab_below (tab_lt HY58.out) HY58.out hb76)
  have HY82 := Lib.hid (RunsAt.below HY59.out hb76)
  have HY83 := Lib.hid (bext HY62.out hb76)
  clear HF55 HX56 HX61 HY57 HY58 HY59 HY62
  clear hb76
  have HY84 := Lib.hid (HOXx.out)
  have HY85 := Lib.hid ((Below.refl w75.heap.size w75))
  have hgx := HY85.out.size
  go_upto_region 5 with fail
  obtain ⟨U86, h88⟩ : ∃ U, w75.alloc (.cells #[.int .u8 cx.tag, .int .i64 cx.most, .int .i64 cx.seg, .int .i64 cx.least, .int .i64 cx.den, .int .i64 cx.leafLow, .int .i64 cx.rootLow, .int .i64 cx.rootHigh, .int .i64 cx.leafHigh, .slice Bx Mx kx, .int .u64 Nx] 29) = U := ⟨_, rfl⟩
  have ba89 : Below w75.heap.size w75 U86 := by rw [← h88]; exact (Below.refl _ _).alloc (Nat.le_refl _) _
  have bn90 : Blk U86 w75.heap.size 29 #[.int .u8 cx.tag, .int .i64 cx.most, .int .i64 cx.seg, .int .i64 cx.least, .int .i64 cx.den, .int .i64 cx.leafLow, .int .i64 cx.rootLow, .int .i64 cx.rootHigh, .int .i64 cx.leafHigh, .slice Bx Mx kx, .int .u64 Nx] := by rw [← h88]; exact Blk.new _ _ _
  try rw [h88]
  have HF91 := Lib.hid (bext HF77.out ba89)
  have HX92 := Lib.hid (HX78.out.below ba89 HX78.out.lt)
  have HX93 := Lib.hid (HX79.out.below ba89 HX79.out.lt)
  have HY94 := Lib.hid (RunsAt.below HY80.out ba89)
  have HY95 := Lib.hid (tab_below (tab_lt HY81.out) HY81.out ba89)
  have HY96 := Lib.hid (RunsAt.below HY82.out ba89)
  have HY97 := Lib.hid (bext HY83.out ba89)
  have HY98 := Lib.hid (OwnRs.below HY84.out ba89)
  have HY99 := Lib.hid (bext HY85.out ba89)
  clear HF77 HX78 HX79 HY80 HY81 HY82 HY83 HY84 HY85
  obtain ⟨g87, h100⟩ : ∃ g, w75.heap.size = g := ⟨_, rfl⟩
  rw [h100] at bn90
  try rw [h100]
  have HX101 := Lib.hid bn90
  have HGxx := Lib.hid (show w75.heap.size ≤ g87 by rw [← h100]; exact hgx)
  clear hgx
  clear h88 ba89 bn90 h100
  have c102 : U86.cell? ⟨g4, 0, none⟩ = some (.int .u8 c.tag) := HX92.out.cell 0
  have c103 : U86.cell? ⟨g4, 1, none⟩ = some (.int .i64 c.most) := HX92.out.cell 1
  have c104 : U86.cell? ⟨g4, 2, none⟩ = some (.int .i64 c.seg) := HX92.out.cell 2
  have c105 : U86.cell? ⟨g4, 3, none⟩ = some (.int .i64 c.least) := HX92.out.cell 3
  have c106 : U86.cell? ⟨g4, 4, none⟩ = some (.int .i64 c.den) := HX92.out.cell 4
  have c107 : U86.cell? ⟨g4, 5, none⟩ = some (.int .i64 c.leafLow) := HX92.out.cell 5
  have c108 : U86.cell? ⟨g4, 6, none⟩ = some (.int .i64 c.rootLow) := HX92.out.cell 6
  have c109 : U86.cell? ⟨g4, 7, none⟩ = some (.int .i64 c.rootHigh) := HX92.out.cell 7
  have c110 : U86.cell? ⟨g4, 8, none⟩ = some (.int .i64 c.leafHigh) := HX92.out.cell 8
  have c111 : U86.cell? ⟨g4, 9, none⟩ = some (.slice B Rs.length k) := HX92.out.cell 9
  have c112 : U86.cell? ⟨g4, 10, none⟩ = some (.int .u64 n) := HX92.out.cell 10
  have l113 : g4 < U86.heap.size := HX92.out.lt
  go_wp2_with fail
  clear c102 c103 c104 c105 c106 c107 c108 c109 c110 c111 c112 l113
  refine ((HREF.out _ HY94.out).1).mono ?_
  rintro e w114 ⟨By, ky, Ry, rfl, hly, hoy, hb115⟩
  have HLy := Lib.hid hly
  obtain ⟨My, hMy⟩ : ∃ N, Ry.length = N := ⟨_, rfl⟩
  rw [hMy]
  have HMy := Lib.hid hMy
  have HSy := Lib.hid (ls_of (Rs := Ry) (T := 100000) hly HSX.out)
  have HOXy := Lib.hid hoy
  clear hly hoy hMy
  have HF116 := Lib.hid (bext HF91.out hb115)
  have HX117 := Lib.hid (HX92.out.below hb115 HX92.out.lt)
  have HX118 := Lib.hid (HX93.out.below hb115 HX93.out.lt)
  have HX119 := Lib.hid (HX101.out.below hb115 HX101.out.lt)
  have HY120 := Lib.hid (RunsAt.below HY94.out hb115)
  have HY121 := Lib.hid (tab_below (tab_lt HY95.out) HY95.out hb115)
  have HY122 := Lib.hid (RunsAt.below HY96.out hb115)
  have HY123 := Lib.hid (bext HY97.out hb115)
  have HY124 := Lib.hid (OwnRs.below HY98.out hb115)
  have HY125 := Lib.hid (bext HY99.out hb115)
  clear HF91 HX92 HX93 HX101 HY94 HY95 HY96 HY97 HY98 HY99
  clear hb115
  have HY126 := Lib.hid (HOXy.out.runsAt)
  clear HOXy
  go_upto_region 6 with fail
  obtain ⟨U127, h129⟩ : ∃ U, w114.alloc (.cells #[.int .u8 cx.tag, .int .i64 cx.most, .int .i64 cx.seg, .int .i64 cx.least, .int .i64 cx.den, .int .i64 cx.leafLow, .int .i64 cx.rootLow, .int .i64 cx.rootHigh, .int .i64 cx.leafHigh, .slice By My ky, .int .u64 Nx] 29) = U := ⟨_, rfl⟩
  have ba130 : Below w114.heap.size w114 U127 := by rw [← h129]; exact (Below.refl _ _).alloc (Nat.le_refl _) _
  have bn131 : Blk U127 w114.heap.size 29 #[.int .u8 cx.tag, .int .i64 cx.most, .int .i64 cx.seg, .int .i64 cx.least, .int .i64 cx.den, .int .i64 cx.leafLow, .int .i64 cx.rootLow, .int .i64 cx.rootHigh, .int .i64 cx.leafHigh, .slice By My ky, .int .u64 Nx] := by rw [← h129]; exact Blk.new _ _ _
  try rw [h129]
  have HF132 := Lib.hid (bext HF116.out ba130)
  have HX133 := Lib.hid (HX117.out.below ba130 HX117.out.lt)
  have HX134 := Lib.hid (HX118.out.below ba130 HX118.out.lt)
  have HX135 := Lib.hid (HX119.out.below ba130 HX119.out.lt)
  have HY136 := Lib.hid (RunsAt.below HY120.out ba130)
  have HY137 := Lib.hid (tab_below (tab_lt HY121.out) HY121.out ba130)
  have HY138 := Lib.hid (RunsAt.below HY122.out ba130)
  have HY139 := Lib.hid (bext HY123.out ba130)
  have HY140 := Lib.hid (OwnRs.below HY124.out ba130)
  have HY141 := Lib.hid (bext HY125.out ba130)
  have HY142 := Lib.hid (RunsAt.below HY126.out ba130)
  clear HF116 HX117 HX118 HX119 HY120 HY121 HY122 HY123 HY124 HY125 HY126
  obtain ⟨g128, h143⟩ : ∃ g, w114.heap.size = g := ⟨_, rfl⟩
  rw [h143] at bn131
  try rw [h143]
  have HX144 := Lib.hid bn131
  clear h129 ba130 bn131 h143
  have HAxz := Lib.hid HY141.out.size
  have HUz := Lib.hid HY139.out.size
  have c145 : U127.cell? ⟨g51, 0, none⟩ = some (.int .u8 c.tag) := HX134.out.cell 0
  have c146 : U127.cell? ⟨g51, 1, none⟩ = some (.int .i64 c.most) := HX134.out.cell 1
  have c147 : U127.cell? ⟨g51, 2, none⟩ = some (.int .i64 c.seg) := HX134.out.cell 2
  have c148 : U127.cell? ⟨g51, 3, none⟩ = some (.int .i64 c.least) := HX134.out.cell 3
  have c149 : U127.cell? ⟨g51, 4, none⟩ = some (.int .i64 c.den) := HX134.out.cell 4
  have c150 : U127.cell? ⟨g51, 5, none⟩ = some (.int .i64 c.leafLow) := HX134.out.cell 5
  have c151 : U127.cell? ⟨g51, 6, none⟩ = some (.int .i64 c.rootLow) := HX134.out.cell 6
  have c152 : U127.cell? ⟨g51, 7, none⟩ = some (.int .i64 c.rootHigh) := HX134.out.cell 7
  have c153 : U127.cell? ⟨g51, 8, none⟩ = some (.int .i64 c.leafHigh) := HX134.out.cell 8
  have c154 : U127.cell? ⟨g51, 9, none⟩ = some (.slice B2 Rs.length k2) := HX134.out.cell 9
  have c155 : U127.cell? ⟨g51, 10, none⟩ = some (.int .u64 n) := HX134.out.cell 10
  have l156 : g51 < U127.heap.size := HX134.out.lt
  go_wp2_with fail
  clear c145 c146 c147 c148 c149 c150 c151 c152 c153 c154 c155 l156
  refine ((HC2.out _ HY138.out).2.1 HY137.out).mono ?_
  rintro e w157 ⟨Bz, kz, Rz, rfl, hlz, hoz, hb158⟩
  have HLz := Lib.hid hlz
  obtain ⟨Mz, hMz⟩ : ∃ N, Rz.length = N := ⟨_, rfl⟩
  rw [hMz]
  have HMz := Lib.hid hMz
  have HSz := Lib.hid (ls_of (Rs := Rz) (T := 100000) hlz HSZ.out)
  have HOXz := Lib.hid hoz
  clear hlz hoz hMz
  have HF159 := Lib.hid (bext HF132.out hb158)
  have HX160 := Lib.hid (HX133.out.below hb158 HX133.out.lt)
  have HX161 := Lib.hid (HX134.out.below hb158 HX134.out.lt)
  have HX162 := Lib.hid (HX135.out.below hb158 HX135.out.lt)
  have HX163 := Lib.hid (HX144.out.below hb158 HX144.out.lt)
  have HY164 := Lib.hid (RunsAt.below HY136.out hb158)
  have HY165 := Lib.hid (tab_below (tab_lt HY137.out) HY137.out hb158)
  have HY166 := Lib.hid (RunsAt.below HY138.out hb158)
  have HY167 := Lib.hid (bext HY139.out hb158)
  have HY168 := Lib.hid (OwnRs.below HY140.out hb158)
  have HY169 := Lib.hid (bext HY141.out hb158)
  have HY170 := Lib.hid (RunsAt.below HY142.out hb158)
  clear HF132 HX133 HX134 HX135 HX144 HY136 HY137 HY138 HY139 HY140 HY141 HY142
  clear hb158
  have HY171 := Lib.hid (HOXz.out)
  have HY172 := Lib.hid ((Below.refl w157.heap.size w157))
  have hgx := HY169.out.size
  have hgz := HY172.out.size
  go_upto_region 7 with fail
  obtain ⟨U173, h175⟩ : ∃ U, w157.alloc (.cells #[.int .u8 cz2.tag, .int .i64 cz2.most, .int .i64 cz2.seg, .int .i64 cz2.least, .int .i64 cz2.den, .int .i64 cz2.leafLow, .int .i64 cz2.rootLow, .int .i64 cz2.rootHigh, .int .i64 cz2.leafHigh, .slice Bz Mz kz, .int .u64 Nz] 29) = U := ⟨_, rfl⟩
  have ba176 : Below w157.heap.size w157 U173 := by rw [← h175]; exact (Below.refl _ _).alloc (Nat.le_refl _) _
  have bn177 : Blk U173 w157.heap.size 29 #[.int .u8 cz2.tag, .int .i64 cz2.most, .int .i64 cz2.seg, .int .i64 cz2.least, .int .i64 cz2.den, .int .i64 cz2.leafLow, .int .i64 cz2.rootLow, .int .i64 cz2.rootHigh, .int .i64 cz2.leafHigh, .slice Bz Mz kz, .int .u64 Nz] := by rw [← h175]; exact Blk.new _ _ _
  try rw [h175]
  have HF178 := Lib.hid (bext HF159.out ba176)
  have HX179 := Lib.hid (HX160.out.below ba176 HX160.out.lt)
  have HX180 := Lib.hid (HX161.out.below ba176 HX161.out.lt)
  have HX181 := Lib.hid (HX162.out.below ba176 HX162.out.lt)
  have HX182 := Lib.hid (HX163.out.below ba176 HX163.out.lt)
  have HY183 := Lib.hid (RunsAt.below HY164.out ba176)
  have HY184 := Lib.hid (tab_below (tab_lt HY165.out) HY165.out ba176)
  have HY185 := Lib.hid (RunsAt.below HY166.out ba176)
  have HY186 := Lib.hid (bext HY167.out ba176)
  have HY187 := Lib.hid (OwnRs.below HY168.out ba176)
  have HY188 := Lib.hid (bext HY169.out ba176)
  have HY189 := Lib.hid (RunsAt.below HY170.out ba176)
  have HY190 := Lib.hid (OwnRs.below HY171.out ba176)
  have HY191 := Lib.hid (bext HY172.out ba176)
  clear HF159 HX160 HX161 HX162 HX163 HY164 HY165 HY166 HY167 HY168 HY169 HY170 HY171 HY172
  obtain ⟨g174, h192⟩ : ∃ g, w157.heap.size = g := ⟨_, rfl⟩
  rw [h192] at bn177
  try rw [h192]
  have HX193 := Lib.hid bn177
  have HGxz := Lib.hid (show w75.heap.size ≤ g174 by rw [← h192]; exact hgx)
  clear hgx
  have HGzz := Lib.hid (show w157.heap.size ≤ g174 by rw [← h192]; exact hgz)
  clear hgz
  clear h175 ba176 bn177 h192
  have c194 : U173.cell? ⟨g4, 0, none⟩ = some (.int .u8 c.tag) := HX179.out.cell 0
  have c195 : U173.cell? ⟨g4, 1, none⟩ = some (.int .i64 c.most) := HX179.out.cell 1
  have c196 : U173.cell? ⟨g4, 2, none⟩ = some (.int .i64 c.seg) := HX179.out.cell 2
  have c197 : U173.cell? ⟨g4, 3, none⟩ = some (.int .i64 c.least) := HX179.out.cell 3
  have c198 : U173.cell? ⟨g4, 4, none⟩ = some (.int .i64 c.den) := HX179.out.cell 4
  have c199 : U173.cell? ⟨g4, 5, none⟩ = some (.int .i64 c.leafLow) := HX179.out.cell 5
  have c200 : U173.cell? ⟨g4, 6, none⟩ = some (.int .i64 c.rootLow) := HX179.out.cell 6
  have c201 : U173.cell? ⟨g4, 7, none⟩ = some (.int .i64 c.rootHigh) := HX179.out.cell 7
  have c202 : U173.cell? ⟨g4, 8, none⟩ = some (.int .i64 c.leafHigh) := HX179.out.cell 8
  have c203 : U173.cell? ⟨g4, 9, none⟩ = some (.slice B Rs.length k) := HX179.out.cell 9
  have c204 : U173.cell? ⟨g4, 10, none⟩ = some (.int .u64 n) := HX179.out.cell 10
  have l205 : g4 < U173.heap.size := HX179.out.lt
  go_wp2_with fail
  clear c194 c195 c196 c197 c198 c199 c200 c201 c202 c203 c204 l205
  refine ((HREF.out _ HY183.out).2.1).mono ?_
  rintro e w206 ⟨Bv, kv, Rv, rfl, hlv, hov, hb207⟩
  have HLv := Lib.hid hlv
  obtain ⟨Mv, hMv⟩ : ∃ N, Rv.length = N := ⟨_, rfl⟩
  rw [hMv]
  have HMv := Lib.hid hMv
  have HSv := Lib.hid (ls_of (Rs := Rv) (T := 100000) hlv HSZ.out)
  have HOXv := Lib.hid hov
  clear hlv hov hMv
  have HF208 := Lib.hid (bext HF178.out hb207)
  have HX209 := Lib.hid (HX179.out.below hb207 HX179.out.lt)
  have HX210 := Lib.hid (HX180.out.below hb207 HX180.out.lt)
  have HX211 := Lib.hid (HX181.out.below hb207 HX181.out.lt)
  have HX212 := Lib.hid (HX182.out.below hb207 HX182.out.lt)
  have HX213 := Lib.hid (HX193.out.below hb207 HX193.out.lt)
  have HY214 := Lib.hid (RunsAt.below HY183.out hb207)
  have HY215 := Lib.hid (tab_below (tab_lt HY184.out) HY184.out hb207)
  have HY216 := Lib.hid (RunsAt.below HY185.out hb207)
  have HY217 := Lib.hid (bext HY186.out hb207)
  have HY218 := Lib.hid (OwnRs.below HY187.out hb207)
  have HY219 := Lib.hid (bext HY188.out hb207)
  have HY220 := Lib.hid (RunsAt.below HY189.out hb207)
  have HY221 := Lib.hid (OwnRs.below HY190.out hb207)
  have HY222 := Lib.hid (bext HY191.out hb207)
  clear HF178 HX179 HX180 HX181 HX182 HX193 HY183 HY184 HY185 HY186 HY187 HY188 HY189 HY190 HY191
  clear hb207
  have HY223 := Lib.hid (HOXv.out.runsAt)
  clear HOXv
  go_upto_region 8 with fail
  obtain ⟨U224, h226⟩ : ∃ U, w206.alloc (.cells #[.int .u8 cz2.tag, .int .i64 cz2.most, .int .i64 cz2.seg, .int .i64 cz2.least, .int .i64 cz2.den, .int .i64 cz2.leafLow, .int .i64 cz2.rootLow, .int .i64 cz2.rootHigh, .int .i64 cz2.leafHigh, .slice Bv Mv kv, .int .u64 Nz] 29) = U := ⟨_, rfl⟩
  have ba227 : Below w206.heap.size w206 U224 := by rw [← h226]; exact (Below.refl _ _).alloc (Nat.le_refl _) _
  have bn228 : Blk U224 w206.heap.size 29 #[.int .u8 cz2.tag, .int .i64 cz2.most, .int .i64 cz2.seg, .int .i64 cz2.least, .int .i64 cz2.den, .int .i64 cz2.leafLow, .int .i64 cz2.rootLow, .int .i64 cz2.rootHigh, .int .i64 cz2.leafHigh, .slice Bv Mv kv, .int .u64 Nz] := by rw [← h226]; exact Blk.new _ _ _
  try rw [h226]
  have HF229 := Lib.hid (bext HF208.out ba227)
  have HX230 := Lib.hid (HX209.out.below ba227 HX209.out.lt)
  have HX231 := Lib.hid (HX210.out.below ba227 HX210.out.lt)
  have HX232 := Lib.hid (HX211.out.below ba227 HX211.out.lt)
  have HX233 := Lib.hid (HX212.out.below ba227 HX212.out.lt)
  have HX234 := Lib.hid (HX213.out.below ba227 HX213.out.lt)
  have HY235 := Lib.hid (RunsAt.below HY214.out ba227)
  have HY236 := Lib.hid (tab_below (tab_lt HY215.out) HY215.out ba227)
  have HY237 := Lib.hid (RunsAt.below HY216.out ba227)
  have HY238 := Lib.hid (bext HY217.out ba227)
  have HY239 := Lib.hid (OwnRs.below HY218.out ba227)
  have HY240 := Lib.hid (bext HY219.out ba227)
  have HY241 := Lib.hid (RunsAt.below HY220.out ba227)
  have HY242 := Lib.hid (OwnRs.below HY221.out ba227)
  have HY243 := Lib.hid (bext HY222.out ba227)
  have HY244 := Lib.hid (RunsAt.below HY223.out ba227)
  clear HF208 HX209 HX210 HX211 HX212 HX213 HY214 HY215 HY216 HY217 HY218 HY219 HY220 HY221 HY222 HY223
  obtain ⟨g225, h245⟩ : ∃ g, w206.heap.size = g := ⟨_, rfl⟩
  rw [h245] at bn228
  try rw [h245]
  have HX246 := Lib.hid bn228
  clear h226 ba227 bn228 h245
  have HAxa := Lib.hid HY240.out.size
  have HAza := Lib.hid HY243.out.size
  have HUa := Lib.hid HY238.out.size
  have c247 : U224.cell? ⟨g51, 0, none⟩ = some (.int .u8 c.tag) := HX231.out.cell 0
  have c248 : U224.cell? ⟨g51, 1, none⟩ = some (.int .i64 c.most) := HX231.out.cell 1
  have c249 : U224.cell? ⟨g51, 2, none⟩ = some (.int .i64 c.seg) := HX231.out.cell 2
  have c250 : U224.cell? ⟨g51, 3, none⟩ = some (.int .i64 c.least) := HX231.out.cell 3
  have c251 : U224.cell? ⟨g51, 4, none⟩ = some (.int .i64 c.den) := HX231.out.cell 4
  have c252 : U224.cell? ⟨g51, 5, none⟩ = some (.int .i64 c.leafLow) := HX231.out.cell 5
  have c253 : U224.cell? ⟨g51, 6, none⟩ = some (.int .i64 c.rootLow) := HX231.out.cell 6
  have c254 : U224.cell? ⟨g51, 7, none⟩ = some (.int .i64 c.rootHigh) := HX231.out.cell 7
  have c255 : U224.cell? ⟨g51, 8, none⟩ = some (.int .i64 c.leafHigh) := HX231.out.cell 8
  have c256 : U224.cell? ⟨g51, 9, none⟩ = some (.slice B2 Rs.length k2) := HX231.out.cell 9
  have c257 : U224.cell? ⟨g51, 10, none⟩ = some (.int .u64 n) := HX231.out.cell 10
  have l258 : g51 < U224.heap.size := HX231.out.lt
  go_wp2_with fail
  clear c247 c248 c249 c250 c251 c252 c253 c254 c255 c256 c257 l258
  refine ((HC2.out _ HY237.out).2.2).mono ?_
  rintro e w259 ⟨Ba, ka, Ra, rfl, hla, hoa, hb260⟩
  have HLa := Lib.hid hla
  obtain ⟨Ma, hMa⟩ : ∃ N, Ra.length = N := ⟨_, rfl⟩
  rw [hMa]
  have HMa := Lib.hid hMa
  have HSa := Lib.hid (ls_of (Rs := Ra) (T := 100000) hla HSA.out)
  have HOXa := Lib.hid hoa
  clear hla hoa hMa
  have HF261 := Lib.hid (bext HF229.out hb260)
  have HX262 := Lib.hid (HX230.out.below hb260 HX230.out.lt)
  have HX263 := Lib.hid (HX231.out.below hb260 HX231.out.lt)
  have HX264 := Lib.hid (HX232.out.below hb260 HX232.out.lt)
  have HX265 := Lib.hid (HX233.out.below hb260 HX233.out.lt)
  have HX266 := Lib.hid (HX234.out.below hb260 HX234.out.lt)
  have HX267 := Lib.hid (HX246.out.below hb260 HX246.out.lt)
  have HY268 := Lib.hid (RunsAt.below HY235.out hb260)
  have HY269 := Lib.hid (tab_below (tab_lt HY236.out) HY236.out hb260)
  have HY270 := Lib.hid (RunsAt.below HY237.out hb260)
  have HY271 := Lib.hid (bext HY238.out hb260)
  have HY272 := Lib.hid (OwnRs.below HY239.out hb260)
  have HY273 := Lib.hid (bext HY240.out hb260)
  have HY274 := Lib.hid (RunsAt.below HY241.out hb260)
  have HY275 := Lib.hid (OwnRs.below HY242.out hb260)
  have HY276 := Lib.hid (bext HY243.out hb260)
  have HY277 := Lib.hid (RunsAt.below HY244.out hb260)
  clear HF229 HX230 HX231 HX232 HX233 HX234 HX246 HY235 HY236 HY237 HY238 HY239 HY240 HY241 HY242 HY243 HY244
  clear hb260
  have HY278 := Lib.hid (HOXa.out)
  have HY279 := Lib.hid ((Below.refl w259.heap.size w259))
  have hgx := HY273.out.size
  have hgz := HY276.out.size
  have hga := HY279.out.size
  go_upto_region 9 with fail
  obtain ⟨U280, h282⟩ : ∃ U, w259.alloc (.cells #[.int .u8 cca.tag, .int .i64 cca.most, .int .i64 cca.seg, .int .i64 cca.least, .int .i64 cca.den, .int .i64 cca.leafLow, .int .i64 cca.rootLow, .int .i64 cca.rootHigh, .int .i64 cca.leafHigh, .slice Ba Ma ka, .int .u64 Na] 29) = U := ⟨_, rfl⟩
  have ba283 : Below w259.heap.size w259 U280 := by rw [← h282]; exact (Below.refl _ _).alloc (Nat.le_refl _) _
  have bn284 : Blk U280 w259.heap.size 29 #[.int .u8 cca.tag, .int .i64 cca.most, .int .i64 cca.seg, .int .i64 cca.least, .int .i64 cca.den, .int .i64 cca.leafLow, .int .i64 cca.rootLow, .int .i64 cca.rootHigh, .int .i64 cca.leafHigh, .slice Ba Ma ka, .int .u64 Na] := by rw [← h282]; exact Blk.new _ _ _
  try rw [h282]
  have HF285 := Lib.hid (bext HF261.out ba283)
  have HX286 := Lib.hid (HX262.out.below ba283 HX262.out.lt)
  have HX287 := Lib.hid (HX263.out.below ba283 HX263.out.lt)
  have HX288 := Lib.hid (HX264.out.below ba283 HX264.out.lt)
  have HX289 := Lib.hid (HX265.out.below ba283 HX265.out.lt)
  have HX290 := Lib.hid (HX266.out.below ba283 HX266.out.lt)
  have HX291 := Lib.hid (HX267.out.below ba283 HX267.out.lt)
  have HY292 := Lib.hid (RunsAt.below HY268.out ba283)
  have HY293 := Lib.hid (tab_below (tab_lt HY269.out) HY269.out ba283)
  have HY294 := Lib.hid (RunsAt.below HY270.out ba283)
  have HY295 := Lib.hid (bext HY271.out ba283)
  have HY296 := Lib.hid (OwnRs.below HY272.out ba283)
  have HY297 := Lib.hid (bext HY273.out ba283)
  have HY298 := Lib.hid (RunsAt.below HY274.out ba283)
  have HY299 := Lib.hid (OwnRs.below HY275.out ba283)
  have HY300 := Lib.hid (bext HY276.out ba283)
  have HY301 := Lib.hid (RunsAt.below HY277.out ba283)
  have HY302 := Lib.hid (OwnRs.below HY278.out ba283)
  have HY303 := Lib.hid (bext HY279.out ba283)
  clear HF261 HX262 HX263 HX264 HX265 HX266 HX267 HY268 HY269 HY270 HY271 HY272 HY273 HY274 HY275 HY276 HY277 HY278 HY279
  obtain ⟨g281, h304⟩ : ∃ g, w259.heap.size = g := ⟨_, rfl⟩
  rw [h304] at bn284
  try rw [h304]
  have HX305 := Lib.hid bn284
  have HGxa := Lib.hid (show w75.heap.size ≤ g281 by rw [← h304]; exact hgx)
  clear hgx
  have HGza := Lib.hid (show w157.heap.size ≤ g281 by rw [← h304]; exact hgz)
  clear hgz
  have HGaa := Lib.hid (show w259.heap.size ≤ g281 by rw [← h304]; exact hga)
  clear hga
  clear h282 ba283 bn284 h304
  have c306 : U280.cell? ⟨g4, 0, none⟩ = some (.int .u8 c.tag) := HX286.out.cell 0
  have c307 : U280.cell? ⟨g4, 1, none⟩ = some (.int .i64 c.most) := HX286.out.cell 1
  have c308 : U280.cell? ⟨g4, 2, none⟩ = some (.int .i64 c.seg) := HX286.out.cell 2
  have c309 : U280.cell? ⟨g4, 3, none⟩ = some (.int .i64 c.least) := HX286.out.cell 3
  have c310 : U280.cell? ⟨g4, 4, none⟩ = some (.int .i64 c.den) := HX286.out.cell 4
  have c311 : U280.cell? ⟨g4, 5, none⟩ = some (.int .i64 c.leafLow) := HX286.out.cell 5
  have c312 : U280.cell? ⟨g4, 6, none⟩ = some (.int .i64 c.rootLow) := HX286.out.cell 6
  have c313 : U280.cell? ⟨g4, 7, none⟩ = some (.int .i64 c.rootHigh) := HX286.out.cell 7
  have c314 : U280.cell? ⟨g4, 8, none⟩ = some (.int .i64 c.leafHigh) := HX286.out.cell 8
  have c315 : U280.cell? ⟨g4, 9, none⟩ = some (.slice B Rs.length k) := HX286.out.cell 9
  have c316 : U280.cell? ⟨g4, 10, none⟩ = some (.int .u64 n) := HX286.out.cell 10
  have l317 : g4 < U280.heap.size := HX286.out.lt
  go_wp2_with fail
  clear c306 c307 c308 c309 c310 c311 c312 c313 c314 c315 c316 l317
  refine ((HREF.out _ HY292.out).2.2).mono ?_
  rintro e w318 ⟨Bb, kb, Rb, rfl, hlb, hob, hb319⟩
  have HLb := Lib.hid hlb
  obtain ⟨Mb, hMb⟩ : ∃ N, Rb.length = N := ⟨_, rfl⟩
  rw [hMb]
  have HMb := Lib.hid hMb
  have HSb := Lib.hid (ls_of (Rs := Rb) (T := 100000) hlb HSA.out)
  have HOXb := Lib.hid hob
  clear hlb hob hMb
  have HF320 := Lib.hid (bext HF285.out hb319)
  have HX321 := Lib.hid (HX286.out.below hb319 HX286.out.lt)
  have HX322 := Lib.hid (HX287.out.below hb319 HX287.out.lt)
  have HX323 := Lib.hid (HX288.out.below hb319 HX288.out.lt)
  have HX324 := Lib.hid (HX289.out.below hb319 HX289.out.lt)
  have HX325 := Lib.hid (HX290.out.below hb319 HX290.out.lt)
  have HX326 := Lib.hid (HX291.out.below hb319 HX291.out.lt)
  have HX327 := Lib.hid (HX305.out.below hb319 HX305.out.lt)
  have HY328 := Lib.hid (RunsAt.below HY292.out hb319)
  have HY329 := Lib.hid (tab_below (tab_lt HY293.out) HY293.out hb319)
  have HY330 := Lib.hid (RunsAt.below HY294.out hb319)
  have HY331 := Lib.hid (bext HY295.out hb319)
  have HY332 := Lib.hid (OwnRs.below HY296.out hb319)
  have HY333 := Lib.hid (bext HY297.out hb319)
  have HY334 := Lib.hid (RunsAt.below HY298.out hb319)
  have HY335 := Lib.hid (OwnRs.below HY299.out hb319)
  have HY336 := Lib.hid (bext HY300.out hb319)
  have HY337 := Lib.hid (RunsAt.below HY301.out hb319)
  have HY338 := Lib.hid (OwnRs.below HY302.out hb319)
  have HY339 := Lib.hid (bext HY303.out hb319)
  clear HF285 HX286 HX287 HX288 HX289 HX290 HX291 HX305 HY292 HY293 HY294 HY295 HY296 HY297 HY298 HY299 HY300 HY301 HY302 HY303
  clear hb319
  have HY340 := Lib.hid (HOXb.out.runsAt)
  clear HOXb
  go_upto_region 10 with fail
  obtain ⟨U341, h343⟩ : ∃ U, w318.alloc (.cells #[.int .u8 cca.tag, .int .i64 cca.most, .int .i64 cca.seg, .int .i64 cca.least, .int .i64 cca.den, .int .i64 cca.leafLow, .int .i64 cca.rootLow, .int .i64 cca.rootHigh, .int .i64 cca.leafHigh, .slice Bb Mb kb, .int .u64 Na] 29) = U := ⟨_, rfl⟩
  have ba344 : Below w318.heap.size w318 U341 := by rw [← h343]; exact (Below.refl _ _).alloc (Nat.le_refl _) _
  have bn345 : Blk U341 w318.heap.size 29 #[.int .u8 cca.tag, .int .i64 cca.most, .int .i64 cca.seg, .int .i64 cca.least, .int .i64 cca.den, .int .i64 cca.leafLow, .int .i64 cca.rootLow, .int .i64 cca.rootHigh, .int .i64 cca.leafHigh, .slice Bb Mb kb, .int .u64 Na] := by rw [← h343]; exact Blk.new _ _ _
  try rw [h343]
  have HF346 := Lib.hid (bext HF320.out ba344)
  have HX347 := Lib.hid (HX321.out.below ba344 HX321.out.lt)
  have HX348 := Lib.hid (HX322.out.below ba344 HX322.out.lt)
  have HX349 := Lib.hid (HX323.out.below ba344 HX323.out.lt)
  have HX350 := Lib.hid (HX324.out.below ba344 HX324.out.lt)
  have HX351 := Lib.hid (HX325.out.below ba344 HX325.out.lt)
  have HX352 := Lib.hid (HX326.out.below ba344 HX326.out.lt)
  have HX353 := Lib.hid (HX327.out.below ba344 HX327.out.lt)
  have HY354 := Lib.hid (RunsAt.below HY328.out ba344)
  have HY355 := Lib.hid (tab_below (tab_lt HY329.out) HY329.out ba344)
  have HY356 := Lib.hid (RunsAt.below HY330.out ba344)
  have HY357 := Lib.hid (bext HY331.out ba344)
  have HY358 := Lib.hid (OwnRs.below HY332.out ba344)
  have HY359 := Lib.hid (bext HY333.out ba344)
  have HY360 := Lib.hid (RunsAt.below HY334.out ba344)
  have HY361 := Lib.hid (OwnRs.below HY335.out ba344)
  have HY362 := Lib.hid (bext HY336.out ba344)
  have HY363 := Lib.hid (RunsAt.below HY337.out ba344)
  have HY364 := Lib.hid (OwnRs.below HY338.out ba344)
  have HY365 := Lib.hid (bext HY339.out ba344)
  have HY366 := Lib.hid (RunsAt.below HY340.out ba344)
  clear HF320 HX321 HX322 HX323 HX324 HX325 HX326 HX327 HY328 HY329 HY330 HY331 HY332 HY333 HY334 HY335 HY336 HY337 HY338 HY339 HY340
  obtain ⟨g342, h367⟩ : ∃ g, w318.heap.size = g := ⟨_, rfl⟩
  rw [h367] at bn345
  try rw [h367]
  have HX368 := Lib.hid bn345
  clear h343 ba344 bn345 h367
  have c369 : U341.cell? ⟨g87, 0, none⟩ = some (.int .u8 cx.tag) := HX349.out.cell 0
  have c370 : U341.cell? ⟨g87, 1, none⟩ = some (.int .i64 cx.most) := HX349.out.cell 1
  have c371 : U341.cell? ⟨g87, 2, none⟩ = some (.int .i64 cx.seg) := HX349.out.cell 2
  have c372 : U341.cell? ⟨g87, 3, none⟩ = some (.int .i64 cx.least) := HX349.out.cell 3
  have c373 : U341.cell? ⟨g87, 4, none⟩ = some (.int .i64 cx.den) := HX349.out.cell 4
  have c374 : U341.cell? ⟨g87, 5, none⟩ = some (.int .i64 cx.leafLow) := HX349.out.cell 5
  have c375 : U341.cell? ⟨g87, 6, none⟩ = some (.int .i64 cx.rootLow) := HX349.out.cell 6
  have c376 : U341.cell? ⟨g87, 7, none⟩ = some (.int .i64 cx.rootHigh) := HX349.out.cell 7
  have c377 : U341.cell? ⟨g87, 8, none⟩ = some (.int .i64 cx.leafHigh) := HX349.out.cell 8
  have c378 : U341.cell? ⟨g87, 9, none⟩ = some (.slice Bx Mx kx) := HX349.out.cell 9
  have c379 : U341.cell? ⟨g87, 10, none⟩ = some (.int .u64 Nx) := HX349.out.cell 10
  have l380 : g87 < U341.heap.size := HX349.out.lt
  have c381 : U341.cell? ⟨g128, 0, none⟩ = some (.int .u8 cx.tag) := HX350.out.cell 0
  have c382 : U341.cell? ⟨g128, 1, none⟩ = some (.int .i64 cx.most) := HX350.out.cell 1
  have c383 : U341.cell? ⟨g128, 2, none⟩ = some (.int .i64 cx.seg) := HX350.out.cell 2
  have c384 : U341.cell? ⟨g128, 3, none⟩ = some (.int .i64 cx.least) := HX350.out.cell 3
  have c385 : U341.cell? ⟨g128, 4, none⟩ = some (.int .i64 cx.den) := HX350.out.cell 4
  have c386 : U341.cell? ⟨g128, 5, none⟩ = some (.int .i64 cx.leafLow) := HX350.out.cell 5
  have c387 : U341.cell? ⟨g128, 6, none⟩ = some (.int .i64 cx.rootLow) := HX350.out.cell 6
  have c388 : U341.cell? ⟨g128, 7, none⟩ = some (.int .i64 cx.rootHigh) := HX350.out.cell 7
  have c389 : U341.cell? ⟨g128, 8, none⟩ = some (.int .i64 cx.leafHigh) := HX350.out.cell 8
  have c390 : U341.cell? ⟨g128, 9, none⟩ = some (.slice By My ky) := HX350.out.cell 9
  have c391 : U341.cell? ⟨g128, 10, none⟩ = some (.int .u64 Nx) := HX350.out.cell 10
  have l392 : g128 < U341.heap.size := HX350.out.lt
  go_wp2_with fail
  clear c369 c370 c371 c372 c373 c374 c375 c376 c377 c378 c379 l380 c381 c382 c383 c384 c385 c386 c387 c388 c389 c390 c391 l392
  have hsm := same27_any cx cx Bx By Rx Ry Mx My kx ky Nx Nx _ HMx.out HMy.out HY358.out.runsAt HY360.out HSx.out.1 HSx.out.2 HSy.out.2
  rw [HLx.out, HLy.out, sameB_self] at hsm
  have HSMx := Lib.hid hsm
  clear hsm
  refine (HSMx.out).mono ?_
  rintro e w393 ⟨rfl, hb394⟩
  have HF395 := Lib.hid (bext HF346.out hb394)
  have HX396 := Lib.hid (HX347.out.below hb394 HX347.out.lt)
  have HX397 := Lib.hid (HX348.out.below hb394 HX348.out.lt)
  have HX398 := Lib.hid (HX349.out.below hb394 HX349.out.lt)
  have HX399 := Lib.hid (HX350.out.below hb394 HX350.out.lt)
  have HX400 := Lib.hid (HX351.out.below hb394 HX351.out.lt)
  have HX401 := Lib.hid (HX352.out.below hb394 HX352.out.lt)
  have HX402 := Lib.hid (HX353.out.below hb394 HX353.out.lt)
  have HX403 := Lib.hid (HX368.out.below hb394 HX368.out.lt)
  have HY404 := Lib.hid (RunsAt.below HY354.out hb394)
  have HY405 := Lib.hid (tab_below (tab_lt HY355.out) HY355.out hb394)
  have HY406 := Lib.hid (RunsAt.below HY356.out hb394)
  have HY407 := Lib.hid (bext HY357.out hb394)
  have HY408 := Lib.hid (OwnRs.below HY358.out hb394)
  have HY409 := Lib.hid (bext HY359.out hb394)
  have HY410 := Lib.hid (RunsAt.below HY360.out hb394)
  have HY411 := Lib.hid (OwnRs.below HY361.out hb394)
  have HY412 := Lib.hid (bext HY362.out hb394)
  have HY413 := Lib.hid (RunsAt.below HY363.out hb394)
  have HY414 := Lib.hid (OwnRs.below HY364.out hb394)
  have HY415 := Lib.hid (bext HY365.out hb394)
  have HY416 := Lib.hid (RunsAt.below HY366.out hb394)
  clear HF346 HX347 HX348 HX349 HX350 HX351 HX352 HX353 HX368 HY354 HY355 HY356 HY357 HY358 HY359 HY360 HY361 HY362 HY363 HY364 HY365 HY366
  clear hb394
  clear HSMx
  have c417 : w393.cell? ⟨g174, 0, none⟩ = some (.int .u8 cz2.tag) := HX400.out.cell 0
  have c418 : w393.cell? ⟨g174, 1, none⟩ = some (.int .i64 cz2.most) := HX400.out.cell 1
  have c419 : w393.cell? ⟨g174, 2, none⟩ = some (.int .i64 cz2.seg) := HX400.out.cell 2
  have c420 : w393.cell? ⟨g174, 3, none⟩ = some (.int .i64 cz2.least) := HX400.out.cell 3
  have c421 : w393.cell? ⟨g174, 4, none⟩ = some (.int .i64 cz2.den) := HX400.out.cell 4
  have c422 : w393.cell? ⟨g174, 5, none⟩ = some (.int .i64 cz2.leafLow) := HX400.out.cell 5
  have c423 : w393.cell? ⟨g174, 6, none⟩ = some (.int .i64 cz2.rootLow) := HX400.out.cell 6
  have c424 : w393.cell? ⟨g174, 7, none⟩ = some (.int .i64 cz2.rootHigh) := HX400.out.cell 7
  have c425 : w393.cell? ⟨g174, 8, none⟩ = some (.int .i64 cz2.leafHigh) := HX400.out.cell 8
  have c426 : w393.cell? ⟨g174, 9, none⟩ = some (.slice Bz Mz kz) := HX400.out.cell 9
  have c427 : w393.cell? ⟨g174, 10, none⟩ = some (.int .u64 Nz) := HX400.out.cell 10
  have l428 : g174 < w393.heap.size := HX400.out.lt
  have c429 : w393.cell? ⟨g225, 0, none⟩ = some (.int .u8 cz2.tag) := HX401.out.cell 0
  have c430 : w393.cell? ⟨g225, 1, none⟩ = some (.int .i64 cz2.most) := HX401.out.cell 1
  have c431 : w393.cell? ⟨g225, 2, none⟩ = some (.int .i64 cz2.seg) := HX401.out.cell 2
  have c432 : w393.cell? ⟨g225, 3, none⟩ = some (.int .i64 cz2.least) := HX401.out.cell 3
  have c433 : w393.cell? ⟨g225, 4, none⟩ = some (.int .i64 cz2.den) := HX401.out.cell 4
  have c434 : w393.cell? ⟨g225, 5, none⟩ = some (.int .i64 cz2.leafLow) := HX401.out.cell 5
  have c435 : w393.cell? ⟨g225, 6, none⟩ = some (.int .i64 cz2.rootLow) := HX401.out.cell 6
  have c436 : w393.cell? ⟨g225, 7, none⟩ = some (.int .i64 cz2.rootHigh) := HX401.out.cell 7
  have c437 : w393.cell? ⟨g225, 8, none⟩ = some (.int .i64 cz2.leafHigh) := HX401.out.cell 8
  have c438 : w393.cell? ⟨g225, 9, none⟩ = some (.slice Bv Mv kv) := HX401.out.cell 9
  have c439 : w393.cell? ⟨g225, 10, none⟩ = some (.int .u64 Nz) := HX401.out.cell 10
  have l440 : g225 < w393.heap.size := HX401.out.lt
  go_wp2_with fail
  clear c417 c418 c419 c420 c421 c422 c423 c424 c425 c426 c427 l428 c429 c430 c431 c432 c433 c434 c435 c436 c437 c438 c439 l440
  have hsm := same27_any cz2 cz2 Bz Bv Rz Rv Mz Mv kz kv Nz Nz _ HMz.out HMv.out HY411.out.runsAt HY413.out HSz.out.1 HSz.out.2 HSv.out.2
  rw [HLz.out, HLv.out, sameB_self] at hsm
  have HSMz := Lib.hid hsm
  clear hsm
  refine (HSMz.out).mono ?_
  rintro e w441 ⟨rfl, hb442⟩
  have HF443 := Lib.hid (bext HF395.out hb442)
  have HX444 := Lib.hid (HX396.out.below hb442 HX396.out.lt)
  have HX445 := Lib.hid (HX397.out.below hb442 HX397.out.lt)
  have HX446 := Lib.hid (HX398.out.below hb442 HX398.out.lt)
  have HX447 := Lib.hid (HX399.out.below hb442 HX399.out.lt)
  have HX448 := Lib.hid (HX400.out.below hb442 HX400.out.lt)
  have HX449 := Lib.hid (HX401.out.below hb442 HX401.out.lt)
  have HX450 := Lib.hid (HX402.out.below hb442 HX402.out.lt)
  have HX451 := Lib.hid (HX403.out.below hb442 HX403.out.lt)
  have HY452 := Lib.hid (RunsAt.below HY404.out hb442)
  have HY453 := Lib.hid (tab_below (tab_lt HY405.out) HY405.out hb442)
  have HY454 := Lib.hid (RunsAt.below HY406.out hb442)
  have HY455 := Lib.hid (bext HY407.out hb442)
  have HY456 := Lib.hid (OwnRs.below HY408.out hb442)
  have HY457 := Lib.hid (bext HY409.out hb442)
  have HY458 := Lib.hid (RunsAt.below HY410.out hb442)
  have HY459 := Lib.hid (OwnRs.below HY411.out hb442)
  have HY460 := Lib.hid (bext HY412.out hb442)
  have HY461 := Lib.hid (RunsAt.below HY413.out hb442)
  have HY462 := Lib.hid (OwnRs.below HY414.out hb442)
  have HY463 := Lib.hid (bext HY415.out hb442)
  have HY464 := Lib.hid (RunsAt.below HY416.out hb442)
  clear HF395 HX396 HX397 HX398 HX399 HX400 HX401 HX402 HX403 HY404 HY405 HY406 HY407 HY408 HY409 HY410 HY411 HY412 HY413 HY414 HY415 HY416
  clear hb442
  clear HSMz
  have c465 : w441.cell? ⟨g281, 0, none⟩ = some (.int .u8 cca.tag) := HX450.out.cell 0
  have c466 : w441.cell? ⟨g281, 1, none⟩ = some (.int .i64 cca.most) := HX450.out.cell 1
  have c467 : w441.cell? ⟨g281, 2, none⟩ = some (.int .i64 cca.seg) := HX450.out.cell 2
  have c468 : w441.cell? ⟨g281, 3, none⟩ = some (.int .i64 cca.least) := HX450.out.cell 3
  have c469 : w441.cell? ⟨g281, 4, none⟩ = some (.int .i64 cca.den) := HX450.out.cell 4
  have c470 : w441.cell? ⟨g281, 5, none⟩ = some (.int .i64 cca.leafLow) := HX450.out.cell 5
  have c471 : w441.cell? ⟨g281, 6, none⟩ = some (.int .i64 cca.rootLow) := HX450.out.cell 6
  have c472 : w441.cell? ⟨g281, 7, none⟩ = some (.int .i64 cca.rootHigh) := HX450.out.cell 7
  have c473 : w441.cell? ⟨g281, 8, none⟩ = some (.int .i64 cca.leafHigh) := HX450.out.cell 8
  have c474 : w441.cell? ⟨g281, 9, none⟩ = some (.slice Ba Ma ka) := HX450.out.cell 9
  have c475 : w441.cell? ⟨g281, 10, none⟩ = some (.int .u64 Na) := HX450.out.cell 10
  have l476 : g281 < w441.heap.size := HX450.out.lt
  have c477 : w441.cell? ⟨g342, 0, none⟩ = some (.int .u8 cca.tag) := HX451.out.cell 0
  have c478 : w441.cell? ⟨g342, 1, none⟩ = some (.int .i64 cca.most) := HX451.out.cell 1
  have c479 : w441.cell? ⟨g342, 2, none⟩ = some (.int .i64 cca.seg) := HX451.out.cell 2
  have c480 : w441.cell? ⟨g342, 3, none⟩ = some (.int .i64 cca.least) := HX451.out.cell 3
  have c481 : w441.cell? ⟨g342, 4, none⟩ = some (.int .i64 cca.den) := HX451.out.cell 4
  have c482 : w441.cell? ⟨g342, 5, none⟩ = some (.int .i64 cca.leafLow) := HX451.out.cell 5
  have c483 : w441.cell? ⟨g342, 6, none⟩ = some (.int .i64 cca.rootLow) := HX451.out.cell 6
  have c484 : w441.cell? ⟨g342, 7, none⟩ = some (.int .i64 cca.rootHigh) := HX451.out.cell 7
  have c485 : w441.cell? ⟨g342, 8, none⟩ = some (.int .i64 cca.leafHigh) := HX451.out.cell 8
  have c486 : w441.cell? ⟨g342, 9, none⟩ = some (.slice Bb Mb kb) := HX451.out.cell 9
  have c487 : w441.cell? ⟨g342, 10, none⟩ = some (.int .u64 Na) := HX451.out.cell 10
  have l488 : g342 < w441.heap.size := HX451.out.lt
  go_wp2_with fail
  clear c465 c466 c467 c468 c469 c470 c471 c472 c473 c474 c475 l476 c477 c478 c479 c480 c481 c482 c483 c484 c485 c486 c487 l488
  have hsm := same27_any cca cca Ba Bb Ra Rb Ma Mb ka kb Na Na _ HMa.out HMb.out HY462.out.runsAt HY464.out HSa.out.1 HSa.out.2 HSb.out.2
  rw [HLa.out, HLb.out, sameB_self] at hsm
  have HSMa := Lib.hid hsm
  clear hsm
  refine (HSMa.out).mono ?_
  rintro e w489 ⟨rfl, hb490⟩
  have HF491 := Lib.hid (bext HF443.out hb490)
  have HX492 := Lib.hid (HX444.out.below hb490 HX444.out.lt)
  have HX493 := Lib.hid (HX445.out.below hb490 HX445.out.lt)
  have HX494 := Lib.hid (HX446.out.below hb490 HX446.out.lt)
  have HX495 := Lib.hid (HX447.out.below hb490 HX447.out.lt)
  have HX496 := Lib.hid (HX448.out.below hb490 HX448.out.lt)
  have HX497 := Lib.hid (HX449.out.below hb490 HX449.out.lt)
  have HX498 := Lib.hid (HX450.out.below hb490 HX450.out.lt)
  have HX499 := Lib.hid (HX451.out.below hb490 HX451.out.lt)
  have HY500 := Lib.hid (RunsAt.below HY452.out hb490)
  have HY501 := Lib.hid (tab_below (tab_lt HY453.out) HY453.out hb490)
  have HY502 := Lib.hid (RunsAt.below HY454.out hb490)
  have HY503 := Lib.hid (bext HY455.out hb490)
  have HY504 := Lib.hid (OwnRs.below HY456.out hb490)
  have HY505 := Lib.hid (bext HY457.out hb490)
  have HY506 := Lib.hid (RunsAt.below HY458.out hb490)
  have HY507 := Lib.hid (OwnRs.below HY459.out hb490)
  have HY508 := Lib.hid (bext HY460.out hb490)
  have HY509 := Lib.hid (RunsAt.below HY461.out hb490)
  have HY510 := Lib.hid (OwnRs.below HY462.out hb490)
  have HY511 := Lib.hid (bext HY463.out hb490)
  have HY512 := Lib.hid (RunsAt.below HY464.out hb490)
  clear HF443 HX444 HX445 HX446 HX447 HX448 HX449 HX450 HX451 HY452 HY453 HY454 HY455 HY456 HY457 HY458 HY459 HY460 HY461 HY462 HY463 HY464
  clear hb490
  clear HSMa
  have c513 : w489.cell? ⟨g87, 0, none⟩ = some (.int .u8 cx.tag) := HX494.out.cell 0
  have c514 : w489.cell? ⟨g87, 1, none⟩ = some (.int .i64 cx.most) := HX494.out.cell 1
  have c515 : w489.cell? ⟨g87, 2, none⟩ = some (.int .i64 cx.seg) := HX494.out.cell 2
  have c516 : w489.cell? ⟨g87, 3, none⟩ = some (.int .i64 cx.least) := HX494.out.cell 3
  have c517 : w489.cell? ⟨g87, 4, none⟩ = some (.int .i64 cx.den) := HX494.out.cell 4
  have c518 : w489.cell? ⟨g87, 5, none⟩ = some (.int .i64 cx.leafLow) := HX494.out.cell 5
  have c519 : w489.cell? ⟨g87, 6, none⟩ = some (.int .i64 cx.rootLow) := HX494.out.cell 6
  have c520 : w489.cell? ⟨g87, 7, none⟩ = some (.int .i64 cx.rootHigh) := HX494.out.cell 7
  have c521 : w489.cell? ⟨g87, 8, none⟩ = some (.int .i64 cx.leafHigh) := HX494.out.cell 8
  have c522 : w489.cell? ⟨g87, 9, none⟩ = some (.slice Bx Mx kx) := HX494.out.cell 9
  have c523 : w489.cell? ⟨g87, 10, none⟩ = some (.int .u64 Nx) := HX494.out.cell 10
  have l524 : g87 < w489.heap.size := HX494.out.lt
  go_wp2_with fail
  clear c513 c514 c515 c516 c517 c518 c519 c520 c521 c522 c523 l524
  have hsp := spoil27_any cx Bx Rx kx U50.heap.size Nx w75 w489 HOXx.out HY504.out HY505.out.size HSx.out.1 HSx.out.2
  rw [HMx.out] at hsp
  refine hsp.mono ?_
  clear hsp
  rintro e ws1 ⟨⟨vz, rfl⟩, hm1⟩
  have HU1 := Lib.hid (HY503.out.trans (hm1.below (B := U50.heap.size) HY503.out.size (fun q hq => by have h1 := HUx.out; omega)))
  have HOZ1 := Lib.hid (HY507.out.mod hm1 (fun q hq hs => by have h1 := HAxz.out; omega))
  have HOA1 := Lib.hid (HY510.out.mod hm1 (fun q hq hs => by have h1 := HAxa.out; omega))
  have HBZ1 := Lib.hid (HX496.out.mod hm1 (fun hs => by have h1 := HGxz.out; omega))
  have HBA1 := Lib.hid (HX498.out.mod hm1 (fun hs => by have h1 := HGxa.out; omega))
  have HZ1 := Lib.hid (Nat.le_trans HY508.out.size hm1.size)
  have HAA1 := Lib.hid (Nat.le_trans HY511.out.size hm1.size)
  clear hm1
  have qz0 : ws1.cell? ⟨g174, 0, none⟩ = some (.int .u8 cz2.tag) := HBZ1.out.cell 0
  have qz1 : ws1.cell? ⟨g174, 1, none⟩ = some (.int .i64 cz2.most) := HBZ1.out.cell 1
  have qz2 : ws1.cell? ⟨g174, 2, none⟩ = some (.int .i64 cz2.seg) := HBZ1.out.cell 2
  have qz3 : ws1.cell? ⟨g174, 3, none⟩ = some (.int .i64 cz2.least) := HBZ1.out.cell 3
  have qz4 : ws1.cell? ⟨g174, 4, none⟩ = some (.int .i64 cz2.den) := HBZ1.out.cell 4
  have qz5 : ws1.cell? ⟨g174, 5, none⟩ = some (.int .i64 cz2.leafLow) := HBZ1.out.cell 5
  have qz6 : ws1.cell? ⟨g174, 6, none⟩ = some (.int .i64 cz2.rootLow) := HBZ1.out.cell 6
  have qz7 : ws1.cell? ⟨g174, 7, none⟩ = some (.int .i64 cz2.rootHigh) := HBZ1.out.cell 7
  have qz8 : ws1.cell? ⟨g174, 8, none⟩ = some (.int .i64 cz2.leafHigh) := HBZ1.out.cell 8
  have qz9 : ws1.cell? ⟨g174, 9, none⟩ = some (.slice Bz Mz kz) := HBZ1.out.cell 9
  have qz10 : ws1.cell? ⟨g174, 10, none⟩ = some (.int .u64 Nz) := HBZ1.out.cell 10
  have lqz := HBZ1.out.lt
  go_wp2_with fail
  clear qz0 qz1 qz2 qz3 qz4 qz5 qz6 qz7 qz8 qz9 qz10 lqz
  have hsp := spoil27_any cz2 Bz Rz kz U127.heap.size Nz w157 ws1 HOXz.out HOZ1.out HZ1.out HSz.out.1 HSz.out.2
  rw [HMz.out] at hsp
  refine hsp.mono ?_
  clear hsp
  rintro e ws2 ⟨⟨vz, rfl⟩, hm2⟩
  have HU2 := Lib.hid (HU1.out.trans (hm2.below (B := U50.heap.size) HU1.out.size (fun q hq => by have h1 := HUz.out; omega)))
  have HOA2 := Lib.hid (HOA1.out.mod hm2 (fun q hq hs => by have h1 := HAza.out; omega))
  have HBA2 := Lib.hid (HBA1.out.mod hm2 (fun hs => by have h1 := HGza.out; omega))
  have HAA2 := Lib.hid (Nat.le_trans HAA1.out hm2.size)
  clear hm2
  have qa0 : ws2.cell? ⟨g281, 0, none⟩ = some (.int .u8 cca.tag) := HBA2.out.cell 0
  have qa1 : ws2.cell? ⟨g281, 1, none⟩ = some (.int .i64 cca.most) := HBA2.out.cell 1
  have qa2 : ws2.cell? ⟨g281, 2, none⟩ = some (.int .i64 cca.seg) := HBA2.out.cell 2
  have qa3 : ws2.cell? ⟨g281, 3, none⟩ = some (.int .i64 cca.least) := HBA2.out.cell 3
  have qa4 : ws2.cell? ⟨g281, 4, none⟩ = some (.int .i64 cca.den) := HBA2.out.cell 4
  have qa5 : ws2.cell? ⟨g281, 5, none⟩ = some (.int .i64 cca.leafLow) := HBA2.out.cell 5
  have qa6 : ws2.cell? ⟨g281, 6, none⟩ = some (.int .i64 cca.rootLow) := HBA2.out.cell 6
  have qa7 : ws2.cell? ⟨g281, 7, none⟩ = some (.int .i64 cca.rootHigh) := HBA2.out.cell 7
  have qa8 : ws2.cell? ⟨g281, 8, none⟩ = some (.int .i64 cca.leafHigh) := HBA2.out.cell 8
  have qa9 : ws2.cell? ⟨g281, 9, none⟩ = some (.slice Ba Ma ka) := HBA2.out.cell 9
  have qa10 : ws2.cell? ⟨g281, 10, none⟩ = some (.int .u64 Na) := HBA2.out.cell 10
  have lqa := HBA2.out.lt
  go_wp2_with fail
  clear qa0 qa1 qa2 qa3 qa4 qa5 qa6 qa7 qa8 qa9 qa10 lqa
  have hsp := spoil27_any cca Ba Ra ka U224.heap.size Na w259 ws2 HOXa.out HOA2.out HAA2.out HSa.out.1 HSa.out.2
  rw [HMa.out] at hsp
  refine hsp.mono ?_
  clear hsp
  rintro e ws3 ⟨⟨vz, rfl⟩, hm3⟩
  have HU3 := Lib.hid (HU2.out.trans (hm3.below (B := U50.heap.size) HU2.out.size (fun q hq => by have h1 := HUa.out; omega)))
  clear hm3
  have bo1 := KO.out.below HU3.out KO.out.lt
  have bx1 := KX.out.below HU3.out KX.out.lt
  have qo0 : ws3.cell? ⟨g51, 0, none⟩ = some (.int .u8 c.tag) := bo1.cell 0
  have qo1 : ws3.cell? ⟨g51, 1, none⟩ = some (.int .i64 c.most) := bo1.cell 1
  have qo2 : ws3.cell? ⟨g51, 2, none⟩ = some (.int .i64 c.seg) := bo1.cell 2
  have qo3 : ws3.cell? ⟨g51, 3, none⟩ = some (.int .i64 c.least) := bo1.cell 3
  have qo4 : ws3.cell? ⟨g51, 4, none⟩ = some (.int .i64 c.den) := bo1.cell 4
  have qo5 : ws3.cell? ⟨g51, 5, none⟩ = some (.int .i64 c.leafLow) := bo1.cell 5
  have qo6 : ws3.cell? ⟨g51, 6, none⟩ = some (.int .i64 c.rootLow) := bo1.cell 6
  have qo7 : ws3.cell? ⟨g51, 7, none⟩ = some (.int .i64 c.rootHigh) := bo1.cell 7
  have qo8 : ws3.cell? ⟨g51, 8, none⟩ = some (.int .i64 c.leafHigh) := bo1.cell 8
  have qo9 : ws3.cell? ⟨g51, 9, none⟩ = some (.slice B2 Rs.length k2) := bo1.cell 9
  have qo10 : ws3.cell? ⟨g51, 10, none⟩ = some (.int .u64 n) := bo1.cell 10
  have lqo := bo1.lt
  have qx0 : ws3.cell? ⟨g4, 0, none⟩ = some (.int .u8 c.tag) := bx1.cell 0
  have qx1 : ws3.cell? ⟨g4, 1, none⟩ = some (.int .i64 c.most) := bx1.cell 1
  have qx2 : ws3.cell? ⟨g4, 2, none⟩ = some (.int .i64 c.seg) := bx1.cell 2
  have qx3 : ws3.cell? ⟨g4, 3, none⟩ = some (.int .i64 c.least) := bx1.cell 3
  have qx4 : ws3.cell? ⟨g4, 4, none⟩ = some (.int .i64 c.den) := bx1.cell 4
  have qx5 : ws3.cell? ⟨g4, 5, none⟩ = some (.int .i64 c.leafLow) := bx1.cell 5
  have qx6 : ws3.cell? ⟨g4, 6, none⟩ = some (.int .i64 c.rootLow) := bx1.cell 6
  have qx7 : ws3.cell? ⟨g4, 7, none⟩ = some (.int .i64 c.rootHigh) := bx1.cell 7
  have qx8 : ws3.cell? ⟨g4, 8, none⟩ = some (.int .i64 c.leafHigh) := bx1.cell 8
  have qx9 : ws3.cell? ⟨g4, 9, none⟩ = some (.slice B Rs.length k) := bx1.cell 9
  have qx10 : ws3.cell? ⟨g4, 10, none⟩ = some (.int .u64 n) := bx1.cell 10
  have lqx := bx1.lt
  clear bo1 bx1
  go_wp2_with fail
  have hsm := same27_any c c B2 B R2 Rs Rs.length Rs.length k2 k n n ws3 HN2.out rfl (KR.out.below HU3.out) (KB.out.below HU3.out) HS2.out.1 HS2.out.2 HSR.out.2
  rw [HL2.out, HL.out, sameB_self] at hsm
  refine hsm.mono ?_
  clear hsm
  rintro e wx ⟨rfl, hbx⟩
  go_wp2_with fail
  go_ret
  refine ⟨?_, bext (bext KF.out HU3.out) hbx⟩
  rfl
end Go.Proofs.YthbppblmecdekaaGreatDoor
