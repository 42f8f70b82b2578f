/- The law LadderNear: for every map and key it returns true; its arguments stay as they were. As a card: math/bits' tables read as their initialisers lay them; no further condition. -/
import Derived.Test.YthdcllnmnmemdaaDoorWb22
import Derived.Test.YthdcllnmnmemdaaDoorWb16
import Derived.Test.YthdcllnmnmemdaaDoorWb3
import Derived.BigQuiet
import Derived.Test.YthdcllnmnmemdaaDoorWb17
import Derived.Carry
/- Plain facts for the law LadderNear. No program in sight. -/
namespace Go.Proofs.YthdcllnmnmemdaaDoor
open Go
def toP (e : Ent) : Pr := ⟨e.key, e.val⟩
theorem prR_map {L : Lv} (h : chkR L = 0) : prR L = (allL L).map toP := by
  unfold prR plainE
  rw [if_pos h]
  have : liveE (allL L) = allL L := by unfold allL; exact live_live _
  rw [this]
  rfl
theorem nx_at {L : Lv} (hM : May L) {key : Int} {n : Nat} (hn : n ≤ (allL L).length) (h1 : ∀ j (h : j < (allL L).length), j < n → ((allL L)[j]'h).key < key) (h2 : ∀ h : n < (allL L).length, ¬ ((allL L)[n]'h).key < key) :
    nxO L key = (allL L)[n]? ∧ lsO L key = if n = 0 then none else (allL L)[n - 1]? := by
  have hr := allL_ris hM
  unfold nxO lsO
  generalize allL L = Q at *
  have hlt : ∀ e ∈ Q.take n, e.key < key := fun e he => by
    obtain ⟨i, hi, rfl⟩ := List.getElem_of_mem he
    rw [List.length_take] at hi
    rw [List.getElem_take]
    exact h1 i (by omega) (by omega)
  have hge : ∀ e ∈ Q.drop n, ¬ e.key < key := fun e he => by
    obtain ⟨i, hi, rfl⟩ := List.getElem_of_mem he
    rw [List.length_drop] at hi
    rw [List.getElem_drop]
    have h0 := h2 (by omega)
    by_cases h9 : i = 0
    · subst h9; exact h0
    · have := List.pairwise_iff_getElem.1 hr n (n + i) (by omega) (by omega) (by omega)
      omega
  have hQ : Q = Q.take n ++ Q.drop n := (List.take_append_drop n Q).symm
  have hR : Q.reverse = (Q.drop n).reverse ++ (Q.take n).reverse := by rw [← List.reverse_append, List.take_append_drop]
  constructor
  · rw [show Q.find? (fun e => decide (key ≤ e.key)) = (Q.take n ++ Q.drop n).find? (fun e => decide (key ≤ e.key)) from by rw [← hQ], List.find?_append]
    rw [List.find?_eq_none.2 (fun e he => by have := hlt e he; simp; omega), Option.none_or]
    by_cases hl : n < Q.length
    · rw [List.drop_eq_getElem_cons hl, List.find?_cons_of_pos (by have := h2 hl; simp; omega), List.getElem?_eq_getElem hl]
    · rw [List.drop_eq_nil_of_le (by omega), List.getElem?_eq_none (by omega)]
      rfl
  · rw [hR, List.find?_append]
    rw [List.find?_eq_none.2 (fun e he => by have := hge e (List.mem_reverse.1 he); simp; omega), Option.none_or]
    by_cases hz : n = 0
    · subst hz; simp
    · rw [if_neg hz]
      have hl : n - 1 < Q.length := by omega
      have ht : Q.take n = Q.take (n - 1) ++ [Q[n - 1]'hl] := by
        have h7 := List.take_append_getElem hl
        rw [show n - 1 + 1 = n from by omega] at h7
        exact h7.symm
      rw [ht, List.reverse_append, List.reverse_singleton, List.singleton_append, List.find?_cons_of_pos (by have := h1 (n - 1) hl (by omega); simpa using this), List.getElem?_eq_getElem hl]
structure NearOk (P : List Pr) (n : Nat) (o l : Option Ent) : Prop where
  nx : ∀ h : n < P.length, isE o = 0 ∧ toP (o.getD zeroE) = P[n]'h
  nn : ¬ n < P.length → isE o = 6
  ls : ∀ (h : n - 1 < P.length), 0 < n → isE l = 0 ∧ toP (l.getD zeroE) = P[n - 1]'h
  ln : ¬ 0 < n → isE l = 6
theorem near_ok {c : Cfg} {L : Lv} (he : errL c L = 0) {key : Int} {n : Nat} (hn : n ≤ (prD c L).length) (h1 : ∀ j (h : j < (prD c L).length), j < n → ((prD c L)[j]'h).key < key) (h2 : ∀ h : n < (prD c L).length, ¬ ((prD c L)[n]'h).key < key) :
    NearOk (prD c L) n (nxO L key) (lsO L key) := by
  have hR := (errL_zero he).2.1
  have hP : prD c L = (allL L).map toP := by unfold prD; rw [if_pos he, prR_map hR]
  generalize prD c L = P at *
  subst hP
  rw [List.length_map] at hn
  obtain ⟨g1, g2⟩ := nx_at (chkR_zero.1 hR) (key := key) hn (fun j h hj => by have := h1 j (by simpa using h) hj; simpa [toP] using this) (fun h => by have := h2 (by simpa using h); simpa [toP] using this)
  rw [g1, g2]
  refine ⟨fun h => ?_, fun h => ?_, fun h h0 => ?_, fun h => ?_⟩
  · rw [List.length_map] at h
    rw [List.getElem?_eq_getElem h]
    exact ⟨rfl, by simp⟩
  · rw [List.length_map] at h
    rw [List.getElem?_eq_none (by omega)]
    rfl
  · rw [List.length_map] at h
    rw [if_neg (by omega), List.getElem?_eq_getElem h]
    exact ⟨rfl, by simp⟩
  · rw [if_pos (by omega)]
    rfl
end Go.Proofs.YthdcllnmnmemdaaDoor

/- The law LadderNear: for every map and key it returns true; its arguments stay as they were. -/
namespace Go.Proofs.YthdcllnmnmemdaaDoor
open Go Go.RowKit
set_option maxRecDepth 100000
theorem neP_self (a : Pr) : neP a a = false := by unfold neP; simp
structure NearP (P : List Pr) (N n : Nat) (f : Int) (pa : Pr) (g : Int) (pb : Pr) : Prop where
  nx : ∀ h : n < P.length, f = 0 ∧ pa = P[n]'h
  nn : ¬ n < N → f = 6
  ls : ∀ (h : n - 1 < P.length), 0 < n → g = 0 ∧ pb = P[n - 1]'h
  ln : ¬ 0 < n → g = 6
set_option maxHeartbeats 16000000 in
theorem ladderNear_any (B : Option Addr) (Rs : List Rm) (k : Nat) (c : Cfg) (n : Int) (key : Int) (w : World) (hB : RunsAt w B Rs) (hkb : ∀ l ∈ lvs Rs, ∀ e ∈ l, -9223372036854775808 ≤ e.key ∧ e.key ≤ 9223372036854775807) (hTb : TabAt 1 Lib.deBruijn64tab w) :
    Calls Tryd.prog 8 #[.agg #[.int .u8 c.tag, .int .i64 c.most, .int .i64 c.seg, .int .i64 c.least, .int .i64 c.den, .int .i64 c.leafLow, .int .i64 c.rootLow, .int .i64 c.rootHigh, .int .i64 c.leafHigh, .slice B Rs.length k, .int .u64 n], .int .i64 key] w fun r w' => r = .returned (.bool true) ∧ Below w.heap.size w w' := by
  have HB0 := Lib.hid hB
  have HT0 := Lib.hid hTb
  have HKB := Lib.hid hkb
  clear hB hTb hkb
  go_enter Tryd.func8, Tryd.ntmps8
  have HF := Lib.hid (Below.refl w.heap.size w)
  have HY1 := Lib.hid (HB0.out)
  have HY2 := Lib.hid (HT0.out)
  go_upto_region 1 with fail
  obtain ⟨U3, h5⟩ : ∃ U, w.alloc (.cells #[.int .u8 c.tag, .int .i64 c.most, .int .i64 c.seg, .int .i64 c.least, .int .i64 c.den, .int .i64 c.leafLow, .int .i64 c.rootLow, .int .i64 c.rootHigh, .int .i64 c.leafHigh, .slice B Rs.length k, .int .u64 n] 65) = U := ⟨_, rfl⟩
  have ba6 : Below w.heap.size w U3 := by rw [← h5]; exact (Below.refl _ _).alloc (Nat.le_refl _) _
  have bn7 : Blk U3 w.heap.size 65 #[.int .u8 c.tag, .int .i64 c.most, .int .i64 c.seg, .int .i64 c.least, .int .i64 c.den, .int .i64 c.leafLow, .int .i64 c.rootLow, .int .i64 c.rootHigh, .int .i64 c.leafHigh, .slice B Rs.length k, .int .u64 n] := by rw [← h5]; exact Blk.new _ _ _
  try rw [h5]
  have HF8 := Lib.hid (bext HF.out ba6)
  have HY9 := Lib.hid (RunsAt.below HY1.out ba6)
  have HY10 := Lib.hid (tab_below2 HY2.out ba6)
  clear HF HY1 HY2
  obtain ⟨g4, h11⟩ : ∃ g, w.heap.size = g := ⟨_, rfl⟩
  rw [h11] at bn7
  try rw [h11]
  have HX12 := Lib.hid bn7
  clear h5 ba6 bn7 h11
  go_wp2_with fail
  refine (alive27_any _ HY10.out).mono ?_
  rintro e w13 ⟨rfl, hb14⟩
  have HF15 := Lib.hid (bext HF8.out hb14)
  have HX16 := Lib.hid (HX12.out.below hb14 HX12.out.lt)
  have HY17 := Lib.hid (RunsAt.below HY9.out hb14)
  have HY18 := Lib.hid (tab_below2 HY10.out hb14)
  clear HF8 HX12 HY9 HY10
  clear hb14
  have c19 : w13.cell? ⟨g4, 0, none⟩ = some (.int .u8 c.tag) := HX16.out.cell 0
  have c20 : w13.cell? ⟨g4, 1, none⟩ = some (.int .i64 c.most) := HX16.out.cell 1
  have c21 : w13.cell? ⟨g4, 2, none⟩ = some (.int .i64 c.seg) := HX16.out.cell 2
  have c22 : w13.cell? ⟨g4, 3, none⟩ = some (.int .i64 c.least) := HX16.out.cell 3
  have c23 : w13.cell? ⟨g4, 4, none⟩ = some (.int .i64 c.den) := HX16.out.cell 4
  have c24 : w13.cell? ⟨g4, 5, none⟩ = some (.int .i64 c.leafLow) := HX16.out.cell 5
  have c25 : w13.cell? ⟨g4, 6, none⟩ = some (.int .i64 c.rootLow) := HX16.out.cell 6
  have c26 : w13.cell? ⟨g4, 7, none⟩ = some (.int .i64 c.rootHigh) := HX16.out.cell 7
  have c27 : w13.cell? ⟨g4, 8, none⟩ = some (.int .i64 c.leafHigh) := HX16.out.cell 8
  have c28 : w13.cell? ⟨g4, 9, none⟩ = some (.slice B Rs.length k) := HX16.out.cell 9
  have c29 : w13.cell? ⟨g4, 10, none⟩ = some (.int .u64 n) := HX16.out.cell 10
  have l30 : g4 < w13.heap.size := HX16.out.lt
  go_wp2_with fail
  clear c19 c20 c21 c22 c23 c24 c25 c26 c27 c28 c29 l30
  refine (great27_any B Rs k 300 c n _ HY17.out (by omega)).mono ?_
  rintro e w31 ⟨G, rfl, hG, hb32⟩
  have HF33 := Lib.hid (bext HF15.out hb32)
  have HX34 := Lib.hid (HX16.out.below hb32 HX16.out.lt)
  have HY35 := Lib.hid (RunsAt.below HY17.out hb32)
  have HY36 := Lib.hid (tab_below2 HY18.out hb32)
  clear HF15 HX16 HY17 HY18
  clear hb32
  cases G with
  | true =>
    clear hG
    go_wp2
    go_ret
    exact ⟨rfl, HF33.out⟩
  | false =>
  have hG2 := hG rfl
  clear hG
  have hT3 : tot (lvs Rs) ≤ 300 := by omega
  have hR3 : Rs.length ≤ 300 := by omega
  clear hG2
  have hprs : ∀ W, RunsAt W B Rs → Calls Tryd.prog 31 #[.agg (lrow c B Rs.length k n)] W _ := fun W hW => pairsD_any B Rs k c n W hW (by omega) (by omega)
  have hnx : ∀ W, RunsAt W B Rs → TabAt 1 Lib.deBruijn64tab W → Calls Tryd.prog 36 #[.agg (lrow c B Rs.length k n), .int .i64 key] W _ := fun W hW hq => nextD_any B Rs k c n key W hW (by omega) (by omega) HKB.out hq
  have hls : ∀ W, RunsAt W B Rs → TabAt 1 Lib.deBruijn64tab W → Calls Tryd.prog 37 #[.agg (lrow c B Rs.length k n), .int .i64 key] W _ := fun W hW hq => lastD_any B Rs k c n key W hW (by omega) (by omega) hq
  have hok := fun he n h0 h1 h2 => near_ok (c := c) (L := lvs Rs) he (key := key) (n := n) h0 h1 h2
  have hbad : errL c (lvs Rs) ≠ 0 → resE (errL c (lvs Rs)) (nxO (lvs Rs) key) = errL c (lvs Rs) ∧ resE (errL c (lvs Rs)) (lsO (lvs Rs) key) = errL c (lvs Rs) := fun h => by unfold resE; rw [if_neg h, if_neg h]; exact ⟨rfl, rfl⟩
  have hgood : errL c (lvs Rs) = 0 → resE (errL c (lvs Rs)) (nxO (lvs Rs) key) = isE (nxO (lvs Rs) key) ∧ resE (errL c (lvs Rs)) (lsO (lvs Rs) key) = isE (lsO (lvs Rs) key) ∧ resP (errL c (lvs Rs)) (nxO (lvs Rs) key) = toP ((nxO (lvs Rs) key).getD zeroE) ∧ resP (errL c (lvs Rs)) (lsO (lvs Rs) key) = toP ((lsO (lvs Rs) key).getD zeroE) := fun h => by unfold resE resP; rw [if_pos h, if_pos h, if_pos h, if_pos h]; exact ⟨rfl, rfl, rfl, rfl⟩
  have hlen : ((prD c (lvs Rs)).length : Int) ≤ 65536 := by
    have h4 : (prD c (lvs Rs)).length ≤ 65536 := by
      unfold prD
      by_cases h5 : errL c (lvs Rs) = 0
      · rw [if_pos h5, prR_len (errL_zero h5).2.1]
        have := allL_le (rs := lvs Rs)
        omega
      · rw [if_neg h5]; exact Nat.zero_le _
    omega
  obtain ⟨f, hf⟩ : ∃ x, resE (errL c (lvs Rs)) (nxO (lvs Rs) key) = x := ⟨_, rfl⟩
  obtain ⟨g, hg⟩ : ∃ x, resE (errL c (lvs Rs)) (lsO (lvs Rs) key) = x := ⟨_, rfl⟩
  obtain ⟨pa, hpa⟩ : ∃ x, resP (errL c (lvs Rs)) (nxO (lvs Rs) key) = x := ⟨_, rfl⟩
  obtain ⟨pb, hpb⟩ : ∃ x, resP (errL c (lvs Rs)) (lsO (lvs Rs) key) = x := ⟨_, rfl⟩
  rw [hf, hg] at hbad
  rw [hf, hg, hpa, hpb] at hgood
  rw [hf, hpa] at hnx
  rw [hg, hpb] at hls
  obtain ⟨P, hP⟩ : ∃ x, prD c (lvs Rs) = x := ⟨_, rfl⟩
  obtain ⟨N, hN⟩ : ∃ x, P.length = x := ⟨_, rfl⟩
  rw [hP] at hprs hok hlen
  rw [hN] at hlen
  have hok2 : errL c (lvs Rs) = 0 → ∀ n, n ≤ N → (∀ j (h : j < P.length), j < n → (P[j]'h).key < key) → (∀ h : n < P.length, ¬ (P[n]'h).key < key) → NearP P N n f pa g pb := fun he n h0 h1 h2 => by
    obtain ⟨g1, g2, g3, g4⟩ := hok he n (by rw [hN]; exact h0) h1 h2
    obtain ⟨r1, r2, r3, r4⟩ := hgood he
    exact ⟨fun h => ⟨r1.trans (g1 h).1, r3.trans (g1 h).2⟩, fun h => r1.trans (g2 (by rw [hN]; exact h)), fun h h0 => ⟨r2.trans (g3 h h0).1, r4.trans (g3 h h0).2⟩, fun h => r2.trans (g4 h)⟩
  obtain ⟨e, he⟩ : ∃ x, errL c (lvs Rs) = x := ⟨_, rfl⟩
  rw [he] at hprs hbad hok2
  have HPRS := Lib.hid hprs
  have HNX := Lib.hid hnx
  have HLS := Lib.hid hls
  have HBA := Lib.hid hbad
  have HOK := Lib.hid hok2
  have HN := Lib.hid hN
  have HLN := Lib.hid hlen
  clear hprs hnx hls hok hok2 hbad hgood hf hg hpa hpb hP hN he hT3 hR3 hlen HKB
  have c37 : w31.cell? ⟨g4, 0, none⟩ = some (.int .u8 c.tag) := HX34.out.cell 0
  have c38 : w31.cell? ⟨g4, 1, none⟩ = some (.int .i64 c.most) := HX34.out.cell 1
  have c39 : w31.cell? ⟨g4, 2, none⟩ = some (.int .i64 c.seg) := HX34.out.cell 2
  have c40 : w31.cell? ⟨g4, 3, none⟩ = some (.int .i64 c.least) := HX34.out.cell 3
  have c41 : w31.cell? ⟨g4, 4, none⟩ = some (.int .i64 c.den) := HX34.out.cell 4
  have c42 : w31.cell? ⟨g4, 5, none⟩ = some (.int .i64 c.leafLow) := HX34.out.cell 5
  have c43 : w31.cell? ⟨g4, 6, none⟩ = some (.int .i64 c.rootLow) := HX34.out.cell 6
  have c44 : w31.cell? ⟨g4, 7, none⟩ = some (.int .i64 c.rootHigh) := HX34.out.cell 7
  have c45 : w31.cell? ⟨g4, 8, none⟩ = some (.int .i64 c.leafHigh) := HX34.out.cell 8
  have c46 : w31.cell? ⟨g4, 9, none⟩ = some (.slice B Rs.length k) := HX34.out.cell 9
  have c47 : w31.cell? ⟨g4, 10, none⟩ = some (.int .u64 n) := HX34.out.cell 10
  have l48 : g4 < w31.heap.size := HX34.out.lt
  go_wp2_with fail
  clear c37 c38 c39 c40 c41 c42 c43 c44 c45 c46 c47 l48
  refine (HPRS.out _ HY35.out).mono ?_
  rintro e w49 ⟨Ap, cp, rfl, hop, hb50⟩
  have hop := own_sl hop
  rw [HN.out]
  have HF51 := Lib.hid (bext HF33.out hb50)
  have HX52 := Lib.hid (HX34.out.below hb50 HX34.out.lt)
  have HY53 := Lib.hid (RunsAt.below HY35.out hb50)
  have HY54 := Lib.hid (tab_below2 HY36.out hb50)
  clear HF33 HX34 HY35 HY36
  clear hb50
  have HY55 := Lib.hid (hop)
  clear hop
  have c56 : w49.cell? ⟨g4, 0, none⟩ = some (.int .u8 c.tag) := HX52.out.cell 0
  have c57 : w49.cell? ⟨g4, 1, none⟩ = some (.int .i64 c.most) := HX52.out.cell 1
  have c58 : w49.cell? ⟨g4, 2, none⟩ = some (.int .i64 c.seg) := HX52.out.cell 2
  have c59 : w49.cell? ⟨g4, 3, none⟩ = some (.int .i64 c.least) := HX52.out.cell 3
  have c60 : w49.cell? ⟨g4, 4, none⟩ = some (.int .i64 c.den) := HX52.out.cell 4
  have c61 : w49.cell? ⟨g4, 5, none⟩ = some (.int .i64 c.leafLow) := HX52.out.cell 5
  have c62 : w49.cell? ⟨g4, 6, none⟩ = some (.int .i64 c.rootLow) := HX52.out.cell 6
  have c63 : w49.cell? ⟨g4, 7, none⟩ = some (.int .i64 c.rootHigh) := HX52.out.cell 7
  have c64 : w49.cell? ⟨g4, 8, none⟩ = some (.int .i64 c.leafHigh) := HX52.out.cell 8
  have c65 : w49.cell? ⟨g4, 9, none⟩ = some (.slice B Rs.length k) := HX52.out.cell 9
  have c66 : w49.cell? ⟨g4, 10, none⟩ = some (.int .u64 n) := HX52.out.cell 10
  have l67 : g4 < w49.heap.size := HX52.out.lt
  go_wp2_with fail
  clear c56 c57 c58 c59 c60 c61 c62 c63 c64 c65 c66 l67
  refine (HNX.out _ HY53.out HY54.out).mono ?_
  rintro e w68 ⟨rfl, hb69⟩
  have HF70 := Lib.hid (bext HF51.out hb69)
  have HX71 := Lib.hid (HX52.out.below hb69 HX52.out.lt)
  have HY72 := Lib.hid (RunsAt.below HY53.out hb69)
  have HY73 := Lib.hid (tab_below2 HY54.out hb69)
  have HY74 := Lib.hid (HY55.out.below hb69)
  clear HF51 HX52 HY53 HY54 HY55
  clear hb69
  go_upto_region 6 with fail
  obtain ⟨U75, h77⟩ : ∃ U, w68.alloc (.cells #[.int .i64 pa.key, .int .i64 pa.val] 56) = U := ⟨_, rfl⟩
  have ba78 : Below w68.heap.size w68 U75 := by rw [← h77]; exact (Below.refl _ _).alloc (Nat.le_refl _) _
  have bn79 : Blk U75 w68.heap.size 56 #[.int .i64 pa.key, .int .i64 pa.val] := by rw [← h77]; exact Blk.new _ _ _
  try rw [h77]
  have HF80 := Lib.hid (bext HF70.out ba78)
  have HX81 := Lib.hid (HX71.out.below ba78 HX71.out.lt)
  have HY82 := Lib.hid (RunsAt.below HY72.out ba78)
  have HY83 := Lib.hid (tab_below2 HY73.out ba78)
  have HY84 := Lib.hid (HY74.out.below ba78)
  clear HF70 HX71 HY72 HY73 HY74
  obtain ⟨g76, h85⟩ : ∃ g, w68.heap.size = g := ⟨_, rfl⟩
  rw [h85] at bn79
  try rw [h85]
  have HX86 := Lib.hid bn79
  clear h77 ba78 bn79 h85
  have c87 : U75.cell? ⟨g4, 0, none⟩ = some (.int .u8 c.tag) := HX81.out.cell 0
  have c88 : U75.cell? ⟨g4, 1, none⟩ = some (.int .i64 c.most) := HX81.out.cell 1
  have c89 : U75.cell? ⟨g4, 2, none⟩ = some (.int .i64 c.seg) := HX81.out.cell 2
  have c90 : U75.cell? ⟨g4, 3, none⟩ = some (.int .i64 c.least) := HX81.out.cell 3
  have c91 : U75.cell? ⟨g4, 4, none⟩ = some (.int .i64 c.den) := HX81.out.cell 4
  have c92 : U75.cell? ⟨g4, 5, none⟩ = some (.int .i64 c.leafLow) := HX81.out.cell 5
  have c93 : U75.cell? ⟨g4, 6, none⟩ = some (.int .i64 c.rootLow) := HX81.out.cell 6
  have c94 : U75.cell? ⟨g4, 7, none⟩ = some (.int .i64 c.rootHigh) := HX81.out.cell 7
  have c95 : U75.cell? ⟨g4, 8, none⟩ = some (.int .i64 c.leafHigh) := HX81.out.cell 8
  have c96 : U75.cell? ⟨g4, 9, none⟩ = some (.slice B Rs.length k) := HX81.out.cell 9
  have c97 : U75.cell? ⟨g4, 10, none⟩ = some (.int .u64 n) := HX81.out.cell 10
  have l98 : g4 < U75.heap.size := HX81.out.lt
  go_wp2_with fail
  clear c87 c88 c89 c90 c91 c92 c93 c94 c95 c96 c97 l98
  refine (HLS.out _ HY82.out HY83.out).mono ?_
  rintro e w99 ⟨rfl, hb100⟩
  have HF101 := Lib.hid (bext HF80.out hb100)
  have HX102 := Lib.hid (HX81.out.below hb100 HX81.out.lt)
  have HX103 := Lib.hid (HX86.out.below hb100 HX86.out.lt)
  have HY104 := Lib.hid (RunsAt.below HY82.out hb100)
  have HY105 := Lib.hid (tab_below2 HY83.out hb100)
  have HY106 := Lib.hid (HY84.out.below hb100)
  clear HF80 HX81 HX86 HY82 HY83 HY84
  clear hb100
  go_upto_region 7 with fail
  obtain ⟨U107, h109⟩ : ∃ U, w99.alloc (.cells #[.int .i64 pb.key, .int .i64 pb.val] 56) = U := ⟨_, rfl⟩
  have ba110 : Below w99.heap.size w99 U107 := by rw [← h109]; exact (Below.refl _ _).alloc (Nat.le_refl _) _
  have bn111 : Blk U107 w99.heap.size 56 #[.int .i64 pb.key, .int .i64 pb.val] := by rw [← h109]; exact Blk.new _ _ _
  try rw [h109]
  have HF112 := Lib.hid (bext HF101.out ba110)
  have HX113 := Lib.hid (HX102.out.below ba110 HX102.out.lt)
  have HX114 := Lib.hid (HX103.out.below ba110 HX103.out.lt)
  have HY115 := Lib.hid (RunsAt.below HY104.out ba110)
  have HY116 := Lib.hid (tab_below2 HY105.out ba110)
  have HY117 := Lib.hid (HY106.out.below ba110)
  clear HF101 HX102 HX103 HY104 HY105 HY106
  obtain ⟨g108, h118⟩ : ∃ g, w99.heap.size = g := ⟨_, rfl⟩
  rw [h118] at bn111
  try rw [h118]
  have HX119 := Lib.hid bn111
  clear h109 ba110 bn111 h118
  by_cases hE0 : e = 0
  case neg =>
    obtain ⟨h1, h2⟩ := HBA.out hE0
    have h4 : (e != 0) = true := by simpa using hE0
    subst h1 h2
    go_wp2_with fail
    go_ret
    refine ⟨?_, HF112.out⟩
    rfl
  case pos =>
  subst hE0
  have hok := HOK.out rfl
  have HOK2 := Lib.hid hok
  clear hok HOK HBA HPRS HNX HLS
  go_wp2_with fail
  go_loopw [12] (fun i wr => ∃ j : Nat, j ≤ N ∧ i = .int .i64 j ∧ wr = U107 ∧ Hid (∀ x (h : x < P.length), x < j → (P[x]'h).key < key)) (fun i _ => N - (intOf i).toNat)
  case atStart => exact ⟨0, Nat.zero_le _, rfl, rfl, fun x h hx => absurd hx (Nat.not_lt_zero x)⟩
  case round =>
  obtain ⟨j, hj, rfl, hw, hd⟩ := hrel
  have hNb := HLN.out
  have hw2 := hw.symm
  subst hw2
  by_cases hlt : j < N
  · have hjl : j < P.length := by rw [HN.out]; exact hlt
    obtain ⟨b, off, hA, hbl, c0, c1⟩ := HY117.out.pr j hjl
    obtain ⟨q, hq⟩ : ∃ q, P[j]'hjl = q := ⟨_, rfl⟩
    rw [hq] at c0 c1
    subst hA
    have i0 : (0 : Int) ≤ (j : Int) := by omega
    have i1 : (j : Int) < (N : Int) := by omega
    by_cases hqk : q.key < key
    · have HD2 : Hid (∀ x (h : x < P.length), x < j + 1 → (P[x]'h).key < key) := fun x h hx => by
        by_cases hxj : x = j
        · subst hxj; rw [hq]; exact hqk
        · exact hd.out x h (by omega)
      clear hq
      go_wp2_with fail
      go_roundw
      case rel => exact ⟨j + 1, by omega, by go_num, by first | trivial | rfl, HD2⟩
      case measure => simp [intOf]; omega
    · have HNP : Hid (NearP P N j f pa g pb) := HOK2.out j hj hd.out (fun h => by rw [hq]; omega)
      clear HOK2 hd
      have hnp := HNP.out
      clear HNP
      obtain ⟨f0, pa0⟩ := hnp.nx (by rw [HN.out]; exact hlt)
      have hl2 := hnp.ls
      have hl3 := hnp.ln
      clear hnp
      rw [hq] at pa0
      subst f0 pa0
      have hne := fun w => run_neq_pr pa pa w
      have hnn := neP_self pa
      by_cases hz : 0 < j
      · obtain ⟨z, hzj⟩ : ∃ z, j - 1 = z := ⟨_, rfl⟩
        have hzl : z < P.length := by rw [HN.out]; omega
        have hl4 := hl2 (by rw [hzj]; exact hzl) hz
        clear hl2 hl3
        obtain ⟨g0, pb0⟩ := hl4
        have pb1 : pb = P[z]'hzl := by rw [pb0]; congr 1
        clear pb0
        obtain ⟨q2, hq2⟩ : ∃ q, P[z]'hzl = q := ⟨_, rfl⟩
        rw [hq2] at pb1
        subst g0 pb1
        obtain ⟨b2, off2, hA2, hbl2, d0, d1⟩ := HY117.out.pr z hzl
        rw [hq2] at d0 d1
        have hne2 := fun w => run_neq_pr pb pb w
        have hnn2 := neP_self pb
        have hw1 : IntKind.i64.wrap ((j : Int) - 1) = (z : Int) := (IntWalk.i64_in _ (by have := HLN.out; omega)).trans (by omega)
        have z0 : (0 : Int) ≤ (z : Int) := by omega
        have z1 : (z : Int) < (N : Int) := by have := HN.out; omega
        have zg : (0 : Int) < (j : Int) := by omega
        cases hA2
        clear hq2 hzj
        have zd : decide (0 < j) = true := decide_eq_true hz
        have zd2 : decide ((0 : Int) < (j : Int)) = true := decide_eq_true zg
        have c120 : U107.cell? ⟨g76, 0, none⟩ = some (.int .i64 pa.key) := HX114.out.cell 0
        have c121 : U107.cell? ⟨g76, 1, none⟩ = some (.int .i64 pa.val) := HX114.out.cell 1
        have l122 : g76 < U107.heap.size := HX114.out.lt
        have c123 : U107.cell? ⟨g108, 0, none⟩ = some (.int .i64 pb.key) := HX119.out.cell 0
        have c124 : U107.cell? ⟨g108, 1, none⟩ = some (.int .i64 pb.val) := HX119.out.cell 1
        have l125 : g108 < U107.heap.size := HX119.out.lt
        go_upto_region 12 with fail
        go_quiet (fail)
        go_wp2_with fail
        go_ret
        refine ⟨?_, by first | exact HF112.out | exact ⟨HF112.out.os, HF112.out.tape, HF112.out.output, HF112.out.size, HF112.out.block⟩⟩
        rfl
      · have g0 := hl3 hz
        clear hl2 hl3
        subst g0
        have zg : ¬ (0 : Int) < (j : Int) := by omega
        have zd : decide (0 < j) = false := decide_eq_false hz
        have zd2 : decide ((0 : Int) < (j : Int)) = false := decide_eq_false zg
        have c120 : U107.cell? ⟨g76, 0, none⟩ = some (.int .i64 pa.key) := HX114.out.cell 0
        have c121 : U107.cell? ⟨g76, 1, none⟩ = some (.int .i64 pa.val) := HX114.out.cell 1
        have l122 : g76 < U107.heap.size := HX114.out.lt
        have c123 : U107.cell? ⟨g108, 0, none⟩ = some (.int .i64 pb.key) := HX119.out.cell 0
        have c124 : U107.cell? ⟨g108, 1, none⟩ = some (.int .i64 pb.val) := HX119.out.cell 1
        have l125 : g108 < U107.heap.size := HX119.out.lt
        go_upto_region 12 with fail
        go_quiet (fail)
        go_wp2_with fail
        go_ret
        refine ⟨?_, by first | exact HF112.out | exact ⟨HF112.out.os, HF112.out.tape, HF112.out.output, HF112.out.size, HF112.out.block⟩⟩
        rfl
  · have HNP : Hid (NearP P N j f pa g pb) := HOK2.out j hj hd.out (fun h => absurd (by rw [HN.out] at h; exact h) hlt)
    have i1 : ¬ (j : Int) < (N : Int) := by omega
    clear HOK2 hd
    have hnp := HNP.out
    clear HNP
    have f0 := hnp.nn hlt
    have hl2 := hnp.ls
    have hl3 := hnp.ln
    clear hnp
    subst f0
    by_cases hz : 0 < j
    · obtain ⟨z, hzj⟩ : ∃ z, j - 1 = z := ⟨_, rfl⟩
      have hzl : z < P.length := by rw [HN.out]; omega
      have hl4 := hl2 (by rw [hzj]; exact hzl) hz
      clear hl2 hl3
      obtain ⟨g0, pb0⟩ := hl4
      have pb1 : pb = P[z]'hzl := by rw [pb0]; congr 1
      clear pb0
      obtain ⟨q2, hq2⟩ : ∃ q, P[z]'hzl = q := ⟨_, rfl⟩
      rw [hq2] at pb1
      subst g0 pb1
      obtain ⟨b2, off2, hA2, hbl2, d0, d1⟩ := HY117.out.pr z hzl
      rw [hq2] at d0 d1
      have hne2 := fun w => run_neq_pr pb pb w
      have hnn2 := neP_self pb
      have hw1 : IntKind.i64.wrap ((j : Int) - 1) = (z : Int) := (IntWalk.i64_in _ (by have := HLN.out; omega)).trans (by omega)
      have z0 : (0 : Int) ≤ (z : Int) := by omega
      have z1 : (z : Int) < (N : Int) := by have := HN.out; omega
      have zg : (0 : Int) < (j : Int) := by omega
      subst hA2
      clear hq2 hzj
      have zd : decide (0 < j) = true := decide_eq_true hz
      have zd2 : decide ((0 : Int) < (j : Int)) = true := decide_eq_true zg
      have c120 : U107.cell? ⟨g76, 0, none⟩ = some (.int .i64 pa.key) := HX114.out.cell 0
      have c121 : U107.cell? ⟨g76, 1, none⟩ = some (.int .i64 pa.val) := HX114.out.cell 1
      have l122 : g76 < U107.heap.size := HX114.out.lt
      have c123 : U107.cell? ⟨g108, 0, none⟩ = some (.int .i64 pb.key) := HX119.out.cell 0
      have c124 : U107.cell? ⟨g108, 1, none⟩ = some (.int .i64 pb.val) := HX119.out.cell 1
      have l125 : g108 < U107.heap.size := HX119.out.lt
      go_upto_region 12 with fail
      go_quiet (fail)
      go_wp2_with fail
      go_ret
      refine ⟨?_, by first | exact HF112.out | exact ⟨HF112.out.os, HF112.out.tape, HF112.out.output, HF112.out.size, HF112.out.block⟩⟩
      rfl
    · have g0 := hl3 hz
      clear hl2 hl3
      subst g0
      have zg : ¬ (0 : Int) < (j : Int) := by omega
      have zd : decide (0 < j) = false := decide_eq_false hz
      have zd2 : decide ((0 : Int) < (j : Int)) = false := decide_eq_false zg
      have c120 : U107.cell? ⟨g76, 0, none⟩ = some (.int .i64 pa.key) := HX114.out.cell 0
      have c121 : U107.cell? ⟨g76, 1, none⟩ = some (.int .i64 pa.val) := HX114.out.cell 1
      have l122 : g76 < U107.heap.size := HX114.out.lt
      have c123 : U107.cell? ⟨g108, 0, none⟩ = some (.int .i64 pb.key) := HX119.out.cell 0
      have c124 : U107.cell? ⟨g108, 1, none⟩ = some (.int .i64 pb.val) := HX119.out.cell 1
      have l125 : g108 < U107.heap.size := HX119.out.lt
      go_upto_region 12 with fail
      go_quiet (fail)
      go_wp2_with fail
      go_ret
      refine ⟨?_, by first | exact HF112.out | exact ⟨HF112.out.os, HF112.out.tape, HF112.out.output, HF112.out.size, HF112.out.block⟩⟩
      rfl
end Go.Proofs.YthdcllnmnmemdaaDoor

/- Ladders read as data, the keys' bounds with them. -/
namespace Go.Proofs.YthdcllnmnmemdaaDoor
open Go Go.ChangeShapes Go.WideShapes Go.ChangeAt Go.RowKit
set_option maxRecDepth 100000
def KeysOf (l : List Ent) : Prop := ∀ e ∈ l, -9223372036854775808 ≤ e.key ∧ e.key ≤ 9223372036854775807
def KeysIn (L : Lv) : Prop := ∀ l ∈ L, KeysOf l
theorem keys_in {Rs : List Rm} (h : ∀ r ∈ Rs, KeysOf r.l) : KeysIn (lvs Rs) := fun l hl => by
  obtain ⟨r, hr, rfl⟩ := List.mem_map.1 hl
  exact h r hr
theorem wf_i64g {n : Int} (h : (Lit.int .i64 n).wf = true) : -9223372036854775808 ≤ n ∧ n ≤ 9223372036854775807 := by
  simp only [Lit.wf, Bool.and_eq_true, decide_eq_true_eq] at h
  exact h
theorem dec_entK {H : Type} {enc : TypeId × Value → H} {w : World} (fuel : Nat) (cs : List Value) (y : DataW H × List MemPlace) (h : DataW.trod enc Tryd.prog w 0 (fun _ => true) true fuel 27 cs = some y) :
    ∃ e : Ent, cs = e.cells ∧ (-9223372036854775808 ≤ e.key ∧ e.key ≤ 9223372036854775807) := by
  obtain ⟨xs, n, _, _, hlen, hxl, hg⟩ := DataW.trod_struct Tryd.underlying27 h
  rw [show Tryd.prog.cellsOf 27 = 3 from by kernel_rfl] at hlen
  match cs, hlen with
  | [c0, c1, c2], _ =>
    match xs, hxl with
    | [x0, x1, x2], _ =>
      have h0 : DataW.trod enc Tryd.prog w 0 (fun _ => true) true n 2 (List.take (Tryd.prog.cellsOf 2) (List.drop 0 [c0, c1, c2])) = some x0 := hg 0 _ rfl
      have h1 : DataW.trod enc Tryd.prog w 0 (fun _ => true) true n 2 (List.take (Tryd.prog.cellsOf 2) (List.drop 1 [c0, c1, c2])) = some x1 := hg 1 _ rfl
      have h2 : DataW.trod enc Tryd.prog w 0 (fun _ => true) true n 4 (List.take (Tryd.prog.cellsOf 4) (List.drop 2 [c0, c1, c2])) = some x2 := hg 2 _ rfl
      rw [show Tryd.prog.cellsOf 2 = 1 from by kernel_rfl] at h0 h1
      rw [show Tryd.prog.cellsOf 4 = 1 from by kernel_rfl] at h2
      obtain ⟨n0, e0, _, f0⟩ := DataW.trod_int Tryd.underlying2 h0
      obtain ⟨n1, e1, _, _⟩ := DataW.trod_int Tryd.underlying2 h1
      obtain ⟨b, e2, _⟩ := DataW.trod_bool Tryd.underlying4 h2
      simp at e0 e1 e2
      subst e0 e1 e2
      exact ⟨⟨n0, n1, b⟩, rfl, wf_i64g f0⟩
theorem dec_entsK {H : Type} {enc : TypeId × Value → H} {w : World} (fuel : Nat) (cs : List Value) (y : DataW H × List MemPlace) (h : DataW.trod enc Tryd.prog w 0 (fun _ => true) true fuel 59 cs = some y) :
    ∃ (A : Option Addr) (l : List Ent) (c : Nat), cs = [.slice A l.length c] ∧ l.length ≤ c ∧ c ≤ maxLen ∧ Sl w A (l.flatMap Ent.cells) ∧ KeysOf l := by
  have hv : ∃ a len cap, cs = [.slice a len cap] := by
    rcases Go.Deep.open_slice Tryd.underlying59 h with ⟨h1, _⟩ | ⟨a, len, cap, _, _, _, _, h1, _⟩
    · exact ⟨_, _, _, h1⟩
    · exact ⟨_, _, _, h1⟩
  obtain ⟨a, len, cap, rfl⟩ := hv
  obtain ⟨A, l, c, h1, h2, h3, h4, h5⟩ := read_slice (v := .slice a len cap) Ent.cells (fun e => -9223372036854775808 ≤ e.key ∧ e.key ≤ 9223372036854775807) Ent.cells_length (by omega) Tryd.underlying59 (by kernel_rfl)
    (fun fuel cs y h => dec_entK fuel cs y h) ⟨_, _, _, rfl⟩ h
  exact ⟨A, l, c, by rw [h1], h2, h3, h4, h5⟩
theorem dec_runK {H : Type} {enc : TypeId × Value → H} {w : World} (fuel : Nat) (cs : List Value) (y : DataW H × List MemPlace) (h : DataW.trod enc Tryd.prog w 0 (fun _ => true) true fuel 61 cs = some y) :
    ∃ r : Rm, cs = [r.v] ∧ r.Ok w ∧ KeysOf r.l := by
  obtain ⟨xs, n, _, _, hlen, hxl, hg⟩ := DataW.trod_struct Tryd.underlying61 h
  rw [show Tryd.prog.cellsOf 61 = 1 from by kernel_rfl] at hlen
  match cs, hlen with
  | [c0], _ =>
    match xs, hxl with
    | [x0], _ =>
      have h0 : DataW.trod enc Tryd.prog w 0 (fun _ => true) true n 59 (List.take (Tryd.prog.cellsOf 59) (List.drop 0 [c0])) = some x0 := hg 0 _ rfl
      rw [show Tryd.prog.cellsOf 59 = 1 from by kernel_rfl] at h0
      obtain ⟨A, l, c, e, h2, h3, h4, h5⟩ := dec_entsK _ _ _ h0
      simp at e
      subst e
      exact ⟨⟨l, A, c⟩, rfl, ⟨h4, h2, h3⟩, h5⟩
theorem dec_rungsK {H : Type} {enc : TypeId × Value → H} {w : World} (fuel : Nat) (cs : List Value) (y : DataW H × List MemPlace) (h : DataW.trod enc Tryd.prog w 0 (fun _ => true) true fuel 25 cs = some y) :
    ∃ (B : Option Addr) (Rs : List Rm) (c : Nat) (n : Int), cs = [.slice B Rs.length c, .int .u64 n] ∧ RunsAt w B Rs ∧ KeysIn (lvs Rs) ∧ 0 ≤ n ∧ n ≤ 18446744073709551615 := by
  obtain ⟨xs, m, _, _, hlen, hxl, hg⟩ := DataW.trod_struct Tryd.underlying25 h
  rw [show Tryd.prog.cellsOf 25 = 2 from by kernel_rfl] at hlen
  match cs, hlen with
  | [c0, c1], _ =>
    match xs, hxl with
    | [x0, x1], _ =>
      have h0 : DataW.trod enc Tryd.prog w 0 (fun _ => true) true m 22 (List.take (Tryd.prog.cellsOf 22) (List.drop 0 [c0, c1])) = some x0 := hg 0 _ rfl
      have h1 : DataW.trod enc Tryd.prog w 0 (fun _ => true) true m 23 (List.take (Tryd.prog.cellsOf 23) (List.drop 1 [c0, c1])) = some x1 := hg 1 _ rfl
      rw [show Tryd.prog.cellsOf 22 = 1 from by kernel_rfl] at h0
      rw [show Tryd.prog.cellsOf 23 = 1 from by kernel_rfl] at h1
      obtain ⟨n, e1, _, f1⟩ := DataW.trod_int Tryd.underlying23 h1
      have hv : ∃ a len cap, List.take 1 (List.drop 0 [c0, c1]) = [.slice a len cap] := by
        rcases Go.Deep.open_slice Tryd.underlying22 h0 with ⟨h1, _⟩ | ⟨a, len, cap, _, _, _, _, h1, _⟩
        · exact ⟨_, _, _, h1⟩
        · exact ⟨_, _, _, h1⟩
      obtain ⟨a, len, cap, e0⟩ := hv
      simp at e0 e1
      subst e0 e1
      obtain ⟨B, Rs, c, h2, h3, h4, h5, h6⟩ := read_slice (v := .slice a len cap) (s := 1) (fun r : Rm => [r.v]) (fun r => r.Ok w ∧ KeysOf r.l) (fun _ => rfl) (by omega) Tryd.underlying22 (by kernel_rfl) (fun fuel cs y h => dec_runK fuel cs y h) ⟨_, _, _, rfl⟩ h0
      have hm : Rs.flatMap (fun r => [r.v]) = Rs.map Rm.v := by
        clear h2 h3 h5 h6
        induction Rs with
        | nil => rfl
        | cons r Rs ih => rw [List.flatMap_cons, ih]; rfl
      rw [hm] at h5
      obtain ⟨g1, g2⟩ := wf_u64g f1
      exact ⟨B, Rs, c, n, by rw [h2], ⟨h5, fun r hr => (h6 r hr).1⟩, keys_in fun r hr => (h6 r hr).2, g1, g2⟩
theorem read_ladderK {H : Type} {enc : TypeId × Value → H} {w : World} {base : Nat} {v : Value} {d : DataW H} {p : List MemPlace} (hok : Value.okWide Tryd.prog w .any base 65 v)
    (h : DataW.Trod enc Tryd.prog w 0 (fun _ => true) true 65 v d p) : ∃ (B : Option Addr) (Rs : List Rm) (k : Nat) (c : Cfg) (n : Int), v = .agg (lrow c B Rs.length k n) ∧ RunsAt w B Rs ∧ KeysIn (lvs Rs) ∧ 0 ≤ n ∧ n ≤ 18446744073709551615 := by
  obtain ⟨cs, rfl, _⟩ := okWide_struct Tryd.underlying65 hok
  obtain ⟨fuel, hf⟩ := h
  obtain ⟨xs, m, _, _, hlen, hxl, hg⟩ := DataW.trod_struct Tryd.underlying65 hf
  rw [show Tryd.prog.cellsOf 65 = 11 from by kernel_rfl] at hlen
  obtain ⟨cl⟩ := cs
  have hL : cl.length = 11 := hlen
  match xs, hxl with
  | [x0, x1], _ =>
    have h0 : DataW.trod enc Tryd.prog w 0 (fun _ => true) true m 63 (List.take (Tryd.prog.cellsOf 63) (List.drop 0 cl)) = some x0 := hg 0 _ rfl
    have h1 : DataW.trod enc Tryd.prog w 0 (fun _ => true) true m 25 (List.take (Tryd.prog.cellsOf 25) (List.drop 9 cl)) = some x1 := hg 1 _ rfl
    rw [show Tryd.prog.cellsOf 63 = 9 from by kernel_rfl] at h0
    rw [show Tryd.prog.cellsOf 25 = 2 from by kernel_rfl] at h1
    obtain ⟨c, e0⟩ := dec_cfg _ _ _ h0
    obtain ⟨B, Rs, k, n, e1, hr, hki, g1, g2⟩ := dec_rungsK _ _ _ h1
    have hcl : cl = c.row.toList ++ [.slice B Rs.length k, .int .u64 n] := by
      have h9 : cl = List.take 9 cl ++ List.take 2 (List.drop 9 cl) := by
        have hd : List.take 2 (List.drop 9 cl) = List.drop 9 cl := List.take_of_length_le (by rw [List.length_drop, hL]; decide)
        rw [hd, List.take_append_drop]
      rw [h9, e1]
      rw [List.drop_zero] at e0
      rw [e0]
    subst hcl
    exact ⟨B, Rs, k, c, n, rfl, hr, hki, g1, g2⟩
end Go.Proofs.YthdcllnmnmemdaaDoor

namespace Go.Proofs.YthdcllnmnmemdaaDoor
open Go Go.ChangeShapes Go.WideShapes Go.ChangeAt Go.RowKit
set_option maxRecDepth 100000

theorem ladderNear_contract (H : Type) (enc : TypeId × Value → H) (W : World) (base : Nat) (args : Array Value) (ds gs : List (DataW H)) (before : List MemPlace)
    (hval0 : ∀ (j : Nat) t v, Tryd.f8.params[j]? = some t → args[j]? = some v → Value.okWide Tryd.prog W .any base t v)
    (hW : DataW.Whole enc Tryd.prog Tryd.f8.params.toList Rows.ladderNearSpec.vars false W args.toList ds gs before) (hL : laidMetH Tryd.prog Rows.ladderNearRow.laid W) :
    Calls Tryd.prog 8 args W fun e W' => ∃ v, e = .returned v ∧ Rows.ladderNearSpec.post enc Tryd.prog Tryd.f8 false true false false W args v W' := by
  have hval : ∀ (j : Nat) t v, Tryd.f8.params[j]? = some t → args[j]? = some v → Value.okWide Tryd.prog W .any base t v := hval0
  have hT := tab_at hL
  have hW' := hW
  obtain ⟨p, q, hA0, hV, rfl, hfz, hnd⟩ := hW
  have hA : DataW.TrodAll enc Tryd.prog W 0 (fun _ => true) true Tryd.f8.params.toList args.toList ds p := hA0
  rw [Tryd.params8] at hA hval
  obtain ⟨v0, v1, d0, d1, p0, p1, rfl, rfl, rfl, h0, h1⟩ := trodAll_two hA
  obtain ⟨rfl, rfl⟩ := trodVars_none hV
  obtain ⟨B, Rs, k, c, n, rfl, hs, hki, _, _⟩ := read_ladderK (hval 0 65 v0 rfl rfl) h0
  obtain ⟨key, rfl⟩ := okWide_int Tryd.underlying2 (hval 1 2 v1 rfl rfl)
  refine (ladderNear_any B Rs k c n key W hs hki hT).mono fun e W' ⟨he, hb⟩ => ?_
  subst he
  exact ⟨_, rfl, law_post (tb := 4) laidOut (by intro t ht; rw [Tryd.params8] at ht; simp at ht; rcases ht with rfl | rfl <;> exact ⟨by kernel_rfl, of_decide_eq_true (by kernel_rfl)⟩) rfl hW' rfl rfl rfl (by kernel_rfl) Tryd.underlying4 hb⟩

theorem ladderNear_met (os : Os) : laidMet Tryd.prog Rows.ladderNearRow.laid ((laidWorld os).forCall (fun _ _ => 0) ⟨#[], #[.agg #[.int .u8 0, .int .i64 0, .int .i64 0, .int .i64 0, .int .i64 0, .int .i64 0, .int .i64 0, .int .i64 0, .int .i64 0, .slice none 0 0, .int .u64 0], .int .i64 0], []⟩).memory :=
  laidMet_of_run' 8 (by kernel_rfl) (by kernel_rfl)
theorem ladderNear_reads (os : Os) {H : Type} (enc : TypeId × Value → H) : ∃ places, DataW.whole enc Tryd.prog ((laidWorld os).forCall (fun _ _ => 0) ⟨#[], #[.agg #[.int .u8 0, .int .i64 0, .int .i64 0, .int .i64 0, .int .i64 0, .int .i64 0, .int .i64 0, .int .i64 0, .int .i64 0, .slice none 0 0, .int .u64 0], .int .i64 0], []⟩).memory Tryd.f8.params.toList Rows.ladderNearSpec.vars false (#[.agg #[.int .u8 0, .int .i64 0, .int .i64 0, .int .i64 0, .int .i64 0, .int .i64 0, .int .i64 0, .int .i64 0, .int .i64 0, .slice none 0 0, .int .u64 0], .int .i64 0] : Array Value).toList 8 = some ([.agg [.agg [.lit (.int .u8 0), .lit (.int .i64 0), .lit (.int .i64 0), .lit (.int .i64 0), .lit (.int .i64 0), .lit (.int .i64 0), .lit (.int .i64 0), .lit (.int .i64 0), .lit (.int .i64 0)], .agg [.nil, .lit (.int .u64 0)]], .lit (.int .i64 0)], [], places) :=
  ⟨[], by kernel_rfl⟩
theorem ladderNear_lifted (os : Os) (started : os.Started) (H : Type) (enc : TypeId × Value → H) (F : Stop.Interp) :
    ReturnsInHanded {} Tryd.checked os 8 .any ((OpenSpec.ofChange Rows.ladderNearSpec).preRow enc Tryd.prog Tryd.f8 Rows.ladderNearRow.domain false Rows.ladderNearRow.laid) (((OpenSpec.ofChange Rows.ladderNearSpec).at F).post enc Tryd.prog Tryd.f8 false true false false) := by
  obtain ⟨places, hx⟩ := ladderNear_reads os enc
  refine returnsInHanded_of_row (C := Tryd.checked) (s := OpenSpec.ofChange Rows.ladderNearSpec) own started (by kernel_rfl) Tryd.func8
    (witness_row_at (enc := enc) (C := Tryd.checked) false (laidWorld os) #[.agg #[.int .u8 0, .int .i64 0, .int .i64 0, .int .i64 0, .int .i64 0, .int .i64 0, .int .i64 0, .int .i64 0, .int .i64 0, .slice none 0 0, .int .u64 0], .int .i64 0] rfl (by kernel_rfl) (by kernel_rfl) (by kernel_rfl)
      (OpenSpec.preRow_of_cond 8 hx (by kernel_rfl) (fun k hk => by cases hk) (by kernel_rfl) (ladderNear_met os))) ?_
  intro W base args ds gs before hval hW _ _ _ hL _ _
  exact ladderNear_contract H enc W base args ds gs before hval hW hL
theorem ladderNear_said : Rows.LadderNearSaid :=
  OpenClaim.holds_of_cond 8 Tryd.f8 rfl rfl rfl rfl rfl rfl rfl ⟨rfl, rfl, rfl, rfl, rfl⟩ rfl rfl rfl rfl rfl (by kernel_rfl) Tryd.func8 (by kernel_rfl)
    (of_decide_eq_true (by kernel_rfl)) (by unfold Func.isWrapper; first | (rw [if_pos (by decide +kernel)]; kernel_rfl) | (rw [if_neg (by decide +kernel)]; exact ⟨rfl, rfl⟩))
    (fun os started H enc _ F => by rw [OpenClaim.pre_eq_preRow]; exact ladderNear_lifted os started H enc F)
theorem ladderNear_plain (f : FuncId) (fn : Func) (hf : Tryd.pinned.checked.prog.funcNamed "shelfmark/shelfmarklaw27.LadderNear" = some f) (hfn : Tryd.pinned.checked.prog.funcs[f]? = some fn) :
    false = Tryd.pinned.checked.prog.looks [] ∧ ∀ (j : Nat) t, fn.params[j]? = some t → Tryd.pinned.checked.prog.wantsStandIn t = false := by
  obtain rfl : f = 8 := Option.some.inj ((show Tryd.prog.funcNamed "shelfmark/shelfmarklaw27.LadderNear" = some 8 by kernel_rfl).symm.trans hf) |>.symm
  obtain rfl : fn = Tryd.f8 := (Option.some.inj (Tryd.func8.symm.trans hfn)).symm
  refine ⟨by kernel_rfl, fun j t ht => ?_⟩
  rw [Tryd.params8] at ht
  have : t = 65 ∨ t = 2 := by
    have := Array.mem_of_getElem? ht
    simpa using this
  rcases this with rfl | rfl <;> first | exact (show Tryd.prog.wantsStandIn 65 = false by kernel_rfl) | exact (show Tryd.prog.wantsStandIn 2 = false by kernel_rfl)

/-- the card -/
theorem ladderNear_card : Rows.LadderNearCardSaid :=
  Claim7.holds_tied_plain_at .later [] _ _ _ _ ladderNear_said (fun _ h => by cases h) (by kernel_rfl) (fun _ h => by cases h) ladderNear_row_tie rfl ⟨rfl, rfl⟩ (by kernel_rfl) rfl ladderNear_plain (by kernel_rfl)
end Go.Proofs.YthdcllnmnmemdaaDoor
