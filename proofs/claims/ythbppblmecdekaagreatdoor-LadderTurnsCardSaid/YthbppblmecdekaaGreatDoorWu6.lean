/- Fg Gs Hs Fe: texts of the claim, in this order. -/
import Derived.Test.YthbppblmecdekaaGreatDoorWu5
import Derived.Test.YthbppblmecdekaaGreatDoorWg12
import Derived.BigRegion
import Derived.Test.YthbppblmecdekaaGreatDoorWg19
/- Contracts: shelfmarkref27 Put, Delete. -/
namespace Go.Proofs.YthbppblmecdekaaGreatDoor
open Go Go.RowKit
set_option maxRecDepth 100000
theorem bad_put {c : Cfg} {L : Lv} (he : errL c L ≠ 0) (n key val : Int) : putE0 c L key = errL c L ∧ upE (putE0 c L key) L (putY key val) = errL c L ∧ upL (putE0 c L key) L n (putY key val) = [] ∧ upN (putE0 c L key) L n (putY key val) = 0 := by
  have h0 := bad_all he key key val
  have h1 : putE0 c L key = errL c L := by
    unfold putE0
    rw [h0.1, if_neg (fun h => by rcases errL_vals c L with h2 | h2 | h2 <;> omega)]
  refine ⟨h1, h0.2.1, ?_, ?_⟩
  · unfold upL; rw [h1, if_neg he]
  · unfold upN; rw [h1, if_neg he]
theorem bad_del {c : Cfg} {L : Lv} (he : errL c L ≠ 0) (n key val : Int) : veD c L key = errL c L ∧ upE (veD c L key) L (delY key) = errL c L ∧ upL (veD c L key) L n (delY key) = [] ∧ upN (veD c L key) L n (delY key) = 0 := by
  have h0 := bad_all he key key val
  refine ⟨h0.1, h0.2.2, ?_, ?_⟩
  · unfold upL; rw [h0.1, if_neg he]
  · unfold upN; rw [h0.1, if_neg he]
set_option maxHeartbeats 8000000 in
theorem put27_any (B : Option Addr) (Rs : List Rm) (k : Nat) (c : Cfg) (n : Int) (key val : Int) (w : World) (hB : RunsAt w B Rs) (hT : tot (lvs Rs) ≤ 1000000) (hl : Rs.length ≤ 1000000) (hT3 : tot (lvs Rs) ≤ 300) (hn : 0 ≤ n ∧ n ≤ 18446744073709551615) :
    Calls Tryz.prog 26 #[.agg (lrow c B Rs.length k n), .int .i64 key, .int .i64 val] w (GivesLd (ldC c (upE (putE0 c (lvs Rs) key) (lvs Rs) (putY key val))) (upL (putE0 c (lvs Rs) key) (lvs Rs) n (putY key val)) (upN (putE0 c (lvs Rs) key) (lvs Rs) n (putY key val)) (upE (putE0 c (lvs Rs) key) (lvs Rs) (putY key val)) w) := by
  obtain ⟨W0, hW0⟩ : ∃ W0, (w.alloc (.cells #[.int .u8 c.tag, .int .i64 c.most, .int .i64 c.seg, .int .i64 c.least, .int .i64 c.den, .int .i64 c.leafLow, .int .i64 c.rootLow, .int .i64 c.rootHigh, .int .i64 c.leafHigh, .slice B Rs.length k, .int .u64 n] 29)).alloc (.cells #[.int .u8 0, .int .i64 0, .int .i64 0, .int .i64 0, .int .i64 0, .int .i64 0, .int .i64 0, .int .i64 0, .int .i64 0, .slice none 0 0, .int .u64 0] 29) = W0 := ⟨_, rfl⟩
  have hb0 : Below w.heap.size w W0 := by rw [← hW0]; exact ((Below.refl _ _).alloc (Nat.le_refl _) _).alloc (by simp) _
  have b0 : Blk W0 w.heap.size 29 #[.int .u8 c.tag, .int .i64 c.most, .int .i64 c.seg, .int .i64 c.least, .int .i64 c.den, .int .i64 c.leafLow, .int .i64 c.rootLow, .int .i64 c.rootHigh, .int .i64 c.leafHigh, .slice B Rs.length k, .int .u64 n] := by rw [← hW0]; exact (Blk.new _ _ _).alloc _
  have br0 : Blk W0 (w.heap.size + 1) 29 #[.int .u8 0, .int .i64 0, .int .i64 0, .int .i64 0, .int .i64 0, .int .i64 0, .int .i64 0, .int .i64 0, .int .i64 0, .slice none 0 0, .int .u64 0] := by
    rw [← hW0]
    have := Blk.new (w.alloc (.cells #[.int .u8 c.tag, .int .i64 c.most, .int .i64 c.seg, .int .i64 c.least, .int .i64 c.den, .int .i64 c.leafLow, .int .i64 c.rootLow, .int .i64 c.rootHigh, .int .i64 c.leafHigh, .slice B Rs.length k, .int .u64 n] 29)) 29 #[.int .u8 0, .int .i64 0, .int .i64 0, .int .i64 0, .int .i64 0, .int .i64 0, .int .i64 0, .int .i64 0, .int .i64 0, .slice none 0 0, .int .u64 0]
    rwa [World.size_alloc] at this
  have HW0 := Lib.hid hW0
  have HB := Lib.hid (hB.below hb0)
  have HB0 := Lib.hid hb0
  have HC0 := Lib.hid b0
  have HR0 := Lib.hid br0
  have hck := check27_any B Rs k c n W0 HB.out hT hl
  have hsu := fun he W (hW : RunsAt W B Rs) => laid27_any B Rs k c n key val W hW hT hl he hT3 hn
  have hba := fun he : errL c (lvs Rs) ≠ 0 => bad_put he n key val
  have hgo : errL c (lvs Rs) = 0 → upE (putE0 c (lvs Rs) key) (lvs Rs) (putY key val) = (putE0 c (lvs Rs) key) := fun he => up_add (errL_zero he).2.1 hT3 (by first | exact put_fair _ _ | exact del_fair _)
  obtain ⟨yy, hyy⟩ : ∃ x, (putY key val) = x := ⟨_, rfl⟩
  rw [hyy] at hsu hba hgo
  rw [hyy]
  obtain ⟨E0, hEE⟩ : ∃ x, (putE0 c (lvs Rs) key) = x := ⟨_, rfl⟩
  rw [hEE] at hsu hba hgo
  rw [hEE]
  obtain ⟨F, hF⟩ : ∃ x, upE E0 (lvs Rs) yy = x := ⟨_, rfl⟩
  obtain ⟨LU, hLU⟩ : ∃ x, upL E0 (lvs Rs) n yy = x := ⟨_, rfl⟩
  obtain ⟨NU, hNU⟩ : ∃ x, upN E0 (lvs Rs) n yy = x := ⟨_, rfl⟩
  rw [hLU, hNU] at hsu
  rw [hF, hLU, hNU] at hba
  rw [hF] at hgo
  rw [hF, hLU, hNU]
  obtain ⟨V, hV⟩ : ∃ x, errL c (lvs Rs) = x := ⟨_, rfl⟩
  rw [hV] at hck hsu hba hgo
  obtain ⟨c2, hc2⟩ : ∃ x, ldC c E0 = x := ⟨_, rfl⟩
  rw [hc2] at hsu
  have hcz : F ≠ 0 → ldC c F = cz := fun h => by unfold ldC; rw [if_neg h]
  have HCK := Lib.hid hck
  have HSU := Lib.hid hsu
  have HBA := Lib.hid hba
  have HGO := Lib.hid hgo
  have HCZ := Lib.hid hcz
  have HC2 := Lib.hid hc2
  have HYK := Lib.hid hyy
  clear hW0 hB hck hsu hba hgo hcz hc2 hEE hF hLU hNU hV hyy hn hT hT3
  have q0 : W0.cell? ⟨w.heap.size, 0, none⟩ = some (.int .u8 c.tag) := b0.cell 0
  have q1 : W0.cell? ⟨w.heap.size, 1, none⟩ = some (.int .i64 c.most) := b0.cell 1
  have q2 : W0.cell? ⟨w.heap.size, 2, none⟩ = some (.int .i64 c.seg) := b0.cell 2
  have q3 : W0.cell? ⟨w.heap.size, 3, none⟩ = some (.int .i64 c.least) := b0.cell 3
  have q4 : W0.cell? ⟨w.heap.size, 4, none⟩ = some (.int .i64 c.den) := b0.cell 4
  have q5 : W0.cell? ⟨w.heap.size, 5, none⟩ = some (.int .i64 c.leafLow) := b0.cell 5
  have q6 : W0.cell? ⟨w.heap.size, 6, none⟩ = some (.int .i64 c.rootLow) := b0.cell 6
  have q7 : W0.cell? ⟨w.heap.size, 7, none⟩ = some (.int .i64 c.rootHigh) := b0.cell 7
  have q8 : W0.cell? ⟨w.heap.size, 8, none⟩ = some (.int .i64 c.leafHigh) := b0.cell 8
  have q9 : W0.cell? ⟨w.heap.size, 9, none⟩ = some (.slice B Rs.length k) := b0.cell 9
  have q10 : W0.cell? ⟨w.heap.size, 10, none⟩ = some (.int .u64 n) := b0.cell 10
  clear b0 hb0 br0
  go_enter Tryz.func26, Tryz.ntmps26
  go_upto_region 1 with fail
  rw [HW0.out]
  have HY1 := Lib.hid (HB.out)
  go_wp2_with fail
  refine (HCK.out).mono ?_
  rintro e w2 ⟨rfl, hb3⟩
  clear q0 q1 q2 q3 q4 q5 q6 q7 q8 q9 q10
  have HF4 := Lib.hid (bext HB0.out hb3)
  have HX5 := Lib.hid (HC0.out.below hb3 HC0.out.lt)
  have HX6 := Lib.hid (HR0.out.below hb3 HR0.out.lt)
  have HY7 := Lib.hid (RunsAt.below HY1.out hb3)
  clear HC0 HR0 HY1
  clear hb3
  have c8 : w2.cell? ⟨w.heap.size, 0, none⟩ = some (.int .u8 c.tag) := HX5.out.cell 0
  have c9 : w2.cell? ⟨w.heap.size, 1, none⟩ = some (.int .i64 c.most) := HX5.out.cell 1
  have c10 : w2.cell? ⟨w.heap.size, 2, none⟩ = some (.int .i64 c.seg) := HX5.out.cell 2
  have c11 : w2.cell? ⟨w.heap.size, 3, none⟩ = some (.int .i64 c.least) := HX5.out.cell 3
  have c12 : w2.cell? ⟨w.heap.size, 4, none⟩ = some (.int .i64 c.den) := HX5.out.cell 4
  have c13 : w2.cell? ⟨w.heap.size, 5, none⟩ = some (.int .i64 c.leafLow) := HX5.out.cell 5
  have c14 : w2.cell? ⟨w.heap.size, 6, none⟩ = some (.int .i64 c.rootLow) := HX5.out.cell 6
  have c15 : w2.cell? ⟨w.heap.size, 7, none⟩ = some (.int .i64 c.rootHigh) := HX5.out.cell 7
  have c16 : w2.cell? ⟨w.heap.size, 8, none⟩ = some (.int .i64 c.leafHigh) := HX5.out.cell 8
  have c17 : w2.cell? ⟨w.heap.size, 9, none⟩ = some (.slice B Rs.length k) := HX5.out.cell 9
  have c18 : w2.cell? ⟨w.heap.size, 10, none⟩ = some (.int .u64 n) := HX5.out.cell 10
  have l19 : w.heap.size < w2.heap.size := HX5.out.lt
  have c20 : w2.cell? ⟨(w.heap.size + 1), 0, none⟩ = some (.int .u8 0) := HX6.out.cell 0
  have c21 : w2.cell? ⟨(w.heap.size + 1), 1, none⟩ = some (.int .i64 0) := HX6.out.cell 1
  have c22 : w2.cell? ⟨(w.heap.size + 1), 2, none⟩ = some (.int .i64 0) := HX6.out.cell 2
  have c23 : w2.cell? ⟨(w.heap.size + 1), 3, none⟩ = some (.int .i64 0) := HX6.out.cell 3
  have c24 : w2.cell? ⟨(w.heap.size + 1), 4, none⟩ = some (.int .i64 0) := HX6.out.cell 4
  have c25 : w2.cell? ⟨(w.heap.size + 1), 5, none⟩ = some (.int .i64 0) := HX6.out.cell 5
  have c26 : w2.cell? ⟨(w.heap.size + 1), 6, none⟩ = some (.int .i64 0) := HX6.out.cell 6
  have c27 : w2.cell? ⟨(w.heap.size + 1), 7, none⟩ = some (.int .i64 0) := HX6.out.cell 7
  have c28 : w2.cell? ⟨(w.heap.size + 1), 8, none⟩ = some (.int .i64 0) := HX6.out.cell 8
  have c29 : w2.cell? ⟨(w.heap.size + 1), 9, none⟩ = some (.slice none 0 0) := HX6.out.cell 9
  have c30 : w2.cell? ⟨(w.heap.size + 1), 10, none⟩ = some (.int .u64 0) := HX6.out.cell 10
  have l31 : (w.heap.size + 1) < w2.heap.size := HX6.out.lt
  have fr0 := HX6.out.frozen 0
  have fr1 := HX6.out.frozen 1
  have fr2 := HX6.out.frozen 2
  have fr3 := HX6.out.frozen 3
  have fr4 := HX6.out.frozen 4
  have fr5 := HX6.out.frozen 5
  have fr6 := HX6.out.frozen 6
  have fr7 := HX6.out.frozen 7
  have fr8 := HX6.out.frozen 8
  have fr9 := HX6.out.frozen 9
  have fr10 := HX6.out.frozen 10
  by_cases hV0 : V = 0
  case neg =>
    have h1 : (V != 0) = true := by simpa using hV0
    obtain ⟨n1, n2, n3, n4⟩ := HBA.out hV0
    have N2 := Lib.hid n2
    have N3 := Lib.hid n3
    have N4 := Lib.hid n4
    clear n1 n2 n3 n4
    go_wp2_with fail
    have bz := put11 HX6.out (.int .u8 0) (.int .i64 0) (.int .i64 0) (.int .i64 0) (.int .i64 0) (.int .i64 0) (.int .i64 0) (.int .i64 0) (.int .i64 0) (.slice none 0 0) (.int .u64 0)
    have z0 := bz.cell 0
    have z1 := bz.cell 1
    have z2 := bz.cell 2
    have z3 := bz.cell 3
    have z4 := bz.cell 4
    have z5 := bz.cell 5
    have z6 := bz.cell 6
    have z7 := bz.cell 7
    have z8 := bz.cell 8
    have z9 := bz.cell 9
    have z10 := bz.cell 10
    simp only [List.getElem?_toArray, List.getElem?_cons_zero, List.getElem?_cons_succ] at z0 z1 z2 z3 z4 z5 z6 z7 z8 z9 z10
    refine bodyPost_ret (v := .tuple #[.agg #[.int .u8 0, .int .i64 0, .int .i64 0, .int .i64 0, .int .i64 0, .int .i64 0, .int .i64 0, .int .i64 0, .int .i64 0, .slice none 0 0, .int .u64 0], .int .i64 V]) (by simp [results, Tryz.results26, go_sem, z0, z1, z2, z3, z4, z5, z6, z7, z8, z9, z10]) rfl ?_
    have n2 := N2.out
    have n3 := N3.out
    have n4 := N4.out
    rw [HCZ.out (by rw [n2]; exact hV0), n2, n3, n4]
    exact ⟨none, 0, [], rfl, rfl, OwnRs.nil _ _, below11 HF4.out (Nat.le_succ _) _ _ _ _ _ _ _ _ _ _ _⟩
  case pos =>
  have HG2 := Lib.hid (HGO.out hV0)
  have HS2 := Lib.hid (HSU.out hV0)
  clear HSU HGO HBA
  subst hV0
  go_wp2_with fail
  clear c8 c9 c10 c11 c12 c13 c14 c15 c16 c17 c18 l19 c20 c21 c22 c23 c24 c25 c26 c27 c28 c29 c30 l31
  clear fr0 fr1 fr2 fr3 fr4 fr5 fr6 fr7 fr8 fr9 fr10
  refine (HS2.out _ HY7.out).mono ?_
  rintro e w32 ⟨B2, k2, R2, rfl, hl2, ho2, hb33⟩
  have HL2 := Lib.hid hl2
  have HO2 := Lib.hid (ho2.mono HF4.out.size)
  clear hl2 ho2
  have HF34 := Lib.hid (bext HF4.out hb33)
  have HX35 := Lib.hid (HX5.out.below hb33 HX5.out.lt)
  have HX36 := Lib.hid (HX6.out.below hb33 HX6.out.lt)
  have HY37 := Lib.hid (RunsAt.below HY7.out hb33)
  clear HF4 HX5 HX6 HY7
  clear hb33
  have HY38 := Lib.hid (HO2.out)
  have c39 : w32.cell? ⟨(w.heap.size + 1), 0, none⟩ = some (.int .u8 0) := HX36.out.cell 0
  have c40 : w32.cell? ⟨(w.heap.size + 1), 1, none⟩ = some (.int .i64 0) := HX36.out.cell 1
  have c41 : w32.cell? ⟨(w.heap.size + 1), 2, none⟩ = some (.int .i64 0) := HX36.out.cell 2
  have c42 : w32.cell? ⟨(w.heap.size + 1), 3, none⟩ = some (.int .i64 0) := HX36.out.cell 3
  have c43 : w32.cell? ⟨(w.heap.size + 1), 4, none⟩ = some (.int .i64 0) := HX36.out.cell 4
  have c44 : w32.cell? ⟨(w.heap.size + 1), 5, none⟩ = some (.int .i64 0) := HX36.out.cell 5
  have c45 : w32.cell? ⟨(w.heap.size + 1), 6, none⟩ = some (.int .i64 0) := HX36.out.cell 6
  have c46 : w32.cell? ⟨(w.heap.size + 1), 7, none⟩ = some (.int .i64 0) := HX36.out.cell 7
  have c47 : w32.cell? ⟨(w.heap.size + 1), 8, none⟩ = some (.int .i64 0) := HX36.out.cell 8
  have c48 : w32.cell? ⟨(w.heap.size + 1), 9, none⟩ = some (.slice none 0 0) := HX36.out.cell 9
  have c49 : w32.cell? ⟨(w.heap.size + 1), 10, none⟩ = some (.int .u64 0) := HX36.out.cell 10
  have l50 : (w.heap.size + 1) < w32.heap.size := HX36.out.lt
  have fr0 := HX36.out.frozen 0
  have fr1 := HX36.out.frozen 1
  have fr2 := HX36.out.frozen 2
  have fr3 := HX36.out.frozen 3
  have fr4 := HX36.out.frozen 4
  have fr5 := HX36.out.frozen 5
  have fr6 := HX36.out.frozen 6
  have fr7 := HX36.out.frozen 7
  have fr8 := HX36.out.frozen 8
  have fr9 := HX36.out.frozen 9
  have fr10 := HX36.out.frozen 10
  go_wp2_with fail
  have bz := put11 HX36.out (.int .u8 c2.tag) (.int .i64 c2.most) (.int .i64 c2.seg) (.int .i64 c2.least) (.int .i64 c2.den) (.int .i64 c2.leafLow) (.int .i64 c2.rootLow) (.int .i64 c2.rootHigh) (.int .i64 c2.leafHigh) (.slice B2 R2.length k2) (.int .u64 NU)
  have z0 := bz.cell 0
  have z1 := bz.cell 1
  have z2 := bz.cell 2
  have z3 := bz.cell 3
  have z4 := bz.cell 4
  have z5 := bz.cell 5
  have z6 := bz.cell 6
  have z7 := bz.cell 7
  have z8 := bz.cell 8
  have z9 := bz.cell 9
  have z10 := bz.cell 10
  simp only [List.getElem?_toArray, List.getElem?_cons_zero, List.getElem?_cons_succ] at z0 z1 z2 z3 z4 z5 z6 z7 z8 z9 z10
  refine bodyPost_ret (v := .tuple #[.agg #[.int .u8 c2.tag, .int .i64 c2.most, .int .i64 c2.seg, .int .i64 c2.least, .int .i64 c2.den, .int .i64 c2.leafLow, .int .i64 c2.rootLow, .int .i64 c2.rootHigh, .int .i64 c2.leafHigh, .slice B2 R2.length k2, .int .u64 NU], .int .i64 E0]) (by simp [results, Tryz.results26, go_sem, z0, z1, z2, z3, z4, z5, z6, z7, z8, z9, z10]) rfl ?_
  rw [HG2.out, HC2.out]
  exact ⟨B2, k2, R2, rfl, HL2.out, HY38.out.set11 HX36.out (by decide) (by decide) _ _ _ _ _ _ _ _ _ _ _, below11 HF34.out (Nat.le_succ _) _ _ _ _ _ _ _ _ _ _ _⟩
set_option maxHeartbeats 8000000 in
theorem delete27_any (B : Option Addr) (Rs : List Rm) (k : Nat) (c : Cfg) (n : Int) (key : Int) (w : World) (hB : RunsAt w B Rs) (hT : tot (lvs Rs) ≤ 1000000) (hl : Rs.length ≤ 1000000) (hT3 : tot (lvs Rs) ≤ 300) (hn : 0 ≤ n ∧ n ≤ 18446744073709551615) :
    Calls Tryz.prog 28 #[.agg (lrow c B Rs.length k n), .int .i64 key] w (GivesLd (ldC c (upE (veD c (lvs Rs) key) (lvs Rs) (delY key))) (upL (veD c (lvs Rs) key) (lvs Rs) n (delY key)) (upN (veD c (lvs Rs) key) (lvs Rs) n (delY key)) (upE (veD c (lvs Rs) key) (lvs Rs) (delY key)) w) := by
  obtain ⟨W0, hW0⟩ : ∃ W0, (w.alloc (.cells #[.int .u8 c.tag, .int .i64 c.most, .int .i64 c.seg, .int .i64 c.least, .int .i64 c.den, .int .i64 c.leafLow, .int .i64 c.rootLow, .int .i64 c.rootHigh, .int .i64 c.leafHigh, .slice B Rs.length k, .int .u64 n] 29)).alloc (.cells #[.int .u8 0, .int .i64 0, .int .i64 0, .int .i64 0, .int .i64 0, .int .i64 0, .int .i64 0, .int .i64 0, .int .i64 0, .slice none 0 0, .int .u64 0] 29) = W0 := ⟨_, rfl⟩
  have hb0 : Below w.heap.size w W0 := by rw [← hW0]; exact ((Below.refl _ _).alloc (Nat.le_refl _) _).alloc (by simp) _
  have b0 : Blk W0 w.heap.size 29 #[.int .u8 c.tag, .int .i64 c.most, .int .i64 c.seg, .int .i64 c.least, .int .i64 c.den, .int .i64 c.leafLow, .int .i64 c.rootLow, .int .i64 c.rootHigh, .int .i64 c.leafHigh, .slice B Rs.length k, .int .u64 n] := by rw [← hW0]; exact (Blk.new _ _ _).alloc _
  have br0 : Blk W0 (w.heap.size + 1) 29 #[.int .u8 0, .int .i64 0, .int .i64 0, .int .i64 0, .int .i64 0, .int .i64 0, .int .i64 0, .int .i64 0, .int .i64 0, .slice none 0 0, .int .u64 0] := by
    rw [← hW0]
    have := Blk.new (w.alloc (.cells #[.int .u8 c.tag, .int .i64 c.most, .int .i64 c.seg, .int .i64 c.least, .int .i64 c.den, .int .i64 c.leafLow, .int .i64 c.rootLow, .int .i64 c.rootHigh, .int .i64 c.leafHigh, .slice B Rs.length k, .int .u64 n] 29)) 29 #[.int .u8 0, .int .i64 0, .int .i64 0, .int .i64 0, .int .i64 0, .int .i64 0, .int .i64 0, .int .i64 0, .int .i64 0, .slice none 0 0, .int .u64 0]
    rwa [World.size_alloc] at this
  have HW0 := Lib.hid hW0
  have HB := Lib.hid (hB.below hb0)
  have HB0 := Lib.hid hb0
  have HC0 := Lib.hid b0
  have HR0 := Lib.hid br0
  have hck := check27_any B Rs k c n W0 HB.out hT hl
  have hsu := fun he W (hW : RunsAt W B Rs) => gone27_any B Rs k c n key W hW hT hl he hT3 hn
  have hba := fun he : errL c (lvs Rs) ≠ 0 => bad_del he n key 0
  have hgo : errL c (lvs Rs) = 0 → upE (veD c (lvs Rs) key) (lvs Rs) (delY key) = (veD c (lvs Rs) key) := fun he => up_add (errL_zero he).2.1 hT3 (by first | exact put_fair _ _ | exact del_fair _)
  obtain ⟨yy, hyy⟩ : ∃ x, (delY key) = x := ⟨_, rfl⟩
  rw [hyy] at hsu hba hgo
  rw [hyy]
  obtain ⟨E0, hEE⟩ : ∃ x, (veD c (lvs Rs) key) = x := ⟨_, rfl⟩
  rw [hEE] at hsu hba hgo
  rw [hEE]
  obtain ⟨F, hF⟩ : ∃ x, upE E0 (lvs Rs) yy = x := ⟨_, rfl⟩
  obtain ⟨LU, hLU⟩ : ∃ x, upL E0 (lvs Rs) n yy = x := ⟨_, rfl⟩
  obtain ⟨NU, hNU⟩ : ∃ x, upN E0 (lvs Rs) n yy = x := ⟨_, rfl⟩
  rw [hLU, hNU] at hsu
  rw [hF, hLU, hNU] at hba
  rw [hF] at hgo
  rw [hF, hLU, hNU]
  obtain ⟨V, hV⟩ : ∃ x, errL c (lvs Rs) = x := ⟨_, rfl⟩
  rw [hV] at hck hsu hba hgo
  obtain ⟨c2, hc2⟩ : ∃ x, ldC c E0 = x := ⟨_, rfl⟩
  rw [hc2] at hsu
  have hcz : F ≠ 0 → ldC c F = cz := fun h => by unfold ldC; rw [if_neg h]
  have HCK := Lib.hid hck
  have HSU := Lib.hid hsu
  have HBA := Lib.hid hba
  have HGO := Lib.hid hgo
  have HCZ := Lib.hid hcz
  have HC2 := Lib.hid hc2
  have HYK := Lib.hid hyy
  clear hW0 hB hck hsu hba hgo hcz hc2 hEE hF hLU hNU hV hyy hn hT hT3
  have q0 : W0.cell? ⟨w.heap.size, 0, none⟩ = some (.int .u8 c.tag) := b0.cell 0
  have q1 : W0.cell? ⟨w.heap.size, 1, none⟩ = some (.int .i64 c.most) := b0.cell 1
  have q2 : W0.cell? ⟨w.heap.size, 2, none⟩ = some (.int .i64 c.seg) := b0.cell 2
  have q3 : W0.cell? ⟨w.heap.size, 3, none⟩ = some (.int .i64 c.least) := b0.cell 3
  have q4 : W0.cell? ⟨w.heap.size, 4, none⟩ = some (.int .i64 c.den) := b0.cell 4
  have q5 : W0.cell? ⟨w.heap.size, 5, none⟩ = some (.int .i64 c.leafLow) := b0.cell 5
  have q6 : W0.cell? ⟨w.heap.size, 6, none⟩ = some (.int .i64 c.rootLow) := b0.cell 6
  have q7 : W0.cell? ⟨w.heap.size, 7, none⟩ = some (.int .i64 c.rootHigh) := b0.cell 7
  have q8 : W0.cell? ⟨w.heap.size, 8, none⟩ = some (.int .i64 c.leafHigh) := b0.cell 8
  have q9 : W0.cell? ⟨w.heap.size, 9, none⟩ = some (.slice B Rs.length k) := b0.cell 9
  have q10 : W0.cell? ⟨w.heap.size, 10, none⟩ = some (.int .u64 n) := b0.cell 10
  clear b0 hb0 br0
  go_enter Tryz.func28, Tryz.ntmps28
  go_upto_region 1 with fail
  rw [HW0.out]
  have HY1 := Lib.hid (HB.out)
  go_wp2_with fail
  refine (HCK.out).mono ?_
  rintro e w2 ⟨rfl, hb3⟩
  clear q0 q1 q2 q3 q4 q5 q6 q7 q8 q9 q10
  have HF4 := Lib.hid (bext HB0.out hb3)
  have HX5 := Lib.hid (HC0.out.below hb3 HC0.out.lt)
  have HX6 := Lib.hid (HR0.out.below hb3 HR0.out.lt)
  have HY7 := Lib.hid (RunsAt.below HY1.out hb3)
  clear HC0 HR0 HY1
  clear hb3
  have c8 : w2.cell? ⟨w.heap.size, 0, none⟩ = some (.int .u8 c.tag) := HX5.out.cell 0
  have c9 : w2.cell? ⟨w.heap.size, 1, none⟩ = some (.int .i64 c.most) := HX5.out.cell 1
  have c10 : w2.cell? ⟨w.heap.size, 2, none⟩ = some (.int .i64 c.seg) := HX5.out.cell 2
  have c11 : w2.cell? ⟨w.heap.size, 3, none⟩ = some (.int .i64 c.least) := HX5.out.cell 3
  have c12 : w2.cell? ⟨w.heap.size, 4, none⟩ = some (.int .i64 c.den) := HX5.out.cell 4
  have c13 : w2.cell? ⟨w.heap.size, 5, none⟩ = some (.int .i64 c.leafLow) := HX5.out.cell 5
  have c14 : w2.cell? ⟨w.heap.size, 6, none⟩ = some (.int .i64 c.rootLow) := HX5.out.cell 6
  have c15 : w2.cell? ⟨w.heap.size, 7, none⟩ = some (.int .i64 c.rootHigh) := HX5.out.cell 7
  have c16 : w2.cell? ⟨w.heap.size, 8, none⟩ = some (.int .i64 c.leafHigh) := HX5.out.cell 8
  have c17 : w2.cell? ⟨w.heap.size, 9, none⟩ = some (.slice B Rs.length k) := HX5.out.cell 9
  have c18 : w2.cell? ⟨w.heap.size, 10, none⟩ = some (.int .u64 n) := HX5.out.cell 10
  have l19 : w.heap.size < w2.heap.size := HX5.out.lt
  have c20 : w2.cell? ⟨(w.heap.size + 1), 0, none⟩ = some (.int .u8 0) := HX6.out.cell 0
  have c21 : w2.cell? ⟨(w.heap.size + 1), 1, none⟩ = some (.int .i64 0) := HX6.out.cell 1
  have c22 : w2.cell? ⟨(w.heap.size + 1), 2, none⟩ = some (.int .i64 0) := HX6.out.cell 2
  have c23 : w2.cell? ⟨(w.heap.size + 1), 3, none⟩ = some (.int .i64 0) := HX6.out.cell 3
  have c24 : w2.cell? ⟨(w.heap.size + 1), 4, none⟩ = some (.int .i64 0) := HX6.out.cell 4
  have c25 : w2.cell? ⟨(w.heap.size + 1), 5, none⟩ = some (.int .i64 0) := HX6.out.cell 5
  have c26 : w2.cell? ⟨(w.heap.size + 1), 6, none⟩ = some (.int .i64 0) := HX6.out.cell 6
  have c27 : w2.cell? ⟨(w.heap.size + 1), 7, none⟩ = some (.int .i64 0) := HX6.out.cell 7
  have c28 : w2.cell? ⟨(w.heap.size + 1), 8, none⟩ = some (.int .i64 0) := HX6.out.cell 8
  have c29 : w2.cell? ⟨(w.heap.size + 1), 9, none⟩ = some (.slice none 0 0) := HX6.out.cell 9
  have c30 : w2.cell? ⟨(w.heap.size + 1), 10, none⟩ = some (.int .u64 0) := HX6.out.cell 10
  have l31 : (w.heap.size + 1) < w2.heap.size := HX6.out.lt
  have fr0 := HX6.out.frozen 0
  have fr1 := HX6.out.frozen 1
  have fr2 := HX6.out.frozen 2
  have fr3 := HX6.out.frozen 3
  have fr4 := HX6.out.frozen 4
  have fr5 := HX6.out.frozen 5
  have fr6 := HX6.out.frozen 6
  have fr7 := HX6.out.frozen 7
  have fr8 := HX6.out.frozen 8
  have fr9 := HX6.out.frozen 9
  have fr10 := HX6.out.frozen 10
  by_cases hV0 : V = 0
  case neg =>
    have h1 : (V != 0) = true := by simpa using hV0
    obtain ⟨n1, n2, n3, n4⟩ := HBA.out hV0
    have N2 := Lib.hid n2
    have N3 := Lib.hid n3
    have N4 := Lib.hid n4
    clear n1 n2 n3 n4
    go_wp2_with fail
    have bz := put11 HX6.out (.int .u8 0) (.int .i64 0) (.int .i64 0) (.int .i64 0) (.int .i64 0) (.int .i64 0) (.int .i64 0) (.int .i64 0) (.int .i64 0) (.slice none 0 0) (.int .u64 0)
    have z0 := bz.cell 0
    have z1 := bz.cell 1
    have z2 := bz.cell 2
    have z3 := bz.cell 3
    have z4 := bz.cell 4
    have z5 := bz.cell 5
    have z6 := bz.cell 6
    have z7 := bz.cell 7
    have z8 := bz.cell 8
    have z9 := bz.cell 9
    have z10 := bz.cell 10
    simp only [List.getElem?_toArray, List.getElem?_cons_zero, List.getElem?_cons_succ] at z0 z1 z2 z3 z4 z5 z6 z7 z8 z9 z10
    refine bodyPost_ret (v := .tuple #[.agg #[.int .u8 0, .int .i64 0, .int .i64 0, .int .i64 0, .int .i64 0, .int .i64 0, .int .i64 0, .int .i64 0, .int .i64 0, .slice none 0 0, .int .u64 0], .int .i64 V]) (by simp [results, Tryz.results28, go_sem, z0, z1, z2, z3, z4, z5, z6, z7, z8, z9, z10]) rfl ?_
    have n2 := N2.out
    have n3 := N3.out
    have n4 := N4.out
    rw [HCZ.out (by rw [n2]; exact hV0), n2, n3, n4]
    exact ⟨none, 0, [], rfl, rfl, OwnRs.nil _ _, below11 HF4.out (Nat.le_succ _) _ _ _ _ _ _ _ _ _ _ _⟩
  case pos =>
  have HG2 := Lib.hid (HGO.out hV0)
  have HS2 := Lib.hid (HSU.out hV0)
  clear HSU HGO HBA
  subst hV0
  go_wp2_with fail
  clear c8 c9 c10 c11 c12 c13 c14 c15 c16 c17 c18 l19 c20 c21 c22 c23 c24 c25 c26 c27 c28 c29 c30 l31
  clear fr0 fr1 fr2 fr3 fr4 fr5 fr6 fr7 fr8 fr9 fr10
  refine (HS2.out _ HY7.out).mono ?_
  rintro e w32 ⟨B2, k2, R2, rfl, hl2, ho2, hb33⟩
  have HL2 := Lib.hid hl2
  have HO2 := Lib.hid (ho2.mono HF4.out.size)
  clear hl2 ho2
  have HF34 := Lib.hid (bext HF4.out hb33)
  have HX35 := Lib.hid (HX5.out.below hb33 HX5.out.lt)
  have HX36 := Lib.hid (HX6.out.below hb33 HX6.out.lt)
  have HY37 := Lib.hid (RunsAt.below HY7.out hb33)
  clear HF4 HX5 HX6 HY7
  clear hb33
  have HY38 := Lib.hid (HO2.out)
  have c39 : w32.cell? ⟨(w.heap.size + 1), 0, none⟩ = some (.int .u8 0) := HX36.out.cell 0
  have c40 : w32.cell? ⟨(w.heap.size + 1), 1, none⟩ = some (.int .i64 0) := HX36.out.cell 1
  have c41 : w32.cell? ⟨(w.heap.size + 1), 2, none⟩ = some (.int .i64 0) := HX36.out.cell 2
  have c42 : w32.cell? ⟨(w.heap.size + 1), 3, none⟩ = some (.int .i64 0) := HX36.out.cell 3
  have c43 : w32.cell? ⟨(w.heap.size + 1), 4, none⟩ = some (.int .i64 0) := HX36.out.cell 4
  have c44 : w32.cell? ⟨(w.heap.size + 1), 5, none⟩ = some (.int .i64 0) := HX36.out.cell 5
  have c45 : w32.cell? ⟨(w.heap.size + 1), 6, none⟩ = some (.int .i64 0) := HX36.out.cell 6
  have c46 : w32.cell? ⟨(w.heap.size + 1), 7, none⟩ = some (.int .i64 0) := HX36.out.cell 7
  have c47 : w32.cell? ⟨(w.heap.size + 1), 8, none⟩ = some (.int .i64 0) := HX36.out.cell 8
  have c48 : w32.cell? ⟨(w.heap.size + 1), 9, none⟩ = some (.slice none 0 0) := HX36.out.cell 9
  have c49 : w32.cell? ⟨(w.heap.size + 1), 10, none⟩ = some (.int .u64 0) := HX36.out.cell 10
  have l50 : (w.heap.size + 1) < w32.heap.size := HX36.out.lt
  have fr0 := HX36.out.frozen 0
  have fr1 := HX36.out.frozen 1
  have fr2 := HX36.out.frozen 2
  have fr3 := HX36.out.frozen 3
  have fr4 := HX36.out.frozen 4
  have fr5 := HX36.out.frozen 5
  have fr6 := HX36.out.frozen 6
  have fr7 := HX36.out.frozen 7
  have fr8 := HX36.out.frozen 8
  have fr9 := HX36.out.frozen 9
  have fr10 := HX36.out.frozen 10
  go_wp2_with fail
  have bz := put11 HX36.out (.int .u8 c2.tag) (.int .i64 c2.most) (.int .i64 c2.seg) (.int .i64 c2.least) (.int .i64 c2.den) (.int .i64 c2.leafLow) (.int .i64 c2.rootLow) (.int .i64 c2.rootHigh) (.int .i64 c2.leafHigh) (.slice B2 R2.length k2) (.int .u64 NU)
  have z0 := bz.cell 0
  have z1 := bz.cell 1
  have z2 := bz.cell 2
  have z3 := bz.cell 3
  have z4 := bz.cell 4
  have z5 := bz.cell 5
  have z6 := bz.cell 6
  have z7 := bz.cell 7
  have z8 := bz.cell 8
  have z9 := bz.cell 9
  have z10 := bz.cell 10
  simp only [List.getElem?_toArray, List.getElem?_cons_zero, List.getElem?_cons_succ] at z0 z1 z2 z3 z4 z5 z6 z7 z8 z9 z10
  refine bodyPost_ret (v := .tuple #[.agg #[.int .u8 c2.tag, .int .i64 c2.most, .int .i64 c2.seg, .int .i64 c2.least, .int .i64 c2.den, .int .i64 c2.leafLow, .int .i64 c2.rootLow, .int .i64 c2.rootHigh, .int .i64 c2.leafHigh, .slice B2 R2.length k2, .int .u64 NU], .int .i64 E0]) (by simp [results, Tryz.results28, go_sem, z0, z1, z2, z3, z4, z5, z6, z7, z8, z9, z10]) rfl ?_
  rw [HG2.out, HC2.out]
  exact ⟨B2, k2, R2, rfl, HL2.out, HY38.out.set11 HX36.out (by decide) (by decide) _ _ _ _ _ _ _ _ _ _ _, below11 HF34.out (Nat.le_succ _) _ _ _ _ _ _ _ _ _ _ _⟩
end Go.Proofs.YthbppblmecdekaaGreatDoor

/- Levels that are written over: what stays so that the walk may go on. No walk. -/
namespace Go.Proofs.YthbppblmecdekaaGreatDoor
open Go Go.RowKit
set_option maxRecDepth 100000
def KeyRow (w : World) (B0 E : Nat) (A : Option Addr) (m : Nat) : Prop := m = 0 ∨ ∃ g cs, A = some ⟨g, 0, none⟩ ∧ (B0 ≤ g ∧ g < E) ∧ Blk w g 71 cs ∧ ∀ q, q < m → ∃ k, cs[q * 3]? = some (.int .i64 k)
structure LvRow (w : World) (B0 E g n : Nat) (cs : Array Value) : Prop where
  blk : Blk w g 74 cs
  base : B0 ≤ g ∧ g < E
  row : ∀ j, j < n → ∃ A m c, cs[j]? = some (.slice A m c) ∧ m ≤ 1000000 ∧ KeyRow w B0 E A m
section
variable {w w' : World} {B0 E g g2 n m i : Nat} {A : Option Addr} {cs : Array Value}
theorem KeyRow.get (h : KeyRow w B0 E A m) {q : Nat} (hq : q < m) : ∃ g k, A = some ⟨g, 0, none⟩ ∧ (B0 ≤ g ∧ g < E) ∧ w.cell? ⟨g, q * 3, none⟩ = some (.int .i64 k) ∧ w.frozen? ⟨g, q * 3, none⟩ = false ∧ ∃ cs, Blk w g 71 cs := by
  rcases h with h0 | ⟨g, cs, h1, h2, h3, h4⟩
  · omega
  · obtain ⟨k, hk⟩ := h4 q hq
    exact ⟨g, k, h1, h2, (h3.cell _).trans hk, h3.frozen _, cs, h3⟩
theorem KeyRow.setKey (h : KeyRow w B0 E A m) (g i : Nat) (k : Int) : KeyRow (w.setCell ⟨g, i, none⟩ (.int .i64 k)) B0 E A m := by
  rcases h with h0 | ⟨g', cs, h1, h2, h4, h5⟩
  · exact .inl h0
  · by_cases e : g' = g
    · subst e
      refine .inr ⟨g', _, h1, h2, h4.set_ i _, fun j hj => ?_⟩
      obtain ⟨k', hk'⟩ := h5 j hj
      rw [Array.getElem?_setIfInBounds]
      by_cases e2 : i = j * 3
      · rw [if_pos e2]
        have hlt : i < cs.size := by rw [e2]; exact (Array.getElem?_eq_some_iff.1 hk').1
        rw [if_pos hlt]
        exact ⟨k, rfl⟩
      · rw [if_neg e2]
        exact ⟨k', hk'⟩
    · exact .inr ⟨g', cs, h1, h2, h4.far (p := ⟨g, i, none⟩) e _, h5⟩
theorem KeyRow.setRow (h : KeyRow w B0 E A m) (hB : Blk w g 74 cs) (i : Nat) (u : Value) : KeyRow (w.setCell ⟨g, i, none⟩ u) B0 E A m := by
  rcases h with h0 | ⟨g', cs', h1, h2, h4, h5⟩
  · exact .inl h0
  · refine .inr ⟨g', cs', h1, h2, h4.far (p := ⟨g, i, none⟩) ?_ _, h5⟩
    intro e
    have e2 : g' = g := e
    subst e2
    have := h4.symm.trans hB
    simp at this
theorem KeyRow.below (h : KeyRow w B0 E A m) (hb : Below w.heap.size w w') : KeyRow w' B0 E A m := by
  rcases h with h0 | ⟨g', cs', h1, h2, h4, h5⟩
  · exact .inl h0
  · exact .inr ⟨g', cs', h1, h2, h4.below hb h4.lt, h5⟩
theorem LvRow.below (h : LvRow w B0 E g n cs) (hb : Below w.heap.size w w') : LvRow w' B0 E g n cs :=
  ⟨h.blk.below hb h.blk.lt, h.base, fun j hj => by obtain ⟨A, m, c, h1, h2, h3⟩ := h.row j hj; exact ⟨A, m, c, h1, h2, h3.below hb⟩⟩
theorem LvRow.setKey {cs2 : Array Value} (h : LvRow w B0 E g n cs) (h2 : Blk w g2 71 cs2) (i : Nat) (k : Int) : LvRow (w.setCell ⟨g2, i, none⟩ (.int .i64 k)) B0 E g n cs := by
  refine ⟨h.blk.far (p := ⟨g2, i, none⟩) ?_ _, h.base, fun j hj => ?_⟩
  · intro e
    have e2 : g = g2 := e
    subst e2
    have := h.blk.symm.trans h2
    simp at this
  · obtain ⟨A, m, c, h1, h3, h4⟩ := h.row j hj
    exact ⟨A, m, c, h1, h3, h4.setKey _ _ _⟩
theorem LvRow.clear (h : LvRow w B0 E g n cs) (i : Nat) : LvRow (w.setCell ⟨g, i, none⟩ (.slice none 0 0)) B0 E g n (cs.setIfInBounds i (.slice none 0 0)) := by
  refine ⟨h.blk.set_ i _, h.base, fun j hj => ?_⟩
  obtain ⟨A, m, c, h1, h3, h4⟩ := h.row j hj
  by_cases e : i = j
  · subst e
    have hlt : i < cs.size := (Array.getElem?_eq_some_iff.1 h1).1
    exact ⟨none, 0, 0, by rw [Array.getElem?_setIfInBounds, if_pos rfl, if_pos hlt], by omega, .inl rfl⟩
  · exact ⟨A, m, c, by rw [Array.getElem?_setIfInBounds, if_neg e]; exact h1, h3, h4.setRow h.blk _ _⟩
theorem OwnRs.lvRow {w0 : World} {B : Option Addr} {c : Nat} {Rs : List Rm} (h0 : OwnRs w0 B0 B c Rs) (h : OwnRs w B0 B c Rs) (hn : 0 < Rs.length) (hm : ∀ r ∈ Rs, r.l.length ≤ 1000000) : ∃ g cs, B = some ⟨g, 0, none⟩ ∧ LvRow w B0 w0.heap.size g Rs.length cs := by
  obtain ⟨g, cur, h1, h2, h3, h4, h5⟩ := h.at hn
  have hg0 := (h0.row.lt g (by rw [h1]; simp [Value.ownBlock])).2
  refine ⟨g, cur, h1, h3, ⟨h2, hg0⟩, fun j hj => ?_⟩
  have h6 := h5 j hj
  rw [h3.cell] at h6
  have hmem := List.getElem_mem hj
  refine ⟨_, _, _, h6, hm _ hmem, ?_⟩
  have h7 := h.ent _ hmem
  have h8 := h0.ent _ hmem
  by_cases hz : (Rs[j]'hj).l.length = 0
  · exact .inl hz
  · obtain ⟨g', cap, cur', hv, hg, hb, hn', _, hs, ht⟩ := own_blk h7 (by omega)
    have hg1 := (h8.lt g' (by rw [hv]; simp [Value.ownBlock])).2
    refine .inr ⟨g', cur', ?_, ⟨hg, hg1⟩, hb, fun q hq => ⟨((Rs[j]'hj).l[q]'hq).key, ?_⟩⟩
    · have := hv
      unfold Rm.v at this
      injection this
    · have hc := flat_get Ent.cells 3 Ent.cells_length (Rs[j]'hj).l q 0 hq (by omega)
      rw [← ht, List.getElem?_take, if_pos (by omega)] at hc
      simpa [Ent.cells] using hc
end
end Go.Proofs.YthbppblmecdekaaGreatDoor

/- Contract: levels written over (shelfmarklaw26.spoil). -/
namespace Go.Proofs.YthbppblmecdekaaGreatDoor
open Go Go.RowKit
set_option maxRecDepth 100000
theorem KeyRow.drew {w : World} {B0 E m : Nat} {A : Option Addr} (h : KeyRow w B0 E A m) : KeyRow w.drew B0 E A m := h
theorem LvRow.drew {w : World} {B0 E g n : Nat} {cs : Array Value} (h : LvRow w B0 E g n cs) : LvRow w.drew B0 E g n cs := ⟨h.blk, h.base, h.row⟩
end Go.Proofs.YthbppblmecdekaaGreatDoor

/- Contract: maps written over (shelfmarklaw27.spoil). -/
namespace Go.Proofs.YthbppblmecdekaaGreatDoor
open Go Go.RowKit
set_option maxRecDepth 100000
set_option maxHeartbeats 4000000 in
theorem spoil27_any (cf : Cfg) (B : Option Addr) (Rs : List Rm) (c B0 : Nat) (n : Int) (w0 w : World) (hO0 : OwnRs w0 B0 B c Rs) (hO : OwnRs w B0 B c Rs) (_hsw : w0.heap.size ≤ w.heap.size) (hl : Rs.length ≤ 1000000) (hm : ∀ r ∈ Rs, r.l.length ≤ 1000000) :
    Calls Tryz.prog 23 #[.agg (lrow cf B Rs.length c n)] w fun r w' => (∃ v, r = .returned v) ∧ Mod (fun b => B0 ≤ b ∧ b < w0.heap.size) w w' := by
  obtain ⟨W0, hW0⟩ : ∃ W0, w.alloc (.cells #[.int .u8 cf.tag, .int .i64 cf.most, .int .i64 cf.seg, .int .i64 cf.least, .int .i64 cf.den, .int .i64 cf.leafLow, .int .i64 cf.rootLow, .int .i64 cf.rootHigh, .int .i64 cf.leafHigh, .slice B Rs.length c, .int .u64 n] 29) = W0 := ⟨_, rfl⟩
  have hb0 : Below w.heap.size w W0 := by rw [← hW0]; exact (Below.refl _ _).alloc (Nat.le_refl _) _
  have b1 : Blk W0 w.heap.size 29 #[.int .u8 cf.tag, .int .i64 cf.most, .int .i64 cf.seg, .int .i64 cf.least, .int .i64 cf.den, .int .i64 cf.leafLow, .int .i64 cf.rootLow, .int .i64 cf.rootHigh, .int .i64 cf.leafHigh, .slice B Rs.length c, .int .u64 n] := by rw [← hW0]; exact Blk.new _ _ _
  have hbB : Hid (Mod (fun b => B0 ≤ b ∧ b < w0.heap.size) w W0) := Mod.of_ext hb0
  have hlw : w.heap.size ≤ W0.heap.size := hb0.size
  have HW0 := Lib.hid hW0
  have HO := Lib.hid (hO.below hb0)
  have HO0 := Lib.hid hO0
  clear hW0 hO hO0
  by_cases h0 : Rs.length = 0
  · have c10 : W0.cell? ⟨w.heap.size, 9, none⟩ = some (.slice B Rs.length c) := b1.cell 9
    rw [h0] at c10
    rw [h0] at HW0 ⊢
    clear h0 HO b1
    go_enter Tryz.func23, Tryz.ntmps23
    go_wp2
    rw [HW0.out]
    refine wp_loop_rounds 1 ?_
    rw [rounds_succ]
    go_wp2
    first
    | (go_end0; exact ⟨⟨_, rfl⟩, hbB.out⟩)
    | fail "no end"
  · obtain ⟨g, cs, rfl, hrow⟩ := HO0.out.lvRow HO.out (by omega) hm
    obtain ⟨N, hN⟩ : ∃ N, Rs.length = N := ⟨_, rfl⟩
    have HROW := Lib.hid hrow
    rw [hN] at b1 HW0 HROW hl h0 ⊢
    clear hrow hm HO hN
    go_enter Tryz.func23, Tryz.ntmps23
    go_wp2
    rw [HW0.out]
    go_loopw [2] (fun i wr => ∃ (k : Nat) (cs : Array Value), k ≤ N ∧ i = .int .i64 k ∧ Blk wr w.heap.size 29 #[.int .u8 cf.tag, .int .i64 cf.most, .int .i64 cf.seg, .int .i64 cf.least, .int .i64 cf.den, .int .i64 cf.leafLow, .int .i64 cf.rootLow, .int .i64 cf.rootHigh, .int .i64 cf.leafHigh, .slice (some ⟨g, 0, none⟩) N c, .int .u64 n] ∧ Hid (Mod (fun b => B0 ≤ b ∧ b < w0.heap.size) w wr ∧ LvRow wr B0 w0.heap.size g N cs)) (fun i _ => N - (intOf i).toNat)
    case atStart => exact ⟨0, cs, Nat.zero_le _, rfl, b1, hbB.out, HROW.out⟩
    case round =>
      obtain ⟨k, cs, hk, rfl, bX, hH⟩ := hrel
      have c10 : wr.cell? ⟨w.heap.size, 9, none⟩ = some (.slice (some ⟨g, 0, none⟩) N c) := bX.cell 9
      have c11 : wr.cell? ⟨w.heap.size, 10, none⟩ = some (.int .u64 n) := bX.cell 10
      by_cases hlt : k < N
      · obtain ⟨A, m, c2, hc1, hm1, hkr⟩ := hH.out.2.row k hlt
        have hki : (0 : Int) ≤ (k : Int) := by omega
        have hki2 : (k : Int) < (N : Int) := by omega
        have HC1 := Lib.hid hc1
        have HKR := Lib.hid hkr
        have HBX := Lib.hid bX
        clear hc1 hkr bX
        go_wp2_with fail
        clear c10 c11
        go_loopw [3] (fun i wq => ∃ q : Nat, q ≤ m ∧ i = .int .i64 q ∧ Blk wq w.heap.size 29 #[.int .u8 cf.tag, .int .i64 cf.most, .int .i64 cf.seg, .int .i64 cf.least, .int .i64 cf.den, .int .i64 cf.leafLow, .int .i64 cf.rootLow, .int .i64 cf.rootHigh, .int .i64 cf.leafHigh, .slice (some ⟨g, 0, none⟩) N c, .int .u64 n] ∧ Hid (Mod (fun b => B0 ≤ b ∧ b < w0.heap.size) w wq ∧ LvRow wq B0 w0.heap.size g N cs ∧ KeyRow wq B0 w0.heap.size A m)) (fun i _ => m - (intOf i).toNat)
        case atStart => exact ⟨0, Nat.zero_le _, rfl, HBX.out, hH.out.1, hH.out.2, HKR.out⟩
        case round =>
          obtain ⟨q, hq, rfl, bY, hI⟩ := hrel
          have c10 : wr.cell? ⟨w.heap.size, 9, none⟩ = some (.slice (some ⟨g, 0, none⟩) N c) := bY.cell 9
          have c11 : wr.cell? ⟨w.heap.size, 10, none⟩ = some (.int .u64 n) := bY.cell 10
          have c20 : wr.cell? ⟨g, k, none⟩ = some (.slice A m c2) := (hI.out.2.1.blk.cell k).trans HC1.out
          have f20 : wr.frozen? ⟨g, k, none⟩ = false := hI.out.2.1.blk.frozen k
          by_cases hqm : q < m
          · obtain ⟨g2, kk, rfl, hg2, ck, fk, cs2, b2⟩ := hI.out.2.2.get hqm
            have i0 : (0 : Int) ≤ (q : Int) := by omega
            have i1 : (q : Int) < (m : Int) := by omega
            have HB2 := Lib.hid b2
            have HBY := Lib.hid bY
            have hneX : Hid (w.heap.size ≠ g2) := (blk_ne b2 bY (by decide)).symm
            clear b2 bY
            go_upto_region 7 with fail
            go_region
            all_goals
              go_wp2
              go_roundw
              case rel =>
                exact ⟨q + 1, by omega, by go_num, HBY.out.far (p := ⟨g2, q * 3, none⟩) hneX.out _, (hI.out.1.setCell (p := ⟨g2, q * 3, none⟩) hg2 _).drew, (hI.out.2.1.setKey HB2.out (q * 3) _).drew, (hI.out.2.2.setKey g2 (q * 3) _).drew⟩
              case measure => simp [intOf]; omega
          · have hqf : ¬ (q : Int) < (m : Int) := by omega
            have lg := hI.out.2.1.blk.lt
            have HBY := Lib.hid bY
            have hneX : Hid (w.heap.size ≠ g) := (blk_ne hI.out.2.1.blk bY (by decide)).symm
            clear bY
            go_wp2
            go_roundw
            case rel =>
              have hHo := hI.out
              exact ⟨k + 1, cs, by omega, by go_num, HBY.out, hHo.1, hHo.2.1⟩
            case measure => simp [intOf]; omega
      · have hkf : ¬ (k : Int) < (N : Int) := by omega
        go_wp2
        first
        | (go_end0; exact ⟨⟨_, rfl⟩, hH.out.1⟩)
        | fail "no end"
end Go.Proofs.YthbppblmecdekaaGreatDoor
