/- Ff: texts of the claim, in this order. -/
import Derived.Test.YthbppblmecdekaaGreatDoorWu3
import Derived.Test.YthbppblmecdekaaGreatDoorWu1
import Derived.Test.YthbppblmecdekaaGreatDoorWu4
import Derived.Test.YthbppblmecdekaaGreatDoorWg15
import Derived.Deep.RegionWith
/- Contracts: shelfmarkref27 with, Laid, Put, Gone, Delete. -/
namespace Go.Proofs.YthbppblmecdekaaGreatDoor
open Go Go.RowKit
set_option maxRecDepth 100000
theorem put_fair (key val : Int) : badEnt (putY key val) = false := by unfold badEnt putY; simp
theorem del_fair (key : Int) : badEnt (delY key) = false := by unfold badEnt delY; simp
theorem addD_is {L : Lv} {y : Ent} (h : May L) (ht : tot L ≤ 300) (hy : badEnt y = false) (n : Int) : addE L y = 0 ∧ addL L n y = slimL (letL L n y) ∧ addN L n y = slimN (letL L n y) (letN L n y) := by
  have h0 : addE L y = 0 := addE_zero.2 ⟨h, by omega, hy⟩
  refine ⟨h0, ?_, ?_⟩
  · unfold addL; rw [if_pos h0]
  · unfold addN; rw [if_pos h0]
set_option maxHeartbeats 8000000 in
theorem with27_any (B : Option Addr) (Rs : List Rm) (k : Nat) (c : Cfg) (n : Int) (y : Ent) (w : World) (hB : RunsAt w B Rs) (hM : May (lvs Rs)) (hy : badEnt y = false) (hT3 : tot (lvs Rs) ≤ 300) (hn : 0 ≤ n ∧ n ≤ 18446744073709551615) :
    Calls Tryz.prog 101 #[.agg (lrow c B Rs.length k n), .agg #[.int .i64 y.key, .int .i64 y.val, .bool y.dead]] w (GivesLm c (addL (lvs Rs) n y) (addN (lvs Rs) n y) w) := by
  obtain ⟨W0, hW0⟩ : ∃ W0, ((w.alloc (.cells #[.int .u8 c.tag, .int .i64 c.most, .int .i64 c.seg, .int .i64 c.least, .int .i64 c.den, .int .i64 c.leafLow, .int .i64 c.rootLow, .int .i64 c.rootHigh, .int .i64 c.leafHigh, .slice B Rs.length k, .int .u64 n] 29)).alloc (.cells #[.int .i64 y.key, .int .i64 y.val, .bool y.dead] 71)).alloc (.cells #[.int .u8 0, .int .i64 0, .int .i64 0, .int .i64 0, .int .i64 0, .int .i64 0, .int .i64 0, .int .i64 0, .int .i64 0, .slice none 0 0, .int .u64 0] 29) = W0 := ⟨_, rfl⟩
  have hb0 : Below w.heap.size w W0 := by rw [← hW0]; exact (((Below.refl _ _).alloc (Nat.le_refl _) _).alloc (by simp) _).alloc (by simp; omega) _
  have b0 : Blk W0 w.heap.size 29 #[.int .u8 c.tag, .int .i64 c.most, .int .i64 c.seg, .int .i64 c.least, .int .i64 c.den, .int .i64 c.leafLow, .int .i64 c.rootLow, .int .i64 c.rootHigh, .int .i64 c.leafHigh, .slice B Rs.length k, .int .u64 n] := by rw [← hW0]; exact ((Blk.new _ _ _).alloc _).alloc _
  have be0 : Blk W0 (w.heap.size + 1) 71 #[.int .i64 y.key, .int .i64 y.val, .bool y.dead] := by
    rw [← hW0]
    have := Blk.new (w.alloc (.cells #[.int .u8 c.tag, .int .i64 c.most, .int .i64 c.seg, .int .i64 c.least, .int .i64 c.den, .int .i64 c.leafLow, .int .i64 c.rootLow, .int .i64 c.rootHigh, .int .i64 c.leafHigh, .slice B Rs.length k, .int .u64 n] 29)) 71 #[.int .i64 y.key, .int .i64 y.val, .bool y.dead]
    rw [World.size_alloc] at this
    exact this.alloc _
  have br0 : Blk W0 (w.heap.size + 1 + 1) 29 #[.int .u8 0, .int .i64 0, .int .i64 0, .int .i64 0, .int .i64 0, .int .i64 0, .int .i64 0, .int .i64 0, .int .i64 0, .slice none 0 0, .int .u64 0] := by
    rw [← hW0]
    have := Blk.new ((w.alloc (.cells #[.int .u8 c.tag, .int .i64 c.most, .int .i64 c.seg, .int .i64 c.least, .int .i64 c.den, .int .i64 c.leafLow, .int .i64 c.rootLow, .int .i64 c.rootHigh, .int .i64 c.leafHigh, .slice B Rs.length k, .int .u64 n] 29)).alloc (.cells #[.int .i64 y.key, .int .i64 y.val, .bool y.dead] 71)) 29 #[.int .u8 0, .int .i64 0, .int .i64 0, .int .i64 0, .int .i64 0, .int .i64 0, .int .i64 0, .int .i64 0, .int .i64 0, .slice none 0 0, .int .u64 0]
    rwa [World.size_alloc, World.size_alloc] at this
  have HW0 := Lib.hid hW0
  obtain ⟨_, hA1, hA2⟩ := addD_is hM hT3 hy n
  have hin := fun W (hW : RunsAt W B Rs) => in26_any B Rs k n y W hW hM hy (by omega) hn
  rw [← hA1, ← hA2] at hin
  obtain ⟨LA, hLA⟩ : ∃ x, addL (lvs Rs) n y = x := ⟨_, rfl⟩
  obtain ⟨N, hN⟩ : ∃ x, addN (lvs Rs) n y = x := ⟨_, rfl⟩
  rw [hLA, hN] at hin
  rw [hLA, hN]
  have HIN := Lib.hid hin
  have HB := Lib.hid hB
  clear hW0 hB hin hLA hN hA1 hA2 hM hy hT3
  have q0 : W0.cell? ⟨w.heap.size, 0, none⟩ = some (.int .u8 c.tag) := b0.cell 0
  have q1 : W0.cell? ⟨w.heap.size, 1, none⟩ = some (.int .i64 c.most) := b0.cell 1
  have q2 : W0.cell? ⟨w.heap.size, 2, none⟩ = some (.int .i64 c.seg) := b0.cell 2
  have q3 : W0.cell? ⟨w.heap.size, 3, none⟩ = some (.int .i64 c.least) := b0.cell 3
  have q4 : W0.cell? ⟨w.heap.size, 4, none⟩ = some (.int .i64 c.den) := b0.cell 4
  have q5 : W0.cell? ⟨w.heap.size, 5, none⟩ = some (.int .i64 c.leafLow) := b0.cell 5
  have q6 : W0.cell? ⟨w.heap.size, 6, none⟩ = some (.int .i64 c.rootLow) := b0.cell 6
  have q7 : W0.cell? ⟨w.heap.size, 7, none⟩ = some (.int .i64 c.rootHigh) := b0.cell 7
  have q8 : W0.cell? ⟨w.heap.size, 8, none⟩ = some (.int .i64 c.leafHigh) := b0.cell 8
  have q9 : W0.cell? ⟨w.heap.size, 9, none⟩ = some (.slice B Rs.length k) := b0.cell 9
  have q10 : W0.cell? ⟨w.heap.size, 10, none⟩ = some (.int .u64 n) := b0.cell 10
  have e0 : W0.cell? ⟨(w.heap.size + 1), 0, none⟩ = some (.int .i64 y.key) := be0.cell 0
  have e1 : W0.cell? ⟨(w.heap.size + 1), 1, none⟩ = some (.int .i64 y.val) := be0.cell 1
  have e2 : W0.cell? ⟨(w.heap.size + 1), 2, none⟩ = some (.bool y.dead) := be0.cell 2
  have y0 : W0.cell? ⟨(w.heap.size + 1 + 1), 0, none⟩ = some (.int .u8 0) := br0.cell 0
  have y1 : W0.cell? ⟨(w.heap.size + 1 + 1), 1, none⟩ = some (.int .i64 0) := br0.cell 1
  have y2 : W0.cell? ⟨(w.heap.size + 1 + 1), 2, none⟩ = some (.int .i64 0) := br0.cell 2
  have y3 : W0.cell? ⟨(w.heap.size + 1 + 1), 3, none⟩ = some (.int .i64 0) := br0.cell 3
  have y4 : W0.cell? ⟨(w.heap.size + 1 + 1), 4, none⟩ = some (.int .i64 0) := br0.cell 4
  have y5 : W0.cell? ⟨(w.heap.size + 1 + 1), 5, none⟩ = some (.int .i64 0) := br0.cell 5
  have y6 : W0.cell? ⟨(w.heap.size + 1 + 1), 6, none⟩ = some (.int .i64 0) := br0.cell 6
  have y7 : W0.cell? ⟨(w.heap.size + 1 + 1), 7, none⟩ = some (.int .i64 0) := br0.cell 7
  have y8 : W0.cell? ⟨(w.heap.size + 1 + 1), 8, none⟩ = some (.int .i64 0) := br0.cell 8
  have y9 : W0.cell? ⟨(w.heap.size + 1 + 1), 9, none⟩ = some (.slice none 0 0) := br0.cell 9
  have y10 : W0.cell? ⟨(w.heap.size + 1 + 1), 10, none⟩ = some (.int .u64 0) := br0.cell 10
  have fr0 := br0.frozen 0
  have fr1 := br0.frozen 1
  have fr2 := br0.frozen 2
  have fr3 := br0.frozen 3
  have fr4 := br0.frozen 4
  have fr5 := br0.frozen 5
  have fr6 := br0.frozen 6
  have fr7 := br0.frozen 7
  have fr8 := br0.frozen 8
  have fr9 := br0.frozen 9
  have fr10 := br0.frozen 10
  have l1 := b0.lt
  have l2 := br0.lt
  have l3 := be0.lt
  go_enter Tryz.func101, Tryz.ntmps101
  go_upto_region 1 with fail
  rw [HW0.out]
  go_region_with (go_at_call 137; refine (HIN.out _ (HB.out.below (bext hb0 (by first | exact (Below.refl _ _).drew | exact Below.refl _ _)))).mono ?_; rintro e w5 ⟨A2, k2, R2, rfl, h51, h52, hb5⟩; have hb6 : Below W0.heap.size W0 w5 := (by first | exact hb5 | exact bext ((Below.refl _ _).drew) hb5); have d0 : w5.cell? ⟨w.heap.size, 0, none⟩ = some (.int .u8 c.tag) := ((bcell hb6).1 _ _ l1).trans q0; have d1 : w5.cell? ⟨w.heap.size, 1, none⟩ = some (.int .i64 c.most) := ((bcell hb6).1 _ _ l1).trans q1; have d2 : w5.cell? ⟨w.heap.size, 2, none⟩ = some (.int .i64 c.seg) := ((bcell hb6).1 _ _ l1).trans q2; have d3 : w5.cell? ⟨w.heap.size, 3, none⟩ = some (.int .i64 c.least) := ((bcell hb6).1 _ _ l1).trans q3; have d4 : w5.cell? ⟨w.heap.size, 4, none⟩ = some (.int .i64 c.den) := ((bcell hb6).1 _ _ l1).trans q4; have d5 : w5.cell? ⟨w.heap.size, 5, none⟩ = some (.int .i64 c.leafLow) := ((bcell hb6).1 _ _ l1).trans q5; have d6 : w5.cell? ⟨w.heap.size, 6, none⟩ = some (.int .i64 c.rootLow) := ((bcell hb6).1 _ _ l1).trans q6; have d7 : w5.cell? ⟨w.heap.size, 7, none⟩ = some (.int .i64 c.rootHigh) := ((bcell hb6).1 _ _ l1).trans q7; have d8 : w5.cell? ⟨w.heap.size, 8, none⟩ = some (.int .i64 c.leafHigh) := ((bcell hb6).1 _ _ l1).trans q8; have d9 : w5.cell? ⟨w.heap.size, 9, none⟩ = some (.slice B Rs.length k) := ((bcell hb6).1 _ _ l1).trans q9; have d10 : w5.cell? ⟨w.heap.size, 10, none⟩ = some (.int .u64 n) := ((bcell hb6).1 _ _ l1).trans q10; have g0 : w5.cell? ⟨w.heap.size + 1, 0, none⟩ = some (.int .i64 y.key) := ((bcell hb6).1 _ _ l3).trans e0; have g1 : w5.cell? ⟨w.heap.size + 1, 1, none⟩ = some (.int .i64 y.val) := ((bcell hb6).1 _ _ l3).trans e1; have g2 : w5.cell? ⟨w.heap.size + 1, 2, none⟩ = some (.bool y.dead) := ((bcell hb6).1 _ _ l3).trans e2; have b25 := br0.below hb6 l2; have h0 : w5.cell? ⟨w.heap.size + 1 + 1, 0, none⟩ = some (.int .u8 0) := b25.cell 0; have h1 : w5.cell? ⟨w.heap.size + 1 + 1, 1, none⟩ = some (.int .i64 0) := b25.cell 1; have h2 : w5.cell? ⟨w.heap.size + 1 + 1, 2, none⟩ = some (.int .i64 0) := b25.cell 2; have h3 : w5.cell? ⟨w.heap.size + 1 + 1, 3, none⟩ = some (.int .i64 0) := b25.cell 3; have h4 : w5.cell? ⟨w.heap.size + 1 + 1, 4, none⟩ = some (.int .i64 0) := b25.cell 4; have h5 : w5.cell? ⟨w.heap.size + 1 + 1, 5, none⟩ = some (.int .i64 0) := b25.cell 5; have h6 : w5.cell? ⟨w.heap.size + 1 + 1, 6, none⟩ = some (.int .i64 0) := b25.cell 6; have h7 : w5.cell? ⟨w.heap.size + 1 + 1, 7, none⟩ = some (.int .i64 0) := b25.cell 7; have h8 : w5.cell? ⟨w.heap.size + 1 + 1, 8, none⟩ = some (.int .i64 0) := b25.cell 8; have h9 : w5.cell? ⟨w.heap.size + 1 + 1, 9, none⟩ = some (.slice none 0 0) := b25.cell 9; have h10 : w5.cell? ⟨w.heap.size + 1 + 1, 10, none⟩ = some (.int .u64 0) := b25.cell 10; have ef0 := b25.frozen 0; have ef1 := b25.frozen 1; have ef2 := b25.frozen 2; have ef3 := b25.frozen 3; have ef4 := b25.frozen 4; have ef5 := b25.frozen 5; have ef6 := b25.frozen 6; have ef7 := b25.frozen 7; have ef8 := b25.frozen 8; have ef9 := b25.frozen 9; have ef10 := b25.frozen 10; have H51 := Lib.hid h51; have H52 := Lib.hid h52; have H6 := Lib.hid hb6; clear h51 h52 hb5 hb6)
  all_goals
    go_wp2_with fail
    have bz := put11 b25 (.int .u8 c.tag) (.int .i64 c.most) (.int .i64 c.seg) (.int .i64 c.least) (.int .i64 c.den) (.int .i64 c.leafLow) (.int .i64 c.rootLow) (.int .i64 c.rootHigh) (.int .i64 c.leafHigh) (.slice A2 R2.length k2) (.int .u64 N)
    have z0 := bz.cell 0
    have z1 := bz.cell 1
    have z2 := bz.cell 2
    have z3 := bz.cell 3
    have z4 := bz.cell 4
    have z5 := bz.cell 5
    have z6 := bz.cell 6
    have z7 := bz.cell 7
    have z8 := bz.cell 8
    have z9 := bz.cell 9
    have z10 := bz.cell 10
    simp only [List.getElem?_toArray, List.getElem?_cons_zero, List.getElem?_cons_succ] at z0 z1 z2 z3 z4 z5 z6 z7 z8 z9 z10
    refine bodyPost_ret (v := .agg #[.int .u8 c.tag, .int .i64 c.most, .int .i64 c.seg, .int .i64 c.least, .int .i64 c.den, .int .i64 c.leafLow, .int .i64 c.rootLow, .int .i64 c.rootHigh, .int .i64 c.leafHigh, .slice A2 R2.length k2, .int .u64 N]) (by simp [results, Tryz.results101, go_sem, z0, z1, z2, z3, z4, z5, z6, z7, z8, z9, z10]) rfl ?_
    exact ⟨A2, k2, R2, rfl, H51.out, (H52.out.mono (bext hb0 (Below.refl _ _)).size).set11 b25 (by decide) (by decide) _ _ _ _ _ _ _ _ _ _ _, below11 (bext hb0 H6.out) (by omega) _ _ _ _ _ _ _ _ _ _ _⟩
set_option maxHeartbeats 8000000 in
theorem laid27_any (B : Option Addr) (Rs : List Rm) (k : Nat) (c : Cfg) (n : Int) (key val : Int) (w : World) (hB : RunsAt w B Rs) (hT : tot (lvs Rs) ≤ 1000000) (hl : Rs.length ≤ 1000000) (he : errL c (lvs Rs) = 0) (hT3 : tot (lvs Rs) ≤ 300) (hn : 0 ≤ n ∧ n ≤ 18446744073709551615) :
    Calls Tryz.prog 62 #[.agg (lrow c B Rs.length k n), .int .i64 key, .int .i64 val] w (GivesLd (ldC c (putE0 c (lvs Rs) key)) (upL (putE0 c (lvs Rs) key) (lvs Rs) n (putY key val)) (upN (putE0 c (lvs Rs) key) (lvs Rs) n (putY key val)) (putE0 c (lvs Rs) key) w) := by
  obtain ⟨W0, hW0⟩ : ∃ W0, (w.alloc (.cells #[.int .u8 c.tag, .int .i64 c.most, .int .i64 c.seg, .int .i64 c.least, .int .i64 c.den, .int .i64 c.leafLow, .int .i64 c.rootLow, .int .i64 c.rootHigh, .int .i64 c.leafHigh, .slice B Rs.length k, .int .u64 n] 29)).alloc (.cells #[.int .u8 0, .int .i64 0, .int .i64 0, .int .i64 0, .int .i64 0, .int .i64 0, .int .i64 0, .int .i64 0, .int .i64 0, .slice none 0 0, .int .u64 0] 29) = W0 := ⟨_, rfl⟩
  have hb0 : Below w.heap.size w W0 := by rw [← hW0]; exact ((Below.refl _ _).alloc (Nat.le_refl _) _).alloc (by simp) _
  have b0 : Blk W0 w.heap.size 29 #[.int .u8 c.tag, .int .i64 c.most, .int .i64 c.seg, .int .i64 c.least, .int .i64 c.den, .int .i64 c.leafLow, .int .i64 c.rootLow, .int .i64 c.rootHigh, .int .i64 c.leafHigh, .slice B Rs.length k, .int .u64 n] := by rw [← hW0]; exact (Blk.new _ _ _).alloc _
  have br0 : Blk W0 (w.heap.size + 1) 29 #[.int .u8 0, .int .i64 0, .int .i64 0, .int .i64 0, .int .i64 0, .int .i64 0, .int .i64 0, .int .i64 0, .int .i64 0, .slice none 0 0, .int .u64 0] := by
    rw [← hW0]
    have := Blk.new (w.alloc (.cells #[.int .u8 c.tag, .int .i64 c.most, .int .i64 c.seg, .int .i64 c.least, .int .i64 c.den, .int .i64 c.leafLow, .int .i64 c.rootLow, .int .i64 c.rootHigh, .int .i64 c.leafHigh, .slice B Rs.length k, .int .u64 n] 29)) 29 #[.int .u8 0, .int .i64 0, .int .i64 0, .int .i64 0, .int .i64 0, .int .i64 0, .int .i64 0, .int .i64 0, .int .i64 0, .slice none 0 0, .int .u64 0]
    rwa [World.size_alloc] at this
  have HW0 := Lib.hid hW0
  have HB := Lib.hid (hB.below hb0)
  have HB0 := Lib.hid hb0
  have HC0 := Lib.hid b0
  have HR0 := Lib.hid br0
  have hR := (errL_zero he).2.1
  have hM := chkR_zero.1 hR
  have hal := all27_any B Rs k c n W0 HB.out hT hl hR
  have hP : prD c (lvs Rs) = prR (lvs Rs) := by unfold prD; rw [if_pos he]
  rw [← hP] at hal
  have hris := prD_ris c (lvs Rs)
  have hln := prD_len c (lvs Rs)
  obtain ⟨_, _, hv3⟩ := val_is he key
  have hE0 : (putE0 c (lvs Rs) key) = if valB (prD c (lvs Rs)) key = true then 0 else if ((prD c (lvs Rs)).length : Int) = c.most then 9 else 0 := by
    unfold putE0; rw [hv3, ← hP]; by_cases hb : valB (prD c (lvs Rs)) key = true <;> simp [hb]
  have hup : (putE0 c (lvs Rs) key) = 0 → upL (putE0 c (lvs Rs) key) (lvs Rs) n (putY key val) = addL (lvs Rs) n (putY key val) ∧ upN (putE0 c (lvs Rs) key) (lvs Rs) n (putY key val) = addN (lvs Rs) n (putY key val) := fun h => by unfold upL upN; rw [if_pos h, if_pos h]; exact ⟨rfl, rfl⟩
  have hno : (putE0 c (lvs Rs) key) ≠ 0 → upL (putE0 c (lvs Rs) key) (lvs Rs) n (putY key val) = [] ∧ upN (putE0 c (lvs Rs) key) (lvs Rs) n (putY key val) = 0 ∧ ldC c (putE0 c (lvs Rs) key) = cz := fun h => by unfold upL upN ldC; rw [if_neg h, if_neg h, if_neg h]; exact ⟨rfl, rfl, rfl⟩
  have hyf : badEnt (putY key val) = false := put_fair key val
  obtain ⟨yy, hyy⟩ : ∃ x, (putY key val) = x := ⟨_, rfl⟩
  rw [hyy] at hup hno hyf
  rw [hyy]
  have hwi := fun W (hW : RunsAt W B Rs) => with27_any B Rs k c n yy W hW hM hyf hT3 hn
  obtain ⟨E0, hEE⟩ : ∃ x, (putE0 c (lvs Rs) key) = x := ⟨_, rfl⟩
  rw [hEE] at hE0 hup hno
  rw [hEE]
  obtain ⟨LU, hLU⟩ : ∃ x, upL E0 (lvs Rs) n yy = x := ⟨_, rfl⟩
  obtain ⟨NU, hNU⟩ : ∃ x, upN E0 (lvs Rs) n yy = x := ⟨_, rfl⟩
  rw [hLU, hNU] at hup hno
  rw [hLU, hNU]
  obtain ⟨LA, hLA⟩ : ∃ x, addL (lvs Rs) n yy = x := ⟨_, rfl⟩
  obtain ⟨NA, hNA⟩ : ∃ x, addN (lvs Rs) n yy = x := ⟨_, rfl⟩
  rw [hLA, hNA] at hwi hup
  obtain ⟨P, hPP⟩ : ∃ x, prD c (lvs Rs) = x := ⟨_, rfl⟩
  rw [hPP] at hal hris hln hE0
  have hva := fun A ca W (hA : Sl W A (P.flatMap Pr.cells)) => value27_any A P ca key W hA (by omega) hris
  obtain ⟨x, hx⟩ : ∃ E, valV P key = E := ⟨_, rfl⟩
  obtain ⟨b, hb⟩ : ∃ E, valB P key = E := ⟨_, rfl⟩
  rw [hx, hb] at hva
  rw [hb] at hE0
  have HAL := Lib.hid hal
  have HE0 := Lib.hid hE0
  have HUP := Lib.hid hup
  have HNO := Lib.hid hno
  have HWI := Lib.hid hwi
  have HVA := Lib.hid hva
  have HYK := Lib.hid hyy
  clear hW0 hB hal hE0 hup hno hwi hva hEE hLU hNU hLA hNA hPP hx hb hris hln hR hM hyf hv3 hP he hn hT hT3
  have q0 : W0.cell? ⟨w.heap.size, 0, none⟩ = some (.int .u8 c.tag) := b0.cell 0
  have q1 : W0.cell? ⟨w.heap.size, 1, none⟩ = some (.int .i64 c.most) := b0.cell 1
  have q2 : W0.cell? ⟨w.heap.size, 2, none⟩ = some (.int .i64 c.seg) := b0.cell 2
  have q3 : W0.cell? ⟨w.heap.size, 3, none⟩ = some (.int .i64 c.least) := b0.cell 3
  have q4 : W0.cell? ⟨w.heap.size, 4, none⟩ = some (.int .i64 c.den) := b0.cell 4
  have q5 : W0.cell? ⟨w.heap.size, 5, none⟩ = some (.int .i64 c.leafLow) := b0.cell 5
  have q6 : W0.cell? ⟨w.heap.size, 6, none⟩ = some (.int .i64 c.rootLow) := b0.cell 6
  have q7 : W0.cell? ⟨w.heap.size, 7, none⟩ = some (.int .i64 c.rootHigh) := b0.cell 7
  have q8 : W0.cell? ⟨w.heap.size, 8, none⟩ = some (.int .i64 c.leafHigh) := b0.cell 8
  have q9 : W0.cell? ⟨w.heap.size, 9, none⟩ = some (.slice B Rs.length k) := b0.cell 9
  have q10 : W0.cell? ⟨w.heap.size, 10, none⟩ = some (.int .u64 n) := b0.cell 10
  clear b0 hb0 br0
  go_enter Tryz.func62, Tryz.ntmps62
  go_upto_region 1 with fail
  rw [HW0.out]
  have HY1 := Lib.hid (HB.out)
  go_wp2_with fail
  refine (HAL.out).mono ?_
  rintro e w2 ⟨A1, c1, rfl, ho1, hb3⟩
  have HP1 := Lib.hid (own_sl ho1)
  clear ho1 q0 q1 q2 q3 q4 q5 q6 q7 q8 q9 q10
  have HF4 := Lib.hid (bext HB0.out hb3)
  have HX5 := Lib.hid (HC0.out.below hb3 HC0.out.lt)
  have HX6 := Lib.hid (HR0.out.below hb3 HR0.out.lt)
  have HY7 := Lib.hid (RunsAt.below HY1.out hb3)
  clear HC0 HR0 HY1
  clear hb3
  have HY8 := Lib.hid (HP1.out)
  go_wp2_with fail
  refine (HVA.out _ _ _ HY8.out).mono ?_
  rintro e w9 ⟨rfl, hb10⟩
  have HF11 := Lib.hid (bext HF4.out hb10)
  have HX12 := Lib.hid (HX5.out.below hb10 HX5.out.lt)
  have HX13 := Lib.hid (HX6.out.below hb10 HX6.out.lt)
  have HY14 := Lib.hid (RunsAt.below HY7.out hb10)
  have HY15 := Lib.hid (HY8.out.below hb10)
  clear HF4 HX5 HX6 HY7 HY8
  clear hb10
  have c16 : w9.cell? ⟨w.heap.size, 0, none⟩ = some (.int .u8 c.tag) := HX12.out.cell 0
  have c17 : w9.cell? ⟨w.heap.size, 1, none⟩ = some (.int .i64 c.most) := HX12.out.cell 1
  have c18 : w9.cell? ⟨w.heap.size, 2, none⟩ = some (.int .i64 c.seg) := HX12.out.cell 2
  have c19 : w9.cell? ⟨w.heap.size, 3, none⟩ = some (.int .i64 c.least) := HX12.out.cell 3
  have c20 : w9.cell? ⟨w.heap.size, 4, none⟩ = some (.int .i64 c.den) := HX12.out.cell 4
  have c21 : w9.cell? ⟨w.heap.size, 5, none⟩ = some (.int .i64 c.leafLow) := HX12.out.cell 5
  have c22 : w9.cell? ⟨w.heap.size, 6, none⟩ = some (.int .i64 c.rootLow) := HX12.out.cell 6
  have c23 : w9.cell? ⟨w.heap.size, 7, none⟩ = some (.int .i64 c.rootHigh) := HX12.out.cell 7
  have c24 : w9.cell? ⟨w.heap.size, 8, none⟩ = some (.int .i64 c.leafHigh) := HX12.out.cell 8
  have c25 : w9.cell? ⟨w.heap.size, 9, none⟩ = some (.slice B Rs.length k) := HX12.out.cell 9
  have c26 : w9.cell? ⟨w.heap.size, 10, none⟩ = some (.int .u64 n) := HX12.out.cell 10
  have l27 : w.heap.size < w9.heap.size := HX12.out.lt
  have c28 : w9.cell? ⟨(w.heap.size + 1), 0, none⟩ = some (.int .u8 0) := HX13.out.cell 0
  have c29 : w9.cell? ⟨(w.heap.size + 1), 1, none⟩ = some (.int .i64 0) := HX13.out.cell 1
  have c30 : w9.cell? ⟨(w.heap.size + 1), 2, none⟩ = some (.int .i64 0) := HX13.out.cell 2
  have c31 : w9.cell? ⟨(w.heap.size + 1), 3, none⟩ = some (.int .i64 0) := HX13.out.cell 3
  have c32 : w9.cell? ⟨(w.heap.size + 1), 4, none⟩ = some (.int .i64 0) := HX13.out.cell 4
  have c33 : w9.cell? ⟨(w.heap.size + 1), 5, none⟩ = some (.int .i64 0) := HX13.out.cell 5
  have c34 : w9.cell? ⟨(w.heap.size + 1), 6, none⟩ = some (.int .i64 0) := HX13.out.cell 6
  have c35 : w9.cell? ⟨(w.heap.size + 1), 7, none⟩ = some (.int .i64 0) := HX13.out.cell 7
  have c36 : w9.cell? ⟨(w.heap.size + 1), 8, none⟩ = some (.int .i64 0) := HX13.out.cell 8
  have c37 : w9.cell? ⟨(w.heap.size + 1), 9, none⟩ = some (.slice none 0 0) := HX13.out.cell 9
  have c38 : w9.cell? ⟨(w.heap.size + 1), 10, none⟩ = some (.int .u64 0) := HX13.out.cell 10
  have l39 : (w.heap.size + 1) < w9.heap.size := HX13.out.lt
  have fr0 := HX13.out.frozen 0
  have fr1 := HX13.out.frozen 1
  have fr2 := HX13.out.frozen 2
  have fr3 := HX13.out.frozen 3
  have fr4 := HX13.out.frozen 4
  have fr5 := HX13.out.frozen 5
  have fr6 := HX13.out.frozen 6
  have fr7 := HX13.out.frozen 7
  have fr8 := HX13.out.frozen 8
  have fr9 := HX13.out.frozen 9
  have fr10 := HX13.out.frozen 10
  cases b with
  | true =>
    have HEZ : Hid (E0 = 0) := HE0.out
    go_wp2_with fail
    clear c16 c17 c18 c19 c20 c21 c22 c23 c24 c25 c26 l27 c28 c29 c30 c31 c32 c33 c34 c35 c36 c37 c38 l39
    clear fr0 fr1 fr2 fr3 fr4 fr5 fr6 fr7 fr8 fr9 fr10
    have hwq := HWI.out _ HY14.out
    rw [← HYK.out] at hwq
    refine hwq.mono ?_
    clear hwq
    rintro e w9 ⟨B2, k2, R2, rfl, hl2, ho2, hb9⟩
    have HL2 := Lib.hid hl2
    have HO2 := Lib.hid (ho2.mono HF11.out.size)
    clear hl2 ho2
    have HF40 := Lib.hid (bext HF11.out hb9)
    have HX41 := Lib.hid (HX12.out.below hb9 HX12.out.lt)
    have HX42 := Lib.hid (HX13.out.below hb9 HX13.out.lt)
    have HY43 := Lib.hid (RunsAt.below HY14.out hb9)
    have HY44 := Lib.hid (HY15.out.below hb9)
    clear HF11 HX12 HX13 HY14 HY15
    clear hb9
    have c45 : w9.cell? ⟨(w.heap.size + 1), 0, none⟩ = some (.int .u8 0) := HX42.out.cell 0
    have c46 : w9.cell? ⟨(w.heap.size + 1), 1, none⟩ = some (.int .i64 0) := HX42.out.cell 1
    have c47 : w9.cell? ⟨(w.heap.size + 1), 2, none⟩ = some (.int .i64 0) := HX42.out.cell 2
    have c48 : w9.cell? ⟨(w.heap.size + 1), 3, none⟩ = some (.int .i64 0) := HX42.out.cell 3
    have c49 : w9.cell? ⟨(w.heap.size + 1), 4, none⟩ = some (.int .i64 0) := HX42.out.cell 4
    have c50 : w9.cell? ⟨(w.heap.size + 1), 5, none⟩ = some (.int .i64 0) := HX42.out.cell 5
    have c51 : w9.cell? ⟨(w.heap.size + 1), 6, none⟩ = some (.int .i64 0) := HX42.out.cell 6
    have c52 : w9.cell? ⟨(w.heap.size + 1), 7, none⟩ = some (.int .i64 0) := HX42.out.cell 7
    have c53 : w9.cell? ⟨(w.heap.size + 1), 8, none⟩ = some (.int .i64 0) := HX42.out.cell 8
    have c54 : w9.cell? ⟨(w.heap.size + 1), 9, none⟩ = some (.slice none 0 0) := HX42.out.cell 9
    have c55 : w9.cell? ⟨(w.heap.size + 1), 10, none⟩ = some (.int .u64 0) := HX42.out.cell 10
    have l56 : (w.heap.size + 1) < w9.heap.size := HX42.out.lt
    have fr0 := HX42.out.frozen 0
    have fr1 := HX42.out.frozen 1
    have fr2 := HX42.out.frozen 2
    have fr3 := HX42.out.frozen 3
    have fr4 := HX42.out.frozen 4
    have fr5 := HX42.out.frozen 5
    have fr6 := HX42.out.frozen 6
    have fr7 := HX42.out.frozen 7
    have fr8 := HX42.out.frozen 8
    have fr9 := HX42.out.frozen 9
    have fr10 := HX42.out.frozen 10
    go_wp2_with fail
    have bz := put11 HX42.out (.int .u8 c.tag) (.int .i64 c.most) (.int .i64 c.seg) (.int .i64 c.least) (.int .i64 c.den) (.int .i64 c.leafLow) (.int .i64 c.rootLow) (.int .i64 c.rootHigh) (.int .i64 c.leafHigh) (.slice B2 R2.length k2) (.int .u64 NA)
    have z0 := bz.cell 0
    have z1 := bz.cell 1
    have z2 := bz.cell 2
    have z3 := bz.cell 3
    have z4 := bz.cell 4
    have z5 := bz.cell 5
    have z6 := bz.cell 6
    have z7 := bz.cell 7
    have z8 := bz.cell 8
    have z9 := bz.cell 9
    have z10 := bz.cell 10
    simp only [List.getElem?_toArray, List.getElem?_cons_zero, List.getElem?_cons_succ] at z0 z1 z2 z3 z4 z5 z6 z7 z8 z9 z10
    refine bodyPost_ret (v := .tuple #[.agg #[.int .u8 c.tag, .int .i64 c.most, .int .i64 c.seg, .int .i64 c.least, .int .i64 c.den, .int .i64 c.leafLow, .int .i64 c.rootLow, .int .i64 c.rootHigh, .int .i64 c.leafHigh, .slice B2 R2.length k2, .int .u64 NA], .int .i64 0]) (by simp [results, Tryz.results62, go_sem, z0, z1, z2, z3, z4, z5, z6, z7, z8, z9, z10]) rfl ?_
    obtain ⟨u1, u2⟩ := HUP.out HEZ.out
    rw [u1, u2, HEZ.out]
    exact ⟨B2, k2, R2, rfl, HL2.out, HO2.out.set11 HX42.out (by decide) (by decide) _ _ _ _ _ _ _ _ _ _ _, below11 HF40.out (Nat.le_succ _) _ _ _ _ _ _ _ _ _ _ _⟩
  | false =>
  by_cases hmo : (P.length : Int) = c.most
  case pos =>
    have HEZ : Hid (E0 = 9) := by
      have h := HE0.out
      show _ = _
      rw [h]
      simp [hmo]
    have h1 : ((P.length : Int) == c.most) = true := by simpa using hmo
    clear hmo
    go_wp2_with fail
    have bz := put11 HX13.out (.int .u8 0) (.int .i64 0) (.int .i64 0) (.int .i64 0) (.int .i64 0) (.int .i64 0) (.int .i64 0) (.int .i64 0) (.int .i64 0) (.slice none 0 0) (.int .u64 0)
    have z0 := bz.cell 0
    have z1 := bz.cell 1
    have z2 := bz.cell 2
    have z3 := bz.cell 3
    have z4 := bz.cell 4
    have z5 := bz.cell 5
    have z6 := bz.cell 6
    have z7 := bz.cell 7
    have z8 := bz.cell 8
    have z9 := bz.cell 9
    have z10 := bz.cell 10
    simp only [List.getElem?_toArray, List.getElem?_cons_zero, List.getElem?_cons_succ] at z0 z1 z2 z3 z4 z5 z6 z7 z8 z9 z10
    refine bodyPost_ret (v := .tuple #[.agg #[.int .u8 0, .int .i64 0, .int .i64 0, .int .i64 0, .int .i64 0, .int .i64 0, .int .i64 0, .int .i64 0, .int .i64 0, .slice none 0 0, .int .u64 0], .int .i64 9]) (by simp [results, Tryz.results62, go_sem, z0, z1, z2, z3, z4, z5, z6, z7, z8, z9, z10]) rfl ?_
    obtain ⟨n1, n2, n3⟩ := HNO.out (by rw [HEZ.out]; omega)
    rw [n1, n2, n3, HEZ.out]
    exact ⟨none, 0, [], rfl, rfl, OwnRs.nil _ _, below11 HF11.out (Nat.le_succ _) _ _ _ _ _ _ _ _ _ _ _⟩
  case neg =>
  have HEZ : Hid (E0 = 0) := by
    have h := HE0.out
    show _ = _
    rw [h]
    simp [hmo]
  have h1 : ((P.length : Int) == c.most) = false := by simpa using hmo
  clear hmo
  go_wp2_with fail
  clear c16 c17 c18 c19 c20 c21 c22 c23 c24 c25 c26 l27 c28 c29 c30 c31 c32 c33 c34 c35 c36 c37 c38 l39
  clear fr0 fr1 fr2 fr3 fr4 fr5 fr6 fr7 fr8 fr9 fr10
  have hwq := HWI.out _ HY14.out
  rw [← HYK.out] at hwq
  refine hwq.mono ?_
  clear hwq
  rintro e w9 ⟨B2, k2, R2, rfl, hl2, ho2, hb9⟩
  have HL2 := Lib.hid hl2
  have HO2 := Lib.hid (ho2.mono HF11.out.size)
  clear hl2 ho2
  have HF40 := Lib.hid (bext HF11.out hb9)
  have HX41 := Lib.hid (HX12.out.below hb9 HX12.out.lt)
  have HX42 := Lib.hid (HX13.out.below hb9 HX13.out.lt)
  have HY43 := Lib.hid (RunsAt.below HY14.out hb9)
  have HY44 := Lib.hid (HY15.out.below hb9)
  clear HF11 HX12 HX13 HY14 HY15
  clear hb9
  have c45 : w9.cell? ⟨(w.heap.size + 1), 0, none⟩ = some (.int .u8 0) := HX42.out.cell 0
  have c46 : w9.cell? ⟨(w.heap.size + 1), 1, none⟩ = some (.int .i64 0) := HX42.out.cell 1
  have c47 : w9.cell? ⟨(w.heap.size + 1), 2, none⟩ = some (.int .i64 0) := HX42.out.cell 2
  have c48 : w9.cell? ⟨(w.heap.size + 1), 3, none⟩ = some (.int .i64 0) := HX42.out.cell 3
  have c49 : w9.cell? ⟨(w.heap.size + 1), 4, none⟩ = some (.int .i64 0) := HX42.out.cell 4
  have c50 : w9.cell? ⟨(w.heap.size + 1), 5, none⟩ = some (.int .i64 0) := HX42.out.cell 5
  have c51 : w9.cell? ⟨(w.heap.size + 1), 6, none⟩ = some (.int .i64 0) := HX42.out.cell 6
  have c52 : w9.cell? ⟨(w.heap.size + 1), 7, none⟩ = some (.int .i64 0) := HX42.out.cell 7
  have c53 : w9.cell? ⟨(w.heap.size + 1), 8, none⟩ = some (.int .i64 0) := HX42.out.cell 8
  have c54 : w9.cell? ⟨(w.heap.size + 1), 9, none⟩ = some (.slice none 0 0) := HX42.out.cell 9
  have c55 : w9.cell? ⟨(w.heap.size + 1), 10, none⟩ = some (.int .u64 0) := HX42.out.cell 10
  have l56 : (w.heap.size + 1) < w9.heap.size := HX42.out.lt
  have fr0 := HX42.out.frozen 0
  have fr1 := HX42.out.frozen 1
  have fr2 := HX42.out.frozen 2
  have fr3 := HX42.out.frozen 3
  have fr4 := HX42.out.frozen 4
  have fr5 := HX42.out.frozen 5
  have fr6 := HX42.out.frozen 6
  have fr7 := HX42.out.frozen 7
  have fr8 := HX42.out.frozen 8
  have fr9 := HX42.out.frozen 9
  have fr10 := HX42.out.frozen 10
  go_wp2_with fail
  have bz := put11 HX42.out (.int .u8 c.tag) (.int .i64 c.most) (.int .i64 c.seg) (.int .i64 c.least) (.int .i64 c.den) (.int .i64 c.leafLow) (.int .i64 c.rootLow) (.int .i64 c.rootHigh) (.int .i64 c.leafHigh) (.slice B2 R2.length k2) (.int .u64 NA)
  have z0 := bz.cell 0
  have z1 := bz.cell 1
  have z2 := bz.cell 2
  have z3 := bz.cell 3
  have z4 := bz.cell 4
  have z5 := bz.cell 5
  have z6 := bz.cell 6
  have z7 := bz.cell 7
  have z8 := bz.cell 8
  have z9 := bz.cell 9
  have z10 := bz.cell 10
  simp only [List.getElem?_toArray, List.getElem?_cons_zero, List.getElem?_cons_succ] at z0 z1 z2 z3 z4 z5 z6 z7 z8 z9 z10
  refine bodyPost_ret (v := .tuple #[.agg #[.int .u8 c.tag, .int .i64 c.most, .int .i64 c.seg, .int .i64 c.least, .int .i64 c.den, .int .i64 c.leafLow, .int .i64 c.rootLow, .int .i64 c.rootHigh, .int .i64 c.leafHigh, .slice B2 R2.length k2, .int .u64 NA], .int .i64 0]) (by simp [results, Tryz.results62, go_sem, z0, z1, z2, z3, z4, z5, z6, z7, z8, z9, z10]) rfl ?_
  obtain ⟨u1, u2⟩ := HUP.out HEZ.out
  rw [u1, u2, HEZ.out]
  exact ⟨B2, k2, R2, rfl, HL2.out, HO2.out.set11 HX42.out (by decide) (by decide) _ _ _ _ _ _ _ _ _ _ _, below11 HF40.out (Nat.le_succ _) _ _ _ _ _ _ _ _ _ _ _⟩
set_option maxHeartbeats 8000000 in
theorem gone27_any (B : Option Addr) (Rs : List Rm) (k : Nat) (c : Cfg) (n : Int) (key : Int) (w : World) (hB : RunsAt w B Rs) (hT : tot (lvs Rs) ≤ 1000000) (hl : Rs.length ≤ 1000000) (he : errL c (lvs Rs) = 0) (hT3 : tot (lvs Rs) ≤ 300) (hn : 0 ≤ n ∧ n ≤ 18446744073709551615) :
    Calls Tryz.prog 63 #[.agg (lrow c B Rs.length k n), .int .i64 key] w (GivesLd (ldC c (veD c (lvs Rs) key)) (upL (veD c (lvs Rs) key) (lvs Rs) n (delY key)) (upN (veD c (lvs Rs) key) (lvs Rs) n (delY key)) (veD c (lvs Rs) key) w) := by
  obtain ⟨W0, hW0⟩ : ∃ W0, (w.alloc (.cells #[.int .u8 c.tag, .int .i64 c.most, .int .i64 c.seg, .int .i64 c.least, .int .i64 c.den, .int .i64 c.leafLow, .int .i64 c.rootLow, .int .i64 c.rootHigh, .int .i64 c.leafHigh, .slice B Rs.length k, .int .u64 n] 29)).alloc (.cells #[.int .u8 0, .int .i64 0, .int .i64 0, .int .i64 0, .int .i64 0, .int .i64 0, .int .i64 0, .int .i64 0, .int .i64 0, .slice none 0 0, .int .u64 0] 29) = W0 := ⟨_, rfl⟩
  have hb0 : Below w.heap.size w W0 := by rw [← hW0]; exact ((Below.refl _ _).alloc (Nat.le_refl _) _).alloc (by simp) _
  have b0 : Blk W0 w.heap.size 29 #[.int .u8 c.tag, .int .i64 c.most, .int .i64 c.seg, .int .i64 c.least, .int .i64 c.den, .int .i64 c.leafLow, .int .i64 c.rootLow, .int .i64 c.rootHigh, .int .i64 c.leafHigh, .slice B Rs.length k, .int .u64 n] := by rw [← hW0]; exact (Blk.new _ _ _).alloc _
  have br0 : Blk W0 (w.heap.size + 1) 29 #[.int .u8 0, .int .i64 0, .int .i64 0, .int .i64 0, .int .i64 0, .int .i64 0, .int .i64 0, .int .i64 0, .int .i64 0, .slice none 0 0, .int .u64 0] := by
    rw [← hW0]
    have := Blk.new (w.alloc (.cells #[.int .u8 c.tag, .int .i64 c.most, .int .i64 c.seg, .int .i64 c.least, .int .i64 c.den, .int .i64 c.leafLow, .int .i64 c.rootLow, .int .i64 c.rootHigh, .int .i64 c.leafHigh, .slice B Rs.length k, .int .u64 n] 29)) 29 #[.int .u8 0, .int .i64 0, .int .i64 0, .int .i64 0, .int .i64 0, .int .i64 0, .int .i64 0, .int .i64 0, .int .i64 0, .slice none 0 0, .int .u64 0]
    rwa [World.size_alloc] at this
  have HW0 := Lib.hid hW0
  have HB := Lib.hid (hB.below hb0)
  have HB0 := Lib.hid hb0
  have HC0 := Lib.hid b0
  have HR0 := Lib.hid br0
  have hR := (errL_zero he).2.1
  have hM := chkR_zero.1 hR
  have hal := all27_any B Rs k c n W0 HB.out hT hl hR
  have hP : prD c (lvs Rs) = prR (lvs Rs) := by unfold prD; rw [if_pos he]
  rw [← hP] at hal
  have hris := prD_ris c (lvs Rs)
  have hln := prD_len c (lvs Rs)
  obtain ⟨_, _, hv3⟩ := val_is he key
  have hE0 : (veD c (lvs Rs) key) = if valB (prD c (lvs Rs)) key = true then 0 else 6 := by
    exact hv3
  have hup : (veD c (lvs Rs) key) = 0 → upL (veD c (lvs Rs) key) (lvs Rs) n (delY key) = addL (lvs Rs) n (delY key) ∧ upN (veD c (lvs Rs) key) (lvs Rs) n (delY key) = addN (lvs Rs) n (delY key) := fun h => by unfold upL upN; rw [if_pos h, if_pos h]; exact ⟨rfl, rfl⟩
  have hno : (veD c (lvs Rs) key) ≠ 0 → upL (veD c (lvs Rs) key) (lvs Rs) n (delY key) = [] ∧ upN (veD c (lvs Rs) key) (lvs Rs) n (delY key) = 0 ∧ ldC c (veD c (lvs Rs) key) = cz := fun h => by unfold upL upN ldC; rw [if_neg h, if_neg h, if_neg h]; exact ⟨rfl, rfl, rfl⟩
  have hyf : badEnt (delY key) = false := del_fair key
  obtain ⟨yy, hyy⟩ : ∃ x, (delY key) = x := ⟨_, rfl⟩
  rw [hyy] at hup hno hyf
  rw [hyy]
  have hwi := fun W (hW : RunsAt W B Rs) => with27_any B Rs k c n yy W hW hM hyf hT3 hn
  obtain ⟨E0, hEE⟩ : ∃ x, (veD c (lvs Rs) key) = x := ⟨_, rfl⟩
  rw [hEE] at hE0 hup hno
  rw [hEE]
  obtain ⟨LU, hLU⟩ : ∃ x, upL E0 (lvs Rs) n yy = x := ⟨_, rfl⟩
  obtain ⟨NU, hNU⟩ : ∃ x, upN E0 (lvs Rs) n yy = x := ⟨_, rfl⟩
  rw [hLU, hNU] at hup hno
  rw [hLU, hNU]
  obtain ⟨LA, hLA⟩ : ∃ x, addL (lvs Rs) n yy = x := ⟨_, rfl⟩
  obtain ⟨NA, hNA⟩ : ∃ x, addN (lvs Rs) n yy = x := ⟨_, rfl⟩
  rw [hLA, hNA] at hwi hup
  obtain ⟨P, hPP⟩ : ∃ x, prD c (lvs Rs) = x := ⟨_, rfl⟩
  rw [hPP] at hal hris hln hE0
  have hva := fun A ca W (hA : Sl W A (P.flatMap Pr.cells)) => value27_any A P ca key W hA (by omega) hris
  obtain ⟨x, hx⟩ : ∃ E, valV P key = E := ⟨_, rfl⟩
  obtain ⟨b, hb⟩ : ∃ E, valB P key = E := ⟨_, rfl⟩
  rw [hx, hb] at hva
  rw [hb] at hE0
  have HAL := Lib.hid hal
  have HE0 := Lib.hid hE0
  have HUP := Lib.hid hup
  have HNO := Lib.hid hno
  have HWI := Lib.hid hwi
  have HVA := Lib.hid hva
  have HYK := Lib.hid hyy
  clear hW0 hB hal hE0 hup hno hwi hva hEE hLU hNU hLA hNA hPP hx hb hris hln hR hM hyf hv3 hP he hn hT hT3
  have q0 : W0.cell? ⟨w.heap.size, 0, none⟩ = some (.int .u8 c.tag) := b0.cell 0
  have q1 : W0.cell? ⟨w.heap.size, 1, none⟩ = some (.int .i64 c.most) := b0.cell 1
  have q2 : W0.cell? ⟨w.heap.size, 2, none⟩ = some (.int .i64 c.seg) := b0.cell 2
  have q3 : W0.cell? ⟨w.heap.size, 3, none⟩ = some (.int .i64 c.least) := b0.cell 3
  have q4 : W0.cell? ⟨w.heap.size, 4, none⟩ = some (.int .i64 c.den) := b0.cell 4
  have q5 : W0.cell? ⟨w.heap.size, 5, none⟩ = some (.int .i64 c.leafLow) := b0.cell 5
  have q6 : W0.cell? ⟨w.heap.size, 6, none⟩ = some (.int .i64 c.rootLow) := b0.cell 6
  have q7 : W0.cell? ⟨w.heap.size, 7, none⟩ = some (.int .i64 c.rootHigh) := b0.cell 7
  have q8 : W0.cell? ⟨w.heap.size, 8, none⟩ = some (.int .i64 c.leafHigh) := b0.cell 8
  have q9 : W0.cell? ⟨w.heap.size, 9, none⟩ = some (.slice B Rs.length k) := b0.cell 9
  have q10 : W0.cell? ⟨w.heap.size, 10, none⟩ = some (.int .u64 n) := b0.cell 10
  clear b0 hb0 br0
  go_enter Tryz.func63, Tryz.ntmps63
  go_upto_region 1 with fail
  rw [HW0.out]
  have HY1 := Lib.hid (HB.out)
  go_wp2_with fail
  refine (HAL.out).mono ?_
  rintro e w2 ⟨A1, c1, rfl, ho1, hb3⟩
  have HP1 := Lib.hid (own_sl ho1)
  clear ho1 q0 q1 q2 q3 q4 q5 q6 q7 q8 q9 q10
  have HF4 := Lib.hid (bext HB0.out hb3)
  have HX5 := Lib.hid (HC0.out.below hb3 HC0.out.lt)
  have HX6 := Lib.hid (HR0.out.below hb3 HR0.out.lt)
  have HY7 := Lib.hid (RunsAt.below HY1.out hb3)
  clear HC0 HR0 HY1
  clear hb3
  have HY8 := Lib.hid (HP1.out)
  go_wp2_with fail
  refine (HVA.out _ _ _ HY8.out).mono ?_
  rintro e w9 ⟨rfl, hb10⟩
  have HF11 := Lib.hid (bext HF4.out hb10)
  have HX12 := Lib.hid (HX5.out.below hb10 HX5.out.lt)
  have HX13 := Lib.hid (HX6.out.below hb10 HX6.out.lt)
  have HY14 := Lib.hid (RunsAt.below HY7.out hb10)
  have HY15 := Lib.hid (HY8.out.below hb10)
  clear HF4 HX5 HX6 HY7 HY8
  clear hb10
  have c16 : w9.cell? ⟨w.heap.size, 0, none⟩ = some (.int .u8 c.tag) := HX12.out.cell 0
  have c17 : w9.cell? ⟨w.heap.size, 1, none⟩ = some (.int .i64 c.most) := HX12.out.cell 1
  have c18 : w9.cell? ⟨w.heap.size, 2, none⟩ = some (.int .i64 c.seg) := HX12.out.cell 2
  have c19 : w9.cell? ⟨w.heap.size, 3, none⟩ = some (.int .i64 c.least) := HX12.out.cell 3
  have c20 : w9.cell? ⟨w.heap.size, 4, none⟩ = some (.int .i64 c.den) := HX12.out.cell 4
  have c21 : w9.cell? ⟨w.heap.size, 5, none⟩ = some (.int .i64 c.leafLow) := HX12.out.cell 5
  have c22 : w9.cell? ⟨w.heap.size, 6, none⟩ = some (.int .i64 c.rootLow) := HX12.out.cell 6
  have c23 : w9.cell? ⟨w.heap.size, 7, none⟩ = some (.int .i64 c.rootHigh) := HX12.out.cell 7
  have c24 : w9.cell? ⟨w.heap.size, 8, none⟩ = some (.int .i64 c.leafHigh) := HX12.out.cell 8
  have c25 : w9.cell? ⟨w.heap.size, 9, none⟩ = some (.slice B Rs.length k) := HX12.out.cell 9
  have c26 : w9.cell? ⟨w.heap.size, 10, none⟩ = some (.int .u64 n) := HX12.out.cell 10
  have l27 : w.heap.size < w9.heap.size := HX12.out.lt
  have c28 : w9.cell? ⟨(w.heap.size + 1), 0, none⟩ = some (.int .u8 0) := HX13.out.cell 0
  have c29 : w9.cell? ⟨(w.heap.size + 1), 1, none⟩ = some (.int .i64 0) := HX13.out.cell 1
  have c30 : w9.cell? ⟨(w.heap.size + 1), 2, none⟩ = some (.int .i64 0) := HX13.out.cell 2
  have c31 : w9.cell? ⟨(w.heap.size + 1), 3, none⟩ = some (.int .i64 0) := HX13.out.cell 3
  have c32 : w9.cell? ⟨(w.heap.size + 1), 4, none⟩ = some (.int .i64 0) := HX13.out.cell 4
  have c33 : w9.cell? ⟨(w.heap.size + 1), 5, none⟩ = some (.int .i64 0) := HX13.out.cell 5
  have c34 : w9.cell? ⟨(w.heap.size + 1), 6, none⟩ = some (.int .i64 0) := HX13.out.cell 6
  have c35 : w9.cell? ⟨(w.heap.size + 1), 7, none⟩ = some (.int .i64 0) := HX13.out.cell 7
  have c36 : w9.cell? ⟨(w.heap.size + 1), 8, none⟩ = some (.int .i64 0) := HX13.out.cell 8
  have c37 : w9.cell? ⟨(w.heap.size + 1), 9, none⟩ = some (.slice none 0 0) := HX13.out.cell 9
  have c38 : w9.cell? ⟨(w.heap.size + 1), 10, none⟩ = some (.int .u64 0) := HX13.out.cell 10
  have l39 : (w.heap.size + 1) < w9.heap.size := HX13.out.lt
  have fr0 := HX13.out.frozen 0
  have fr1 := HX13.out.frozen 1
  have fr2 := HX13.out.frozen 2
  have fr3 := HX13.out.frozen 3
  have fr4 := HX13.out.frozen 4
  have fr5 := HX13.out.frozen 5
  have fr6 := HX13.out.frozen 6
  have fr7 := HX13.out.frozen 7
  have fr8 := HX13.out.frozen 8
  have fr9 := HX13.out.frozen 9
  have fr10 := HX13.out.frozen 10
  cases b with
  | false =>
    have HEZ : Hid (E0 = 6) := HE0.out
    go_wp2_with fail
    have bz := put11 HX13.out (.int .u8 0) (.int .i64 0) (.int .i64 0) (.int .i64 0) (.int .i64 0) (.int .i64 0) (.int .i64 0) (.int .i64 0) (.int .i64 0) (.slice none 0 0) (.int .u64 0)
    have z0 := bz.cell 0
    have z1 := bz.cell 1
    have z2 := bz.cell 2
    have z3 := bz.cell 3
    have z4 := bz.cell 4
    have z5 := bz.cell 5
    have z6 := bz.cell 6
    have z7 := bz.cell 7
    have z8 := bz.cell 8
    have z9 := bz.cell 9
    have z10 := bz.cell 10
    simp only [List.getElem?_toArray, List.getElem?_cons_zero, List.getElem?_cons_succ] at z0 z1 z2 z3 z4 z5 z6 z7 z8 z9 z10
    refine bodyPost_ret (v := .tuple #[.agg #[.int .u8 0, .int .i64 0, .int .i64 0, .int .i64 0, .int .i64 0, .int .i64 0, .int .i64 0, .int .i64 0, .int .i64 0, .slice none 0 0, .int .u64 0], .int .i64 6]) (by simp [results, Tryz.results63, go_sem, z0, z1, z2, z3, z4, z5, z6, z7, z8, z9, z10]) rfl ?_
    obtain ⟨n1, n2, n3⟩ := HNO.out (by rw [HEZ.out]; omega)
    rw [n1, n2, n3, HEZ.out]
    exact ⟨none, 0, [], rfl, rfl, OwnRs.nil _ _, below11 HF11.out (Nat.le_succ _) _ _ _ _ _ _ _ _ _ _ _⟩
  | true =>
  have HEZ : Hid (E0 = 0) := HE0.out
  go_wp2_with fail
  clear c16 c17 c18 c19 c20 c21 c22 c23 c24 c25 c26 l27 c28 c29 c30 c31 c32 c33 c34 c35 c36 c37 c38 l39
  clear fr0 fr1 fr2 fr3 fr4 fr5 fr6 fr7 fr8 fr9 fr10
  have hwq := HWI.out _ HY14.out
  rw [← HYK.out] at hwq
  refine hwq.mono ?_
  clear hwq
  rintro e w9 ⟨B2, k2, R2, rfl, hl2, ho2, hb9⟩
  have HL2 := Lib.hid hl2
  have HO2 := Lib.hid (ho2.mono HF11.out.size)
  clear hl2 ho2
  have HF40 := Lib.hid (bext HF11.out hb9)
  have HX41 := Lib.hid (HX12.out.below hb9 HX12.out.lt)
  have HX42 := Lib.hid (HX13.out.below hb9 HX13.out.lt)
  have HY43 := Lib.hid (RunsAt.below HY14.out hb9)
  have HY44 := Lib.hid (HY15.out.below hb9)
  clear HF11 HX12 HX13 HY14 HY15
  clear hb9
  have c45 : w9.cell? ⟨(w.heap.size + 1), 0, none⟩ = some (.int .u8 0) := HX42.out.cell 0
  have c46 : w9.cell? ⟨(w.heap.size + 1), 1, none⟩ = some (.int .i64 0) := HX42.out.cell 1
  have c47 : w9.cell? ⟨(w.heap.size + 1), 2, none⟩ = some (.int .i64 0) := HX42.out.cell 2
  have c48 : w9.cell? ⟨(w.heap.size + 1), 3, none⟩ = some (.int .i64 0) := HX42.out.cell 3
  have c49 : w9.cell? ⟨(w.heap.size + 1), 4, none⟩ = some (.int .i64 0) := HX42.out.cell 4
  have c50 : w9.cell? ⟨(w.heap.size + 1), 5, none⟩ = some (.int .i64 0) := HX42.out.cell 5
  have c51 : w9.cell? ⟨(w.heap.size + 1), 6, none⟩ = some (.int .i64 0) := HX42.out.cell 6
  have c52 : w9.cell? ⟨(w.heap.size + 1), 7, none⟩ = some (.int .i64 0) := HX42.out.cell 7
  have c53 : w9.cell? ⟨(w.heap.size + 1), 8, none⟩ = some (.int .i64 0) := HX42.out.cell 8
  have c54 : w9.cell? ⟨(w.heap.size + 1), 9, none⟩ = some (.slice none 0 0) := HX42.out.cell 9
  have c55 : w9.cell? ⟨(w.heap.size + 1), 10, none⟩ = some (.int .u64 0) := HX42.out.cell 10
  have l56 : (w.heap.size + 1) < w9.heap.size := HX42.out.lt
  have fr0 := HX42.out.frozen 0
  have fr1 := HX42.out.frozen 1
  have fr2 := HX42.out.frozen 2
  have fr3 := HX42.out.frozen 3
  have fr4 := HX42.out.frozen 4
  have fr5 := HX42.out.frozen 5
  have fr6 := HX42.out.frozen 6
  have fr7 := HX42.out.frozen 7
  have fr8 := HX42.out.frozen 8
  have fr9 := HX42.out.frozen 9
  have fr10 := HX42.out.frozen 10
  go_wp2_with fail
  have bz := put11 HX42.out (.int .u8 c.tag) (.int .i64 c.most) (.int .i64 c.seg) (.int .i64 c.least) (.int .i64 c.den) (.int .i64 c.leafLow) (.int .i64 c.rootLow) (.int .i64 c.rootHigh) (.int .i64 c.leafHigh) (.slice B2 R2.length k2) (.int .u64 NA)
  have z0 := bz.cell 0
  have z1 := bz.cell 1
  have z2 := bz.cell 2
  have z3 := bz.cell 3
  have z4 := bz.cell 4
  have z5 := bz.cell 5
  have z6 := bz.cell 6
  have z7 := bz.cell 7
  have z8 := bz.cell 8
  have z9 := bz.cell 9
  have z10 := bz.cell 10
  simp only [List.getElem?_toArray, List.getElem?_cons_zero, List.getElem?_cons_succ] at z0 z1 z2 z3 z4 z5 z6 z7 z8 z9 z10
  refine bodyPost_ret (v := .tuple #[.agg #[.int .u8 c.tag, .int .i64 c.most, .int .i64 c.seg, .int .i64 c.least, .int .i64 c.den, .int .i64 c.leafLow, .int .i64 c.rootLow, .int .i64 c.rootHigh, .int .i64 c.leafHigh, .slice B2 R2.length k2, .int .u64 NA], .int .i64 0]) (by simp [results, Tryz.results63, go_sem, z0, z1, z2, z3, z4, z5, z6, z7, z8, z9, z10]) rfl ?_
  obtain ⟨u1, u2⟩ := HUP.out HEZ.out
  rw [u1, u2, HEZ.out]
  exact ⟨B2, k2, R2, rfl, HL2.out, HO2.out.set11 HX42.out (by decide) (by decide) _ _ _ _ _ _ _ _ _ _ _, below11 HF40.out (Nat.le_succ _) _ _ _ _ _ _ _ _ _ _ _⟩
end Go.Proofs.YthbppblmecdekaaGreatDoor
