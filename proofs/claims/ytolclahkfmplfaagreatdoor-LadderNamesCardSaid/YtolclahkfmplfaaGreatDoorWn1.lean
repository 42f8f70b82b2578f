/- Db: texts of the claim, in this order. -/
import Derived.Test.YtolclahkfmplfaaGreatDoorWg15
/- Contracts: ladder.become, Put, Delete. -/
namespace Go.Proofs.YtolclahkfmplfaaGreatDoor
open Go Go.RowKit
set_option maxRecDepth 100000
set_option maxHeartbeats 8000000 in
theorem become_any (B B2 : Option Addr) (m k m2 k2 g : Nat) (c : Cfg) (n n2 e : Int) (w : World) (hU : Blk w g 60 (lrow c B m k n)) :
    Calls Tryz.prog 19 #[.pointer (some ⟨g, 0, none⟩), .agg #[.slice B2 m2 k2, .int .u64 n2], .int .i64 e] w fun r w' =>
      r = .returned (.tuple #[.agg (if e = 0 then lrow c B2 m2 k2 n2 else lrow cz none 0 0 0), .int .i64 e]) ∧ Mod (fun b => b = g) w w' := by
  obtain ⟨W0, hW0⟩ : ∃ W0, (w.alloc (.cells #[.slice B2 m2 k2, .int .u64 n2] 27)).alloc (.cells #[.int .u8 0, .int .i64 0, .int .i64 0, .int .i64 0, .int .i64 0, .int .i64 0, .int .i64 0, .int .i64 0, .int .i64 0, .slice none 0 0, .int .u64 0] 29) = W0 := ⟨_, rfl⟩
  have hb0 : Below w.heap.size w W0 := by rw [← hW0]; exact ((Below.refl _ _).alloc (Nat.le_refl _) _).alloc (by simp) _
  have bx : Blk W0 w.heap.size 27 #[.slice B2 m2 k2, .int .u64 n2] := by rw [← hW0]; exact (Blk.new _ _ _).alloc _
  have br0 : Blk W0 (w.heap.size + 1) 29 #[.int .u8 0, .int .i64 0, .int .i64 0, .int .i64 0, .int .i64 0, .int .i64 0, .int .i64 0, .int .i64 0, .int .i64 0, .slice none 0 0, .int .u64 0] := by
    rw [← hW0]
    have := Blk.new (w.alloc (.cells #[.slice B2 m2 k2, .int .u64 n2] 27)) 29 #[.int .u8 0, .int .i64 0, .int .i64 0, .int .i64 0, .int .i64 0, .int .i64 0, .int .i64 0, .int .i64 0, .int .i64 0, .slice none 0 0, .int .u64 0]
    rwa [World.size_alloc] at this
  have bu := hU.below hb0 hU.lt
  have hgl := hU.lt
  have HM0 : Hid (Mod (fun b => b = g) w W0) := Mod.of_ext hb0
  have HW0 := Lib.hid hW0
  have HR := Lib.hid br0
  have HU0 := Lib.hid bu
  obtain ⟨X, hX⟩ : ∃ X, (if e = 0 then lrow c B2 m2 k2 n2 else lrow cz none 0 0 0) = X := ⟨_, rfl⟩
  rw [hX]
  have HX := Lib.hid hX
  have x0 : W0.cell? ⟨w.heap.size, 0, none⟩ = some (.slice B2 m2 k2) := bx.cell 0
  have x1 : W0.cell? ⟨w.heap.size, 1, none⟩ = some (.int .u64 n2) := bx.cell 1
  have q0 : W0.cell? ⟨g, 0, none⟩ = some (.int .u8 c.tag) := bu.cell 0
  have q1 : W0.cell? ⟨g, 1, none⟩ = some (.int .i64 c.most) := bu.cell 1
  have q2 : W0.cell? ⟨g, 2, none⟩ = some (.int .i64 c.seg) := bu.cell 2
  have q3 : W0.cell? ⟨g, 3, none⟩ = some (.int .i64 c.least) := bu.cell 3
  have q4 : W0.cell? ⟨g, 4, none⟩ = some (.int .i64 c.den) := bu.cell 4
  have q5 : W0.cell? ⟨g, 5, none⟩ = some (.int .i64 c.leafLow) := bu.cell 5
  have q6 : W0.cell? ⟨g, 6, none⟩ = some (.int .i64 c.rootLow) := bu.cell 6
  have q7 : W0.cell? ⟨g, 7, none⟩ = some (.int .i64 c.rootHigh) := bu.cell 7
  have q8 : W0.cell? ⟨g, 8, none⟩ = some (.int .i64 c.leafHigh) := bu.cell 8
  have q9 : W0.cell? ⟨g, 9, none⟩ = some (.slice B m k) := bu.cell 9
  have q10 : W0.cell? ⟨g, 10, none⟩ = some (.int .u64 n) := bu.cell 10
  have fu0 := bu.frozen 0
  have fu1 := bu.frozen 1
  have fu2 := bu.frozen 2
  have fu3 := bu.frozen 3
  have fu4 := bu.frozen 4
  have fu5 := bu.frozen 5
  have fu6 := bu.frozen 6
  have fu7 := bu.frozen 7
  have fu8 := bu.frozen 8
  have fu9 := bu.frozen 9
  have fu10 := bu.frozen 10
  have r0 : W0.cell? ⟨w.heap.size + 1, 0, none⟩ = some (.int .u8 0) := br0.cell 0
  have r1 : W0.cell? ⟨w.heap.size + 1, 1, none⟩ = some (.int .i64 0) := br0.cell 1
  have r2 : W0.cell? ⟨w.heap.size + 1, 2, none⟩ = some (.int .i64 0) := br0.cell 2
  have r3 : W0.cell? ⟨w.heap.size + 1, 3, none⟩ = some (.int .i64 0) := br0.cell 3
  have r4 : W0.cell? ⟨w.heap.size + 1, 4, none⟩ = some (.int .i64 0) := br0.cell 4
  have r5 : W0.cell? ⟨w.heap.size + 1, 5, none⟩ = some (.int .i64 0) := br0.cell 5
  have r6 : W0.cell? ⟨w.heap.size + 1, 6, none⟩ = some (.int .i64 0) := br0.cell 6
  have r7 : W0.cell? ⟨w.heap.size + 1, 7, none⟩ = some (.int .i64 0) := br0.cell 7
  have r8 : W0.cell? ⟨w.heap.size + 1, 8, none⟩ = some (.int .i64 0) := br0.cell 8
  have r9 : W0.cell? ⟨w.heap.size + 1, 9, none⟩ = some (.slice none 0 0) := br0.cell 9
  have r10 : W0.cell? ⟨w.heap.size + 1, 10, none⟩ = some (.int .u64 0) := br0.cell 10
  have fr0 := br0.frozen 0
  have fr1 := br0.frozen 1
  have fr2 := br0.frozen 2
  have fr3 := br0.frozen 3
  have fr4 := br0.frozen 4
  have fr5 := br0.frozen 5
  have fr6 := br0.frozen 6
  have fr7 := br0.frozen 7
  have fr8 := br0.frozen 8
  have fr9 := br0.frozen 9
  have fr10 := br0.frozen 10
  have ne1 : g ≠ w.heap.size := by omega
  have ne2 : g ≠ w.heap.size + 1 := by omega
  have lu := bu.lt
  clear hW0 hU hb0 hX bu br0 bx hgl
  go_enter Tryz.func19, Tryz.ntmps19
  by_cases h0 : e = 0
  case neg =>
    have h1 : (e != 0) = true := by simpa using h0
    have HV : Hid (X = lrow cz none 0 0 0) := by show _ = _; rw [← HX.out, if_neg h0]
    clear h0 q0 q1 q2 q3 q4 q5 q6 q7 q8 q9 q10 fu0 fu1 fu2 fu3 fu4 fu5 fu6 fu7 fu8 fu9 fu10
    go_upto_region 1 with fail
    rw [HW0.out]
    go_wp2_with fail
    have bz := put11 HR.out (.int .u8 0) (.int .i64 0) (.int .i64 0) (.int .i64 0) (.int .i64 0) (.int .i64 0) (.int .i64 0) (.int .i64 0) (.int .i64 0) (.slice none 0 0) (.int .u64 0)
    have z0 := bz.cell 0
    have z1 := bz.cell 1
    have z2 := bz.cell 2
    have z3 := bz.cell 3
    have z4 := bz.cell 4
    have z5 := bz.cell 5
    have z6 := bz.cell 6
    have z7 := bz.cell 7
    have z8 := bz.cell 8
    have z9 := bz.cell 9
    have z10 := bz.cell 10
    simp only [List.getElem?_toArray, List.getElem?_cons_zero, List.getElem?_cons_succ] at z0 z1 z2 z3 z4 z5 z6 z7 z8 z9 z10
    refine bodyPost_ret (v := .tuple #[.agg #[.int .u8 0, .int .i64 0, .int .i64 0, .int .i64 0, .int .i64 0, .int .i64 0, .int .i64 0, .int .i64 0, .int .i64 0, .slice none 0 0, .int .u64 0], .int .i64 e]) (by simp [results, Tryz.results19, go_sem, z0, z1, z2, z3, z4, z5, z6, z7, z8, z9, z10]) rfl ?_
    rw [HV.out]
    exact ⟨rfl, (((((((((((HM0.out.setNew (p := ⟨w.heap.size + 1, 0, none⟩) (Nat.le_succ _) _).setNew (p := ⟨w.heap.size + 1, 1, none⟩) (Nat.le_succ _) _).setNew (p := ⟨w.heap.size + 1, 2, none⟩) (Nat.le_succ _) _).setNew (p := ⟨w.heap.size + 1, 3, none⟩) (Nat.le_succ _) _).setNew (p := ⟨w.heap.size + 1, 4, none⟩) (Nat.le_succ _) _).setNew (p := ⟨w.heap.size + 1, 5, none⟩) (Nat.le_succ _) _).setNew (p := ⟨w.heap.size + 1, 6, none⟩) (Nat.le_succ _) _).setNew (p := ⟨w.heap.size + 1, 7, none⟩) (Nat.le_succ _) _).setNew (p := ⟨w.heap.size + 1, 8, none⟩) (Nat.le_succ _) _).setNew (p := ⟨w.heap.size + 1, 9, none⟩) (Nat.le_succ _) _).setNew (p := ⟨w.heap.size + 1, 10, none⟩) (Nat.le_succ _) _)⟩

  case pos =>
    subst h0
    have HV : Hid (X = lrow c B2 m2 k2 n2) := by show _ = _; rw [← HX.out, if_pos rfl]
    go_upto_region 1 with fail
    rw [HW0.out]
    go_upto_region 4 with fail
    obtain ⟨W1, hW1⟩ : ∃ W, (W0.setCell ⟨g, 9, none⟩ (.slice B2 m2 k2)).setCell ⟨g, 10, none⟩ (.int .u64 n2) = W := ⟨_, rfl⟩
    rw [hW1]
    have bu1 : Blk W1 g 60 (lrow c B2 m2 k2 n2) := by rw [← hW1]; simpa using (HU0.out.set_ 9 (.slice B2 m2 k2)).set_ 10 (.int .u64 n2)
    have br1 : Blk W1 (w.heap.size + 1) 29 #[.int .u8 0, .int .i64 0, .int .i64 0, .int .i64 0, .int .i64 0, .int .i64 0, .int .i64 0, .int .i64 0, .int .i64 0, .slice none 0 0, .int .u64 0] := by rw [← hW1]; exact (HR.out.far (p := ⟨g, 9, none⟩) ne2.symm _).far (p := ⟨g, 10, none⟩) ne2.symm _
    have HM1 : Hid (Mod (fun b => b = g) w W1) := by show Mod _ _ _; rw [← hW1]; exact (HM0.out.setCell (p := ⟨g, 9, none⟩) rfl _).setCell (p := ⟨g, 10, none⟩) rfl _
    have HR1 := Lib.hid br1
    clear hW1 q0 q1 q2 q3 q4 q5 q6 q7 q8 q9 q10 fu0 fu1 fu2 fu3 fu4 fu5 fu6 fu7 fu8 fu9 fu10 r0 r1 r2 r3 r4 r5 r6 r7 r8 r9 r10 fr0 fr1 fr2 fr3 fr4 fr5 fr6 fr7 fr8 fr9 fr10 x0 x1
    have q0 : W1.cell? ⟨g, 0, none⟩ = some (.int .u8 c.tag) := bu1.cell 0
    have q1 : W1.cell? ⟨g, 1, none⟩ = some (.int .i64 c.most) := bu1.cell 1
    have q2 : W1.cell? ⟨g, 2, none⟩ = some (.int .i64 c.seg) := bu1.cell 2
    have q3 : W1.cell? ⟨g, 3, none⟩ = some (.int .i64 c.least) := bu1.cell 3
    have q4 : W1.cell? ⟨g, 4, none⟩ = some (.int .i64 c.den) := bu1.cell 4
    have q5 : W1.cell? ⟨g, 5, none⟩ = some (.int .i64 c.leafLow) := bu1.cell 5
    have q6 : W1.cell? ⟨g, 6, none⟩ = some (.int .i64 c.rootLow) := bu1.cell 6
    have q7 : W1.cell? ⟨g, 7, none⟩ = some (.int .i64 c.rootHigh) := bu1.cell 7
    have q8 : W1.cell? ⟨g, 8, none⟩ = some (.int .i64 c.leafHigh) := bu1.cell 8
    have q9 : W1.cell? ⟨g, 9, none⟩ = some (.slice B2 m2 k2) := bu1.cell 9
    have q10 : W1.cell? ⟨g, 10, none⟩ = some (.int .u64 n2) := bu1.cell 10
    have r0 : W1.cell? ⟨w.heap.size + 1, 0, none⟩ = some (.int .u8 0) := br1.cell 0
    have r1 : W1.cell? ⟨w.heap.size + 1, 1, none⟩ = some (.int .i64 0) := br1.cell 1
    have r2 : W1.cell? ⟨w.heap.size + 1, 2, none⟩ = some (.int .i64 0) := br1.cell 2
    have r3 : W1.cell? ⟨w.heap.size + 1, 3, none⟩ = some (.int .i64 0) := br1.cell 3
    have r4 : W1.cell? ⟨w.heap.size + 1, 4, none⟩ = some (.int .i64 0) := br1.cell 4
    have r5 : W1.cell? ⟨w.heap.size + 1, 5, none⟩ = some (.int .i64 0) := br1.cell 5
    have r6 : W1.cell? ⟨w.heap.size + 1, 6, none⟩ = some (.int .i64 0) := br1.cell 6
    have r7 : W1.cell? ⟨w.heap.size + 1, 7, none⟩ = some (.int .i64 0) := br1.cell 7
    have r8 : W1.cell? ⟨w.heap.size + 1, 8, none⟩ = some (.int .i64 0) := br1.cell 8
    have r9 : W1.cell? ⟨w.heap.size + 1, 9, none⟩ = some (.slice none 0 0) := br1.cell 9
    have r10 : W1.cell? ⟨w.heap.size + 1, 10, none⟩ = some (.int .u64 0) := br1.cell 10
    have fr0 := br1.frozen 0
    have fr1 := br1.frozen 1
    have fr2 := br1.frozen 2
    have fr3 := br1.frozen 3
    have fr4 := br1.frozen 4
    have fr5 := br1.frozen 5
    have fr6 := br1.frozen 6
    have fr7 := br1.frozen 7
    have fr8 := br1.frozen 8
    have fr9 := br1.frozen 9
    have fr10 := br1.frozen 10
    clear bu1 br1
    go_wp2_with fail
    have bz := put11 HR1.out (.int .u8 c.tag) (.int .i64 c.most) (.int .i64 c.seg) (.int .i64 c.least) (.int .i64 c.den) (.int .i64 c.leafLow) (.int .i64 c.rootLow) (.int .i64 c.rootHigh) (.int .i64 c.leafHigh) (.slice B2 m2 k2) (.int .u64 n2)
    have z0 := bz.cell 0
    have z1 := bz.cell 1
    have z2 := bz.cell 2
    have z3 := bz.cell 3
    have z4 := bz.cell 4
    have z5 := bz.cell 5
    have z6 := bz.cell 6
    have z7 := bz.cell 7
    have z8 := bz.cell 8
    have z9 := bz.cell 9
    have z10 := bz.cell 10
    simp only [List.getElem?_toArray, List.getElem?_cons_zero, List.getElem?_cons_succ] at z0 z1 z2 z3 z4 z5 z6 z7 z8 z9 z10
    refine bodyPost_ret (v := .tuple #[.agg #[.int .u8 c.tag, .int .i64 c.most, .int .i64 c.seg, .int .i64 c.least, .int .i64 c.den, .int .i64 c.leafLow, .int .i64 c.rootLow, .int .i64 c.rootHigh, .int .i64 c.leafHigh, .slice B2 m2 k2, .int .u64 n2], .int .i64 0]) (by simp [results, Tryz.results19, go_sem, z0, z1, z2, z3, z4, z5, z6, z7, z8, z9, z10]) rfl ?_
    rw [HV.out]
    exact ⟨rfl, (((((((((((HM1.out.setNew (p := ⟨w.heap.size + 1, 0, none⟩) (Nat.le_succ _) _).setNew (p := ⟨w.heap.size + 1, 1, none⟩) (Nat.le_succ _) _).setNew (p := ⟨w.heap.size + 1, 2, none⟩) (Nat.le_succ _) _).setNew (p := ⟨w.heap.size + 1, 3, none⟩) (Nat.le_succ _) _).setNew (p := ⟨w.heap.size + 1, 4, none⟩) (Nat.le_succ _) _).setNew (p := ⟨w.heap.size + 1, 5, none⟩) (Nat.le_succ _) _).setNew (p := ⟨w.heap.size + 1, 6, none⟩) (Nat.le_succ _) _).setNew (p := ⟨w.heap.size + 1, 7, none⟩) (Nat.le_succ _) _).setNew (p := ⟨w.heap.size + 1, 8, none⟩) (Nat.le_succ _) _).setNew (p := ⟨w.heap.size + 1, 9, none⟩) (Nat.le_succ _) _).setNew (p := ⟨w.heap.size + 1, 10, none⟩) (Nat.le_succ _) _)⟩
set_option maxHeartbeats 16000000 in
theorem delD_any (B : Option Addr) (Rs : List Rm) (k : Nat) (c : Cfg) (n : Int) (key : Int) (w : World) (hB : RunsAt w B Rs) (hT : tot (lvs Rs) ≤ 1000000) (hl : Rs.length ≤ 1000000) (hTb : TabAt 1 Lib.deBruijn64tab w) :
    Calls Tryz.prog 7 #[.agg (lrow c B Rs.length k n), .int .i64 key] w (GivesLd (ldC c (upE (veD c (lvs Rs) key) (lvs Rs) (delY key))) (upL (veD c (lvs Rs) key) (lvs Rs) n (delY key)) (upN (veD c (lvs Rs) key) (lvs Rs) n (delY key)) (upE (veD c (lvs Rs) key) (lvs Rs) (delY key)) w) := by
  obtain ⟨W0, hW0⟩ : ∃ W0, (w.alloc (.cells #[.int .u8 c.tag, .int .i64 c.most, .int .i64 c.seg, .int .i64 c.least, .int .i64 c.den, .int .i64 c.leafLow, .int .i64 c.rootLow, .int .i64 c.rootHigh, .int .i64 c.leafHigh, .slice B Rs.length k, .int .u64 n] 29)).alloc (.cells #[.int .u8 0, .int .i64 0, .int .i64 0, .int .i64 0, .int .i64 0, .int .i64 0, .int .i64 0, .int .i64 0, .int .i64 0, .slice none 0 0, .int .u64 0] 29) = W0 := ⟨_, rfl⟩
  have hb0 : Below w.heap.size w W0 := by rw [← hW0]; exact ((Below.refl _ _).alloc (Nat.le_refl _) _).alloc (by simp) _
  have b0 : Blk W0 w.heap.size 29 #[.int .u8 c.tag, .int .i64 c.most, .int .i64 c.seg, .int .i64 c.least, .int .i64 c.den, .int .i64 c.leafLow, .int .i64 c.rootLow, .int .i64 c.rootHigh, .int .i64 c.leafHigh, .slice B Rs.length k, .int .u64 n] := by rw [← hW0]; exact (Blk.new _ _ _).alloc _
  have br0 : Blk W0 (w.heap.size + 1) 29 #[.int .u8 0, .int .i64 0, .int .i64 0, .int .i64 0, .int .i64 0, .int .i64 0, .int .i64 0, .int .i64 0, .int .i64 0, .slice none 0 0, .int .u64 0] := by
    rw [← hW0]
    have := Blk.new (w.alloc (.cells #[.int .u8 c.tag, .int .i64 c.most, .int .i64 c.seg, .int .i64 c.least, .int .i64 c.den, .int .i64 c.leafLow, .int .i64 c.rootLow, .int .i64 c.rootHigh, .int .i64 c.leafHigh, .slice B Rs.length k, .int .u64 n] 29)) 29 #[.int .u8 0, .int .i64 0, .int .i64 0, .int .i64 0, .int .i64 0, .int .i64 0, .int .i64 0, .int .i64 0, .int .i64 0, .slice none 0 0, .int .u64 0]
    rwa [World.size_alloc] at this
  have HW0 := Lib.hid hW0
  have HB := Lib.hid (hB.below hb0)
  have HB0 := Lib.hid hb0
  have HC0 := Lib.hid b0
  have HR0 := Lib.hid br0
  have HTB := Lib.hid (tab_below (tab_lt hTb) hTb hb0)
  have hTl := tab_lt HTB.out
  obtain ⟨G0, hG0⟩ : ∃ G, veD c (lvs Rs) key = G := ⟨_, rfl⟩
  rw [hG0]
  obtain ⟨e1, he1⟩ : ∃ G, veD c (lvs Rs) key = G := ⟨_, rfl⟩
  obtain ⟨v1, hv1⟩ : ∃ G, vlD c (lvs Rs) key = G := ⟨_, rfl⟩
  obtain ⟨yy, hyy⟩ : ∃ q, (delY key) = q := ⟨_, rfl⟩
  rw [hyy]
  obtain ⟨LA, hLA⟩ : ∃ L, addL (lvs Rs) n yy = L := ⟨_, rfl⟩
  obtain ⟨NA, hNA⟩ : ∃ L, addN (lvs Rs) n yy = L := ⟨_, rfl⟩
  obtain ⟨EA, hEA⟩ : ∃ L, addE (lvs Rs) yy = L := ⟨_, rfl⟩
  have HADD := Lib.hid (show ∀ W, Below w.heap.size w W → Calls Tryz.prog 20 #[.agg #[.slice B Rs.length k, .int .u64 n], .agg #[.int .i64 yy.key, .int .i64 yy.val, .bool yy.dead]] W (GivesRgE LA NA EA W) from fun W hW => by
    have h8 := addR_any B Rs k n yy W (hB.below hW) hT hl
    rw [hLA, hNA, hEA] at h8
    exact h8)
  have HGET := Lib.hid (show ∀ W, Below W0.heap.size W0 W → Calls Tryz.prog 17 #[.agg (lrow c B Rs.length k n), .int .i64 key] W (fun r w' => r = .returned (.tuple #[.int .i64 v1, .int .i64 e1]) ∧ Below W.heap.size W w') from fun W hW => by
    have h8 := getD_any B Rs k c n key W (HB.out.below hW) hT hl (tab_below hTl HTB.out hW)
    rw [he1, hv1] at h8
    exact h8)
  have HNO := Lib.hid (show EA ≠ 0 → ldC c EA = cz ∧ LA = [] ∧ NA = 0 from fun h => ⟨by unfold ldC; rw [if_neg h], by rw [← hLA]; unfold addL; rw [if_neg (by rw [hEA]; exact h)], by rw [← hNA]; unfold addN; rw [if_neg (by rw [hEA]; exact h)]⟩)
  have HUP0 := Lib.hid (show G0 = 0 → upE G0 (lvs Rs) yy = EA ∧ upL G0 (lvs Rs) n yy = LA ∧ upN G0 (lvs Rs) n yy = NA from fun h => by unfold upE upL upN; rw [if_pos h, if_pos h, if_pos h]; exact ⟨hEA, hLA, hNA⟩)
  have HUP1 := Lib.hid (show G0 ≠ 0 → ldC c (upE G0 (lvs Rs) yy) = cz ∧ upE G0 (lvs Rs) yy = G0 ∧ upL G0 (lvs Rs) n yy = [] ∧ upN G0 (lvs Rs) n yy = 0 from fun h => by unfold ldC upE upL upN; rw [if_neg h, if_neg h, if_neg h, if_neg h]; exact ⟨rfl, rfl, rfl, rfl⟩)
  rw [he1] at hG0
  subst hG0
  have hy2 : yy.key = key ∧ yy.val = 0 ∧ yy.dead = true := by rw [← hyy]; exact ⟨rfl, rfl, rfl⟩
  have HY2 := Lib.hid hy2
  have HAD : Hid (∀ W, Below w.heap.size w W → Calls Tryz.prog 20 #[.agg #[.slice B Rs.length k, .int .u64 n], .agg #[.int .i64 key, .int .i64 0, .bool true]] W (GivesRgE LA NA EA W)) := by
    have h := HADD.out
    rw [hy2.1, hy2.2.1, hy2.2.2] at h
    exact h
  clear hW0 hB hT hl hTb he1 hv1 hyy hLA hNA hEA HADD hy2
  have q0 : W0.cell? ⟨w.heap.size, 0, none⟩ = some (.int .u8 c.tag) := b0.cell 0
  have q1 : W0.cell? ⟨w.heap.size, 1, none⟩ = some (.int .i64 c.most) := b0.cell 1
  have q2 : W0.cell? ⟨w.heap.size, 2, none⟩ = some (.int .i64 c.seg) := b0.cell 2
  have q3 : W0.cell? ⟨w.heap.size, 3, none⟩ = some (.int .i64 c.least) := b0.cell 3
  have q4 : W0.cell? ⟨w.heap.size, 4, none⟩ = some (.int .i64 c.den) := b0.cell 4
  have q5 : W0.cell? ⟨w.heap.size, 5, none⟩ = some (.int .i64 c.leafLow) := b0.cell 5
  have q6 : W0.cell? ⟨w.heap.size, 6, none⟩ = some (.int .i64 c.rootLow) := b0.cell 6
  have q7 : W0.cell? ⟨w.heap.size, 7, none⟩ = some (.int .i64 c.rootHigh) := b0.cell 7
  have q8 : W0.cell? ⟨w.heap.size, 8, none⟩ = some (.int .i64 c.leafHigh) := b0.cell 8
  have q9 : W0.cell? ⟨w.heap.size, 9, none⟩ = some (.slice B Rs.length k) := b0.cell 9
  have q10 : W0.cell? ⟨w.heap.size, 10, none⟩ = some (.int .u64 n) := b0.cell 10
  clear b0 br0 hb0
  go_enter Tryz.func7, Tryz.ntmps7
  go_upto_region 1 with fail
  rw [HW0.out]
  go_wp2_with fail
  refine (HGET.out _ (Below.refl _ _)).mono ?_
  rintro e w1 ⟨rfl, hb1⟩
  have HB1 := Lib.hid (bext HB0.out hb1)
  have HC1 := Lib.hid (HC0.out.below hb1 HC0.out.lt)
  have HR1 := Lib.hid (HR0.out.below hb1 HR0.out.lt)
  have HS1 := Lib.hid hb1
  clear hb1 HGET q0 q1 q2 q3 q4 q5 q6 q7 q8 q9 q10
  by_cases h0 : e1 = 0
  case neg =>
    have h1 : (e1 != 0) = true := by simpa using h0
    have HV := Lib.hid (HUP1.out h0)
    clear h0
    have br := HR1.out
    have r0 : w1.cell? ⟨w.heap.size + 1, 0, none⟩ = some (.int .u8 0) := br.cell 0
    have r1 : w1.cell? ⟨w.heap.size + 1, 1, none⟩ = some (.int .i64 0) := br.cell 1
    have r2 : w1.cell? ⟨w.heap.size + 1, 2, none⟩ = some (.int .i64 0) := br.cell 2
    have r3 : w1.cell? ⟨w.heap.size + 1, 3, none⟩ = some (.int .i64 0) := br.cell 3
    have r4 : w1.cell? ⟨w.heap.size + 1, 4, none⟩ = some (.int .i64 0) := br.cell 4
    have r5 : w1.cell? ⟨w.heap.size + 1, 5, none⟩ = some (.int .i64 0) := br.cell 5
    have r6 : w1.cell? ⟨w.heap.size + 1, 6, none⟩ = some (.int .i64 0) := br.cell 6
    have r7 : w1.cell? ⟨w.heap.size + 1, 7, none⟩ = some (.int .i64 0) := br.cell 7
    have r8 : w1.cell? ⟨w.heap.size + 1, 8, none⟩ = some (.int .i64 0) := br.cell 8
    have r9 : w1.cell? ⟨w.heap.size + 1, 9, none⟩ = some (.slice none 0 0) := br.cell 9
    have r10 : w1.cell? ⟨w.heap.size + 1, 10, none⟩ = some (.int .u64 0) := br.cell 10
    have fr0 := br.frozen 0
    have fr1 := br.frozen 1
    have fr2 := br.frozen 2
    have fr3 := br.frozen 3
    have fr4 := br.frozen 4
    have fr5 := br.frozen 5
    have fr6 := br.frozen 6
    have fr7 := br.frozen 7
    have fr8 := br.frozen 8
    have fr9 := br.frozen 9
    have fr10 := br.frozen 10
    clear br
    go_wp2_with fail
    have bz := put11 HR1.out (.int .u8 0) (.int .i64 0) (.int .i64 0) (.int .i64 0) (.int .i64 0) (.int .i64 0) (.int .i64 0) (.int .i64 0) (.int .i64 0) (.slice none 0 0) (.int .u64 0)
    have z0 := bz.cell 0
    have z1 := bz.cell 1
    have z2 := bz.cell 2
    have z3 := bz.cell 3
    have z4 := bz.cell 4
    have z5 := bz.cell 5
    have z6 := bz.cell 6
    have z7 := bz.cell 7
    have z8 := bz.cell 8
    have z9 := bz.cell 9
    have z10 := bz.cell 10
    simp only [List.getElem?_toArray, List.getElem?_cons_zero, List.getElem?_cons_succ] at z0 z1 z2 z3 z4 z5 z6 z7 z8 z9 z10
    refine bodyPost_ret (v := .tuple #[.agg #[.int .u8 0, .int .i64 0, .int .i64 0, .int .i64 0, .int .i64 0, .int .i64 0, .int .i64 0, .int .i64 0, .int .i64 0, .slice none 0 0, .int .u64 0], .int .i64 e1]) (by simp [results, Tryz.results7, go_sem, z0, z1, z2, z3, z4, z5, z6, z7, z8, z9, z10]) rfl ?_
    rw [HV.out.1, HV.out.2.1, HV.out.2.2.1, HV.out.2.2.2]
    exact ⟨none, 0, [], rfl, rfl, OwnRs.nil _ _, below11 HB1.out (Nat.le_succ _) _ _ _ _ _ _ _ _ _ _ _⟩
  case pos =>
  have HUQ := Lib.hid (HUP0.out h0)
  subst h0
  have bc := HC1.out
  have br := HR1.out
  have q0 : w1.cell? ⟨w.heap.size, 0, none⟩ = some (.int .u8 c.tag) := bc.cell 0
  have q1 : w1.cell? ⟨w.heap.size, 1, none⟩ = some (.int .i64 c.most) := bc.cell 1
  have q2 : w1.cell? ⟨w.heap.size, 2, none⟩ = some (.int .i64 c.seg) := bc.cell 2
  have q3 : w1.cell? ⟨w.heap.size, 3, none⟩ = some (.int .i64 c.least) := bc.cell 3
  have q4 : w1.cell? ⟨w.heap.size, 4, none⟩ = some (.int .i64 c.den) := bc.cell 4
  have q5 : w1.cell? ⟨w.heap.size, 5, none⟩ = some (.int .i64 c.leafLow) := bc.cell 5
  have q6 : w1.cell? ⟨w.heap.size, 6, none⟩ = some (.int .i64 c.rootLow) := bc.cell 6
  have q7 : w1.cell? ⟨w.heap.size, 7, none⟩ = some (.int .i64 c.rootHigh) := bc.cell 7
  have q8 : w1.cell? ⟨w.heap.size, 8, none⟩ = some (.int .i64 c.leafHigh) := bc.cell 8
  have q9 : w1.cell? ⟨w.heap.size, 9, none⟩ = some (.slice B Rs.length k) := bc.cell 9
  have q10 : w1.cell? ⟨w.heap.size, 10, none⟩ = some (.int .u64 n) := bc.cell 10
  have lq := bc.lt
  clear bc br
  go_upto_region 5 with fail
  obtain ⟨U, hU⟩ : ∃ W, w1.alloc (.cells #[.int .u8 c.tag, .int .i64 c.most, .int .i64 c.seg, .int .i64 c.least, .int .i64 c.den, .int .i64 c.leafLow, .int .i64 c.rootLow, .int .i64 c.rootHigh, .int .i64 c.leafHigh, .slice B Rs.length k, .int .u64 n] 60) = W := ⟨_, rfl⟩
  have hau : Below w1.heap.size w1 U := by rw [← hU]; exact (Below.refl _ _).alloc (Nat.le_refl _) _
  have bu : Blk U w1.heap.size 60 (lrow c B Rs.length k n) := by rw [← hU]; exact Blk.new _ _ _
  try rw [hU]
  have HBU := Lib.hid (bext HB1.out hau)
  have HCU := Lib.hid ((HC1.out).below hau (HC1.out).lt)
  have HRU := Lib.hid ((HR1.out).below hau (HR1.out).lt)
  have HNG : Hid (w.heap.size + 1 < w1.heap.size) := (HR1.out).lt
  obtain ⟨gu, hgu⟩ : ∃ g, w1.heap.size = g := ⟨_, rfl⟩
  rw [hgu] at bu HNG
  try rw [hgu]
  have HUU := Lib.hid bu
  have bc := HCU.out
  clear hU hau bu hgu q0 q1 q2 q3 q4 q5 q6 q7 q8 q9 q10 lq
  have q0 : U.cell? ⟨w.heap.size, 0, none⟩ = some (.int .u8 c.tag) := bc.cell 0
  have q1 : U.cell? ⟨w.heap.size, 1, none⟩ = some (.int .i64 c.most) := bc.cell 1
  have q2 : U.cell? ⟨w.heap.size, 2, none⟩ = some (.int .i64 c.seg) := bc.cell 2
  have q3 : U.cell? ⟨w.heap.size, 3, none⟩ = some (.int .i64 c.least) := bc.cell 3
  have q4 : U.cell? ⟨w.heap.size, 4, none⟩ = some (.int .i64 c.den) := bc.cell 4
  have q5 : U.cell? ⟨w.heap.size, 5, none⟩ = some (.int .i64 c.leafLow) := bc.cell 5
  have q6 : U.cell? ⟨w.heap.size, 6, none⟩ = some (.int .i64 c.rootLow) := bc.cell 6
  have q7 : U.cell? ⟨w.heap.size, 7, none⟩ = some (.int .i64 c.rootHigh) := bc.cell 7
  have q8 : U.cell? ⟨w.heap.size, 8, none⟩ = some (.int .i64 c.leafHigh) := bc.cell 8
  have q9 : U.cell? ⟨w.heap.size, 9, none⟩ = some (.slice B Rs.length k) := bc.cell 9
  have q10 : U.cell? ⟨w.heap.size, 10, none⟩ = some (.int .u64 n) := bc.cell 10
  clear bc
  go_wp2_with fail
  refine (HAD.out U HBU.out).mono ?_
  rintro e w8 ⟨B2, k2, R2, rfl, hl2, ho2, hb8⟩
  clear q0 q1 q2 q3 q4 q5 q6 q7 q8 q9 q10
  have HL2 := Lib.hid hl2
  have HO2 := Lib.hid ho2
  have HB8 := Lib.hid (bext HBU.out hb8)
  have HR8 := Lib.hid (HRU.out.below hb8 HRU.out.lt)
  have HU8 := Lib.hid (HUU.out.below hb8 HUU.out.lt)
  have HGU := Lib.hid (show gu < U.heap.size from HUU.out.lt)
  have HSU := Lib.hid HBU.out.size
  clear hl2 ho2 hb8
  go_wp2_with fail
  refine (become_any B B2 Rs.length k R2.length k2 gu c n NA EA _ HU8.out).mono ?_
  obtain ⟨X, hX⟩ : ∃ X, (if EA = 0 then lrow c B2 R2.length k2 NA else lrow cz none 0 0 0) = X := ⟨_, rfl⟩
  rw [hX]
  have HX := Lib.hid hX
  clear hX
  rintro e w9 ⟨rfl, hm9⟩
  have HB9 := Lib.hid (HB8.out.trans (hm9.below (B := w.heap.size) HB8.out.size (fun q hq => by have h1 := HNG.out; omega)))
  have br9 := HR8.out.mod hm9 (fun h => by have h1 := HNG.out; omega)
  have HO9 := Lib.hid ((OwnRs.mk (own_mod HO2.out.row hm9 (fun q hq h => by have h1 := HGU.out; omega)) (fun r hr => own_mod (HO2.out.ent r hr) hm9 (fun q hq h => by have h1 := HGU.out; omega)) : OwnRs w9 U.heap.size B2 k2 R2).mono HSU.out)
  have HR9 := Lib.hid br9
  have r0 : w9.cell? ⟨w.heap.size + 1, 0, none⟩ = some (.int .u8 0) := br9.cell 0
  have r1 : w9.cell? ⟨w.heap.size + 1, 1, none⟩ = some (.int .i64 0) := br9.cell 1
  have r2 : w9.cell? ⟨w.heap.size + 1, 2, none⟩ = some (.int .i64 0) := br9.cell 2
  have r3 : w9.cell? ⟨w.heap.size + 1, 3, none⟩ = some (.int .i64 0) := br9.cell 3
  have r4 : w9.cell? ⟨w.heap.size + 1, 4, none⟩ = some (.int .i64 0) := br9.cell 4
  have r5 : w9.cell? ⟨w.heap.size + 1, 5, none⟩ = some (.int .i64 0) := br9.cell 5
  have r6 : w9.cell? ⟨w.heap.size + 1, 6, none⟩ = some (.int .i64 0) := br9.cell 6
  have r7 : w9.cell? ⟨w.heap.size + 1, 7, none⟩ = some (.int .i64 0) := br9.cell 7
  have r8 : w9.cell? ⟨w.heap.size + 1, 8, none⟩ = some (.int .i64 0) := br9.cell 8
  have r9 : w9.cell? ⟨w.heap.size + 1, 9, none⟩ = some (.slice none 0 0) := br9.cell 9
  have r10 : w9.cell? ⟨w.heap.size + 1, 10, none⟩ = some (.int .u64 0) := br9.cell 10
  have fr0 := br9.frozen 0
  have fr1 := br9.frozen 1
  have fr2 := br9.frozen 2
  have fr3 := br9.frozen 3
  have fr4 := br9.frozen 4
  have fr5 := br9.frozen 5
  have fr6 := br9.frozen 6
  have fr7 := br9.frozen 7
  have fr8 := br9.frozen 8
  have fr9 := br9.frozen 9
  have fr10 := br9.frozen 10
  clear hm9 br9
  by_cases hA0 : EA = 0
  case neg =>
    have hx : X = #[.int .u8 0, .int .i64 0, .int .i64 0, .int .i64 0, .int .i64 0, .int .i64 0, .int .i64 0, .int .i64 0, .int .i64 0, .slice none 0 0, .int .u64 0] := by rw [← HX.out, if_neg hA0]; rfl
    subst hx
    have HV := Lib.hid (HNO.out hA0)
    clear hA0
    go_wp2_with fail
    have bz := put11 HR9.out (.int .u8 0) (.int .i64 0) (.int .i64 0) (.int .i64 0) (.int .i64 0) (.int .i64 0) (.int .i64 0) (.int .i64 0) (.int .i64 0) (.slice none 0 0) (.int .u64 0)
    have z0 := bz.cell 0
    have z1 := bz.cell 1
    have z2 := bz.cell 2
    have z3 := bz.cell 3
    have z4 := bz.cell 4
    have z5 := bz.cell 5
    have z6 := bz.cell 6
    have z7 := bz.cell 7
    have z8 := bz.cell 8
    have z9 := bz.cell 9
    have z10 := bz.cell 10
    simp only [List.getElem?_toArray, List.getElem?_cons_zero, List.getElem?_cons_succ] at z0 z1 z2 z3 z4 z5 z6 z7 z8 z9 z10
    refine bodyPost_ret (v := .tuple #[.agg #[.int .u8 0, .int .i64 0, .int .i64 0, .int .i64 0, .int .i64 0, .int .i64 0, .int .i64 0, .int .i64 0, .int .i64 0, .slice none 0 0, .int .u64 0], .int .i64 EA]) (by simp [results, Tryz.results7, go_sem, z0, z1, z2, z3, z4, z5, z6, z7, z8, z9, z10]) rfl ?_
    rw [HUQ.out.1, HUQ.out.2.1, HUQ.out.2.2, HV.out.1, HV.out.2.1, HV.out.2.2]
    exact ⟨none, 0, [], rfl, rfl, OwnRs.nil _ _, below11 HB9.out (Nat.le_succ _) _ _ _ _ _ _ _ _ _ _ _⟩
  case pos =>
  subst hA0
  have hx : X = lrow c B2 R2.length k2 NA := by rw [← HX.out, if_pos rfl]
  subst hx
  go_wp2_with fail
  have bz := put11 HR9.out (.int .u8 c.tag) (.int .i64 c.most) (.int .i64 c.seg) (.int .i64 c.least) (.int .i64 c.den) (.int .i64 c.leafLow) (.int .i64 c.rootLow) (.int .i64 c.rootHigh) (.int .i64 c.leafHigh) (.slice B2 R2.length k2) (.int .u64 NA)
  have z0 := bz.cell 0
  have z1 := bz.cell 1
  have z2 := bz.cell 2
  have z3 := bz.cell 3
  have z4 := bz.cell 4
  have z5 := bz.cell 5
  have z6 := bz.cell 6
  have z7 := bz.cell 7
  have z8 := bz.cell 8
  have z9 := bz.cell 9
  have z10 := bz.cell 10
  simp only [List.getElem?_toArray, List.getElem?_cons_zero, List.getElem?_cons_succ] at z0 z1 z2 z3 z4 z5 z6 z7 z8 z9 z10
  refine bodyPost_ret (v := .tuple #[.agg #[.int .u8 c.tag, .int .i64 c.most, .int .i64 c.seg, .int .i64 c.least, .int .i64 c.den, .int .i64 c.leafLow, .int .i64 c.rootLow, .int .i64 c.rootHigh, .int .i64 c.leafHigh, .slice B2 R2.length k2, .int .u64 NA], .int .i64 0]) (by simp [results, Tryz.results7, go_sem, z0, z1, z2, z3, z4, z5, z6, z7, z8, z9, z10]) rfl ?_
  rw [HUQ.out.1, HUQ.out.2.1, HUQ.out.2.2]
  exact ⟨B2, k2, R2, rfl, HL2.out, HO9.out.set11 HR9.out (by decide) (by decide) _ _ _ _ _ _ _ _ _ _ _, below11 HB9.out (Nat.le_succ _) _ _ _ _ _ _ _ _ _ _ _⟩
set_option maxHeartbeats 16000000 in
theorem putD_any (B : Option Addr) (Rs : List Rm) (k : Nat) (c : Cfg) (n : Int) (key val : Int) (w : World) (hB : RunsAt w B Rs) (hT : tot (lvs Rs) ≤ 1000000) (hl : Rs.length ≤ 1000000) (hTb : TabAt 1 Lib.deBruijn64tab w) :
    Calls Tryz.prog 6 #[.agg (lrow c B Rs.length k n), .int .i64 key, .int .i64 val] w (GivesLd (ldC c (upE (putE0 c (lvs Rs) key) (lvs Rs) (putY key val))) (upL (putE0 c (lvs Rs) key) (lvs Rs) n (putY key val)) (upN (putE0 c (lvs Rs) key) (lvs Rs) n (putY key val)) (upE (putE0 c (lvs Rs) key) (lvs Rs) (putY key val)) w) := by
  obtain ⟨W0, hW0⟩ : ∃ W0, (w.alloc (.cells #[.int .u8 c.tag, .int .i64 c.most, .int .i64 c.seg, .int .i64 c.least, .int .i64 c.den, .int .i64 c.leafLow, .int .i64 c.rootLow, .int .i64 c.rootHigh, .int .i64 c.leafHigh, .slice B Rs.length k, .int .u64 n] 29)).alloc (.cells #[.int .u8 0, .int .i64 0, .int .i64 0, .int .i64 0, .int .i64 0, .int .i64 0, .int .i64 0, .int .i64 0, .int .i64 0, .slice none 0 0, .int .u64 0] 29) = W0 := ⟨_, rfl⟩
  have hb0 : Below w.heap.size w W0 := by rw [← hW0]; exact ((Below.refl _ _).alloc (Nat.le_refl _) _).alloc (by simp) _
  have b0 : Blk W0 w.heap.size 29 #[.int .u8 c.tag, .int .i64 c.most, .int .i64 c.seg, .int .i64 c.least, .int .i64 c.den, .int .i64 c.leafLow, .int .i64 c.rootLow, .int .i64 c.rootHigh, .int .i64 c.leafHigh, .slice B Rs.length k, .int .u64 n] := by rw [← hW0]; exact (Blk.new _ _ _).alloc _
  have br0 : Blk W0 (w.heap.size + 1) 29 #[.int .u8 0, .int .i64 0, .int .i64 0, .int .i64 0, .int .i64 0, .int .i64 0, .int .i64 0, .int .i64 0, .int .i64 0, .slice none 0 0, .int .u64 0] := by
    rw [← hW0]
    have := Blk.new (w.alloc (.cells #[.int .u8 c.tag, .int .i64 c.most, .int .i64 c.seg, .int .i64 c.least, .int .i64 c.den, .int .i64 c.leafLow, .int .i64 c.rootLow, .int .i64 c.rootHigh, .int .i64 c.leafHigh, .slice B Rs.length k, .int .u64 n] 29)) 29 #[.int .u8 0, .int .i64 0, .int .i64 0, .int .i64 0, .int .i64 0, .int .i64 0, .int .i64 0, .int .i64 0, .int .i64 0, .slice none 0 0, .int .u64 0]
    rwa [World.size_alloc] at this
  have HW0 := Lib.hid hW0
  have HB := Lib.hid (hB.below hb0)
  have HB0 := Lib.hid hb0
  have HC0 := Lib.hid b0
  have HR0 := Lib.hid br0
  have HTB := Lib.hid (tab_below (tab_lt hTb) hTb hb0)
  have hTl := tab_lt HTB.out
  obtain ⟨G0, hG0⟩ : ∃ G, putE0 c (lvs Rs) key = G := ⟨_, rfl⟩
  rw [hG0]
  obtain ⟨e1, he1⟩ : ∃ G, veD c (lvs Rs) key = G := ⟨_, rfl⟩
  obtain ⟨v1, hv1⟩ : ∃ G, vlD c (lvs Rs) key = G := ⟨_, rfl⟩
  obtain ⟨yy, hyy⟩ : ∃ q, (putY key val) = q := ⟨_, rfl⟩
  rw [hyy]
  obtain ⟨LA, hLA⟩ : ∃ L, addL (lvs Rs) n yy = L := ⟨_, rfl⟩
  obtain ⟨NA, hNA⟩ : ∃ L, addN (lvs Rs) n yy = L := ⟨_, rfl⟩
  obtain ⟨EA, hEA⟩ : ∃ L, addE (lvs Rs) yy = L := ⟨_, rfl⟩
  have HADD := Lib.hid (show ∀ W, Below w.heap.size w W → Calls Tryz.prog 20 #[.agg #[.slice B Rs.length k, .int .u64 n], .agg #[.int .i64 yy.key, .int .i64 yy.val, .bool yy.dead]] W (GivesRgE LA NA EA W) from fun W hW => by
    have h8 := addR_any B Rs k n yy W (hB.below hW) hT hl
    rw [hLA, hNA, hEA] at h8
    exact h8)
  have HGET := Lib.hid (show ∀ W, Below W0.heap.size W0 W → Calls Tryz.prog 17 #[.agg (lrow c B Rs.length k n), .int .i64 key] W (fun r w' => r = .returned (.tuple #[.int .i64 v1, .int .i64 e1]) ∧ Below W.heap.size W w') from fun W hW => by
    have h8 := getD_any B Rs k c n key W (HB.out.below hW) hT hl (tab_below hTl HTB.out hW)
    rw [he1, hv1] at h8
    exact h8)
  have HNO := Lib.hid (show EA ≠ 0 → ldC c EA = cz ∧ LA = [] ∧ NA = 0 from fun h => ⟨by unfold ldC; rw [if_neg h], by rw [← hLA]; unfold addL; rw [if_neg (by rw [hEA]; exact h)], by rw [← hNA]; unfold addN; rw [if_neg (by rw [hEA]; exact h)]⟩)
  have HUP0 := Lib.hid (show G0 = 0 → upE G0 (lvs Rs) yy = EA ∧ upL G0 (lvs Rs) n yy = LA ∧ upN G0 (lvs Rs) n yy = NA from fun h => by unfold upE upL upN; rw [if_pos h, if_pos h, if_pos h]; exact ⟨hEA, hLA, hNA⟩)
  have HUP1 := Lib.hid (show G0 ≠ 0 → ldC c (upE G0 (lvs Rs) yy) = cz ∧ upE G0 (lvs Rs) yy = G0 ∧ upL G0 (lvs Rs) n yy = [] ∧ upN G0 (lvs Rs) n yy = 0 from fun h => by unfold ldC upE upL upN; rw [if_neg h, if_neg h, if_neg h, if_neg h]; exact ⟨rfl, rfl, rfl, rfl⟩)
  have hct := fun W (hW : Below W0.heap.size W0 W) => countR_any B Rs k n W (HB.out.below hW) hT hl
  obtain ⟨PL, hPL⟩ : ∃ P, (prR (lvs Rs)).length = P := ⟨_, rfl⟩
  obtain ⟨CF, hCF⟩ : ∃ P, chkR (lvs Rs) = P := ⟨_, rfl⟩
  rw [hPL] at hct
  rw [hCF] at hct
  obtain ⟨CV, hCV⟩ : ∃ Z : Int, (if CF = 0 then (tot (lvs Rs) : Int) else 0) = Z := ⟨_, rfl⟩
  rw [hCV] at hct
  have HCT := Lib.hid hct
  unfold putE0 at hG0
  rw [he1, hPL] at hG0
  have HPE := Lib.hid hG0
  have hy2 : yy.key = key ∧ yy.val = val ∧ yy.dead = false := by rw [← hyy]; exact ⟨rfl, rfl, rfl⟩
  have HAD : Hid (∀ W, Below w.heap.size w W → Calls Tryz.prog 20 #[.agg #[.slice B Rs.length k, .int .u64 n], .agg #[.int .i64 key, .int .i64 val, .bool false]] W (GivesRgE LA NA EA W)) := by
    have h := HADD.out
    rw [hy2.1, hy2.2.1, hy2.2.2] at h
    exact h
  clear hW0 hB hT hl hTb he1 hv1 hyy hLA hNA hEA HADD hy2 hct hPL hCF hCV hG0
  have q0 : W0.cell? ⟨w.heap.size, 0, none⟩ = some (.int .u8 c.tag) := b0.cell 0
  have q1 : W0.cell? ⟨w.heap.size, 1, none⟩ = some (.int .i64 c.most) := b0.cell 1
  have q2 : W0.cell? ⟨w.heap.size, 2, none⟩ = some (.int .i64 c.seg) := b0.cell 2
  have q3 : W0.cell? ⟨w.heap.size, 3, none⟩ = some (.int .i64 c.least) := b0.cell 3
  have q4 : W0.cell? ⟨w.heap.size, 4, none⟩ = some (.int .i64 c.den) := b0.cell 4
  have q5 : W0.cell? ⟨w.heap.size, 5, none⟩ = some (.int .i64 c.leafLow) := b0.cell 5
  have q6 : W0.cell? ⟨w.heap.size, 6, none⟩ = some (.int .i64 c.rootLow) := b0.cell 6
  have q7 : W0.cell? ⟨w.heap.size, 7, none⟩ = some (.int .i64 c.rootHigh) := b0.cell 7
  have q8 : W0.cell? ⟨w.heap.size, 8, none⟩ = some (.int .i64 c.leafHigh) := b0.cell 8
  have q9 : W0.cell? ⟨w.heap.size, 9, none⟩ = some (.slice B Rs.length k) := b0.cell 9
  have q10 : W0.cell? ⟨w.heap.size, 10, none⟩ = some (.int .u64 n) := b0.cell 10
  clear b0 br0 hb0
  go_enter Tryz.func6, Tryz.ntmps6
  go_upto_region 1 with fail
  rw [HW0.out]
  go_wp2_with fail
  refine (HGET.out _ (Below.refl _ _)).mono ?_
  rintro e w1 ⟨rfl, hb1⟩
  have HB1 := Lib.hid (bext HB0.out hb1)
  have HC1 := Lib.hid (HC0.out.below hb1 HC0.out.lt)
  have HR1 := Lib.hid (HR0.out.below hb1 HR0.out.lt)
  have HS1 := Lib.hid hb1
  clear hb1 HGET q0 q1 q2 q3 q4 q5 q6 q7 q8 q9 q10
  by_cases h6 : e1 = 6
  case pos =>
    subst h6
    have HP2 := Lib.hid (show (if (PL : Int) = c.most then (9 : Int) else 0) = G0 by rw [← HPE.out, if_pos rfl])
    have bc := HC1.out
    have q0 : w1.cell? ⟨w.heap.size, 0, none⟩ = some (.int .u8 c.tag) := bc.cell 0
    have q1 : w1.cell? ⟨w.heap.size, 1, none⟩ = some (.int .i64 c.most) := bc.cell 1
    have q2 : w1.cell? ⟨w.heap.size, 2, none⟩ = some (.int .i64 c.seg) := bc.cell 2
    have q3 : w1.cell? ⟨w.heap.size, 3, none⟩ = some (.int .i64 c.least) := bc.cell 3
    have q4 : w1.cell? ⟨w.heap.size, 4, none⟩ = some (.int .i64 c.den) := bc.cell 4
    have q5 : w1.cell? ⟨w.heap.size, 5, none⟩ = some (.int .i64 c.leafLow) := bc.cell 5
    have q6 : w1.cell? ⟨w.heap.size, 6, none⟩ = some (.int .i64 c.rootLow) := bc.cell 6
    have q7 : w1.cell? ⟨w.heap.size, 7, none⟩ = some (.int .i64 c.rootHigh) := bc.cell 7
    have q8 : w1.cell? ⟨w.heap.size, 8, none⟩ = some (.int .i64 c.leafHigh) := bc.cell 8
    have q9 : w1.cell? ⟨w.heap.size, 9, none⟩ = some (.slice B Rs.length k) := bc.cell 9
    have q10 : w1.cell? ⟨w.heap.size, 10, none⟩ = some (.int .u64 n) := bc.cell 10
    clear bc HPE
    go_wp2_with fail
    refine (HCT.out _ HS1.out).mono ?_
    rintro e w2 ⟨rfl, hb2⟩
    have HB2 := Lib.hid (bext HB1.out hb2)
    have HC2 := Lib.hid (HC1.out.below hb2 HC1.out.lt)
    have HR2 := Lib.hid (HR1.out.below hb2 HR1.out.lt)
    have r1 : w2.cell? ⟨w.heap.size, 1, none⟩ = some (.int .i64 c.most) := HC2.out.cell 1
    clear hb2 HCT HS1 q0 q1 q2 q3 q4 q5 q6 q7 q8 q9 q10
    by_cases hf : (PL : Int) = c.most
    case pos =>
      have hg : G0 = 9 := by rw [← HP2.out, if_pos hf]
      subst hg
      have HV := Lib.hid (HUP1.out (by decide))
      have hf1 : ((PL : Int) == c.most) = true := by simpa using hf
      clear hf
      have br := HR2.out
      have r0 : w2.cell? ⟨w.heap.size + 1, 0, none⟩ = some (.int .u8 0) := br.cell 0
      have r1 : w2.cell? ⟨w.heap.size + 1, 1, none⟩ = some (.int .i64 0) := br.cell 1
      have r2 : w2.cell? ⟨w.heap.size + 1, 2, none⟩ = some (.int .i64 0) := br.cell 2
      have r3 : w2.cell? ⟨w.heap.size + 1, 3, none⟩ = some (.int .i64 0) := br.cell 3
      have r4 : w2.cell? ⟨w.heap.size + 1, 4, none⟩ = some (.int .i64 0) := br.cell 4
      have r5 : w2.cell? ⟨w.heap.size + 1, 5, none⟩ = some (.int .i64 0) := br.cell 5
      have r6 : w2.cell? ⟨w.heap.size + 1, 6, none⟩ = some (.int .i64 0) := br.cell 6
      have r7 : w2.cell? ⟨w.heap.size + 1, 7, none⟩ = some (.int .i64 0) := br.cell 7
      have r8 : w2.cell? ⟨w.heap.size + 1, 8, none⟩ = some (.int .i64 0) := br.cell 8
      have r9 : w2.cell? ⟨w.heap.size + 1, 9, none⟩ = some (.slice none 0 0) := br.cell 9
      have r10 : w2.cell? ⟨w.heap.size + 1, 10, none⟩ = some (.int .u64 0) := br.cell 10
      have fr0 := br.frozen 0
      have fr1 := br.frozen 1
      have fr2 := br.frozen 2
      have fr3 := br.frozen 3
      have fr4 := br.frozen 4
      have fr5 := br.frozen 5
      have fr6 := br.frozen 6
      have fr7 := br.frozen 7
      have fr8 := br.frozen 8
      have fr9 := br.frozen 9
      have fr10 := br.frozen 10
      clear br
      go_wp2_with fail
      have bz := put11 HR2.out (.int .u8 0) (.int .i64 0) (.int .i64 0) (.int .i64 0) (.int .i64 0) (.int .i64 0) (.int .i64 0) (.int .i64 0) (.int .i64 0) (.slice none 0 0) (.int .u64 0)
      have z0 := bz.cell 0
      have z1 := bz.cell 1
      have z2 := bz.cell 2
      have z3 := bz.cell 3
      have z4 := bz.cell 4
      have z5 := bz.cell 5
      have z6 := bz.cell 6
      have z7 := bz.cell 7
      have z8 := bz.cell 8
      have z9 := bz.cell 9
      have z10 := bz.cell 10
      simp only [List.getElem?_toArray, List.getElem?_cons_zero, List.getElem?_cons_succ] at z0 z1 z2 z3 z4 z5 z6 z7 z8 z9 z10
      refine bodyPost_ret (v := .tuple #[.agg #[.int .u8 0, .int .i64 0, .int .i64 0, .int .i64 0, .int .i64 0, .int .i64 0, .int .i64 0, .int .i64 0, .int .i64 0, .slice none 0 0, .int .u64 0], .int .i64 9]) (by simp [results, Tryz.results6, go_sem, z0, z1, z2, z3, z4, z5, z6, z7, z8, z9, z10]) rfl ?_
      rw [HV.out.1, HV.out.2.1, HV.out.2.2.1, HV.out.2.2.2]
      exact ⟨none, 0, [], rfl, rfl, OwnRs.nil _ _, below11 HB2.out (Nat.le_succ _) _ _ _ _ _ _ _ _ _ _ _⟩
    case neg =>
    have hg : G0 = 0 := by rw [← HP2.out, if_neg hf]
    have HUQ := Lib.hid (HUP0.out hg)
    have hf1 : ((PL : Int) == c.most) = false := by simpa using hf
    clear hf hg
    have bc := HC2.out
    have br := HR2.out
    have q0 : w2.cell? ⟨w.heap.size, 0, none⟩ = some (.int .u8 c.tag) := bc.cell 0
    have q1 : w2.cell? ⟨w.heap.size, 1, none⟩ = some (.int .i64 c.most) := bc.cell 1
    have q2 : w2.cell? ⟨w.heap.size, 2, none⟩ = some (.int .i64 c.seg) := bc.cell 2
    have q3 : w2.cell? ⟨w.heap.size, 3, none⟩ = some (.int .i64 c.least) := bc.cell 3
    have q4 : w2.cell? ⟨w.heap.size, 4, none⟩ = some (.int .i64 c.den) := bc.cell 4
    have q5 : w2.cell? ⟨w.heap.size, 5, none⟩ = some (.int .i64 c.leafLow) := bc.cell 5
    have q6 : w2.cell? ⟨w.heap.size, 6, none⟩ = some (.int .i64 c.rootLow) := bc.cell 6
    have q7 : w2.cell? ⟨w.heap.size, 7, none⟩ = some (.int .i64 c.rootHigh) := bc.cell 7
    have q8 : w2.cell? ⟨w.heap.size, 8, none⟩ = some (.int .i64 c.leafHigh) := bc.cell 8
    have q9 : w2.cell? ⟨w.heap.size, 9, none⟩ = some (.slice B Rs.length k) := bc.cell 9
    have q10 : w2.cell? ⟨w.heap.size, 10, none⟩ = some (.int .u64 n) := bc.cell 10
    have lq := bc.lt
    clear bc br
    go_upto_region 10 with fail
    obtain ⟨U, hU⟩ : ∃ W, w2.alloc (.cells #[.int .u8 c.tag, .int .i64 c.most, .int .i64 c.seg, .int .i64 c.least, .int .i64 c.den, .int .i64 c.leafLow, .int .i64 c.rootLow, .int .i64 c.rootHigh, .int .i64 c.leafHigh, .slice B Rs.length k, .int .u64 n] 60) = W := ⟨_, rfl⟩
    have hau : Below w2.heap.size w2 U := by rw [← hU]; exact (Below.refl _ _).alloc (Nat.le_refl _) _
    have bu : Blk U w2.heap.size 60 (lrow c B Rs.length k n) := by rw [← hU]; exact Blk.new _ _ _
    try rw [hU]
    have HBU := Lib.hid (bext HB2.out hau)
    have HCU := Lib.hid ((HC2.out).below hau (HC2.out).lt)
    have HRU := Lib.hid ((HR2.out).below hau (HR2.out).lt)
    have HNG : Hid (w.heap.size + 1 < w2.heap.size) := (HR2.out).lt
    obtain ⟨gu, hgu⟩ : ∃ g, w2.heap.size = g := ⟨_, rfl⟩
    rw [hgu] at bu HNG
    try rw [hgu]
    have HUU := Lib.hid bu
    have bc := HCU.out
    clear hU hau bu hgu q0 q1 q2 q3 q4 q5 q6 q7 q8 q9 q10 lq
    have q0 : U.cell? ⟨w.heap.size, 0, none⟩ = some (.int .u8 c.tag) := bc.cell 0
    have q1 : U.cell? ⟨w.heap.size, 1, none⟩ = some (.int .i64 c.most) := bc.cell 1
    have q2 : U.cell? ⟨w.heap.size, 2, none⟩ = some (.int .i64 c.seg) := bc.cell 2
    have q3 : U.cell? ⟨w.heap.size, 3, none⟩ = some (.int .i64 c.least) := bc.cell 3
    have q4 : U.cell? ⟨w.heap.size, 4, none⟩ = some (.int .i64 c.den) := bc.cell 4
    have q5 : U.cell? ⟨w.heap.size, 5, none⟩ = some (.int .i64 c.leafLow) := bc.cell 5
    have q6 : U.cell? ⟨w.heap.size, 6, none⟩ = some (.int .i64 c.rootLow) := bc.cell 6
    have q7 : U.cell? ⟨w.heap.size, 7, none⟩ = some (.int .i64 c.rootHigh) := bc.cell 7
    have q8 : U.cell? ⟨w.heap.size, 8, none⟩ = some (.int .i64 c.leafHigh) := bc.cell 8
    have q9 : U.cell? ⟨w.heap.size, 9, none⟩ = some (.slice B Rs.length k) := bc.cell 9
    have q10 : U.cell? ⟨w.heap.size, 10, none⟩ = some (.int .u64 n) := bc.cell 10
    clear bc
    go_wp2_with fail
    refine (HAD.out U HBU.out).mono ?_
    rintro e w8 ⟨B2, k2, R2, rfl, hl2, ho2, hb8⟩
    clear q0 q1 q2 q3 q4 q5 q6 q7 q8 q9 q10
    have HL2 := Lib.hid hl2
    have HO2 := Lib.hid ho2
    have HB8 := Lib.hid (bext HBU.out hb8)
    have HR8 := Lib.hid (HRU.out.below hb8 HRU.out.lt)
    have HU8 := Lib.hid (HUU.out.below hb8 HUU.out.lt)
    have HGU := Lib.hid (show gu < U.heap.size from HUU.out.lt)
    have HSU := Lib.hid HBU.out.size
    clear hl2 ho2 hb8
    go_wp2_with fail
    refine (become_any B B2 Rs.length k R2.length k2 gu c n NA EA _ HU8.out).mono ?_
    obtain ⟨X, hX⟩ : ∃ X, (if EA = 0 then lrow c B2 R2.length k2 NA else lrow cz none 0 0 0) = X := ⟨_, rfl⟩
    rw [hX]
    have HX := Lib.hid hX
    clear hX
    rintro e w9 ⟨rfl, hm9⟩
    have HB9 := Lib.hid (HB8.out.trans (hm9.below (B := w.heap.size) HB8.out.size (fun q hq => by have h1 := HNG.out; omega)))
    have br9 := HR8.out.mod hm9 (fun h => by have h1 := HNG.out; omega)
    have HO9 := Lib.hid ((OwnRs.mk (own_mod HO2.out.row hm9 (fun q hq h => by have h1 := HGU.out; omega)) (fun r hr => own_mod (HO2.out.ent r hr) hm9 (fun q hq h => by have h1 := HGU.out; omega)) : OwnRs w9 U.heap.size B2 k2 R2).mono HSU.out)
    have HR9 := Lib.hid br9
    have r0 : w9.cell? ⟨w.heap.size + 1, 0, none⟩ = some (.int .u8 0) := br9.cell 0
    have r1 : w9.cell? ⟨w.heap.size + 1, 1, none⟩ = some (.int .i64 0) := br9.cell 1
    have r2 : w9.cell? ⟨w.heap.size + 1, 2, none⟩ = some (.int .i64 0) := br9.cell 2
    have r3 : w9.cell? ⟨w.heap.size + 1, 3, none⟩ = some (.int .i64 0) := br9.cell 3
    have r4 : w9.cell? ⟨w.heap.size + 1, 4, none⟩ = some (.int .i64 0) := br9.cell 4
    have r5 : w9.cell? ⟨w.heap.size + 1, 5, none⟩ = some (.int .i64 0) := br9.cell 5
    have r6 : w9.cell? ⟨w.heap.size + 1, 6, none⟩ = some (.int .i64 0) := br9.cell 6
    have r7 : w9.cell? ⟨w.heap.size + 1, 7, none⟩ = some (.int .i64 0) := br9.cell 7
    have r8 : w9.cell? ⟨w.heap.size + 1, 8, none⟩ = some (.int .i64 0) := br9.cell 8
    have r9 : w9.cell? ⟨w.heap.size + 1, 9, none⟩ = some (.slice none 0 0) := br9.cell 9
    have r10 : w9.cell? ⟨w.heap.size + 1, 10, none⟩ = some (.int .u64 0) := br9.cell 10
    have fr0 := br9.frozen 0
    have fr1 := br9.frozen 1
    have fr2 := br9.frozen 2
    have fr3 := br9.frozen 3
    have fr4 := br9.frozen 4
    have fr5 := br9.frozen 5
    have fr6 := br9.frozen 6
    have fr7 := br9.frozen 7
    have fr8 := br9.frozen 8
    have fr9 := br9.frozen 9
    have fr10 := br9.frozen 10
    clear hm9 br9
    by_cases hA0 : EA = 0
    case neg =>
      have hx : X = #[.int .u8 0, .int .i64 0, .int .i64 0, .int .i64 0, .int .i64 0, .int .i64 0, .int .i64 0, .int .i64 0, .int .i64 0, .slice none 0 0, .int .u64 0] := by rw [← HX.out, if_neg hA0]; rfl
      subst hx
      have HV := Lib.hid (HNO.out hA0)
      clear hA0
      go_wp2_with fail
      have bz := put11 HR9.out (.int .u8 0) (.int .i64 0) (.int .i64 0) (.int .i64 0) (.int .i64 0) (.int .i64 0) (.int .i64 0) (.int .i64 0) (.int .i64 0) (.slice none 0 0) (.int .u64 0)
      have z0 := bz.cell 0
      have z1 := bz.cell 1
      have z2 := bz.cell 2
      have z3 := bz.cell 3
      have z4 := bz.cell 4
      have z5 := bz.cell 5
      have z6 := bz.cell 6
      have z7 := bz.cell 7
      have z8 := bz.cell 8
      have z9 := bz.cell 9
      have z10 := bz.cell 10
      simp only [List.getElem?_toArray, List.getElem?_cons_zero, List.getElem?_cons_succ] at z0 z1 z2 z3 z4 z5 z6 z7 z8 z9 z10
      refine bodyPost_ret (v := .tuple #[.agg #[.int .u8 0, .int .i64 0, .int .i64 0, .int .i64 0, .int .i64 0, .int .i64 0, .int .i64 0, .int .i64 0, .int .i64 0, .slice none 0 0, .int .u64 0], .int .i64 EA]) (by simp [results, Tryz.results6, go_sem, z0, z1, z2, z3, z4, z5, z6, z7, z8, z9, z10]) rfl ?_
      rw [HUQ.out.1, HUQ.out.2.1, HUQ.out.2.2, HV.out.1, HV.out.2.1, HV.out.2.2]
      exact ⟨none, 0, [], rfl, rfl, OwnRs.nil _ _, below11 HB9.out (Nat.le_succ _) _ _ _ _ _ _ _ _ _ _ _⟩
    case pos =>
    subst hA0
    have hx : X = lrow c B2 R2.length k2 NA := by rw [← HX.out, if_pos rfl]
    subst hx
    go_wp2_with fail
    have bz := put11 HR9.out (.int .u8 c.tag) (.int .i64 c.most) (.int .i64 c.seg) (.int .i64 c.least) (.int .i64 c.den) (.int .i64 c.leafLow) (.int .i64 c.rootLow) (.int .i64 c.rootHigh) (.int .i64 c.leafHigh) (.slice B2 R2.length k2) (.int .u64 NA)
    have z0 := bz.cell 0
    have z1 := bz.cell 1
    have z2 := bz.cell 2
    have z3 := bz.cell 3
    have z4 := bz.cell 4
    have z5 := bz.cell 5
    have z6 := bz.cell 6
    have z7 := bz.cell 7
    have z8 := bz.cell 8
    have z9 := bz.cell 9
    have z10 := bz.cell 10
    simp only [List.getElem?_toArray, List.getElem?_cons_zero, List.getElem?_cons_succ] at z0 z1 z2 z3 z4 z5 z6 z7 z8 z9 z10
    refine bodyPost_ret (v := .tuple #[.agg #[.int .u8 c.tag, .int .i64 c.most, .int .i64 c.seg, .int .i64 c.least, .int .i64 c.den, .int .i64 c.leafLow, .int .i64 c.rootLow, .int .i64 c.rootHigh, .int .i64 c.leafHigh, .slice B2 R2.length k2, .int .u64 NA], .int .i64 0]) (by simp [results, Tryz.results6, go_sem, z0, z1, z2, z3, z4, z5, z6, z7, z8, z9, z10]) rfl ?_
    rw [HUQ.out.1, HUQ.out.2.1, HUQ.out.2.2]
    exact ⟨B2, k2, R2, rfl, HL2.out, HO9.out.set11 HR9.out (by decide) (by decide) _ _ _ _ _ _ _ _ _ _ _, below11 HB9.out (Nat.le_succ _) _ _ _ _ _ _ _ _ _ _ _⟩
  case neg =>
  have h61 : (e1 == 6) = false := by simpa using h6
  have hg : e1 = G0 := by rw [← HPE.out, if_neg h6]
  subst hg
  by_cases h0 : e1 = 0
  case neg =>
    have h1 : (e1 != 0) = true := by simpa using h0
    have HV := Lib.hid (HUP1.out h0)
    clear h0 h6
    have br := HR1.out
    have r0 : w1.cell? ⟨w.heap.size + 1, 0, none⟩ = some (.int .u8 0) := br.cell 0
    have r1 : w1.cell? ⟨w.heap.size + 1, 1, none⟩ = some (.int .i64 0) := br.cell 1
    have r2 : w1.cell? ⟨w.heap.size + 1, 2, none⟩ = some (.int .i64 0) := br.cell 2
    have r3 : w1.cell? ⟨w.heap.size + 1, 3, none⟩ = some (.int .i64 0) := br.cell 3
    have r4 : w1.cell? ⟨w.heap.size + 1, 4, none⟩ = some (.int .i64 0) := br.cell 4
    have r5 : w1.cell? ⟨w.heap.size + 1, 5, none⟩ = some (.int .i64 0) := br.cell 5
    have r6 : w1.cell? ⟨w.heap.size + 1, 6, none⟩ = some (.int .i64 0) := br.cell 6
    have r7 : w1.cell? ⟨w.heap.size + 1, 7, none⟩ = some (.int .i64 0) := br.cell 7
    have r8 : w1.cell? ⟨w.heap.size + 1, 8, none⟩ = some (.int .i64 0) := br.cell 8
    have r9 : w1.cell? ⟨w.heap.size + 1, 9, none⟩ = some (.slice none 0 0) := br.cell 9
    have r10 : w1.cell? ⟨w.heap.size + 1, 10, none⟩ = some (.int .u64 0) := br.cell 10
    have fr0 := br.frozen 0
    have fr1 := br.frozen 1
    have fr2 := br.frozen 2
    have fr3 := br.frozen 3
    have fr4 := br.frozen 4
    have fr5 := br.frozen 5
    have fr6 := br.frozen 6
    have fr7 := br.frozen 7
    have fr8 := br.frozen 8
    have fr9 := br.frozen 9
    have fr10 := br.frozen 10
    clear br
    go_wp2_with fail
    have bz := put11 HR1.out (.int .u8 0) (.int .i64 0) (.int .i64 0) (.int .i64 0) (.int .i64 0) (.int .i64 0) (.int .i64 0) (.int .i64 0) (.int .i64 0) (.slice none 0 0) (.int .u64 0)
    have z0 := bz.cell 0
    have z1 := bz.cell 1
    have z2 := bz.cell 2
    have z3 := bz.cell 3
    have z4 := bz.cell 4
    have z5 := bz.cell 5
    have z6 := bz.cell 6
    have z7 := bz.cell 7
    have z8 := bz.cell 8
    have z9 := bz.cell 9
    have z10 := bz.cell 10
    simp only [List.getElem?_toArray, List.getElem?_cons_zero, List.getElem?_cons_succ] at z0 z1 z2 z3 z4 z5 z6 z7 z8 z9 z10
    refine bodyPost_ret (v := .tuple #[.agg #[.int .u8 0, .int .i64 0, .int .i64 0, .int .i64 0, .int .i64 0, .int .i64 0, .int .i64 0, .int .i64 0, .int .i64 0, .slice none 0 0, .int .u64 0], .int .i64 e1]) (by simp [results, Tryz.results6, go_sem, z0, z1, z2, z3, z4, z5, z6, z7, z8, z9, z10]) rfl ?_
    rw [HV.out.1, HV.out.2.1, HV.out.2.2.1, HV.out.2.2.2]
    exact ⟨none, 0, [], rfl, rfl, OwnRs.nil _ _, below11 HB1.out (Nat.le_succ _) _ _ _ _ _ _ _ _ _ _ _⟩
  case pos =>
  have HUQ := Lib.hid (HUP0.out h0)
  clear HUP1 HPE h6 h61
  subst h0
  have bc := HC1.out
  have br := HR1.out
  have q0 : w1.cell? ⟨w.heap.size, 0, none⟩ = some (.int .u8 c.tag) := bc.cell 0
  have q1 : w1.cell? ⟨w.heap.size, 1, none⟩ = some (.int .i64 c.most) := bc.cell 1
  have q2 : w1.cell? ⟨w.heap.size, 2, none⟩ = some (.int .i64 c.seg) := bc.cell 2
  have q3 : w1.cell? ⟨w.heap.size, 3, none⟩ = some (.int .i64 c.least) := bc.cell 3
  have q4 : w1.cell? ⟨w.heap.size, 4, none⟩ = some (.int .i64 c.den) := bc.cell 4
  have q5 : w1.cell? ⟨w.heap.size, 5, none⟩ = some (.int .i64 c.leafLow) := bc.cell 5
  have q6 : w1.cell? ⟨w.heap.size, 6, none⟩ = some (.int .i64 c.rootLow) := bc.cell 6
  have q7 : w1.cell? ⟨w.heap.size, 7, none⟩ = some (.int .i64 c.rootHigh) := bc.cell 7
  have q8 : w1.cell? ⟨w.heap.size, 8, none⟩ = some (.int .i64 c.leafHigh) := bc.cell 8
  have q9 : w1.cell? ⟨w.heap.size, 9, none⟩ = some (.slice B Rs.length k) := bc.cell 9
  have q10 : w1.cell? ⟨w.heap.size, 10, none⟩ = some (.int .u64 n) := bc.cell 10
  have lq := bc.lt
  clear bc br
  go_upto_region 10 with fail
  obtain ⟨U, hU⟩ : ∃ W, w1.alloc (.cells #[.int .u8 c.tag, .int .i64 c.most, .int .i64 c.seg, .int .i64 c.least, .int .i64 c.den, .int .i64 c.leafLow, .int .i64 c.rootLow, .int .i64 c.rootHigh, .int .i64 c.leafHigh, .slice B Rs.length k, .int .u64 n] 60) = W := ⟨_, rfl⟩
  have hau : Below w1.heap.size w1 U := by rw [← hU]; exact (Below.refl _ _).alloc (Nat.le_refl _) _
  have bu : Blk U w1.heap.size 60 (lrow c B Rs.length k n) := by rw [← hU]; exact Blk.new _ _ _
  try rw [hU]
  have HBU := Lib.hid (bext HB1.out hau)
  have HCU := Lib.hid ((HC1.out).below hau (HC1.out).lt)
  have HRU := Lib.hid ((HR1.out).below hau (HR1.out).lt)
  have HNG : Hid (w.heap.size + 1 < w1.heap.size) := (HR1.out).lt
  obtain ⟨gu, hgu⟩ : ∃ g, w1.heap.size = g := ⟨_, rfl⟩
  rw [hgu] at bu HNG
  try rw [hgu]
  have HUU := Lib.hid bu
  have bc := HCU.out
  clear hU hau bu hgu q0 q1 q2 q3 q4 q5 q6 q7 q8 q9 q10 lq
  have q0 : U.cell? ⟨w.heap.size, 0, none⟩ = some (.int .u8 c.tag) := bc.cell 0
  have q1 : U.cell? ⟨w.heap.size, 1, none⟩ = some (.int .i64 c.most) := bc.cell 1
  have q2 : U.cell? ⟨w.heap.size, 2, none⟩ = some (.int .i64 c.seg) := bc.cell 2
  have q3 : U.cell? ⟨w.heap.size, 3, none⟩ = some (.int .i64 c.least) := bc.cell 3
  have q4 : U.cell? ⟨w.heap.size, 4, none⟩ = some (.int .i64 c.den) := bc.cell 4
  have q5 : U.cell? ⟨w.heap.size, 5, none⟩ = some (.int .i64 c.leafLow) := bc.cell 5
  have q6 : U.cell? ⟨w.heap.size, 6, none⟩ = some (.int .i64 c.rootLow) := bc.cell 6
  have q7 : U.cell? ⟨w.heap.size, 7, none⟩ = some (.int .i64 c.rootHigh) := bc.cell 7
  have q8 : U.cell? ⟨w.heap.size, 8, none⟩ = some (.int .i64 c.leafHigh) := bc.cell 8
  have q9 : U.cell? ⟨w.heap.size, 9, none⟩ = some (.slice B Rs.length k) := bc.cell 9
  have q10 : U.cell? ⟨w.heap.size, 10, none⟩ = some (.int .u64 n) := bc.cell 10
  clear bc
  go_wp2_with fail
  refine (HAD.out U HBU.out).mono ?_
  rintro e w8 ⟨B2, k2, R2, rfl, hl2, ho2, hb8⟩
  clear q0 q1 q2 q3 q4 q5 q6 q7 q8 q9 q10
  have HL2 := Lib.hid hl2
  have HO2 := Lib.hid ho2
  have HB8 := Lib.hid (bext HBU.out hb8)
  have HR8 := Lib.hid (HRU.out.below hb8 HRU.out.lt)
  have HU8 := Lib.hid (HUU.out.below hb8 HUU.out.lt)
  have HGU := Lib.hid (show gu < U.heap.size from HUU.out.lt)
  have HSU := Lib.hid HBU.out.size
  clear hl2 ho2 hb8
  go_wp2_with fail
  refine (become_any B B2 Rs.length k R2.length k2 gu c n NA EA _ HU8.out).mono ?_
  obtain ⟨X, hX⟩ : ∃ X, (if EA = 0 then lrow c B2 R2.length k2 NA else lrow cz none 0 0 0) = X := ⟨_, rfl⟩
  rw [hX]
  have HX := Lib.hid hX
  clear hX
  rintro e w9 ⟨rfl, hm9⟩
  have HB9 := Lib.hid (HB8.out.trans (hm9.below (B := w.heap.size) HB8.out.size (fun q hq => by have h1 := HNG.out; omega)))
  have br9 := HR8.out.mod hm9 (fun h => by have h1 := HNG.out; omega)
  have HO9 := Lib.hid ((OwnRs.mk (own_mod HO2.out.row hm9 (fun q hq h => by have h1 := HGU.out; omega)) (fun r hr => own_mod (HO2.out.ent r hr) hm9 (fun q hq h => by have h1 := HGU.out; omega)) : OwnRs w9 U.heap.size B2 k2 R2).mono HSU.out)
  have HR9 := Lib.hid br9
  have r0 : w9.cell? ⟨w.heap.size + 1, 0, none⟩ = some (.int .u8 0) := br9.cell 0
  have r1 : w9.cell? ⟨w.heap.size + 1, 1, none⟩ = some (.int .i64 0) := br9.cell 1
  have r2 : w9.cell? ⟨w.heap.size + 1, 2, none⟩ = some (.int .i64 0) := br9.cell 2
  have r3 : w9.cell? ⟨w.heap.size + 1, 3, none⟩ = some (.int .i64 0) := br9.cell 3
  have r4 : w9.cell? ⟨w.heap.size + 1, 4, none⟩ = some (.int .i64 0) := br9.cell 4
  have r5 : w9.cell? ⟨w.heap.size + 1, 5, none⟩ = some (.int .i64 0) := br9.cell 5
  have r6 : w9.cell? ⟨w.heap.size + 1, 6, none⟩ = some (.int .i64 0) := br9.cell 6
  have r7 : w9.cell? ⟨w.heap.size + 1, 7, none⟩ = some (.int .i64 0) := br9.cell 7
  have r8 : w9.cell? ⟨w.heap.size + 1, 8, none⟩ = some (.int .i64 0) := br9.cell 8
  have r9 : w9.cell? ⟨w.heap.size + 1, 9, none⟩ = some (.slice none 0 0) := br9.cell 9
  have r10 : w9.cell? ⟨w.heap.size + 1, 10, none⟩ = some (.int .u64 0) := br9.cell 10
  have fr0 := br9.frozen 0
  have fr1 := br9.frozen 1
  have fr2 := br9.frozen 2
  have fr3 := br9.frozen 3
  have fr4 := br9.frozen 4
  have fr5 := br9.frozen 5
  have fr6 := br9.frozen 6
  have fr7 := br9.frozen 7
  have fr8 := br9.frozen 8
  have fr9 := br9.frozen 9
  have fr10 := br9.frozen 10
  clear hm9 br9
  by_cases hA0 : EA = 0
  case neg =>
    have hx : X = #[.int .u8 0, .int .i64 0, .int .i64 0, .int .i64 0, .int .i64 0, .int .i64 0, .int .i64 0, .int .i64 0, .int .i64 0, .slice none 0 0, .int .u64 0] := by rw [← HX.out, if_neg hA0]; rfl
    subst hx
    have HV := Lib.hid (HNO.out hA0)
    clear hA0
    go_wp2_with fail
    have bz := put11 HR9.out (.int .u8 0) (.int .i64 0) (.int .i64 0) (.int .i64 0) (.int .i64 0) (.int .i64 0) (.int .i64 0) (.int .i64 0) (.int .i64 0) (.slice none 0 0) (.int .u64 0)
    have z0 := bz.cell 0
    have z1 := bz.cell 1
    have z2 := bz.cell 2
    have z3 := bz.cell 3
    have z4 := bz.cell 4
    have z5 := bz.cell 5
    have z6 := bz.cell 6
    have z7 := bz.cell 7
    have z8 := bz.cell 8
    have z9 := bz.cell 9
    have z10 := bz.cell 10
    simp only [List.getElem?_toArray, List.getElem?_cons_zero, List.getElem?_cons_succ] at z0 z1 z2 z3 z4 z5 z6 z7 z8 z9 z10
    refine bodyPost_ret (v := .tuple #[.agg #[.int .u8 0, .int .i64 0, .int .i64 0, .int .i64 0, .int .i64 0, .int .i64 0, .int .i64 0, .int .i64 0, .int .i64 0, .slice none 0 0, .int .u64 0], .int .i64 EA]) (by simp [results, Tryz.results6, go_sem, z0, z1, z2, z3, z4, z5, z6, z7, z8, z9, z10]) rfl ?_
    rw [HUQ.out.1, HUQ.out.2.1, HUQ.out.2.2, HV.out.1, HV.out.2.1, HV.out.2.2]
    exact ⟨none, 0, [], rfl, rfl, OwnRs.nil _ _, below11 HB9.out (Nat.le_succ _) _ _ _ _ _ _ _ _ _ _ _⟩
  case pos =>
  subst hA0
  have hx : X = lrow c B2 R2.length k2 NA := by rw [← HX.out, if_pos rfl]
  subst hx
  go_wp2_with fail
  have bz := put11 HR9.out (.int .u8 c.tag) (.int .i64 c.most) (.int .i64 c.seg) (.int .i64 c.least) (.int .i64 c.den) (.int .i64 c.leafLow) (.int .i64 c.rootLow) (.int .i64 c.rootHigh) (.int .i64 c.leafHigh) (.slice B2 R2.length k2) (.int .u64 NA)
  have z0 := bz.cell 0
  have z1 := bz.cell 1
  have z2 := bz.cell 2
  have z3 := bz.cell 3
  have z4 := bz.cell 4
  have z5 := bz.cell 5
  have z6 := bz.cell 6
  have z7 := bz.cell 7
  have z8 := bz.cell 8
  have z9 := bz.cell 9
  have z10 := bz.cell 10
  simp only [List.getElem?_toArray, List.getElem?_cons_zero, List.getElem?_cons_succ] at z0 z1 z2 z3 z4 z5 z6 z7 z8 z9 z10
  refine bodyPost_ret (v := .tuple #[.agg #[.int .u8 c.tag, .int .i64 c.most, .int .i64 c.seg, .int .i64 c.least, .int .i64 c.den, .int .i64 c.leafLow, .int .i64 c.rootLow, .int .i64 c.rootHigh, .int .i64 c.leafHigh, .slice B2 R2.length k2, .int .u64 NA], .int .i64 0]) (by simp [results, Tryz.results6, go_sem, z0, z1, z2, z3, z4, z5, z6, z7, z8, z9, z10]) rfl ?_
  rw [HUQ.out.1, HUQ.out.2.1, HUQ.out.2.2]
  exact ⟨B2, k2, R2, rfl, HL2.out, HO9.out.set11 HR9.out (by decide) (by decide) _ _ _ _ _ _ _ _ _ _ _, below11 HB9.out (Nat.le_succ _) _ _ _ _ _ _ _ _ _ _ _⟩
end Go.Proofs.YtolclahkfmplfaaGreatDoor
