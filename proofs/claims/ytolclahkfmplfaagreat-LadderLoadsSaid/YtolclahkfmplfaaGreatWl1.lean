/- Db Fj Pm Mr: texts of the claim, in this order. -/
import Derived.Test.YtolclahkfmplfaaGreatWz14
import Derived.Test.YtolclahkfmplfaaGreatWz15
import Derived.Test.YtolclahkfmplfaaGreatWz13
import Derived.Test.YtolclahkfmplfaaGreatWz12
import Derived.Deep.RegionWith
import Derived.Test.YtolclahkfmplfaaGreatWz1
import Derived.Test.YtolclahkfmplfaaGreatProg
import Derived.Test.YtolclahkfmplfaaGreatWz2
import Derived.BigQuiet
/- Contracts: ladder.become, Put, Delete. -/
namespace Go.Proofs.YtolclahkfmplfaaGreat
open Go Go.RowKit
set_option maxRecDepth 100000
set_option maxHeartbeats 8000000 in
theorem become_any (B B2 : Option Addr) (m k m2 k2 g : Nat) (c : Cfg) (n n2 e : Int) (w : World) (hU : Blk w g 76 (lrow c B m k n)) :
    Calls Tryz.prog 33 #[.pointer (some ⟨g, 0, none⟩), .agg #[.slice B2 m2 k2, .int .u64 n2], .int .i64 e] w fun r w' =>
      r = .returned (.tuple #[.agg (if e = 0 then lrow c B2 m2 k2 n2 else lrow cz none 0 0 0), .int .i64 e]) ∧ Mod (fun b => b = g) w w' := by
  obtain ⟨W0, hW0⟩ : ∃ W0, (w.alloc (.cells #[.slice B2 m2 k2, .int .u64 n2] 27)).alloc (.cells #[.int .u8 0, .int .i64 0, .int .i64 0, .int .i64 0, .int .i64 0, .int .i64 0, .int .i64 0, .int .i64 0, .int .i64 0, .slice none 0 0, .int .u64 0] 29) = W0 := ⟨_, rfl⟩
  have hb0 : Below w.heap.size w W0 := by rw [← hW0]; exact ((Below.refl _ _).alloc (Nat.le_refl _) _).alloc (by simp) _
  have bx : Blk W0 w.heap.size 27 #[.slice B2 m2 k2, .int .u64 n2] := by rw [← hW0]; exact (Blk.new _ _ _).alloc _
  have br0 : Blk W0 (w.heap.size + 1) 29 #[.int .u8 0, .int .i64 0, .int .i64 0, .int .i64 0, .int .i64 0, .int .i64 0, .int .i64 0, .int .i64 0, .int .i64 0, .slice none 0 0, .int .u64 0] := by
    rw [← hW0]
    have := Blk.new (w.alloc (.cells #[.slice B2 m2 k2, .int .u64 n2] 27)) 29 #[.int .u8 0, .int .i64 0, .int .i64 0, .int .i64 0, .int .i64 0, .int .i64 0, .int .i64 0, .int .i64 0, .int .i64 0, .slice none 0 0, .int .u64 0]
    rwa [World.size_alloc] at this
  have bu := hU.below hb0 hU.lt
  have hgl := hU.lt
  have HM0 : Hid (Mod (fun b => b = g) w W0) := Mod.of_ext hb0
  have HW0 := Lib.hid hW0
  have HR := Lib.hid br0
  have HU0 := Lib.hid bu
  obtain ⟨X, hX⟩ : ∃ X, (if e = 0 then lrow c B2 m2 k2 n2 else lrow cz none 0 0 0) = X := ⟨_, rfl⟩
  rw [hX]
  have HX := Lib.hid hX
  have x0 : W0.cell? ⟨w.heap.size, 0, none⟩ = some (.slice B2 m2 k2) := bx.cell 0
  have x1 : W0.cell? ⟨w.heap.size, 1, none⟩ = some (.int .u64 n2) := bx.cell 1
  have q0 : W0.cell? ⟨g, 0, none⟩ = some (.int .u8 c.tag) := bu.cell 0
  have q1 : W0.cell? ⟨g, 1, none⟩ = some (.int .i64 c.most) := bu.cell 1
  have q2 : W0.cell? ⟨g, 2, none⟩ = some (.int .i64 c.seg) := bu.cell 2
  have q3 : W0.cell? ⟨g, 3, none⟩ = some (.int .i64 c.least) := bu.cell 3
  have q4 : W0.cell? ⟨g, 4, none⟩ = some (.int .i64 c.den) := bu.cell 4
  have q5 : W0.cell? ⟨g, 5, none⟩ = some (.int .i64 c.leafLow) := bu.cell 5
  have q6 : W0.cell? ⟨g, 6, none⟩ = some (.int .i64 c.rootLow) := bu.cell 6
  have q7 : W0.cell? ⟨g, 7, none⟩ = some (.int .i64 c.rootHigh) := bu.cell 7
  have q8 : W0.cell? ⟨g, 8, none⟩ = some (.int .i64 c.leafHigh) := bu.cell 8
  have q9 : W0.cell? ⟨g, 9, none⟩ = some (.slice B m k) := bu.cell 9
  have q10 : W0.cell? ⟨g, 10, none⟩ = some (.int .u64 n) := bu.cell 10
  have fu0 := bu.frozen 0
  have fu1 := bu.frozen 1
  have fu2 := bu.frozen 2
  have fu3 := bu.frozen 3
  have fu4 := bu.frozen 4
  have fu5 := bu.frozen 5
  have fu6 := bu.frozen 6
  have fu7 := bu.frozen 7
  have fu8 := bu.frozen 8
  have fu9 := bu.frozen 9
  have fu10 := bu.frozen 10
  have r0 : W0.cell? ⟨w.heap.size + 1, 0, none⟩ = some (.int .u8 0) := br0.cell 0
  have r1 : W0.cell? ⟨w.heap.size + 1, 1, none⟩ = some (.int .i64 0) := br0.cell 1
  have r2 : W0.cell? ⟨w.heap.size + 1, 2, none⟩ = some (.int .i64 0) := br0.cell 2
  have r3 : W0.cell? ⟨w.heap.size + 1, 3, none⟩ = some (.int .i64 0) := br0.cell 3
  have r4 : W0.cell? ⟨w.heap.size + 1, 4, none⟩ = some (.int .i64 0) := br0.cell 4
  have r5 : W0.cell? ⟨w.heap.size + 1, 5, none⟩ = some (.int .i64 0) := br0.cell 5
  have r6 : W0.cell? ⟨w.heap.size + 1, 6, none⟩ = some (.int .i64 0) := br0.cell 6
  have r7 : W0.cell? ⟨w.heap.size + 1, 7, none⟩ = some (.int .i64 0) := br0.cell 7
  have r8 : W0.cell? ⟨w.heap.size + 1, 8, none⟩ = some (.int .i64 0) := br0.cell 8
  have r9 : W0.cell? ⟨w.heap.size + 1, 9, none⟩ = some (.slice none 0 0) := br0.cell 9
  have r10 : W0.cell? ⟨w.heap.size + 1, 10, none⟩ = some (.int .u64 0) := br0.cell 10
  have fr0 := br0.frozen 0
  have fr1 := br0.frozen 1
  have fr2 := br0.frozen 2
  have fr3 := br0.frozen 3
  have fr4 := br0.frozen 4
  have fr5 := br0.frozen 5
  have fr6 := br0.frozen 6
  have fr7 := br0.frozen 7
  have fr8 := br0.frozen 8
  have fr9 := br0.frozen 9
  have fr10 := br0.frozen 10
  have ne1 : g ≠ w.heap.size := by omega
  have ne2 : g ≠ w.heap.size + 1 := by omega
  have lu := bu.lt
  clear hW0 hU hb0 hX bu br0 bx hgl
  go_enter Tryz.func33, Tryz.ntmps33
  by_cases h0 : e = 0
  case neg =>
    have h1 : (e != 0) = true := by simpa using h0
    have HV : Hid (X = lrow cz none 0 0 0) := by show _ = _; rw [← HX.out, if_neg h0]
    clear h0 q0 q1 q2 q3 q4 q5 q6 q7 q8 q9 q10 fu0 fu1 fu2 fu3 fu4 fu5 fu6 fu7 fu8 fu9 fu10
    go_upto_region 1 with fail
    rw [HW0.out]
    go_wp2_with fail
    have bz := put11 HR.out (.int .u8 0) (.int .i64 0) (.int .i64 0) (.int .i64 0) (.int .i64 0) (.int .i64 0) (.int .i64 0) (.int .i64 0) (.int .i64 0) (.slice none 0 0) (.int .u64 0)
    have z0 := bz.cell 0
    have z1 := bz.cell 1
    have z2 := bz.cell 2
    have z3 := bz.cell 3
    have z4 := bz.cell 4
    have z5 := bz.cell 5
    have z6 := bz.cell 6
    have z7 := bz.cell 7
    have z8 := bz.cell 8
    have z9 := bz.cell 9
    have z10 := bz.cell 10
    simp only [List.getElem?_toArray, List.getElem?_cons_zero, List.getElem?_cons_succ] at z0 z1 z2 z3 z4 z5 z6 z7 z8 z9 z10
    refine bodyPost_ret (v := .tuple #[.agg #[.int .u8 0, .int .i64 0, .int .i64 0, .int .i64 0, .int .i64 0, .int .i64 0, .int .i64 0, .int .i64 0, .int .i64 0, .slice none 0 0, .int .u64 0], .int .i64 e]) (by simp [results, Tryz.results33, go_sem, z0, z1, z2, z3, z4, z5, z6, z7, z8, z9, z10]) rfl ?_
    rw [HV.out]
    exact ⟨rfl, (((((((((((HM0.out.setNew (p := ⟨w.heap.size + 1, 0, none⟩) (Nat.le_succ _) _).setNew (p := ⟨w.heap.size + 1, 1, none⟩) (Nat.le_succ _) _).setNew (p := ⟨w.heap.size + 1, 2, none⟩) (Nat.le_succ _) _).setNew (p := ⟨w.heap.size + 1, 3, none⟩) (Nat.le_succ _) _).setNew (p := ⟨w.heap.size + 1, 4, none⟩) (Nat.le_succ _) _).setNew (p := ⟨w.heap.size + 1, 5, none⟩) (Nat.le_succ _) _).setNew (p := ⟨w.heap.size + 1, 6, none⟩) (Nat.le_succ _) _).setNew (p := ⟨w.heap.size + 1, 7, none⟩) (Nat.le_succ _) _).setNew (p := ⟨w.heap.size + 1, 8, none⟩) (Nat.le_succ _) _).setNew (p := ⟨w.heap.size + 1, 9, none⟩) (Nat.le_succ _) _).setNew (p := ⟨w.heap.size + 1, 10, none⟩) (Nat.le_succ _) _)⟩

  case pos =>
    subst h0
    have HV : Hid (X = lrow c B2 m2 k2 n2) := by show _ = _; rw [← HX.out, if_pos rfl]
    go_upto_region 1 with fail
    rw [HW0.out]
    go_upto_region 4 with fail
    obtain ⟨W1, hW1⟩ : ∃ W, (W0.setCell ⟨g, 9, none⟩ (.slice B2 m2 k2)).setCell ⟨g, 10, none⟩ (.int .u64 n2) = W := ⟨_, rfl⟩
    rw [hW1]
    have bu1 : Blk W1 g 76 (lrow c B2 m2 k2 n2) := by rw [← hW1]; simpa using (HU0.out.set_ 9 (.slice B2 m2 k2)).set_ 10 (.int .u64 n2)
    have br1 : Blk W1 (w.heap.size + 1) 29 #[.int .u8 0, .int .i64 0, .int .i64 0, .int .i64 0, .int .i64 0, .int .i64 0, .int .i64 0, .int .i64 0, .int .i64 0, .slice none 0 0, .int .u64 0] := by rw [← hW1]; exact (HR.out.far (p := ⟨g, 9, none⟩) ne2.symm _).far (p := ⟨g, 10, none⟩) ne2.symm _
    have HM1 : Hid (Mod (fun b => b = g) w W1) := by show Mod _ _ _; rw [← hW1]; exact (HM0.out.setCell (p := ⟨g, 9, none⟩) rfl _).setCell (p := ⟨g, 10, none⟩) rfl _
    have HR1 := Lib.hid br1
    clear hW1 q0 q1 q2 q3 q4 q5 q6 q7 q8 q9 q10 fu0 fu1 fu2 fu3 fu4 fu5 fu6 fu7 fu8 fu9 fu10 r0 r1 r2 r3 r4 r5 r6 r7 r8 r9 r10 fr0 fr1 fr2 fr3 fr4 fr5 fr6 fr7 fr8 fr9 fr10 x0 x1
    have q0 : W1.cell? ⟨g, 0, none⟩ = some (.int .u8 c.tag) := bu1.cell 0
    have q1 : W1.cell? ⟨g, 1, none⟩ = some (.int .i64 c.most) := bu1.cell 1
    have q2 : W1.cell? ⟨g, 2, none⟩ = some (.int .i64 c.seg) := bu1.cell 2
    have q3 : W1.cell? ⟨g, 3, none⟩ = some (.int .i64 c.least) := bu1.cell 3
    have q4 : W1.cell? ⟨g, 4, none⟩ = some (.int .i64 c.den) := bu1.cell 4
    have q5 : W1.cell? ⟨g, 5, none⟩ = some (.int .i64 c.leafLow) := bu1.cell 5
    have q6 : W1.cell? ⟨g, 6, none⟩ = some (.int .i64 c.rootLow) := bu1.cell 6
    have q7 : W1.cell? ⟨g, 7, none⟩ = some (.int .i64 c.rootHigh) := bu1.cell 7
    have q8 : W1.cell? ⟨g, 8, none⟩ = some (.int .i64 c.leafHigh) := bu1.cell 8
    have q9 : W1.cell? ⟨g, 9, none⟩ = some (.slice B2 m2 k2) := bu1.cell 9
    have q10 : W1.cell? ⟨g, 10, none⟩ = some (.int .u64 n2) := bu1.cell 10
    have r0 : W1.cell? ⟨w.heap.size + 1, 0, none⟩ = some (.int .u8 0) := br1.cell 0
    have r1 : W1.cell? ⟨w.heap.size + 1, 1, none⟩ = some (.int .i64 0) := br1.cell 1
    have r2 : W1.cell? ⟨w.heap.size + 1, 2, none⟩ = some (.int .i64 0) := br1.cell 2
    have r3 : W1.cell? ⟨w.heap.size + 1, 3, none⟩ = some (.int .i64 0) := br1.cell 3
    have r4 : W1.cell? ⟨w.heap.size + 1, 4, none⟩ = some (.int .i64 0) := br1.cell 4
    have r5 : W1.cell? ⟨w.heap.size + 1, 5, none⟩ = some (.int .i64 0) := br1.cell 5
    have r6 : W1.cell? ⟨w.heap.size + 1, 6, none⟩ = some (.int .i64 0) := br1.cell 6
    have r7 : W1.cell? ⟨w.heap.size + 1, 7, none⟩ = some (.int .i64 0) := br1.cell 7
    have r8 : W1.cell? ⟨w.heap.size + 1, 8, none⟩ = some (.int .i64 0) := br1.cell 8
    have r9 : W1.cell? ⟨w.heap.size + 1, 9, none⟩ = some (.slice none 0 0) := br1.cell 9
    have r10 : W1.cell? ⟨w.heap.size + 1, 10, none⟩ = some (.int .u64 0) := br1.cell 10
    have fr0 := br1.frozen 0
    have fr1 := br1.frozen 1
    have fr2 := br1.frozen 2
    have fr3 := br1.frozen 3
    have fr4 := br1.frozen 4
    have fr5 := br1.frozen 5
    have fr6 := br1.frozen 6
    have fr7 := br1.frozen 7
    have fr8 := br1.frozen 8
    have fr9 := br1.frozen 9
    have fr10 := br1.frozen 10
    clear bu1 br1
    go_wp2_with fail
    have bz := put11 HR1.out (.int .u8 c.tag) (.int .i64 c.most) (.int .i64 c.seg) (.int .i64 c.least) (.int .i64 c.den) (.int .i64 c.leafLow) (.int .i64 c.rootLow) (.int .i64 c.rootHigh) (.int .i64 c.leafHigh) (.slice B2 m2 k2) (.int .u64 n2)
    have z0 := bz.cell 0
    have z1 := bz.cell 1
    have z2 := bz.cell 2
    have z3 := bz.cell 3
    have z4 := bz.cell 4
    have z5 := bz.cell 5
    have z6 := bz.cell 6
    have z7 := bz.cell 7
    have z8 := bz.cell 8
    have z9 := bz.cell 9
    have z10 := bz.cell 10
    simp only [List.getElem?_toArray, List.getElem?_cons_zero, List.getElem?_cons_succ] at z0 z1 z2 z3 z4 z5 z6 z7 z8 z9 z10
    refine bodyPost_ret (v := .tuple #[.agg #[.int .u8 c.tag, .int .i64 c.most, .int .i64 c.seg, .int .i64 c.least, .int .i64 c.den, .int .i64 c.leafLow, .int .i64 c.rootLow, .int .i64 c.rootHigh, .int .i64 c.leafHigh, .slice B2 m2 k2, .int .u64 n2], .int .i64 0]) (by simp [results, Tryz.results33, go_sem, z0, z1, z2, z3, z4, z5, z6, z7, z8, z9, z10]) rfl ?_
    rw [HV.out]
    exact ⟨rfl, (((((((((((HM1.out.setNew (p := ⟨w.heap.size + 1, 0, none⟩) (Nat.le_succ _) _).setNew (p := ⟨w.heap.size + 1, 1, none⟩) (Nat.le_succ _) _).setNew (p := ⟨w.heap.size + 1, 2, none⟩) (Nat.le_succ _) _).setNew (p := ⟨w.heap.size + 1, 3, none⟩) (Nat.le_succ _) _).setNew (p := ⟨w.heap.size + 1, 4, none⟩) (Nat.le_succ _) _).setNew (p := ⟨w.heap.size + 1, 5, none⟩) (Nat.le_succ _) _).setNew (p := ⟨w.heap.size + 1, 6, none⟩) (Nat.le_succ _) _).setNew (p := ⟨w.heap.size + 1, 7, none⟩) (Nat.le_succ _) _).setNew (p := ⟨w.heap.size + 1, 8, none⟩) (Nat.le_succ _) _).setNew (p := ⟨w.heap.size + 1, 9, none⟩) (Nat.le_succ _) _).setNew (p := ⟨w.heap.size + 1, 10, none⟩) (Nat.le_succ _) _)⟩
end Go.Proofs.YtolclahkfmplfaaGreat

/- Contracts: ladder.anew, shelfmarkref27.Anew. -/
namespace Go.Proofs.YtolclahkfmplfaaGreat
open Go Go.RowKit
set_option maxRecDepth 100000
def anE (c : Cfg) (L : Lv) (l : List Pr) : Int := if c.most < (l.length : Int) then 9 else ofEr L l
def anL (c : Cfg) (L : Lv) (l : List Pr) : Lv := if c.most < (l.length : Int) then [] else ofLr L l
def anN (c : Cfg) (L : Lv) (n : Int) (l : List Pr) : Int := if c.most < (l.length : Int) then 0 else ofNr L n l
set_option maxHeartbeats 16000000 in
theorem anew_any (B : Option Addr) (Rs : List Rm) (k : Nat) (c : Cfg) (n : Int) (A : Option Addr) (l : List Pr) (ca : Nat) (w : World) (hB : RunsAt w B Rs) (hT : tot (lvs Rs) ≤ 1000000) (hl : Rs.length ≤ 1000000) (hA : Sl w A (l.flatMap Pr.cells)) (hl6 : l.length ≤ 65536) :
    Calls Tryz.prog 18 #[.agg (lrow c B Rs.length k n), .slice A l.length ca] w (GivesLd (ldC c (anE c (lvs Rs) l)) (anL c (lvs Rs) l) (anN c (lvs Rs) n l) (anE c (lvs Rs) l) w) := by
  obtain ⟨W0, hW0⟩ : ∃ W0, (w.alloc (.cells #[.int .u8 c.tag, .int .i64 c.most, .int .i64 c.seg, .int .i64 c.least, .int .i64 c.den, .int .i64 c.leafLow, .int .i64 c.rootLow, .int .i64 c.rootHigh, .int .i64 c.leafHigh, .slice B Rs.length k, .int .u64 n] 29)).alloc (.cells #[.int .u8 0, .int .i64 0, .int .i64 0, .int .i64 0, .int .i64 0, .int .i64 0, .int .i64 0, .int .i64 0, .int .i64 0, .slice none 0 0, .int .u64 0] 29) = W0 := ⟨_, rfl⟩
  have hb0 : Below w.heap.size w W0 := by rw [← hW0]; exact ((Below.refl _ _).alloc (Nat.le_refl _) _).alloc (by simp) _
  have b0 : Blk W0 w.heap.size 29 #[.int .u8 c.tag, .int .i64 c.most, .int .i64 c.seg, .int .i64 c.least, .int .i64 c.den, .int .i64 c.leafLow, .int .i64 c.rootLow, .int .i64 c.rootHigh, .int .i64 c.leafHigh, .slice B Rs.length k, .int .u64 n] := by rw [← hW0]; exact (Blk.new _ _ _).alloc _
  have br0 : Blk W0 (w.heap.size + 1) 29 #[.int .u8 0, .int .i64 0, .int .i64 0, .int .i64 0, .int .i64 0, .int .i64 0, .int .i64 0, .int .i64 0, .int .i64 0, .slice none 0 0, .int .u64 0] := by
    rw [← hW0]
    have := Blk.new (w.alloc (.cells #[.int .u8 c.tag, .int .i64 c.most, .int .i64 c.seg, .int .i64 c.least, .int .i64 c.den, .int .i64 c.leafLow, .int .i64 c.rootLow, .int .i64 c.rootHigh, .int .i64 c.leafHigh, .slice B Rs.length k, .int .u64 n] 29)) 29 #[.int .u8 0, .int .i64 0, .int .i64 0, .int .i64 0, .int .i64 0, .int .i64 0, .int .i64 0, .int .i64 0, .int .i64 0, .slice none 0 0, .int .u64 0]
    rwa [World.size_alloc] at this
  have HW0 := Lib.hid hW0
  have HB := Lib.hid (hB.below hb0)
  have HB0 := Lib.hid hb0
  have HC0 := Lib.hid b0
  have HR0 := Lib.hid br0
  have hof := fun W (hW : Below w.heap.size w W) => ofR_any B A Rs l k ca n W (hB.below hW) hT hl (hA.below hW) hl6
  obtain ⟨LA, hLA⟩ : ∃ x, ofLr (lvs Rs) l = x := ⟨_, rfl⟩
  obtain ⟨NA, hNA⟩ : ∃ x, ofNr (lvs Rs) n l = x := ⟨_, rfl⟩
  obtain ⟨EA, hEA⟩ : ∃ x, ofEr (lvs Rs) l = x := ⟨_, rfl⟩
  have hno : EA ≠ 0 → ldC c EA = cz ∧ LA = [] ∧ NA = 0 := fun h => by
    obtain ⟨z1, _, z3⟩ := of_no (n := n) hEA h
    exact ⟨by unfold ldC; rw [if_neg h], by rw [← hLA, z3], by rw [← hNA, z1]⟩
  rw [hLA, hNA, hEA] at hof
  obtain ⟨E9, hE9⟩ : ∃ x, anE c (lvs Rs) l = x := ⟨_, rfl⟩
  obtain ⟨L9, hL9⟩ : ∃ x, anL c (lvs Rs) l = x := ⟨_, rfl⟩
  obtain ⟨N9, hN9⟩ : ∃ x, anN c (lvs Rs) n l = x := ⟨_, rfl⟩
  rw [hE9, hL9, hN9]
  unfold anE at hE9
  unfold anL at hL9
  unfold anN at hN9
  rw [hEA] at hE9
  rw [hLA] at hL9
  rw [hNA] at hN9
  have HOF := Lib.hid hof
  have HNO := Lib.hid hno
  have HE9 := Lib.hid hE9
  have HL9 := Lib.hid hL9
  have HN9 := Lib.hid hN9
  clear hW0 hof hno hE9 hL9 hN9 hLA hNA hEA hB hA
  have q0 : W0.cell? ⟨w.heap.size, 0, none⟩ = some (.int .u8 c.tag) := b0.cell 0
  have q1 : W0.cell? ⟨w.heap.size, 1, none⟩ = some (.int .i64 c.most) := b0.cell 1
  have q2 : W0.cell? ⟨w.heap.size, 2, none⟩ = some (.int .i64 c.seg) := b0.cell 2
  have q3 : W0.cell? ⟨w.heap.size, 3, none⟩ = some (.int .i64 c.least) := b0.cell 3
  have q4 : W0.cell? ⟨w.heap.size, 4, none⟩ = some (.int .i64 c.den) := b0.cell 4
  have q5 : W0.cell? ⟨w.heap.size, 5, none⟩ = some (.int .i64 c.leafLow) := b0.cell 5
  have q6 : W0.cell? ⟨w.heap.size, 6, none⟩ = some (.int .i64 c.rootLow) := b0.cell 6
  have q7 : W0.cell? ⟨w.heap.size, 7, none⟩ = some (.int .i64 c.rootHigh) := b0.cell 7
  have q8 : W0.cell? ⟨w.heap.size, 8, none⟩ = some (.int .i64 c.leafHigh) := b0.cell 8
  have q9 : W0.cell? ⟨w.heap.size, 9, none⟩ = some (.slice B Rs.length k) := b0.cell 9
  have q10 : W0.cell? ⟨w.heap.size, 10, none⟩ = some (.int .u64 n) := b0.cell 10
  have l1 := b0.lt
  clear b0 br0 hb0
  go_enter Tryz.func18, Tryz.ntmps18
  go_upto_region 1 with fail
  rw [HW0.out]
  by_cases hfu : c.most < (l.length : Int)
  case pos =>
    have HZ : Hid (E9 = 9 ∧ L9 = [] ∧ N9 = 0) := by
      show _ ∧ _
      rw [← HE9.out, ← HL9.out, ← HN9.out, if_pos hfu, if_pos hfu, if_pos hfu]
      exact ⟨rfl, rfl, rfl⟩
    have br := HR0.out
    have r0 : W0.cell? ⟨w.heap.size + 1, 0, none⟩ = some (.int .u8 0) := br.cell 0
    have r1 : W0.cell? ⟨w.heap.size + 1, 1, none⟩ = some (.int .i64 0) := br.cell 1
    have r2 : W0.cell? ⟨w.heap.size + 1, 2, none⟩ = some (.int .i64 0) := br.cell 2
    have r3 : W0.cell? ⟨w.heap.size + 1, 3, none⟩ = some (.int .i64 0) := br.cell 3
    have r4 : W0.cell? ⟨w.heap.size + 1, 4, none⟩ = some (.int .i64 0) := br.cell 4
    have r5 : W0.cell? ⟨w.heap.size + 1, 5, none⟩ = some (.int .i64 0) := br.cell 5
    have r6 : W0.cell? ⟨w.heap.size + 1, 6, none⟩ = some (.int .i64 0) := br.cell 6
    have r7 : W0.cell? ⟨w.heap.size + 1, 7, none⟩ = some (.int .i64 0) := br.cell 7
    have r8 : W0.cell? ⟨w.heap.size + 1, 8, none⟩ = some (.int .i64 0) := br.cell 8
    have r9 : W0.cell? ⟨w.heap.size + 1, 9, none⟩ = some (.slice none 0 0) := br.cell 9
    have r10 : W0.cell? ⟨w.heap.size + 1, 10, none⟩ = some (.int .u64 0) := br.cell 10
    have fr0 := br.frozen 0
    have fr1 := br.frozen 1
    have fr2 := br.frozen 2
    have fr3 := br.frozen 3
    have fr4 := br.frozen 4
    have fr5 := br.frozen 5
    have fr6 := br.frozen 6
    have fr7 := br.frozen 7
    have fr8 := br.frozen 8
    have fr9 := br.frozen 9
    have fr10 := br.frozen 10
    clear br
    go_wp2_with fail
    have bz := put11 HR0.out (.int .u8 0) (.int .i64 0) (.int .i64 0) (.int .i64 0) (.int .i64 0) (.int .i64 0) (.int .i64 0) (.int .i64 0) (.int .i64 0) (.slice none 0 0) (.int .u64 0)
    have z0 := bz.cell 0
    have z1 := bz.cell 1
    have z2 := bz.cell 2
    have z3 := bz.cell 3
    have z4 := bz.cell 4
    have z5 := bz.cell 5
    have z6 := bz.cell 6
    have z7 := bz.cell 7
    have z8 := bz.cell 8
    have z9 := bz.cell 9
    have z10 := bz.cell 10
    simp only [List.getElem?_toArray, List.getElem?_cons_zero, List.getElem?_cons_succ] at z0 z1 z2 z3 z4 z5 z6 z7 z8 z9 z10
    refine bodyPost_ret (v := .tuple #[.agg #[.int .u8 0, .int .i64 0, .int .i64 0, .int .i64 0, .int .i64 0, .int .i64 0, .int .i64 0, .int .i64 0, .int .i64 0, .slice none 0 0, .int .u64 0], .int .i64 9]) (by simp [results, Tryz.results18, go_sem, z0, z1, z2, z3, z4, z5, z6, z7, z8, z9, z10]) rfl ?_
    have hcz : ldC c 9 = cz := by unfold ldC; rw [if_neg (by omega)]
    rw [HZ.out.1, HZ.out.2.1, HZ.out.2.2, hcz]
    exact ⟨none, 0, [], rfl, rfl, OwnRs.nil _ _, below11 HB0.out (Nat.le_succ _) _ _ _ _ _ _ _ _ _ _ _⟩
  case neg =>
  have HUQ : Hid (E9 = EA ∧ L9 = LA ∧ N9 = NA) := by
    show _ ∧ _
    rw [← HE9.out, ← HL9.out, ← HN9.out, if_neg hfu, if_neg hfu, if_neg hfu]
    exact ⟨rfl, rfl, rfl⟩
  have bc := HC0.out
  have br := HR0.out
  have q0 : W0.cell? ⟨w.heap.size, 0, none⟩ = some (.int .u8 c.tag) := bc.cell 0
  have q1 : W0.cell? ⟨w.heap.size, 1, none⟩ = some (.int .i64 c.most) := bc.cell 1
  have q2 : W0.cell? ⟨w.heap.size, 2, none⟩ = some (.int .i64 c.seg) := bc.cell 2
  have q3 : W0.cell? ⟨w.heap.size, 3, none⟩ = some (.int .i64 c.least) := bc.cell 3
  have q4 : W0.cell? ⟨w.heap.size, 4, none⟩ = some (.int .i64 c.den) := bc.cell 4
  have q5 : W0.cell? ⟨w.heap.size, 5, none⟩ = some (.int .i64 c.leafLow) := bc.cell 5
  have q6 : W0.cell? ⟨w.heap.size, 6, none⟩ = some (.int .i64 c.rootLow) := bc.cell 6
  have q7 : W0.cell? ⟨w.heap.size, 7, none⟩ = some (.int .i64 c.rootHigh) := bc.cell 7
  have q8 : W0.cell? ⟨w.heap.size, 8, none⟩ = some (.int .i64 c.leafHigh) := bc.cell 8
  have q9 : W0.cell? ⟨w.heap.size, 9, none⟩ = some (.slice B Rs.length k) := bc.cell 9
  have q10 : W0.cell? ⟨w.heap.size, 10, none⟩ = some (.int .u64 n) := bc.cell 10
  have lq := bc.lt
  clear bc br
  go_upto_region 4 with fail
  obtain ⟨U, hU⟩ : ∃ W, W0.alloc (.cells #[.int .u8 c.tag, .int .i64 c.most, .int .i64 c.seg, .int .i64 c.least, .int .i64 c.den, .int .i64 c.leafLow, .int .i64 c.rootLow, .int .i64 c.rootHigh, .int .i64 c.leafHigh, .slice B Rs.length k, .int .u64 n] 76) = W := ⟨_, rfl⟩
  have hau : Below W0.heap.size W0 U := by rw [← hU]; exact (Below.refl _ _).alloc (Nat.le_refl _) _
  have bu : Blk U W0.heap.size 76 (lrow c B Rs.length k n) := by rw [← hU]; exact Blk.new _ _ _
  try rw [hU]
  have HBU := Lib.hid (bext HB0.out hau)
  have HCU := Lib.hid ((HC0.out).below hau (HC0.out).lt)
  have HRU := Lib.hid ((HR0.out).below hau (HR0.out).lt)
  have HNG : Hid (w.heap.size + 1 < W0.heap.size) := (HR0.out).lt
  obtain ⟨gu, hgu⟩ : ∃ g, W0.heap.size = g := ⟨_, rfl⟩
  rw [hgu] at bu HNG
  try rw [hgu]
  have HUU := Lib.hid bu
  have bc := HCU.out
  clear hU hau bu hgu q0 q1 q2 q3 q4 q5 q6 q7 q8 q9 q10 lq
  have q0 : U.cell? ⟨w.heap.size, 0, none⟩ = some (.int .u8 c.tag) := bc.cell 0
  have q1 : U.cell? ⟨w.heap.size, 1, none⟩ = some (.int .i64 c.most) := bc.cell 1
  have q2 : U.cell? ⟨w.heap.size, 2, none⟩ = some (.int .i64 c.seg) := bc.cell 2
  have q3 : U.cell? ⟨w.heap.size, 3, none⟩ = some (.int .i64 c.least) := bc.cell 3
  have q4 : U.cell? ⟨w.heap.size, 4, none⟩ = some (.int .i64 c.den) := bc.cell 4
  have q5 : U.cell? ⟨w.heap.size, 5, none⟩ = some (.int .i64 c.leafLow) := bc.cell 5
  have q6 : U.cell? ⟨w.heap.size, 6, none⟩ = some (.int .i64 c.rootLow) := bc.cell 6
  have q7 : U.cell? ⟨w.heap.size, 7, none⟩ = some (.int .i64 c.rootHigh) := bc.cell 7
  have q8 : U.cell? ⟨w.heap.size, 8, none⟩ = some (.int .i64 c.leafHigh) := bc.cell 8
  have q9 : U.cell? ⟨w.heap.size, 9, none⟩ = some (.slice B Rs.length k) := bc.cell 9
  have q10 : U.cell? ⟨w.heap.size, 10, none⟩ = some (.int .u64 n) := bc.cell 10
  clear bc
  go_wp2_with fail
  refine (HOF.out U HBU.out).mono ?_
  rintro e w8 ⟨B2, k2, R2, rfl, hl2, ho2, hb8⟩
  clear q0 q1 q2 q3 q4 q5 q6 q7 q8 q9 q10
  have HL2 := Lib.hid hl2
  have HO2 := Lib.hid ho2
  have HB8 := Lib.hid (bext HBU.out hb8)
  have HR8 := Lib.hid (HRU.out.below hb8 HRU.out.lt)
  have HU8 := Lib.hid (HUU.out.below hb8 HUU.out.lt)
  have HGU := Lib.hid (show gu < U.heap.size from HUU.out.lt)
  have HSU := Lib.hid HBU.out.size
  clear hl2 ho2 hb8
  go_wp2_with fail
  refine (become_any B B2 Rs.length k R2.length k2 gu c n NA EA _ HU8.out).mono ?_
  obtain ⟨X, hX⟩ : ∃ X, (if EA = 0 then lrow c B2 R2.length k2 NA else lrow cz none 0 0 0) = X := ⟨_, rfl⟩
  rw [hX]
  have HX := Lib.hid hX
  clear hX
  rintro e w9 ⟨rfl, hm9⟩
  have HB9 := Lib.hid (HB8.out.trans (hm9.below (B := w.heap.size) HB8.out.size (fun q hq => by have h1 := HNG.out; omega)))
  have br9 := HR8.out.mod hm9 (fun h => by have h1 := HNG.out; omega)
  have HO9 := Lib.hid ((OwnRs.mk (own_mod HO2.out.row hm9 (fun q hq h => by have h1 := HGU.out; omega)) (fun r hr => own_mod (HO2.out.ent r hr) hm9 (fun q hq h => by have h1 := HGU.out; omega)) : OwnRs w9 U.heap.size B2 k2 R2).mono HSU.out)
  have HR9 := Lib.hid br9
  have r0 : w9.cell? ⟨w.heap.size + 1, 0, none⟩ = some (.int .u8 0) := br9.cell 0
  have r1 : w9.cell? ⟨w.heap.size + 1, 1, none⟩ = some (.int .i64 0) := br9.cell 1
  have r2 : w9.cell? ⟨w.heap.size + 1, 2, none⟩ = some (.int .i64 0) := br9.cell 2
  have r3 : w9.cell? ⟨w.heap.size + 1, 3, none⟩ = some (.int .i64 0) := br9.cell 3
  have r4 : w9.cell? ⟨w.heap.size + 1, 4, none⟩ = some (.int .i64 0) := br9.cell 4
  have r5 : w9.cell? ⟨w.heap.size + 1, 5, none⟩ = some (.int .i64 0) := br9.cell 5
  have r6 : w9.cell? ⟨w.heap.size + 1, 6, none⟩ = some (.int .i64 0) := br9.cell 6
  have r7 : w9.cell? ⟨w.heap.size + 1, 7, none⟩ = some (.int .i64 0) := br9.cell 7
  have r8 : w9.cell? ⟨w.heap.size + 1, 8, none⟩ = some (.int .i64 0) := br9.cell 8
  have r9 : w9.cell? ⟨w.heap.size + 1, 9, none⟩ = some (.slice none 0 0) := br9.cell 9
  have r10 : w9.cell? ⟨w.heap.size + 1, 10, none⟩ = some (.int .u64 0) := br9.cell 10
  have fr0 := br9.frozen 0
  have fr1 := br9.frozen 1
  have fr2 := br9.frozen 2
  have fr3 := br9.frozen 3
  have fr4 := br9.frozen 4
  have fr5 := br9.frozen 5
  have fr6 := br9.frozen 6
  have fr7 := br9.frozen 7
  have fr8 := br9.frozen 8
  have fr9 := br9.frozen 9
  have fr10 := br9.frozen 10
  clear hm9 br9
  by_cases hA0 : EA = 0
  case neg =>
    have hx : X = #[.int .u8 0, .int .i64 0, .int .i64 0, .int .i64 0, .int .i64 0, .int .i64 0, .int .i64 0, .int .i64 0, .int .i64 0, .slice none 0 0, .int .u64 0] := by rw [← HX.out, if_neg hA0]; rfl
    subst hx
    have HV := Lib.hid (HNO.out hA0)
    clear hA0
    go_wp2_with fail
    have bz := put11 HR9.out (.int .u8 0) (.int .i64 0) (.int .i64 0) (.int .i64 0) (.int .i64 0) (.int .i64 0) (.int .i64 0) (.int .i64 0) (.int .i64 0) (.slice none 0 0) (.int .u64 0)
    have z0 := bz.cell 0
    have z1 := bz.cell 1
    have z2 := bz.cell 2
    have z3 := bz.cell 3
    have z4 := bz.cell 4
    have z5 := bz.cell 5
    have z6 := bz.cell 6
    have z7 := bz.cell 7
    have z8 := bz.cell 8
    have z9 := bz.cell 9
    have z10 := bz.cell 10
    simp only [List.getElem?_toArray, List.getElem?_cons_zero, List.getElem?_cons_succ] at z0 z1 z2 z3 z4 z5 z6 z7 z8 z9 z10
    refine bodyPost_ret (v := .tuple #[.agg #[.int .u8 0, .int .i64 0, .int .i64 0, .int .i64 0, .int .i64 0, .int .i64 0, .int .i64 0, .int .i64 0, .int .i64 0, .slice none 0 0, .int .u64 0], .int .i64 EA]) (by simp [results, Tryz.results18, go_sem, z0, z1, z2, z3, z4, z5, z6, z7, z8, z9, z10]) rfl ?_
    rw [HUQ.out.1, HUQ.out.2.1, HUQ.out.2.2, HV.out.1, HV.out.2.1, HV.out.2.2]
    exact ⟨none, 0, [], rfl, rfl, OwnRs.nil _ _, below11 HB9.out (Nat.le_succ _) _ _ _ _ _ _ _ _ _ _ _⟩
  case pos =>
  subst hA0
  have hx : X = lrow c B2 R2.length k2 NA := by rw [← HX.out, if_pos rfl]
  subst hx
  go_wp2_with fail
  have bz := put11 HR9.out (.int .u8 c.tag) (.int .i64 c.most) (.int .i64 c.seg) (.int .i64 c.least) (.int .i64 c.den) (.int .i64 c.leafLow) (.int .i64 c.rootLow) (.int .i64 c.rootHigh) (.int .i64 c.leafHigh) (.slice B2 R2.length k2) (.int .u64 NA)
  have z0 := bz.cell 0
  have z1 := bz.cell 1
  have z2 := bz.cell 2
  have z3 := bz.cell 3
  have z4 := bz.cell 4
  have z5 := bz.cell 5
  have z6 := bz.cell 6
  have z7 := bz.cell 7
  have z8 := bz.cell 8
  have z9 := bz.cell 9
  have z10 := bz.cell 10
  simp only [List.getElem?_toArray, List.getElem?_cons_zero, List.getElem?_cons_succ] at z0 z1 z2 z3 z4 z5 z6 z7 z8 z9 z10
  refine bodyPost_ret (v := .tuple #[.agg #[.int .u8 c.tag, .int .i64 c.most, .int .i64 c.seg, .int .i64 c.least, .int .i64 c.den, .int .i64 c.leafLow, .int .i64 c.rootLow, .int .i64 c.rootHigh, .int .i64 c.leafHigh, .slice B2 R2.length k2, .int .u64 NA], .int .i64 0]) (by simp [results, Tryz.results18, go_sem, z0, z1, z2, z3, z4, z5, z6, z7, z8, z9, z10]) rfl ?_
  rw [HUQ.out.1, HUQ.out.2.1, HUQ.out.2.2]
  exact ⟨B2, k2, R2, rfl, HL2.out, HO9.out.set11 HR9.out (by decide) (by decide) _ _ _ _ _ _ _ _ _ _ _, below11 HB9.out (Nat.le_succ _) _ _ _ _ _ _ _ _ _ _ _⟩
set_option maxHeartbeats 8000000 in
theorem anew27_any (B : Option Addr) (Rs : List Rm) (k : Nat) (c : Cfg) (n : Int) (A : Option Addr) (l : List Pr) (ca : Nat) (w : World) (hA : Sl w A (l.flatMap Pr.cells)) (hl6 : l.length ≤ 65536) :
    Calls Tryz.prog 21 #[.agg (lrow c B Rs.length k n), .slice A l.length ca] w (GivesLm c (standL [] (laid (l.map aliveE))) (IntKind.u64.wrap (n + l.length)) w) := by
  obtain ⟨W0, hW0⟩ : ∃ W0, (w.alloc (.cells #[.int .u8 c.tag, .int .i64 c.most, .int .i64 c.seg, .int .i64 c.least, .int .i64 c.den, .int .i64 c.leafLow, .int .i64 c.rootLow, .int .i64 c.rootHigh, .int .i64 c.leafHigh, .slice B Rs.length k, .int .u64 n] 29)).alloc (.cells #[.int .u8 0, .int .i64 0, .int .i64 0, .int .i64 0, .int .i64 0, .int .i64 0, .int .i64 0, .int .i64 0, .int .i64 0, .slice none 0 0, .int .u64 0] 29) = W0 := ⟨_, rfl⟩
  have hb0 : Below w.heap.size w W0 := by rw [← hW0]; exact ((Below.refl _ _).alloc (Nat.le_refl _) _).alloc (by simp) _
  have b0 : Blk W0 w.heap.size 29 #[.int .u8 c.tag, .int .i64 c.most, .int .i64 c.seg, .int .i64 c.least, .int .i64 c.den, .int .i64 c.leafLow, .int .i64 c.rootLow, .int .i64 c.rootHigh, .int .i64 c.leafHigh, .slice B Rs.length k, .int .u64 n] := by rw [← hW0]; exact (Blk.new _ _ _).alloc _
  have br0 : Blk W0 (w.heap.size + 1) 29 #[.int .u8 0, .int .i64 0, .int .i64 0, .int .i64 0, .int .i64 0, .int .i64 0, .int .i64 0, .int .i64 0, .int .i64 0, .slice none 0 0, .int .u64 0] := by
    rw [← hW0]
    have := Blk.new (w.alloc (.cells #[.int .u8 c.tag, .int .i64 c.most, .int .i64 c.seg, .int .i64 c.least, .int .i64 c.den, .int .i64 c.leafLow, .int .i64 c.rootLow, .int .i64 c.rootHigh, .int .i64 c.leafHigh, .slice B Rs.length k, .int .u64 n] 29)) 29 #[.int .u8 0, .int .i64 0, .int .i64 0, .int .i64 0, .int .i64 0, .int .i64 0, .int .i64 0, .int .i64 0, .int .i64 0, .slice none 0 0, .int .u64 0]
    rwa [World.size_alloc] at this
  have HW0 := Lib.hid hW0
  have HB0 := Lib.hid hb0
  have HC0 := Lib.hid b0
  have HR0 := Lib.hid br0
  have hal := fun W (hW : Sl W A (l.flatMap Pr.cells)) => alone26_any A l ca n W hW hl6
  obtain ⟨LA, hLA⟩ : ∃ x, standL [] (laid (l.map aliveE)) = x := ⟨_, rfl⟩
  obtain ⟨N, hN⟩ : ∃ x, IntKind.u64.wrap (n + l.length) = x := ⟨_, rfl⟩
  rw [hLA, hN] at hal
  rw [hLA, hN]
  have HAL := Lib.hid hal
  have HA := Lib.hid hA
  clear hW0 hal hA hLA hN
  have q0 : W0.cell? ⟨w.heap.size, 0, none⟩ = some (.int .u8 c.tag) := b0.cell 0
  have q1 : W0.cell? ⟨w.heap.size, 1, none⟩ = some (.int .i64 c.most) := b0.cell 1
  have q2 : W0.cell? ⟨w.heap.size, 2, none⟩ = some (.int .i64 c.seg) := b0.cell 2
  have q3 : W0.cell? ⟨w.heap.size, 3, none⟩ = some (.int .i64 c.least) := b0.cell 3
  have q4 : W0.cell? ⟨w.heap.size, 4, none⟩ = some (.int .i64 c.den) := b0.cell 4
  have q5 : W0.cell? ⟨w.heap.size, 5, none⟩ = some (.int .i64 c.leafLow) := b0.cell 5
  have q6 : W0.cell? ⟨w.heap.size, 6, none⟩ = some (.int .i64 c.rootLow) := b0.cell 6
  have q7 : W0.cell? ⟨w.heap.size, 7, none⟩ = some (.int .i64 c.rootHigh) := b0.cell 7
  have q8 : W0.cell? ⟨w.heap.size, 8, none⟩ = some (.int .i64 c.leafHigh) := b0.cell 8
  have q9 : W0.cell? ⟨w.heap.size, 9, none⟩ = some (.slice B Rs.length k) := b0.cell 9
  have q10 : W0.cell? ⟨w.heap.size, 10, none⟩ = some (.int .u64 n) := b0.cell 10
  have y0 : W0.cell? ⟨(w.heap.size + 1), 0, none⟩ = some (.int .u8 0) := br0.cell 0
  have y1 : W0.cell? ⟨(w.heap.size + 1), 1, none⟩ = some (.int .i64 0) := br0.cell 1
  have y2 : W0.cell? ⟨(w.heap.size + 1), 2, none⟩ = some (.int .i64 0) := br0.cell 2
  have y3 : W0.cell? ⟨(w.heap.size + 1), 3, none⟩ = some (.int .i64 0) := br0.cell 3
  have y4 : W0.cell? ⟨(w.heap.size + 1), 4, none⟩ = some (.int .i64 0) := br0.cell 4
  have y5 : W0.cell? ⟨(w.heap.size + 1), 5, none⟩ = some (.int .i64 0) := br0.cell 5
  have y6 : W0.cell? ⟨(w.heap.size + 1), 6, none⟩ = some (.int .i64 0) := br0.cell 6
  have y7 : W0.cell? ⟨(w.heap.size + 1), 7, none⟩ = some (.int .i64 0) := br0.cell 7
  have y8 : W0.cell? ⟨(w.heap.size + 1), 8, none⟩ = some (.int .i64 0) := br0.cell 8
  have y9 : W0.cell? ⟨(w.heap.size + 1), 9, none⟩ = some (.slice none 0 0) := br0.cell 9
  have y10 : W0.cell? ⟨(w.heap.size + 1), 10, none⟩ = some (.int .u64 0) := br0.cell 10
  have fr0 := br0.frozen 0
  have fr1 := br0.frozen 1
  have fr2 := br0.frozen 2
  have fr3 := br0.frozen 3
  have fr4 := br0.frozen 4
  have fr5 := br0.frozen 5
  have fr6 := br0.frozen 6
  have fr7 := br0.frozen 7
  have fr8 := br0.frozen 8
  have fr9 := br0.frozen 9
  have fr10 := br0.frozen 10
  have l1 := b0.lt
  have l2 := br0.lt
  go_enter Tryz.func21, Tryz.ntmps21
  go_upto_region 1 with fail
  rw [HW0.out]
  go_region_with (go_at_call 39; refine (HAL.out _ (HA.out.below (bext hb0 (by first | exact (Below.refl _ _).drew | exact Below.refl _ _)))).mono ?_; rintro e w5 ⟨A2, k2, R2, rfl, h51, h52, hb5⟩; have hb6 : Below W0.heap.size W0 w5 := (by first | exact hb5 | exact bext ((Below.refl _ _).drew) hb5); have d0 : w5.cell? ⟨w.heap.size, 0, none⟩ = some (.int .u8 c.tag) := ((bcell hb6).1 _ _ l1).trans q0; have d1 : w5.cell? ⟨w.heap.size, 1, none⟩ = some (.int .i64 c.most) := ((bcell hb6).1 _ _ l1).trans q1; have d2 : w5.cell? ⟨w.heap.size, 2, none⟩ = some (.int .i64 c.seg) := ((bcell hb6).1 _ _ l1).trans q2; have d3 : w5.cell? ⟨w.heap.size, 3, none⟩ = some (.int .i64 c.least) := ((bcell hb6).1 _ _ l1).trans q3; have d4 : w5.cell? ⟨w.heap.size, 4, none⟩ = some (.int .i64 c.den) := ((bcell hb6).1 _ _ l1).trans q4; have d5 : w5.cell? ⟨w.heap.size, 5, none⟩ = some (.int .i64 c.leafLow) := ((bcell hb6).1 _ _ l1).trans q5; have d6 : w5.cell? ⟨w.heap.size, 6, none⟩ = some (.int .i64 c.rootLow) := ((bcell hb6).1 _ _ l1).trans q6; have d7 : w5.cell? ⟨w.heap.size, 7, none⟩ = some (.int .i64 c.rootHigh) := ((bcell hb6).1 _ _ l1).trans q7; have d8 : w5.cell? ⟨w.heap.size, 8, none⟩ = some (.int .i64 c.leafHigh) := ((bcell hb6).1 _ _ l1).trans q8; have d9 : w5.cell? ⟨w.heap.size, 9, none⟩ = some (.slice B Rs.length k) := ((bcell hb6).1 _ _ l1).trans q9; have d10 : w5.cell? ⟨w.heap.size, 10, none⟩ = some (.int .u64 n) := ((bcell hb6).1 _ _ l1).trans q10; have b25 := br0.below hb6 l2; have e0 : w5.cell? ⟨w.heap.size + 1, 0, none⟩ = some (.int .u8 0) := b25.cell 0; have e1 : w5.cell? ⟨w.heap.size + 1, 1, none⟩ = some (.int .i64 0) := b25.cell 1; have e2 : w5.cell? ⟨w.heap.size + 1, 2, none⟩ = some (.int .i64 0) := b25.cell 2; have e3 : w5.cell? ⟨w.heap.size + 1, 3, none⟩ = some (.int .i64 0) := b25.cell 3; have e4 : w5.cell? ⟨w.heap.size + 1, 4, none⟩ = some (.int .i64 0) := b25.cell 4; have e5 : w5.cell? ⟨w.heap.size + 1, 5, none⟩ = some (.int .i64 0) := b25.cell 5; have e6 : w5.cell? ⟨w.heap.size + 1, 6, none⟩ = some (.int .i64 0) := b25.cell 6; have e7 : w5.cell? ⟨w.heap.size + 1, 7, none⟩ = some (.int .i64 0) := b25.cell 7; have e8 : w5.cell? ⟨w.heap.size + 1, 8, none⟩ = some (.int .i64 0) := b25.cell 8; have e9 : w5.cell? ⟨w.heap.size + 1, 9, none⟩ = some (.slice none 0 0) := b25.cell 9; have e10 : w5.cell? ⟨w.heap.size + 1, 10, none⟩ = some (.int .u64 0) := b25.cell 10; have ef0 := b25.frozen 0; have ef1 := b25.frozen 1; have ef2 := b25.frozen 2; have ef3 := b25.frozen 3; have ef4 := b25.frozen 4; have ef5 := b25.frozen 5; have ef6 := b25.frozen 6; have ef7 := b25.frozen 7; have ef8 := b25.frozen 8; have ef9 := b25.frozen 9; have ef10 := b25.frozen 10; have H51 := Lib.hid h51; have H52 := Lib.hid h52; have H6 := Lib.hid hb6; clear h51 h52 hb5 hb6)
  all_goals
    go_wp2_with fail
    have bz := put11 b25 (.int .u8 c.tag) (.int .i64 c.most) (.int .i64 c.seg) (.int .i64 c.least) (.int .i64 c.den) (.int .i64 c.leafLow) (.int .i64 c.rootLow) (.int .i64 c.rootHigh) (.int .i64 c.leafHigh) (.slice A2 R2.length k2) (.int .u64 N)
    have z0 := bz.cell 0
    have z1 := bz.cell 1
    have z2 := bz.cell 2
    have z3 := bz.cell 3
    have z4 := bz.cell 4
    have z5 := bz.cell 5
    have z6 := bz.cell 6
    have z7 := bz.cell 7
    have z8 := bz.cell 8
    have z9 := bz.cell 9
    have z10 := bz.cell 10
    simp only [List.getElem?_toArray, List.getElem?_cons_zero, List.getElem?_cons_succ] at z0 z1 z2 z3 z4 z5 z6 z7 z8 z9 z10
    refine bodyPost_ret (v := .agg #[.int .u8 c.tag, .int .i64 c.most, .int .i64 c.seg, .int .i64 c.least, .int .i64 c.den, .int .i64 c.leafLow, .int .i64 c.rootLow, .int .i64 c.rootHigh, .int .i64 c.leafHigh, .slice A2 R2.length k2, .int .u64 N]) (by simp [results, Tryz.results21, go_sem, z0, z1, z2, z3, z4, z5, z6, z7, z8, z9, z10]) rfl ?_
    exact ⟨A2, k2, R2, rfl, H51.out, (H52.out.mono (bext hb0 (Below.refl _ _)).size).set11 b25 (by decide) (by decide) _ _ _ _ _ _ _ _ _ _ _, below11 (bext hb0 H6.out) (Nat.le_succ _) _ _ _ _ _ _ _ _ _ _ _⟩
end Go.Proofs.YtolclahkfmplfaaGreat

/- What a map is, on lists of pairs: ranks, neighbours, and what operations do. No program in sight. -/
namespace Go.Proofs.YtolclahkfmplfaaGreat
open Go Go.RowKit

instance : Inhabited Pr := ⟨⟨0, 0⟩⟩
deriving instance DecidableEq for Pr

def keys (l : List Pr) : List Int := l.map Pr.key
def Ris (l : List Pr) : Prop := rises (keys l) = true
instance (l : List Pr) : Decidable (Ris l) := by unfold Ris; infer_instance
def bel (l : List Pr) (k : Int) : Nat := l.countP (fun p => decide (p.key < k))
def upk (l : List Pr) (k : Int) : Nat := l.countP (fun p => decide (p.key ≤ k))
def has (l : List Pr) (k : Int) : Bool := decide (bel l k < upk l k)

theorem ris_iff (l : List Pr) : Ris l ↔ l.Pairwise (fun a b => a.key < b.key) := by
  unfold Ris rises keys
  rw [decide_eq_true_iff, List.pairwise_map]
theorem Ris.nil : Ris [] := by rw [ris_iff]; exact List.Pairwise.nil
theorem ris_cons {p : Pr} {l : List Pr} : Ris (p :: l) ↔ (∀ q ∈ l, p.key < q.key) ∧ Ris l := by rw [ris_iff, ris_iff, List.pairwise_cons]
theorem Ris.sub {l m : List Pr} (h : Ris l) (hs : m.Sublist l) : Ris m := by rw [ris_iff] at h ⊢; exact h.sublist hs
theorem Ris.get {l : List Pr} (h : Ris l) {i j : Nat} (hij : i < j) (hj : j < l.length) : (l[i]'(by omega)).key < (l[j]'hj).key := by
  rw [ris_iff] at h
  exact (List.pairwise_iff_getElem.1 h) i j (by omega) hj hij

theorem bel_le (l : List Pr) (k : Int) : bel l k ≤ l.length := List.countP_le_length
theorem upk_le (l : List Pr) (k : Int) : upk l k ≤ l.length := List.countP_le_length
theorem bel_upk (l : List Pr) (k : Int) : bel l k ≤ upk l k := List.countP_mono_left (by intro p _ h; simp at h ⊢; omega)

theorem count_split (p : Pr → Bool) : ∀ (l : List Pr) (n : Nat), n ≤ l.length → (∀ i (h : i < l.length), i < n → p (l[i]'h) = true) → (∀ i (h : i < l.length), n ≤ i → p (l[i]'h) = false) → l.countP p = n
  | [], n, hn, _, _ => by simp at hn; simp [hn]
  | a :: l, 0, _, _, h2 => by
    rw [List.countP_eq_zero]
    intro x hx
    obtain ⟨i, hi, rfl⟩ := List.getElem_of_mem hx
    rw [h2 i hi (Nat.zero_le _)]
    simp
  | a :: l, n + 1, hn, h1, h2 => by
    rw [List.countP_cons_of_pos (show p a = true from h1 0 (by simp) (by omega)), count_split p l n (by simpa using hn) (fun i h hi => h1 (i + 1) (by simpa using h) (by omega)) (fun i h hi => h2 (i + 1) (by simpa using h) (by omega))]

/-- in a rising list the keys below one come first -/
theorem count_first (p : Pr → Bool) : ∀ (l : List Pr), (∀ i j (hi : i < j) (hj : j < l.length), p (l[j]'hj) = true → p (l[i]'(by omega)) = true) → ∀ i (hi : i < l.length), p (l[i]'hi) = true ↔ i < l.countP p
  | [], _, i, hi => by simp at hi
  | a :: l, h, i, hi => by
    have hl : ∀ i j (hi : i < j) (hj : j < l.length), p (l[j]'hj) = true → p (l[i]'(by omega)) = true := fun i j hij hj => by
      have := h (i + 1) (j + 1) (by omega) (by simpa using hj)
      simpa using this
    by_cases ha : p a = true
    · rw [List.countP_cons_of_pos ha]
      cases i with
      | zero => simp [ha]
      | succ i => simpa using count_first p l hl i (by simpa using hi)
    · have h0 : ∀ x ∈ a :: l, ¬ p x = true := by
        intro x hx hp
        obtain ⟨j, hj, rfl⟩ := List.getElem_of_mem hx
        cases j with
        | zero => exact ha (by simpa using hp)
        | succ j => exact ha (by simpa using h 0 (j + 1) (by omega) hj hp)
      rw [List.countP_eq_zero.2 h0]
      constructor
      · intro hp; exact absurd hp (h0 _ (List.getElem_mem hi))
      · omega

theorem bel_iff {l : List Pr} (h : Ris l) (k : Int) (i : Nat) (hi : i < l.length) : (l[i]'hi).key < k ↔ i < bel l k := by
  have := count_first (fun p => decide (p.key < k)) l (fun i j hij hj hp => by have := h.get hij hj; simp at hp ⊢; omega) i hi
  simpa [bel] using this
theorem upk_iff {l : List Pr} (h : Ris l) (k : Int) (i : Nat) (hi : i < l.length) : (l[i]'hi).key ≤ k ↔ i < upk l k := by
  have := count_first (fun p => decide (p.key ≤ k)) l (fun i j hij hj hp => by have := h.get hij hj; simp at hp ⊢; omega) i hi
  simpa [upk] using this
theorem upk_bel {l : List Pr} (h : Ris l) (k : Int) : upk l k ≤ bel l k + 1 := by
  by_cases h1 : bel l k + 1 < upk l k
  · have hu := upk_le l k
    have a := (upk_iff h k (bel l k + 1) (by omega)).2 h1
    have b := h.get (i := bel l k) (j := bel l k + 1) (by omega) (by omega)
    have c := (bel_iff h k (bel l k) (by omega)).1 (by omega)
    omega
  · omega
theorem has_iff {l : List Pr} (h : Ris l) (k : Int) : has l k = true ↔ ∃ hb : bel l k < l.length, (l[bel l k]'hb).key = k := by
  unfold has
  rw [decide_eq_true_iff]
  constructor
  · intro hlt
    have hu := upk_le l k
    refine ⟨by omega, ?_⟩
    have a := (upk_iff h k (bel l k) (by omega)).2 hlt
    have b := mt (bel_iff h k (bel l k) (by omega)).1 (by omega)
    omega
  · rintro ⟨hb, he⟩
    exact (upk_iff h k (bel l k) hb).1 (by omega)
theorem upk_has {l : List Pr} (h : Ris l) (k : Int) : upk l k = bel l k + (if has l k = true then 1 else 0) := by
  have h1 := upk_bel h k
  have h2 := bel_upk l k
  unfold has
  split <;> rename_i hh <;> simp at hh <;> omega

end Go.Proofs.YtolclahkfmplfaaGreat

/- Contracts: whether pairs rise, whether they may be a map's, and where keys stand. -/
namespace Go.Proofs.YtolclahkfmplfaaGreat
open Go Go.RowKit
set_option maxRecDepth 100000


set_option maxHeartbeats 1000000 in
theorem rising10_any (A : Option Addr) (l : List Pr) (c : Nat) (w : World) (hA : Sl w A (l.flatMap Pr.cells)) (hl : l.length ≤ 4611686018427387903) :
    Calls Tryz.prog 20 #[.slice A l.length c] w fun r w' => r = .returned (.bool (decide (Ris l))) ∧ Below w.heap.size w w' := by
  go_enter Tryz.func20, Tryz.ntmps20
  go_wp2
  go_loopw [3] (fun i wr => ∃ k : Nat, 1 ≤ k ∧ i = .int .i64 k ∧ Below w.heap.size w wr ∧ Hid (RiseTo (l.map Pr.key) k)) (fun i _ => l.length - (intOf i).toNat)
  case atStart => exact ⟨1, Nat.le_refl _, rfl, Below.refl _ _, RiseTo.start _⟩
  case round =>
    obtain ⟨k, hk, rfl, hb, hn⟩ := hrel
    by_cases hlt : k < l.length
    · obtain ⟨b, off, rfl, hbl, c1, c2⟩ := (hA.below hb).pr k hlt
      obtain ⟨b', off', e, _, d1, d2⟩ := (hA.below hb).pr (k - 1) (by omega)
      simp only [Option.some.injEq, Addr.mk.injEq] at e
      obtain ⟨rfl, rfl, _⟩ := e
      have i0 : (0 : Int) ≤ (k : Int) := by omega
      have i1 : (k : Int) < (l.length : Int) := by omega
      have i2 : (0 : Int) ≤ (k : Int) - 1 := by omega
      have i3 : (k : Int) - 1 < (l.length : Int) := by omega
      clear c2 d2 hA
      go_wp2
      go_quiet (fail)
      go_wp2
      · have hx : (l[k]'hlt).key ≤ (l[k - 1]'(by omega)).key := by assumption
        go_ret
        exact ⟨ret_bool (decide_eq_false (fun h => absurd (h.symm.trans (RiseTo.no (ks := keys l) hk (by simpa [keys] using hlt) (by simpa [keys] using hx))) (by simp))).symm, bdrew hb _⟩
      · have hx : (l[k - 1]'(by omega)).key < (l[k]'hlt).key := by assumption
        go_roundw
        case rel => exact ⟨k + 1, by omega, by go_num, bdrew hb _, hn.out.step hk (by simpa using hlt) (by simpa using hx)⟩
        case measure => simp [intOf]; omega
    · go_wp2
      go_ret
      exact ⟨ret_bool (decide_eq_true (show Ris l from hn.out.all (by simp; omega))).symm, hb⟩



/-- the order of a pair's key and a key -/
def cmpK (p : Pr) (k : Int) : Int := if p.key < k then -1 else if k < p.key then 1 else 0

theorem cmpK_neg {p : Pr} {k : Int} : cmpK p k < 0 ↔ p.key < k := by unfold cmpK; split <;> (try split) <;> omega
theorem cmpK_zero {p : Pr} {k : Int} : cmpK p k = 0 ↔ p.key = k := by unfold cmpK; split <;> (try split) <;> omega



end Go.Proofs.YtolclahkfmplfaaGreat
