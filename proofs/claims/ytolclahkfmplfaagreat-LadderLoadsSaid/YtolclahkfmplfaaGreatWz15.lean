/- Fc Row Args ArgsR ArgsG: texts of the claim, in this order. -/
import Derived.Test.YtolclahkfmplfaaGreatWz14
import Derived.Test.YtolclahkfmplfaaGreatWz12
import Derived.Deep.RegionWith
import Derived.Test.YtolclahkfmplfaaGreatWz1
import Derived.ProofKit
import Derived.OpenShut
import Derived.JoinedCond
import Derived.Deep.Slices
import Derived.Test.YtolclahkfmplfaaGreatProg
import Derived.Test.YtolclahkfmplfaaGreatWz6
import Derived.Test.YtolclahkfmplfaaGreatWz11
/- Contracts: ladder.Same, Twin; shelfmarkref27 Same, Twin, New, All, Check, Pairs. -/
namespace Go.Proofs.YtolclahkfmplfaaGreat
open Go Go.RowKit
set_option maxRecDepth 100000
def eqC (c d : Cfg) : Bool := decide (c = d)
theorem run_eql_cfg (c d : Cfg) (w : World) :
    (binOp .eql 23 (.agg #[.int .u8 c.tag, .int .i64 c.most, .int .i64 c.seg, .int .i64 c.least, .int .i64 c.den, .int .i64 c.leafLow, .int .i64 c.rootLow, .int .i64 c.rootHigh, .int .i64 c.leafHigh]) (.agg #[.int .u8 d.tag, .int .i64 d.most, .int .i64 d.seg, .int .i64 d.least, .int .i64 d.den, .int .i64 d.leafLow, .int .i64 d.rootLow, .int .i64 d.rootHigh, .int .i64 d.leafHigh])).run Tryz.prog w = .ok (.bool (eqC c d)) w := by
  have h3 := Tryz.underlying23
  obtain ⟨x0, x1, x2, x3, x4, x5, x6, x7, x8⟩ := c
  obtain ⟨y0, y1, y2, y3, y4, y5, y6, y7, y8⟩ := d
  simp only [go_sem, h3]
  simp [go_sem, eqC]
  by_cases h0 : x0 = y0
  · by_cases h1 : x1 = y1
    · by_cases h2 : x2 = y2
      · by_cases h3 : x3 = y3
        · by_cases h4 : x4 = y4
          · by_cases h5 : x5 = y5
            · by_cases h6 : x6 = y6
              · by_cases h7 : x7 = y7 <;> by_cases h8 : x8 = y8 <;> simp [h0, h1, h2, h3, h4, h5, h6, h7, h8]
              · simp [h0, h1, h2, h3, h4, h5, h6]
            · simp [h0, h1, h2, h3, h4, h5]
          · simp [h0, h1, h2, h3, h4]
        · simp [h0, h1, h2, h3]
      · simp [h0, h1, h2]
    · simp [h0, h1]
  · simp [h0]
theorem eqC_self (c : Cfg) : eqC c c = true := decide_eq_true rfl
/-- the answer of Same -/
def sameB (c d : Cfg) (n m : Int) (K L : Lv) : Bool := eqC c d && (decide (n = m) && decide (K = L))
theorem sameB_self (c : Cfg) (n : Int) (L : Lv) : sameB c c n n L L = true := by unfold sameB; rw [eqC_self, decide_eq_true rfl, decide_eq_true rfl]; rfl
set_option maxHeartbeats 4000000 in
theorem same27_any (c d : Cfg) (B D : Option Addr) (Rs Ts : List Rm) (nr nt k q : Nat) (n m : Int) (w : World) (hnr : Rs.length = nr) (hnt : Ts.length = nt) (hB : RunsAt w B Rs) (hD : RunsAt w D Ts) (hl : Rs.length ≤ 1000000) (hrs : ∀ r ∈ Rs, r.l.length ≤ 1000000) (hts : ∀ r ∈ Ts, r.l.length ≤ 1000000) :
    Calls Tryz.prog 12 #[.agg (lrow c B nr k n), .agg (lrow d D nt q m)] w fun r w' => r = .returned (.bool (sameB c d n m (lvs Rs) (lvs Ts))) ∧ Below w.heap.size w w' := by
  obtain ⟨W0, hW0⟩ : ∃ W0, (w.alloc (.cells #[.int .u8 c.tag, .int .i64 c.most, .int .i64 c.seg, .int .i64 c.least, .int .i64 c.den, .int .i64 c.leafLow, .int .i64 c.rootLow, .int .i64 c.rootHigh, .int .i64 c.leafHigh, .slice B nr k, .int .u64 n] 29)).alloc (.cells #[.int .u8 d.tag, .int .i64 d.most, .int .i64 d.seg, .int .i64 d.least, .int .i64 d.den, .int .i64 d.leafLow, .int .i64 d.rootLow, .int .i64 d.rootHigh, .int .i64 d.leafHigh, .slice D nt q, .int .u64 m] 29) = W0 := ⟨_, rfl⟩
  have hb0 : Below w.heap.size w W0 := by rw [← hW0]; exact ((Below.refl _ _).alloc (Nat.le_refl _) _).alloc (by simp) _
  have b1 : Blk W0 w.heap.size 29 #[.int .u8 c.tag, .int .i64 c.most, .int .i64 c.seg, .int .i64 c.least, .int .i64 c.den, .int .i64 c.leafLow, .int .i64 c.rootLow, .int .i64 c.rootHigh, .int .i64 c.leafHigh, .slice B nr k, .int .u64 n] := by rw [← hW0]; exact (Blk.new _ _ _).alloc _
  have b2 : Blk W0 (w.heap.size + 1) 29 #[.int .u8 d.tag, .int .i64 d.most, .int .i64 d.seg, .int .i64 d.least, .int .i64 d.den, .int .i64 d.leafLow, .int .i64 d.rootLow, .int .i64 d.rootHigh, .int .i64 d.leafHigh, .slice D nt q, .int .u64 m] := by
    rw [← hW0]
    have := Blk.new (w.alloc (.cells #[.int .u8 c.tag, .int .i64 c.most, .int .i64 c.seg, .int .i64 c.least, .int .i64 c.den, .int .i64 c.leafLow, .int .i64 c.rootLow, .int .i64 c.rootHigh, .int .i64 c.leafHigh, .slice B nr k, .int .u64 n] 29)) 29 #[.int .u8 d.tag, .int .i64 d.most, .int .i64 d.seg, .int .i64 d.least, .int .i64 d.den, .int .i64 d.leafLow, .int .i64 d.rootLow, .int .i64 d.rootHigh, .int .i64 d.leafHigh, .slice D nt q, .int .u64 m]
    rwa [World.size_alloc] at this
  have HW0 := Lib.hid hW0
  have hsa := same26_any B D Rs Ts nr nt k q n m W0 hnr hnt (hB.below hb0) (hD.below hb0) hl hrs hts
  have heq := fun W => run_eql_cfg c d W
  obtain ⟨S, hS⟩ : ∃ S, sameB c d n m (lvs Rs) (lvs Ts) = S := ⟨_, rfl⟩
  rw [hS]
  unfold sameB at hS
  obtain ⟨V, hV⟩ : ∃ V, (decide (n = m) && decide (lvs Rs = lvs Ts)) = V := ⟨_, rfl⟩
  rw [hV] at hsa hS
  obtain ⟨E, hE⟩ : ∃ E, eqC c d = E := ⟨_, rfl⟩
  rw [hE] at heq hS
  have HSA := Lib.hid hsa
  have HS := Lib.hid hS
  clear hsa hS hV hE hB hD hrs hts hW0
  have p0 : W0.cell? ⟨w.heap.size, 0, none⟩ = some (.int .u8 c.tag) := b1.cell 0
  have p1 : W0.cell? ⟨w.heap.size, 1, none⟩ = some (.int .i64 c.most) := b1.cell 1
  have p2 : W0.cell? ⟨w.heap.size, 2, none⟩ = some (.int .i64 c.seg) := b1.cell 2
  have p3 : W0.cell? ⟨w.heap.size, 3, none⟩ = some (.int .i64 c.least) := b1.cell 3
  have p4 : W0.cell? ⟨w.heap.size, 4, none⟩ = some (.int .i64 c.den) := b1.cell 4
  have p5 : W0.cell? ⟨w.heap.size, 5, none⟩ = some (.int .i64 c.leafLow) := b1.cell 5
  have p6 : W0.cell? ⟨w.heap.size, 6, none⟩ = some (.int .i64 c.rootLow) := b1.cell 6
  have p7 : W0.cell? ⟨w.heap.size, 7, none⟩ = some (.int .i64 c.rootHigh) := b1.cell 7
  have p8 : W0.cell? ⟨w.heap.size, 8, none⟩ = some (.int .i64 c.leafHigh) := b1.cell 8
  have p9 : W0.cell? ⟨w.heap.size, 9, none⟩ = some (.slice B nr k) := b1.cell 9
  have p10 : W0.cell? ⟨w.heap.size, 10, none⟩ = some (.int .u64 n) := b1.cell 10
  have q0 : W0.cell? ⟨(w.heap.size + 1), 0, none⟩ = some (.int .u8 d.tag) := b2.cell 0
  have q1 : W0.cell? ⟨(w.heap.size + 1), 1, none⟩ = some (.int .i64 d.most) := b2.cell 1
  have q2 : W0.cell? ⟨(w.heap.size + 1), 2, none⟩ = some (.int .i64 d.seg) := b2.cell 2
  have q3 : W0.cell? ⟨(w.heap.size + 1), 3, none⟩ = some (.int .i64 d.least) := b2.cell 3
  have q4 : W0.cell? ⟨(w.heap.size + 1), 4, none⟩ = some (.int .i64 d.den) := b2.cell 4
  have q5 : W0.cell? ⟨(w.heap.size + 1), 5, none⟩ = some (.int .i64 d.leafLow) := b2.cell 5
  have q6 : W0.cell? ⟨(w.heap.size + 1), 6, none⟩ = some (.int .i64 d.rootLow) := b2.cell 6
  have q7 : W0.cell? ⟨(w.heap.size + 1), 7, none⟩ = some (.int .i64 d.rootHigh) := b2.cell 7
  have q8 : W0.cell? ⟨(w.heap.size + 1), 8, none⟩ = some (.int .i64 d.leafHigh) := b2.cell 8
  have q9 : W0.cell? ⟨(w.heap.size + 1), 9, none⟩ = some (.slice D nt q) := b2.cell 9
  have q10 : W0.cell? ⟨(w.heap.size + 1), 10, none⟩ = some (.int .u64 m) := b2.cell 10
  have l1 := b1.lt
  have l2 := b2.lt
  clear b1 b2
  go_enter Tryz.func12, Tryz.ntmps12
  go_upto_region 1 with fail
  rw [HW0.out]
  cases E with
  | true =>
    have HT : Hid (V = S) := by show _ = _; rw [← HS.out]; simp
    go_wp2_with fail
    refine HSA.out.mono ?_
    rintro e w1 ⟨rfl, hb1⟩
    go_wp2
    go_ret
    exact ⟨by rw [← HT.out]; rfl, bext hb0 hb1⟩
  | false =>
    have HT : Hid (S = false) := by show _ = _; rw [← HS.out]; simp
    go_wp2_with fail
    go_ret
    exact ⟨by rw [HT.out]; rfl, hb0⟩
/-- hands back a map, in memory of its own -/
def GivesLm (c : Cfg) (L : Lv) (n : Int) (w : World) (r : Ending) (w' : World) : Prop := ∃ B k Rs, r = .returned (.agg (lrow c B Rs.length k n)) ∧ lvs Rs = L ∧ OwnRs w' w.heap.size B k Rs ∧ Below w.heap.size w w'
set_option maxHeartbeats 8000000 in
theorem twin27_any (B : Option Addr) (Rs : List Rm) (k : Nat) (c : Cfg) (n : Int) (w : World) (hB : RunsAt w B Rs) (hl : Rs.length ≤ 1000000) (hrs : ∀ r ∈ Rs, r.l.length ≤ 1000000) :
    Calls Tryz.prog 5 #[.agg (lrow c B Rs.length k n)] w (GivesLm c (lvs Rs) n w) := by
  obtain ⟨W0, hW0⟩ : ∃ W0, (w.alloc (.cells #[.int .u8 c.tag, .int .i64 c.most, .int .i64 c.seg, .int .i64 c.least, .int .i64 c.den, .int .i64 c.leafLow, .int .i64 c.rootLow, .int .i64 c.rootHigh, .int .i64 c.leafHigh, .slice B Rs.length k, .int .u64 n] 29)).alloc (.cells #[.int .u8 0, .int .i64 0, .int .i64 0, .int .i64 0, .int .i64 0, .int .i64 0, .int .i64 0, .int .i64 0, .int .i64 0, .slice none 0 0, .int .u64 0] 29) = W0 := ⟨_, rfl⟩
  have hb0 : Below w.heap.size w W0 := by rw [← hW0]; exact ((Below.refl _ _).alloc (Nat.le_refl _) _).alloc (by simp) _
  have b0 : Blk W0 w.heap.size 29 #[.int .u8 c.tag, .int .i64 c.most, .int .i64 c.seg, .int .i64 c.least, .int .i64 c.den, .int .i64 c.leafLow, .int .i64 c.rootLow, .int .i64 c.rootHigh, .int .i64 c.leafHigh, .slice B Rs.length k, .int .u64 n] := by rw [← hW0]; exact (Blk.new _ _ _).alloc _
  have br0 : Blk W0 (w.heap.size + 1) 29 #[.int .u8 0, .int .i64 0, .int .i64 0, .int .i64 0, .int .i64 0, .int .i64 0, .int .i64 0, .int .i64 0, .int .i64 0, .slice none 0 0, .int .u64 0] := by
    rw [← hW0]
    have := Blk.new (w.alloc (.cells #[.int .u8 c.tag, .int .i64 c.most, .int .i64 c.seg, .int .i64 c.least, .int .i64 c.den, .int .i64 c.leafLow, .int .i64 c.rootLow, .int .i64 c.rootHigh, .int .i64 c.leafHigh, .slice B Rs.length k, .int .u64 n] 29)) 29 #[.int .u8 0, .int .i64 0, .int .i64 0, .int .i64 0, .int .i64 0, .int .i64 0, .int .i64 0, .int .i64 0, .int .i64 0, .slice none 0 0, .int .u64 0]
    rwa [World.size_alloc] at this
  have HW0 := Lib.hid hW0
  have HB := Lib.hid (hB.below hb0)
  have HB0 := Lib.hid hb0
  have HC0 := Lib.hid b0
  have HR0 := Lib.hid br0
  have HB := Lib.hid hB
  have HHR := Lib.hid hrs
  clear hW0 hB hrs
  have q0 : W0.cell? ⟨w.heap.size, 0, none⟩ = some (.int .u8 c.tag) := b0.cell 0
  have q1 : W0.cell? ⟨w.heap.size, 1, none⟩ = some (.int .i64 c.most) := b0.cell 1
  have q2 : W0.cell? ⟨w.heap.size, 2, none⟩ = some (.int .i64 c.seg) := b0.cell 2
  have q3 : W0.cell? ⟨w.heap.size, 3, none⟩ = some (.int .i64 c.least) := b0.cell 3
  have q4 : W0.cell? ⟨w.heap.size, 4, none⟩ = some (.int .i64 c.den) := b0.cell 4
  have q5 : W0.cell? ⟨w.heap.size, 5, none⟩ = some (.int .i64 c.leafLow) := b0.cell 5
  have q6 : W0.cell? ⟨w.heap.size, 6, none⟩ = some (.int .i64 c.rootLow) := b0.cell 6
  have q7 : W0.cell? ⟨w.heap.size, 7, none⟩ = some (.int .i64 c.rootHigh) := b0.cell 7
  have q8 : W0.cell? ⟨w.heap.size, 8, none⟩ = some (.int .i64 c.leafHigh) := b0.cell 8
  have q9 : W0.cell? ⟨w.heap.size, 9, none⟩ = some (.slice B Rs.length k) := b0.cell 9
  have q10 : W0.cell? ⟨w.heap.size, 10, none⟩ = some (.int .u64 n) := b0.cell 10
  have y0 : W0.cell? ⟨(w.heap.size + 1), 0, none⟩ = some (.int .u8 0) := br0.cell 0
  have y1 : W0.cell? ⟨(w.heap.size + 1), 1, none⟩ = some (.int .i64 0) := br0.cell 1
  have y2 : W0.cell? ⟨(w.heap.size + 1), 2, none⟩ = some (.int .i64 0) := br0.cell 2
  have y3 : W0.cell? ⟨(w.heap.size + 1), 3, none⟩ = some (.int .i64 0) := br0.cell 3
  have y4 : W0.cell? ⟨(w.heap.size + 1), 4, none⟩ = some (.int .i64 0) := br0.cell 4
  have y5 : W0.cell? ⟨(w.heap.size + 1), 5, none⟩ = some (.int .i64 0) := br0.cell 5
  have y6 : W0.cell? ⟨(w.heap.size + 1), 6, none⟩ = some (.int .i64 0) := br0.cell 6
  have y7 : W0.cell? ⟨(w.heap.size + 1), 7, none⟩ = some (.int .i64 0) := br0.cell 7
  have y8 : W0.cell? ⟨(w.heap.size + 1), 8, none⟩ = some (.int .i64 0) := br0.cell 8
  have y9 : W0.cell? ⟨(w.heap.size + 1), 9, none⟩ = some (.slice none 0 0) := br0.cell 9
  have y10 : W0.cell? ⟨(w.heap.size + 1), 10, none⟩ = some (.int .u64 0) := br0.cell 10
  have fr0 := br0.frozen 0
  have fr1 := br0.frozen 1
  have fr2 := br0.frozen 2
  have fr3 := br0.frozen 3
  have fr4 := br0.frozen 4
  have fr5 := br0.frozen 5
  have fr6 := br0.frozen 6
  have fr7 := br0.frozen 7
  have fr8 := br0.frozen 8
  have fr9 := br0.frozen 9
  have fr10 := br0.frozen 10
  have l1 := b0.lt
  have l2 := br0.lt
  go_enter Tryz.func5, Tryz.ntmps5
  go_upto_region 1 with fail
  rw [HW0.out]
  go_region_with (go_at_call 16; refine (twin26_any B Rs k n _ (HB.out.below (bext hb0 (by first | exact (Below.refl _ _).drew | exact Below.refl _ _))) hl HHR.out).mono ?_; rintro e w5 ⟨A2, k2, R2, rfl, h51, h52, hb5⟩; have hb6 : Below W0.heap.size W0 w5 := (by first | exact hb5 | exact bext ((Below.refl _ _).drew) hb5); have d0 : w5.cell? ⟨w.heap.size, 0, none⟩ = some (.int .u8 c.tag) := ((bcell hb6).1 _ _ l1).trans q0; have d1 : w5.cell? ⟨w.heap.size, 1, none⟩ = some (.int .i64 c.most) := ((bcell hb6).1 _ _ l1).trans q1; have d2 : w5.cell? ⟨w.heap.size, 2, none⟩ = some (.int .i64 c.seg) := ((bcell hb6).1 _ _ l1).trans q2; have d3 : w5.cell? ⟨w.heap.size, 3, none⟩ = some (.int .i64 c.least) := ((bcell hb6).1 _ _ l1).trans q3; have d4 : w5.cell? ⟨w.heap.size, 4, none⟩ = some (.int .i64 c.den) := ((bcell hb6).1 _ _ l1).trans q4; have d5 : w5.cell? ⟨w.heap.size, 5, none⟩ = some (.int .i64 c.leafLow) := ((bcell hb6).1 _ _ l1).trans q5; have d6 : w5.cell? ⟨w.heap.size, 6, none⟩ = some (.int .i64 c.rootLow) := ((bcell hb6).1 _ _ l1).trans q6; have d7 : w5.cell? ⟨w.heap.size, 7, none⟩ = some (.int .i64 c.rootHigh) := ((bcell hb6).1 _ _ l1).trans q7; have d8 : w5.cell? ⟨w.heap.size, 8, none⟩ = some (.int .i64 c.leafHigh) := ((bcell hb6).1 _ _ l1).trans q8; have d9 : w5.cell? ⟨w.heap.size, 9, none⟩ = some (.slice B Rs.length k) := ((bcell hb6).1 _ _ l1).trans q9; have d10 : w5.cell? ⟨w.heap.size, 10, none⟩ = some (.int .u64 n) := ((bcell hb6).1 _ _ l1).trans q10; have b25 := br0.below hb6 l2; have e0 : w5.cell? ⟨w.heap.size + 1, 0, none⟩ = some (.int .u8 0) := b25.cell 0; have e1 : w5.cell? ⟨w.heap.size + 1, 1, none⟩ = some (.int .i64 0) := b25.cell 1; have e2 : w5.cell? ⟨w.heap.size + 1, 2, none⟩ = some (.int .i64 0) := b25.cell 2; have e3 : w5.cell? ⟨w.heap.size + 1, 3, none⟩ = some (.int .i64 0) := b25.cell 3; have e4 : w5.cell? ⟨w.heap.size + 1, 4, none⟩ = some (.int .i64 0) := b25.cell 4; have e5 : w5.cell? ⟨w.heap.size + 1, 5, none⟩ = some (.int .i64 0) := b25.cell 5; have e6 : w5.cell? ⟨w.heap.size + 1, 6, none⟩ = some (.int .i64 0) := b25.cell 6; have e7 : w5.cell? ⟨w.heap.size + 1, 7, none⟩ = some (.int .i64 0) := b25.cell 7; have e8 : w5.cell? ⟨w.heap.size + 1, 8, none⟩ = some (.int .i64 0) := b25.cell 8; have e9 : w5.cell? ⟨w.heap.size + 1, 9, none⟩ = some (.slice none 0 0) := b25.cell 9; have e10 : w5.cell? ⟨w.heap.size + 1, 10, none⟩ = some (.int .u64 0) := b25.cell 10; have ef0 := b25.frozen 0; have ef1 := b25.frozen 1; have ef2 := b25.frozen 2; have ef3 := b25.frozen 3; have ef4 := b25.frozen 4; have ef5 := b25.frozen 5; have ef6 := b25.frozen 6; have ef7 := b25.frozen 7; have ef8 := b25.frozen 8; have ef9 := b25.frozen 9; have ef10 := b25.frozen 10; have H51 := Lib.hid h51; have H52 := Lib.hid h52; have H6 := Lib.hid hb6; clear h51 h52 hb5 hb6)
  all_goals
    go_wp2_with fail
    have bz := put11 b25 (.int .u8 c.tag) (.int .i64 c.most) (.int .i64 c.seg) (.int .i64 c.least) (.int .i64 c.den) (.int .i64 c.leafLow) (.int .i64 c.rootLow) (.int .i64 c.rootHigh) (.int .i64 c.leafHigh) (.slice A2 R2.length k2) (.int .u64 n)
    have z0 := bz.cell 0
    have z1 := bz.cell 1
    have z2 := bz.cell 2
    have z3 := bz.cell 3
    have z4 := bz.cell 4
    have z5 := bz.cell 5
    have z6 := bz.cell 6
    have z7 := bz.cell 7
    have z8 := bz.cell 8
    have z9 := bz.cell 9
    have z10 := bz.cell 10
    simp only [List.getElem?_toArray, List.getElem?_cons_zero, List.getElem?_cons_succ] at z0 z1 z2 z3 z4 z5 z6 z7 z8 z9 z10
    refine bodyPost_ret (v := .agg #[.int .u8 c.tag, .int .i64 c.most, .int .i64 c.seg, .int .i64 c.least, .int .i64 c.den, .int .i64 c.leafLow, .int .i64 c.rootLow, .int .i64 c.rootHigh, .int .i64 c.leafHigh, .slice A2 R2.length k2, .int .u64 n]) (by simp [results, Tryz.results5, go_sem, z0, z1, z2, z3, z4, z5, z6, z7, z8, z9, z10]) rfl ?_
    exact ⟨A2, k2, R2, rfl, H51.out, (H52.out.mono (bext hb0 (Below.refl _ _)).size).set11 b25 (by decide) (by decide) _ _ _ _ _ _ _ _ _ _ _, below11 (bext hb0 H6.out) (Nat.le_succ _) _ _ _ _ _ _ _ _ _ _ _⟩
theorem all27_any (B : Option Addr) (Rs : List Rm) (k : Nat) (c : Cfg) (n : Int) (w : World) (hB : RunsAt w B Rs) (hT : tot (lvs Rs) ≤ 1000000) (hl : Rs.length ≤ 1000000) (hc : chkR (lvs Rs) = 0) :
    Calls Tryz.prog 37 #[.agg (lrow c B Rs.length k n)] w (GivesOwn 50 2 (prR (lvs Rs)).length ((prR (lvs Rs)).flatMap Pr.cells) w) := by
  obtain ⟨W0, hW0⟩ : ∃ W0, w.alloc (.cells #[.int .u8 c.tag, .int .i64 c.most, .int .i64 c.seg, .int .i64 c.least, .int .i64 c.den, .int .i64 c.leafLow, .int .i64 c.rootLow, .int .i64 c.rootHigh, .int .i64 c.leafHigh, .slice B Rs.length k, .int .u64 n] 29) = W0 := ⟨_, rfl⟩
  have hb0 : Below w.heap.size w W0 := by rw [← hW0]; exact (Below.refl _ _).alloc (Nat.le_refl _) _
  have b0 : Blk W0 w.heap.size 29 #[.int .u8 c.tag, .int .i64 c.most, .int .i64 c.seg, .int .i64 c.least, .int .i64 c.den, .int .i64 c.leafLow, .int .i64 c.rootLow, .int .i64 c.rootHigh, .int .i64 c.leafHigh, .slice B Rs.length k, .int .u64 n] := by rw [← hW0]; exact Blk.new _ _ _
  have HW0 := Lib.hid hW0
  have HB := Lib.hid (hB.below hb0)
  have HB0 := Lib.hid hb0
  have HC0 := Lib.hid b0
  have hp : prR (lvs Rs) = plainE (allE (inS Rs)) := by unfold prR; rw [if_pos hc, plain_all]
  have hal := all26_any B Rs k n W0 HB.out hl (rm_le (chkR_zero.1 hc)).1 hT
  rw [← hp] at hal
  obtain ⟨P, hP⟩ : ∃ P, prR (lvs Rs) = P := ⟨_, rfl⟩
  rw [hP] at hal
  rw [hP]
  have HAL := Lib.hid hal
  clear hW0 hB hal hp hP hc
  have q0 : W0.cell? ⟨w.heap.size, 0, none⟩ = some (.int .u8 c.tag) := b0.cell 0
  have q1 : W0.cell? ⟨w.heap.size, 1, none⟩ = some (.int .i64 c.most) := b0.cell 1
  have q2 : W0.cell? ⟨w.heap.size, 2, none⟩ = some (.int .i64 c.seg) := b0.cell 2
  have q3 : W0.cell? ⟨w.heap.size, 3, none⟩ = some (.int .i64 c.least) := b0.cell 3
  have q4 : W0.cell? ⟨w.heap.size, 4, none⟩ = some (.int .i64 c.den) := b0.cell 4
  have q5 : W0.cell? ⟨w.heap.size, 5, none⟩ = some (.int .i64 c.leafLow) := b0.cell 5
  have q6 : W0.cell? ⟨w.heap.size, 6, none⟩ = some (.int .i64 c.rootLow) := b0.cell 6
  have q7 : W0.cell? ⟨w.heap.size, 7, none⟩ = some (.int .i64 c.rootHigh) := b0.cell 7
  have q8 : W0.cell? ⟨w.heap.size, 8, none⟩ = some (.int .i64 c.leafHigh) := b0.cell 8
  have q9 : W0.cell? ⟨w.heap.size, 9, none⟩ = some (.slice B Rs.length k) := b0.cell 9
  have q10 : W0.cell? ⟨w.heap.size, 10, none⟩ = some (.int .u64 n) := b0.cell 10
  clear b0
  go_enter Tryz.func37, Tryz.ntmps37
  go_upto_region 1 with fail
  rw [HW0.out]
  go_wp2_with fail
  refine HAL.out.mono ?_
  rintro e w1 ⟨A1, c1, rfl, ho1, hb1⟩
  have HO1 := Lib.hid (own_mono ho1 HB0.out.size)
  have HB1 := Lib.hid (bext HB0.out hb1)
  clear ho1 hb1 q0 q1 q2 q3 q4 q5 q6 q7 q8 q9 q10
  go_wp2
  go_ret
  exact ⟨A1, c1, rfl, HO1.out, HB1.out⟩
theorem errL_by {c : Cfg} {L : Lv} {V : Int} (h : errL c L = V) : (okC c = false → V = 50) ∧ (okC c = true → mayB L = false → V = 8) ∧ (okC c = true → mayB L = true → ((c.most < (prR L).length ∨ 2 * ((prR L).length : Int) + 2 < (tot L : Int)) → V = 8) ∧ (((prR L).length : Int) ≤ c.most → (tot L : Int) ≤ 2 * ((prR L).length : Int) + 2 → V = 0)) := by
  unfold errL errC at h
  have hm := chkR_may L
  refine ⟨fun h1 => ?_, fun h1 h2 => ?_, fun h1 h2 => ⟨fun h3 => ?_, fun h3 h4 => ?_⟩⟩
  · rw [h1] at h; simpa using h.symm
  · rw [h2] at hm
    rw [h1, if_pos rfl, if_pos rfl, if_neg (fun h5 => by rw [hm] at h5; simp at h5)] at h
    exact h.symm
  · rw [h2] at hm
    rw [h1, if_pos rfl, if_pos rfl, if_neg (fun h5 => by omega)] at h
    exact h.symm
  · rw [h2] at hm
    rw [h1, if_pos rfl, if_pos rfl, if_pos ⟨by rw [hm]; rfl, h3, by omega⟩] at h
    exact h.symm
set_option maxHeartbeats 8000000 in
theorem check27_any (B : Option Addr) (Rs : List Rm) (k : Nat) (c : Cfg) (n : Int) (w : World) (hB : RunsAt w B Rs) (hT : tot (lvs Rs) ≤ 1000000) (hl : Rs.length ≤ 1000000) :
    Calls Tryz.prog 19 #[.agg (lrow c B Rs.length k n)] w fun r w' => r = .returned (.int .i64 (errL c (lvs Rs))) ∧ Below w.heap.size w w' := by
  obtain ⟨W0, hW0⟩ : ∃ W0, w.alloc (.cells #[.int .u8 c.tag, .int .i64 c.most, .int .i64 c.seg, .int .i64 c.least, .int .i64 c.den, .int .i64 c.leafLow, .int .i64 c.rootLow, .int .i64 c.rootHigh, .int .i64 c.leafHigh, .slice B Rs.length k, .int .u64 n] 29) = W0 := ⟨_, rfl⟩
  have hb0 : Below w.heap.size w W0 := by rw [← hW0]; exact (Below.refl _ _).alloc (Nat.le_refl _) _
  have b0 : Blk W0 w.heap.size 29 #[.int .u8 c.tag, .int .i64 c.most, .int .i64 c.seg, .int .i64 c.least, .int .i64 c.den, .int .i64 c.leafLow, .int .i64 c.rootLow, .int .i64 c.rootHigh, .int .i64 c.leafHigh, .slice B Rs.length k, .int .u64 n] := by rw [← hW0]; exact Blk.new _ _ _
  have HW0 := Lib.hid hW0
  have HB := Lib.hid (hB.below hb0)
  have HB0 := Lib.hid hb0
  have HC0 := Lib.hid b0
  have hmy := fun W => may05_any c W
  have hm6 := fun W (hW : Below W0.heap.size W0 W) => may26_any B Rs k n W (HB.out.below hW) hT hl
  have hen := fun W (hW : Below W0.heap.size W0 W) => entries26_any B Rs k n W (HB.out.below hW) hT hl
  have hal := fun hc W (hW : Below W0.heap.size W0 W) => all27_any B Rs k c n W (HB.out.below hW) hT hl hc
  obtain ⟨V, hV⟩ : ∃ V, errL c (lvs Rs) = V := ⟨_, rfl⟩
  rw [hV]
  have hby := errL_by hV
  have hcm := chkR_may (lvs Rs)
  have hPT : chkR (lvs Rs) = 0 → (prR (lvs Rs)).length ≤ tot (lvs Rs) := fun h => by rw [prR_len h]; exact allL_le
  obtain ⟨K, hK⟩ : ∃ K, okC c = K := ⟨_, rfl⟩
  obtain ⟨M, hM⟩ : ∃ M, mayB (lvs Rs) = M := ⟨_, rfl⟩
  obtain ⟨P, hP⟩ : ∃ P, prR (lvs Rs) = P := ⟨_, rfl⟩
  obtain ⟨T, hTT⟩ : ∃ T, tot (lvs Rs) = T := ⟨_, rfl⟩
  rw [hK] at hmy hby
  rw [hM] at hm6 hby hcm
  rw [hP] at hal hby hPT
  rw [hTT] at hen hby hPT hT
  have HMY := Lib.hid hmy
  have HM6 := Lib.hid hm6
  have HEN := Lib.hid hen
  have HAL := Lib.hid hal
  have HBY := Lib.hid hby
  have HCM := Lib.hid hcm
  have HPT := Lib.hid hPT
  clear hW0 hB hmy hm6 hen hal hby hcm hV hK hM hP hTT hPT
  have q0 : W0.cell? ⟨w.heap.size, 0, none⟩ = some (.int .u8 c.tag) := b0.cell 0
  have q1 : W0.cell? ⟨w.heap.size, 1, none⟩ = some (.int .i64 c.most) := b0.cell 1
  have q2 : W0.cell? ⟨w.heap.size, 2, none⟩ = some (.int .i64 c.seg) := b0.cell 2
  have q3 : W0.cell? ⟨w.heap.size, 3, none⟩ = some (.int .i64 c.least) := b0.cell 3
  have q4 : W0.cell? ⟨w.heap.size, 4, none⟩ = some (.int .i64 c.den) := b0.cell 4
  have q5 : W0.cell? ⟨w.heap.size, 5, none⟩ = some (.int .i64 c.leafLow) := b0.cell 5
  have q6 : W0.cell? ⟨w.heap.size, 6, none⟩ = some (.int .i64 c.rootLow) := b0.cell 6
  have q7 : W0.cell? ⟨w.heap.size, 7, none⟩ = some (.int .i64 c.rootHigh) := b0.cell 7
  have q8 : W0.cell? ⟨w.heap.size, 8, none⟩ = some (.int .i64 c.leafHigh) := b0.cell 8
  have q9 : W0.cell? ⟨w.heap.size, 9, none⟩ = some (.slice B Rs.length k) := b0.cell 9
  have q10 : W0.cell? ⟨w.heap.size, 10, none⟩ = some (.int .u64 n) := b0.cell 10
  clear b0
  go_enter Tryz.func19, Tryz.ntmps19
  go_upto_region 1 with fail
  rw [HW0.out]
  go_wp2_with fail
  refine (HMY.out _).mono ?_
  rintro e w1 ⟨rfl, hb1⟩
  have HBX := Lib.hid (bext HB0.out hb1)
  have b1 := HC0.out.below hb1 HC0.out.lt
  have HC1 := Lib.hid b1
  have HS1 := Lib.hid hb1
  clear hb1 hb0 q0 q1 q2 q3 q4 q5 q6 q7 q8 q9 q10
  have q0 : w1.cell? ⟨w.heap.size, 0, none⟩ = some (.int .u8 c.tag) := b1.cell 0
  have q1 : w1.cell? ⟨w.heap.size, 1, none⟩ = some (.int .i64 c.most) := b1.cell 1
  have q2 : w1.cell? ⟨w.heap.size, 2, none⟩ = some (.int .i64 c.seg) := b1.cell 2
  have q3 : w1.cell? ⟨w.heap.size, 3, none⟩ = some (.int .i64 c.least) := b1.cell 3
  have q4 : w1.cell? ⟨w.heap.size, 4, none⟩ = some (.int .i64 c.den) := b1.cell 4
  have q5 : w1.cell? ⟨w.heap.size, 5, none⟩ = some (.int .i64 c.leafLow) := b1.cell 5
  have q6 : w1.cell? ⟨w.heap.size, 6, none⟩ = some (.int .i64 c.rootLow) := b1.cell 6
  have q7 : w1.cell? ⟨w.heap.size, 7, none⟩ = some (.int .i64 c.rootHigh) := b1.cell 7
  have q8 : w1.cell? ⟨w.heap.size, 8, none⟩ = some (.int .i64 c.leafHigh) := b1.cell 8
  have q9 : w1.cell? ⟨w.heap.size, 9, none⟩ = some (.slice B Rs.length k) := b1.cell 9
  have q10 : w1.cell? ⟨w.heap.size, 10, none⟩ = some (.int .u64 n) := b1.cell 10
  clear b1
  cases K with
  | false =>
    have HF := Lib.hid (HBY.out.1 rfl)
    go_wp2_with fail
    go_ret
    exact ⟨by rw [HF.out]; rfl, HBX.out⟩
  | true =>
  go_wp2_with fail
  refine (HM6.out _ HS1.out).mono ?_
  rintro e w2 ⟨rfl, hb2⟩
  have HBX := Lib.hid (bext HBX.out hb2)
  have b2 := HC1.out.below hb2 HC1.out.lt
  have HC2 := Lib.hid b2
  have HS2 := Lib.hid (bext HS1.out hb2)
  clear hb2 q0 q1 q2 q3 q4 q5 q6 q7 q8 q9 q10
  have q0 : w2.cell? ⟨w.heap.size, 0, none⟩ = some (.int .u8 c.tag) := b2.cell 0
  have q1 : w2.cell? ⟨w.heap.size, 1, none⟩ = some (.int .i64 c.most) := b2.cell 1
  have q2 : w2.cell? ⟨w.heap.size, 2, none⟩ = some (.int .i64 c.seg) := b2.cell 2
  have q3 : w2.cell? ⟨w.heap.size, 3, none⟩ = some (.int .i64 c.least) := b2.cell 3
  have q4 : w2.cell? ⟨w.heap.size, 4, none⟩ = some (.int .i64 c.den) := b2.cell 4
  have q5 : w2.cell? ⟨w.heap.size, 5, none⟩ = some (.int .i64 c.leafLow) := b2.cell 5
  have q6 : w2.cell? ⟨w.heap.size, 6, none⟩ = some (.int .i64 c.rootLow) := b2.cell 6
  have q7 : w2.cell? ⟨w.heap.size, 7, none⟩ = some (.int .i64 c.rootHigh) := b2.cell 7
  have q8 : w2.cell? ⟨w.heap.size, 8, none⟩ = some (.int .i64 c.leafHigh) := b2.cell 8
  have q9 : w2.cell? ⟨w.heap.size, 9, none⟩ = some (.slice B Rs.length k) := b2.cell 9
  have q10 : w2.cell? ⟨w.heap.size, 10, none⟩ = some (.int .u64 n) := b2.cell 10
  clear b2
  cases M with
  | false =>
    have HF := Lib.hid (HBY.out.2.1 (by first | trivial | rfl) (by first | trivial | rfl))
    go_wp2_with fail
    go_ret
    exact ⟨by rw [HF.out]; rfl, HBX.out⟩
  | true =>
  have hc0 : chkR (lvs Rs) = 0 := HCM.out
  have hpt := HPT.out hc0
  go_wp2_with fail
  refine (HAL.out hc0 _ HS2.out).mono ?_
  clear hc0
  rintro e w3 ⟨A3, c3, rfl, ho3, hb3⟩
  have HBX := Lib.hid (bext HBX.out hb3)
  have b3 := HC2.out.below hb3 HC2.out.lt
  have HC3 := Lib.hid b3
  have HS3 := Lib.hid (bext HS2.out hb3)
  clear hb3 ho3 q0 q1 q2 q3 q4 q5 q6 q7 q8 q9 q10
  have q0 : w3.cell? ⟨w.heap.size, 0, none⟩ = some (.int .u8 c.tag) := b3.cell 0
  have q1 : w3.cell? ⟨w.heap.size, 1, none⟩ = some (.int .i64 c.most) := b3.cell 1
  have q2 : w3.cell? ⟨w.heap.size, 2, none⟩ = some (.int .i64 c.seg) := b3.cell 2
  have q3 : w3.cell? ⟨w.heap.size, 3, none⟩ = some (.int .i64 c.least) := b3.cell 3
  have q4 : w3.cell? ⟨w.heap.size, 4, none⟩ = some (.int .i64 c.den) := b3.cell 4
  have q5 : w3.cell? ⟨w.heap.size, 5, none⟩ = some (.int .i64 c.leafLow) := b3.cell 5
  have q6 : w3.cell? ⟨w.heap.size, 6, none⟩ = some (.int .i64 c.rootLow) := b3.cell 6
  have q7 : w3.cell? ⟨w.heap.size, 7, none⟩ = some (.int .i64 c.rootHigh) := b3.cell 7
  have q8 : w3.cell? ⟨w.heap.size, 8, none⟩ = some (.int .i64 c.leafHigh) := b3.cell 8
  have q9 : w3.cell? ⟨w.heap.size, 9, none⟩ = some (.slice B Rs.length k) := b3.cell 9
  have q10 : w3.cell? ⟨w.heap.size, 10, none⟩ = some (.int .u64 n) := b3.cell 10
  clear b3
  have hv := HBY.out.2.2 (by first | trivial | rfl) (by first | trivial | rfl)
  have HV := Lib.hid hv
  clear hv
  by_cases h1 : c.most < (P.length : Int)
  · have HF := Lib.hid (HV.out.1 (.inl h1))
    go_wp2_with fail
    go_ret
    exact ⟨by rw [HF.out]; rfl, HBX.out⟩
  · have hw1 : IntKind.i64.wrap (2 * (P.length : Int)) = 2 * (P.length : Int) := IntWalk.i64_in _ (by omega)
    have hw2 : IntKind.i64.wrap (2 * (P.length : Int) + 2) = 2 * (P.length : Int) + 2 := IntWalk.i64_in _ (by omega)
    go_wp2_with fail
    refine (HEN.out _ HS3.out).mono ?_
    rintro e w4 ⟨rfl, hb4⟩
    have HBX := Lib.hid (bext HBX.out hb4)
    clear hb4 q0 q1 q2 q3 q4 q5 q6 q7 q8 q9 q10
    by_cases h2 : 2 * (P.length : Int) + 2 < (T : Int)
    · have HF := Lib.hid (HV.out.1 (.inr h2))
      go_wp2_with fail
      go_ret
      exact ⟨by rw [HF.out]; rfl, HBX.out⟩
    · have HF := Lib.hid (HV.out.2 (by omega) (by omega))
      go_wp2_with fail
      go_ret
      exact ⟨by rw [HF.out]; rfl, HBX.out⟩
set_option maxHeartbeats 8000000 in
theorem pairs27_any (B : Option Addr) (Rs : List Rm) (k : Nat) (c : Cfg) (n : Int) (w : World) (hB : RunsAt w B Rs) (hT : tot (lvs Rs) ≤ 1000000) (hl : Rs.length ≤ 1000000) :
    Calls Tryz.prog 26 #[.agg (lrow c B Rs.length k n)] w (GivesPrs (prD c (lvs Rs)) (errL c (lvs Rs)) w) := by
  obtain ⟨W0, hW0⟩ : ∃ W0, w.alloc (.cells #[.int .u8 c.tag, .int .i64 c.most, .int .i64 c.seg, .int .i64 c.least, .int .i64 c.den, .int .i64 c.leafLow, .int .i64 c.rootLow, .int .i64 c.rootHigh, .int .i64 c.leafHigh, .slice B Rs.length k, .int .u64 n] 29) = W0 := ⟨_, rfl⟩
  have hb0 : Below w.heap.size w W0 := by rw [← hW0]; exact (Below.refl _ _).alloc (Nat.le_refl _) _
  have b0 : Blk W0 w.heap.size 29 #[.int .u8 c.tag, .int .i64 c.most, .int .i64 c.seg, .int .i64 c.least, .int .i64 c.den, .int .i64 c.leafLow, .int .i64 c.rootLow, .int .i64 c.rootHigh, .int .i64 c.leafHigh, .slice B Rs.length k, .int .u64 n] := by rw [← hW0]; exact Blk.new _ _ _
  have HW0 := Lib.hid hW0
  have HB := Lib.hid (hB.below hb0)
  have HB0 := Lib.hid hb0
  have HC0 := Lib.hid b0
  have hck := check27_any B Rs k c n W0 HB.out hT hl
  have hal := fun hc W (hW : Below W0.heap.size W0 W) => all27_any B Rs k c n W (HB.out.below hW) hT hl hc
  have hpd : prD c (lvs Rs) = if errL c (lvs Rs) = 0 then prR (lvs Rs) else [] := rfl
  have hz := fun h : errL c (lvs Rs) = 0 => (errL_zero h).2.1
  obtain ⟨V, hV⟩ : ∃ V, errL c (lvs Rs) = V := ⟨_, rfl⟩
  obtain ⟨D, hD⟩ : ∃ D, prD c (lvs Rs) = D := ⟨_, rfl⟩
  obtain ⟨P, hP⟩ : ∃ P, prR (lvs Rs) = P := ⟨_, rfl⟩
  rw [hV] at hck hpd hz
  rw [hP] at hal hpd
  rw [hD] at hpd
  rw [hV, hD]
  have HCK := Lib.hid hck
  have HAL := Lib.hid hal
  have HPD := Lib.hid hpd
  have HZ := Lib.hid hz
  clear hW0 hB hck hal hpd hz hV hD hP
  have q0 : W0.cell? ⟨w.heap.size, 0, none⟩ = some (.int .u8 c.tag) := b0.cell 0
  have q1 : W0.cell? ⟨w.heap.size, 1, none⟩ = some (.int .i64 c.most) := b0.cell 1
  have q2 : W0.cell? ⟨w.heap.size, 2, none⟩ = some (.int .i64 c.seg) := b0.cell 2
  have q3 : W0.cell? ⟨w.heap.size, 3, none⟩ = some (.int .i64 c.least) := b0.cell 3
  have q4 : W0.cell? ⟨w.heap.size, 4, none⟩ = some (.int .i64 c.den) := b0.cell 4
  have q5 : W0.cell? ⟨w.heap.size, 5, none⟩ = some (.int .i64 c.leafLow) := b0.cell 5
  have q6 : W0.cell? ⟨w.heap.size, 6, none⟩ = some (.int .i64 c.rootLow) := b0.cell 6
  have q7 : W0.cell? ⟨w.heap.size, 7, none⟩ = some (.int .i64 c.rootHigh) := b0.cell 7
  have q8 : W0.cell? ⟨w.heap.size, 8, none⟩ = some (.int .i64 c.leafHigh) := b0.cell 8
  have q9 : W0.cell? ⟨w.heap.size, 9, none⟩ = some (.slice B Rs.length k) := b0.cell 9
  have q10 : W0.cell? ⟨w.heap.size, 10, none⟩ = some (.int .u64 n) := b0.cell 10
  clear b0
  go_enter Tryz.func26, Tryz.ntmps26
  go_upto_region 1 with fail
  rw [HW0.out]
  go_wp2_with fail
  refine HCK.out.mono ?_
  rintro e w1 ⟨rfl, hb1⟩
  have HBX := Lib.hid (bext HB0.out hb1)
  have b1 := HC0.out.below hb1 HC0.out.lt
  have HS1 := Lib.hid hb1
  clear hb1 hb0 q0 q1 q2 q3 q4 q5 q6 q7 q8 q9 q10
  have q0 : w1.cell? ⟨w.heap.size, 0, none⟩ = some (.int .u8 c.tag) := b1.cell 0
  have q1 : w1.cell? ⟨w.heap.size, 1, none⟩ = some (.int .i64 c.most) := b1.cell 1
  have q2 : w1.cell? ⟨w.heap.size, 2, none⟩ = some (.int .i64 c.seg) := b1.cell 2
  have q3 : w1.cell? ⟨w.heap.size, 3, none⟩ = some (.int .i64 c.least) := b1.cell 3
  have q4 : w1.cell? ⟨w.heap.size, 4, none⟩ = some (.int .i64 c.den) := b1.cell 4
  have q5 : w1.cell? ⟨w.heap.size, 5, none⟩ = some (.int .i64 c.leafLow) := b1.cell 5
  have q6 : w1.cell? ⟨w.heap.size, 6, none⟩ = some (.int .i64 c.rootLow) := b1.cell 6
  have q7 : w1.cell? ⟨w.heap.size, 7, none⟩ = some (.int .i64 c.rootHigh) := b1.cell 7
  have q8 : w1.cell? ⟨w.heap.size, 8, none⟩ = some (.int .i64 c.leafHigh) := b1.cell 8
  have q9 : w1.cell? ⟨w.heap.size, 9, none⟩ = some (.slice B Rs.length k) := b1.cell 9
  have q10 : w1.cell? ⟨w.heap.size, 10, none⟩ = some (.int .u64 n) := b1.cell 10
  clear b1
  by_cases hv : V = 0
  case neg =>
    have h1 : (V != 0) = true := by simpa using hv
    have HF : Hid (D = []) := by show _ = _; rw [HPD.out, if_neg hv]
    clear hv
    go_wp2_with fail
    refine bodyPost_ret (v := .tuple #[.slice none 0 0, .int .i64 V]) (by simp [results, Tryz.results26, go_sem]) rfl ?_
    rw [HF.out]
    exact ⟨none, 0, rfl, World.ownsRow_nil _ _ _ _, HBX.out⟩
  case pos =>
  have HF : Hid (D = P) := by show _ = _; rw [HPD.out, if_pos hv]
  have hc0 := HZ.out hv
  subst hv
  go_wp2_with fail
  refine (HAL.out hc0 _ HS1.out).mono ?_
  rintro e w2 ⟨A2, c2, rfl, ho2, hb2⟩
  have HO2 := Lib.hid (own_mono (B' := w.heap.size) ho2 HBX.out.size)
  have HBX := Lib.hid (bext HBX.out hb2)
  clear ho2 hb2 q0 q1 q2 q3 q4 q5 q6 q7 q8 q9 q10
  go_wp2
  refine bodyPost_ret (v := .tuple #[.slice A2 P.length c2, .int .i64 0]) (by simp [results, Tryz.results26, go_sem]) rfl ?_
  rw [HF.out]
  exact ⟨A2, c2, rfl, HO2.out, HBX.out⟩
end Go.Proofs.YtolclahkfmplfaaGreat

/- Reading a law's arguments as data, and the last step of a law's row: it returned true and nothing that was there has turned. No program in sight. -/
namespace Go.Proofs.YtolclahkfmplfaaGreat
open Go Go.ChangeShapes Go.WideShapes Go.ChangeAt Go.RowKit Go.Deep

section
variable {H : Type} {enc : TypeId × Value → H} {P : Program}

theorem trodAll_stays (hl : laidOutB P = true) {W W' : World} {sp : Nat → Bool} : ∀ {ts : List TypeId} {vs : List Value} {ds : List (DataW H)} {ps : List MemPlace},
    (∀ t ∈ ts, P.readableRec t = true ∧ t < P.types.size) → DataW.TrodAll enc P W 0 (fun _ => true) true ts vs ds ps → (∀ p ∈ ps, W.sameAt W' p) → (∀ p ∈ ps, sp p.block = true) →
    DataW.TrodAll enc P W' 0 sp true ts vs ds ps := by
  intro ts
  induction ts with
  | nil =>
    intro vs ds ps _ h _ _
    obtain ⟨rfl, rfl, rfl⟩ := trodAll_nil h
    exact trodAll_mk0
  | cons t ts ih =>
    intro vs ds ps hr h hs hsp
    obtain ⟨v, vs', d, ds', p, q, rfl, rfl, rfl, h0, h1⟩ := trodAll_cons h
    exact ⟨p, q, WideElems.Trod_stays hl (hr t (by simp)).1 (hr t (by simp)).2 h0 (fun x hx => hs x (by simp [hx])) (fun x hx => hsp x (by simp [hx])),
      ih (fun t' ht' => hr t' (by simp [ht'])) h1 (fun x hx => hs x (by simp [hx])) (fun x hx => hsp x (by simp [hx])), rfl⟩

/-- a law's row, its last step -/
theorem law_post {f : Func} {s : ChangeSpec} {W W' : World} {args : Array Value} {ds : List (DataW H)} {before : List MemPlace} {tb : TypeId}
    (hl : laidOutB P = true) (hr : ∀ t ∈ f.params.toList, P.readableRec t = true ∧ t < P.types.size) (hv : s.vars = [])
    (hW : DataW.Whole enc P f.params.toList s.vars false W args.toList ds [] before)
    (hres : (s.fn H (ds ++ [])).results = [.lit (.bool true)]) (harg : (s.fn H (ds ++ [])).args = ds) (hvr : (s.fn H (ds ++ [])).vars = [])
    (hrt : f.resultTypes = #[tb]) (hbt : P.underlying tb = some .bool) (hb : Below W.heap.size W W') :
    s.post enc P f false true false false W args (.bool true) W' := by
  have hlt := hW.lt
  have hW0 := hW
  obtain ⟨p, q, hA, hV, rfl, _, _⟩ := hW
  rw [hv] at hV
  obtain ⟨_, rfl⟩ := trodVars_none hV
  refine ⟨ds, [], p ++ [], [], p, [], hW0, ?_, ?_, ?_, World.keptBut_mono (fun x hx => ⟨hx, ?_⟩) (hb.frame (· ∈ p ++ [])), fun h => by cases h⟩
  · rw [hres, hrt]
    exact trodAll_cons_mk (shut_bool hbt _) trodAll_mk0
  · rw [harg]
    refine trodAll_stays hl hr hA (fun x hx => hb.same (hlt x (by simp [hx]))) (fun x hx => ?_)
    have := hlt x (by simp [hx])
    simpa using this
  · rw [hv, hvr]; rfl
  · rw [List.append_nil] at hx; exact .inr (.inl hx)

theorem addr_flat {w : World} {a : Addr} {v : Value} (h : w.cell? a = some v) : a = ⟨a.block, a.off, none⟩ := by
  obtain ⟨b, o, s⟩ := a
  cases s with
  | none => rfl
  | some s =>
    unfold World.cell? at h
    split at h <;> simp at h

/-- a slice's reading, where each element's cells are those of some datum x of which R holds -/
theorem read_slice {α : Type} {w : World} {t e : TypeId} {s fuel : Nat} {v : Value} {x : DataW H × List MemPlace} (f : α → List Value) (R : α → Prop) (hf : ∀ x, (f x).length = s) (hs : 0 < s)
    (ht : P.underlying t = some (.slice e)) (hc : P.cellsOf e = s)
    (hdec : ∀ fuel cs y, DataW.trod enc P w 0 (fun _ => true) true fuel e cs = some y → ∃ x, cs = f x ∧ R x)
    (hv : ∃ a len cap, v = .slice a len cap) (h : DataW.trod enc P w 0 (fun _ => true) true fuel t v.cells.toList = some x) :
    ∃ (A : Option Addr) (l : List α) (c : Nat), v = .slice A l.length c ∧ l.length ≤ c ∧ c ≤ maxLen ∧ Sl w A (l.flatMap f) ∧ ∀ x ∈ l, R x := by
  obtain ⟨a0, len0, cap0, rfl⟩ := hv
  rcases open_slice ht h with ⟨hcs, _⟩ | ⟨a, len, cap, m, n, D, Pl, hcs, -, hlc, hcm, hm, -, hi⟩
  · simp only [Value.cells] at hcs
    injection hcs with hcs _
    rw [hcs]
    exact ⟨none, [], 0, rfl, Nat.le_refl _, Nat.zero_le _, .inl rfl, by simp⟩
  · simp only [Value.cells] at hcs
    injection hcs with hcs _
    rw [hcs]
    have hlm : len ≤ m := by rw [hm]; simp; exact hlc
    have hx : ∀ i, i < len → ∃ x, (∀ j, j < s → w.cell? (a.add (i * s + j)) = (f x)[j]?) ∧ R x := fun i hil => by
      obtain ⟨cs', h1, h2⟩ := hi i (by omega)
      obtain ⟨x, rfl, hR⟩ := hdec _ _ _ h2
      rw [hc] at h1
      obtain ⟨_, _, h3⟩ := World.cells?_some h1
      refine ⟨x, fun j hj => ?_, hR⟩
      rw [← h3 j hj, Go.Deep.add_add]
    have hl : ∃ l : List α, l.length = len ∧ ∀ i (hil : i < l.length), (∀ j, j < s → w.cell? (a.add (i * s + j)) = (f (l[i]'hil))[j]?) ∧ R (l[i]'hil) := by
      clear hi hlm hcs hm hlc hcm h
      induction len with
      | zero => exact ⟨[], rfl, fun i hil => by simp at hil⟩
      | succ len ih =>
        obtain ⟨l, hl, hg⟩ := ih fun i hi => hx i (by omega)
        obtain ⟨y, hy⟩ := hx len (by omega)
        refine ⟨l ++ [y], by simp [hl], fun i hil => ?_⟩
        by_cases e : i < l.length
        · rw [List.getElem_append_left e]; exact hg i e
        · have : i = len := by simp at hil; omega
          subst this
          rw [List.getElem_append_right (by omega)]
          simpa [hl] using hy
    obtain ⟨l, rfl, hg⟩ := hl
    refine ⟨some a, l, cap, rfl, hlc, hcm, ?_, fun x hx => ?_⟩
    · by_cases h0 : l.length = 0
      · left; rw [List.eq_nil_of_length_eq_zero h0]; rfl
      · right
        have hc0 := (hg 0 (by omega)).1 0 hs
        have hf0 : (f (l[0]'(by omega)))[0]? = some ((f (l[0]'(by omega)))[0]'(by rw [hf]; exact hs)) := List.getElem?_eq_getElem _
        rw [hf0] at hc0
        have ha0 : a.add (0 * s + 0) = a := by simp [Addr.add]
        rw [ha0] at hc0
        have ha := addr_flat hc0
        refine ⟨a.block, a.off, by rw [← ha], World.block_lt_of_cell? w a hc0, fun j u hu => ?_⟩
        have hjl : j < l.length * s := by
          have := (List.getElem?_eq_some_iff.1 hu).1
          rwa [flat_length f s hf] at this
        have hi : j / s < l.length := Nat.div_lt_of_lt_mul (by rw [Nat.mul_comm]; exact hjl)
        have hjs : j % s < s := Nat.mod_lt _ hs
        have hj : j / s * s + j % s = j := by rw [Nat.mul_comm]; exact Nat.div_add_mod j s
        have hc1 := (hg (j / s) hi).1 (j % s) hjs
        rw [hj] at hc1
        have hfl := flat_get f s hf l (j / s) (j % s) hi hjs
        rw [hj, hu] at hfl
        rw [← hfl] at hc1
        rw [ha, Addr.add_lit] at hc1
        exact hc1
    · obtain ⟨i, hi, rfl⟩ := List.getElem_of_mem hx
      exact (hg i hi).2

theorem dec_ent {w : World} {e ti tb : TypeId} (he : P.underlying e = some (.struct #[⟨ "Key", ti, 0, false, "", "", 0⟩, ⟨ "Val", ti, 1, false, "", "", 8⟩, ⟨ "Dead", tb, 2, false, "", "", 16⟩]))
    (hi : P.underlying ti = some (.int .i64)) (hb : P.underlying tb = some .bool) (hc : P.cellsOf e = 3) (hci : P.cellsOf ti = 1) (hcb : P.cellsOf tb = 1)
    (fuel : Nat) (cs : List Value) (y : DataW H × List MemPlace) (h : DataW.trod enc P w 0 (fun _ => true) true fuel e cs = some y) : ∃ x : Ent, cs = x.cells ∧ True := by
  obtain ⟨xs, n, _, _, hlen, hxl, hf⟩ := DataW.trod_struct he h
  rw [hc] at hlen
  match cs, hlen with
  | [c0, c1, c2], _ =>
    match xs, hxl with
    | [x0, x1, x2], _ =>
      have h0 := hf 0 ⟨ "Key", ti, 0, false, "", "", 0⟩ rfl
      have h1 := hf 1 ⟨ "Val", ti, 1, false, "", "", 8⟩ rfl
      have h2 := hf 2 ⟨ "Dead", tb, 2, false, "", "", 16⟩ rfl
      dsimp only at h0 h1 h2
      rw [hci] at h0 h1
      rw [hcb] at h2
      obtain ⟨k, e0, _⟩ := DataW.trod_int hi h0
      obtain ⟨v, e1, _⟩ := DataW.trod_int hi h1
      obtain ⟨d, e2, _⟩ := DataW.trod_bool hb h2
      simp at e0 e1 e2
      subst e0 e1 e2
      exact ⟨⟨k, v, d⟩, rfl, trivial⟩

theorem dec_pr {w : World} {e ti : TypeId} (he : P.underlying e = some (.struct #[⟨ "Key", ti, 0, false, "", "", 0⟩, ⟨ "Val", ti, 1, false, "", "", 8⟩]))
    (hi : P.underlying ti = some (.int .i64)) (hc : P.cellsOf e = 2) (hci : P.cellsOf ti = 1)
    (fuel : Nat) (cs : List Value) (y : DataW H × List MemPlace) (h : DataW.trod enc P w 0 (fun _ => true) true fuel e cs = some y) : ∃ x : Pr, cs = x.cells ∧ True := by
  obtain ⟨xs, n, _, _, hlen, hxl, hf⟩ := DataW.trod_struct he h
  rw [hc] at hlen
  match cs, hlen with
  | [c0, c1], _ =>
    match xs, hxl with
    | [x0, x1], _ =>
      have h0 := hf 0 ⟨ "Key", ti, 0, false, "", "", 0⟩ rfl
      have h1 := hf 1 ⟨ "Val", ti, 1, false, "", "", 8⟩ rfl
      dsimp only at h0 h1
      rw [hci] at h0 h1
      obtain ⟨k, e0, _⟩ := DataW.trod_int hi h0
      obtain ⟨v, e1, _⟩ := DataW.trod_int hi h1
      simp at e0 e1
      subst e0 e1
      exact ⟨⟨k, v⟩, rfl, trivial⟩
end
end Go.Proofs.YtolclahkfmplfaaGreat

/- The arguments of this seat's laws, read as data. -/
namespace Go.Proofs.YtolclahkfmplfaaGreat
open Go Go.ChangeShapes Go.WideShapes Go.ChangeAt Go.RowKit
set_option maxRecDepth 100000

theorem own : ownKnob Tryz.prog.godebug = none := by kernel_rfl
theorem laidOut : laidOutB Tryz.prog = true := by kernel_rfl

theorem read_ents {H : Type} {enc : TypeId × Value → H} {w : World} {base : Nat} {v : Value} {d : DataW H} {p : List MemPlace} (hok : Value.okWide Tryz.prog w .any base 56 v)
    (h : DataW.Trod enc Tryz.prog w 0 (fun _ => true) true 56 v d p) : ∃ (A : Option Addr) (l : List Ent) (c : Nat), v = .slice A l.length c ∧ l.length ≤ c ∧ c ≤ maxLen ∧ Sl w A (l.flatMap Ent.cells) := by
  obtain ⟨fuel, hf⟩ := h
  obtain ⟨A, l, c, h1, h2, h3, h4, _⟩ := read_slice Ent.cells (fun _ => True) Ent.cells_length (by omega) Tryz.underlying56 (by kernel_rfl)
    (fun fuel cs y h => dec_ent Tryz.underlying68 Tryz.underlying2 Tryz.underlying4 (by kernel_rfl) (by kernel_rfl) (by kernel_rfl) fuel cs y h) (okWide_slice Tryz.underlying56 hok) hf
  exact ⟨A, l, c, h1, h2, h3, h4⟩

theorem read_prs {H : Type} {enc : TypeId × Value → H} {w : World} {base : Nat} {v : Value} {d : DataW H} {p : List MemPlace} (hok : Value.okWide Tryz.prog w .any base 30 v)
    (h : DataW.Trod enc Tryz.prog w 0 (fun _ => true) true 30 v d p) : ∃ (A : Option Addr) (l : List Pr) (c : Nat), v = .slice A l.length c ∧ l.length ≤ c ∧ c ≤ maxLen ∧ Sl w A (l.flatMap Pr.cells) := by
  obtain ⟨fuel, hf⟩ := h
  obtain ⟨A, l, c, h1, h2, h3, h4, _⟩ := read_slice Pr.cells (fun _ => True) Pr.cells_length (by omega) Tryz.underlying30 (by kernel_rfl)
    (fun fuel cs y h => dec_pr Tryz.underlying50 Tryz.underlying2 (by kernel_rfl) (by kernel_rfl) fuel cs y h) (okWide_slice Tryz.underlying30 hok) hf
  exact ⟨A, l, c, h1, h2, h3, h4⟩

theorem read_ent {H : Type} {enc : TypeId × Value → H} {w : World} {base : Nat} {v : Value} {d : DataW H} {p : List MemPlace} (hok : Value.okWide Tryz.prog w .any base 68 v)
    (h : DataW.Trod enc Tryz.prog w 0 (fun _ => true) true 68 v d p) : ∃ x : Ent, v = .agg #[.int .i64 x.key, .int .i64 x.val, .bool x.dead] := by
  obtain ⟨cs, rfl, _⟩ := okWide_struct Tryz.underlying68 hok
  obtain ⟨fuel, hf⟩ := h
  obtain ⟨x, hx, _⟩ := dec_ent Tryz.underlying68 Tryz.underlying2 Tryz.underlying4 (by kernel_rfl) (by kernel_rfl) (by kernel_rfl) fuel _ _ hf
  refine ⟨x, ?_⟩
  obtain ⟨l⟩ := cs
  simp only [Value.cells] at hx
  simp only [Value.agg.injEq]
  rw [show l = x.cells from hx]
  rfl
end Go.Proofs.YtolclahkfmplfaaGreat

/- A run, and runs, read as data. -/
namespace Go.Proofs.YtolclahkfmplfaaGreat
open Go Go.ChangeShapes Go.WideShapes Go.ChangeAt Go.RowKit
set_option maxRecDepth 100000

theorem dec_ents {H : Type} {enc : TypeId × Value → H} {w : World} (fuel : Nat) (cs : List Value) (y : DataW H × List MemPlace) (h : DataW.trod enc Tryz.prog w 0 (fun _ => true) true fuel 56 cs = some y) :
    ∃ (A : Option Addr) (l : List Ent) (c : Nat), cs = [.slice A l.length c] ∧ l.length ≤ c ∧ c ≤ maxLen ∧ Sl w A (l.flatMap Ent.cells) := by
  have hv : ∃ a len cap, cs = [.slice a len cap] := by
    rcases Go.Deep.open_slice Tryz.underlying56 h with ⟨h1, _⟩ | ⟨a, len, cap, _, _, _, _, h1, _⟩
    · exact ⟨_, _, _, h1⟩
    · exact ⟨_, _, _, h1⟩
  obtain ⟨a, len, cap, rfl⟩ := hv
  obtain ⟨A, l, c, h1, h2, h3, h4, _⟩ := read_slice (v := .slice a len cap) Ent.cells (fun _ => True) Ent.cells_length (by omega) Tryz.underlying56 (by kernel_rfl)
    (fun fuel cs y h => dec_ent Tryz.underlying68 Tryz.underlying2 Tryz.underlying4 (by kernel_rfl) (by kernel_rfl) (by kernel_rfl) fuel cs y h) ⟨_, _, _, rfl⟩ h
  exact ⟨A, l, c, by rw [h1], h2, h3, h4⟩
theorem read_run {H : Type} {enc : TypeId × Value → H} {w : World} {base : Nat} {v : Value} {d : DataW H} {p : List MemPlace} (hok : Value.okWide Tryz.prog w .any base 58 v)
    (h : DataW.Trod enc Tryz.prog w 0 (fun _ => true) true 58 v d p) : ∃ (A : Option Addr) (l : List Ent) (c : Nat), v = .agg #[.slice A l.length c] ∧ l.length ≤ c ∧ c ≤ maxLen ∧ Sl w A (l.flatMap Ent.cells) := by
  obtain ⟨cs, rfl, _⟩ := okWide_struct Tryz.underlying58 hok
  obtain ⟨fuel, hf⟩ := h
  obtain ⟨xs, n, _, _, hlen, hxl, hg⟩ := DataW.trod_struct Tryz.underlying58 hf
  rw [show Tryz.prog.cellsOf 58 = 1 from by kernel_rfl] at hlen
  obtain ⟨cl⟩ := cs
  match cl, hlen with
  | [c0], _ =>
    match xs, hxl with
    | [x0], _ =>
      have h0 : DataW.trod enc Tryz.prog w 0 (fun _ => true) true n 56 (List.take (Tryz.prog.cellsOf 56) (List.drop 0 [c0])) = some x0 := hg 0 _ rfl
      rw [show Tryz.prog.cellsOf 56 = 1 from by kernel_rfl] at h0
      obtain ⟨A, l, c, e, h2, h3, h4⟩ := dec_ents _ _ _ h0
      simp at e
      subst e
      exact ⟨A, l, c, rfl, h2, h3, h4⟩
/-- runs -/
theorem dec_run {H : Type} {enc : TypeId × Value → H} {w : World} (fuel : Nat) (cs : List Value) (y : DataW H × List MemPlace) (h : DataW.trod enc Tryz.prog w 0 (fun _ => true) true fuel 58 cs = some y) :
    ∃ r : Rm, cs = [r.v] ∧ r.Ok w := by
  obtain ⟨xs, n, _, _, hlen, hxl, hg⟩ := DataW.trod_struct Tryz.underlying58 h
  rw [show Tryz.prog.cellsOf 58 = 1 from by kernel_rfl] at hlen
  match cs, hlen with
  | [c0], _ =>
    match xs, hxl with
    | [x0], _ =>
      have h0 : DataW.trod enc Tryz.prog w 0 (fun _ => true) true n 56 (List.take (Tryz.prog.cellsOf 56) (List.drop 0 [c0])) = some x0 := hg 0 _ rfl
      rw [show Tryz.prog.cellsOf 56 = 1 from by kernel_rfl] at h0
      obtain ⟨A, l, c, e, h2, h3, h4⟩ := dec_ents _ _ _ h0
      simp at e
      subst e
      exact ⟨⟨l, A, c⟩, rfl, h4, h2, h3⟩
theorem read_runs {H : Type} {enc : TypeId × Value → H} {w : World} {base : Nat} {v : Value} {d : DataW H} {p : List MemPlace} (hok : Value.okWide Tryz.prog w .any base 24 v)
    (h : DataW.Trod enc Tryz.prog w 0 (fun _ => true) true 24 v d p) : ∃ (B : Option Addr) (Rs : List Rm) (c : Nat), v = .slice B Rs.length c ∧ Rs.length ≤ c ∧ c ≤ maxLen ∧ RunsAt w B Rs := by
  obtain ⟨fuel, hf⟩ := h
  obtain ⟨B, Rs, c, h1, h2, h3, h4, h5⟩ := read_slice (s := 1) (fun r : Rm => [r.v]) (fun r => r.Ok w) (fun _ => rfl) (by omega) Tryz.underlying24 (by kernel_rfl) (fun fuel cs y h => dec_run fuel cs y h) (okWide_slice Tryz.underlying24 hok) hf
  have hm : Rs.flatMap (fun r => [r.v]) = Rs.map Rm.v := by
    clear h1 h2 h4 h5
    induction Rs with
    | nil => rfl
    | cons r Rs ih => rw [List.flatMap_cons, ih]; rfl
  rw [hm] at h4
  exact ⟨B, Rs, c, h1, h2, h3, h4, h5⟩
end Go.Proofs.YtolclahkfmplfaaGreat

/- Rungs read as data. -/
namespace Go.Proofs.YtolclahkfmplfaaGreat
open Go Go.ChangeShapes Go.WideShapes Go.ChangeAt Go.RowKit
set_option maxRecDepth 100000

theorem wf_u64g {n : Int} (h : (Lit.int .u64 n).wf = true) : 0 ≤ n ∧ n ≤ 18446744073709551615 := by
  simp only [Lit.wf, Bool.and_eq_true, decide_eq_true_eq] at h
  exact h
theorem read_rungs {H : Type} {enc : TypeId × Value → H} {w : World} {base : Nat} {v : Value} {d : DataW H} {p : List MemPlace} (hok : Value.okWide Tryz.prog w .any base 27 v)
    (h : DataW.Trod enc Tryz.prog w 0 (fun _ => true) true 27 v d p) : ∃ (B : Option Addr) (Rs : List Rm) (c : Nat) (n : Int), v = .agg #[.slice B Rs.length c, .int .u64 n] ∧ Rs.length ≤ c ∧ c ≤ maxLen ∧ RunsAt w B Rs ∧ 0 ≤ n ∧ n ≤ 18446744073709551615 := by
  obtain ⟨cs, rfl, _⟩ := okWide_struct Tryz.underlying27 hok
  obtain ⟨fuel, hf⟩ := h
  obtain ⟨xs, m, _, _, hlen, hxl, hg⟩ := DataW.trod_struct Tryz.underlying27 hf
  rw [show Tryz.prog.cellsOf 27 = 2 from by kernel_rfl] at hlen
  obtain ⟨cl⟩ := cs
  match cl, hlen with
  | [c0, c1], _ =>
    match xs, hxl with
    | [x0, x1], _ =>
      have h0 : DataW.trod enc Tryz.prog w 0 (fun _ => true) true m 24 (List.take (Tryz.prog.cellsOf 24) (List.drop 0 [c0, c1])) = some x0 := hg 0 _ rfl
      have h1 : DataW.trod enc Tryz.prog w 0 (fun _ => true) true m 25 (List.take (Tryz.prog.cellsOf 25) (List.drop 1 [c0, c1])) = some x1 := hg 1 _ rfl
      rw [show Tryz.prog.cellsOf 24 = 1 from by kernel_rfl] at h0
      rw [show Tryz.prog.cellsOf 25 = 1 from by kernel_rfl] at h1
      obtain ⟨n, e1, _, f1⟩ := DataW.trod_int Tryz.underlying25 h1
      have hv : ∃ a len cap, List.take 1 (List.drop 0 [c0, c1]) = [.slice a len cap] := by
        rcases Go.Deep.open_slice Tryz.underlying24 h0 with ⟨h1, _⟩ | ⟨a, len, cap, _, _, _, _, h1, _⟩
        · exact ⟨_, _, _, h1⟩
        · exact ⟨_, _, _, h1⟩
      obtain ⟨a, len, cap, e0⟩ := hv
      simp at e0 e1
      subst e0 e1
      obtain ⟨B, Rs, c, h2, h3, h4, h5, h6⟩ := read_slice (v := .slice a len cap) (s := 1) (fun r : Rm => [r.v]) (fun r => r.Ok w) (fun _ => rfl) (by omega) Tryz.underlying24 (by kernel_rfl) (fun fuel cs y h => dec_run fuel cs y h) ⟨_, _, _, rfl⟩ h0
      have hm : Rs.flatMap (fun r => [r.v]) = Rs.map Rm.v := by
        clear h2 h3 h5 h6
        induction Rs with
        | nil => rfl
        | cons r Rs ih => rw [List.flatMap_cons, ih]; rfl
      rw [hm] at h5
      obtain ⟨g1, g2⟩ := wf_u64g f1
      exact ⟨B, Rs, c, n, by rw [h2], h3, h4, ⟨h5, h6⟩, g1, g2⟩
end Go.Proofs.YtolclahkfmplfaaGreat
