/- Da Dg0 Db0 Id Fa Fb: texts of the claim, in this order. -/
import Derived.Test.YtolclahkfmplfaaGreatWz8
import Derived.Test.YtolclahkfmplfaaGreatWz13
import Derived.Test.YtolclahkfmplfaaGreatWz12
import Derived.Test.YtolclahkfmplfaaGreatWz6
import Derived.Test.YtolclahkfmplfaaGreatWz1
import Derived.Deep.CutRange
import Derived.Deep.RegionHeld3
/- Contracts: ladder.Check, Pairs, Get. -/
namespace Go.Proofs.YtolclahkfmplfaaGreat
open Go Go.RowKit
set_option maxRecDepth 100000
section
variable {w : World} {g : Nat} {t : TypeId} {x0 x1 x2 x3 x4 x5 x6 x7 x8 x9 x10 : Value}
theorem put11 (h : Blk w g t #[x0, x1, x2, x3, x4, x5, x6, x7, x8, x9, x10]) (y0 y1 y2 y3 y4 y5 y6 y7 y8 y9 y10 : Value) : Blk (((((((((((w.setCell ⟨g, 0, none⟩ y0).setCell ⟨g, 1, none⟩ y1).setCell ⟨g, 2, none⟩ y2).setCell ⟨g, 3, none⟩ y3).setCell ⟨g, 4, none⟩ y4).setCell ⟨g, 5, none⟩ y5).setCell ⟨g, 6, none⟩ y6).setCell ⟨g, 7, none⟩ y7).setCell ⟨g, 8, none⟩ y8).setCell ⟨g, 9, none⟩ y9).setCell ⟨g, 10, none⟩ y10) g t #[y0, y1, y2, y3, y4, y5, y6, y7, y8, y9, y10] := by
  simpa using ((((((((((h.set_ 0 y0).set_ 1 y1).set_ 2 y2).set_ 3 y3).set_ 4 y4).set_ 5 y5).set_ 6 y6).set_ 7 y7).set_ 8 y8).set_ 9 y9).set_ 10 y10
theorem below11 {B : Nat} {a : World} (h : Below B a w) (hg : B ≤ g) (y0 y1 y2 y3 y4 y5 y6 y7 y8 y9 y10 : Value) : Below B a (((((((((((w.setCell ⟨g, 0, none⟩ y0).setCell ⟨g, 1, none⟩ y1).setCell ⟨g, 2, none⟩ y2).setCell ⟨g, 3, none⟩ y3).setCell ⟨g, 4, none⟩ y4).setCell ⟨g, 5, none⟩ y5).setCell ⟨g, 6, none⟩ y6).setCell ⟨g, 7, none⟩ y7).setCell ⟨g, 8, none⟩ y8).setCell ⟨g, 9, none⟩ y9).setCell ⟨g, 10, none⟩ y10) :=
  ((((((((((h.setCell (p := ⟨g, 0, none⟩) hg y0).setCell (p := ⟨g, 1, none⟩) hg y1).setCell (p := ⟨g, 2, none⟩) hg y2).setCell (p := ⟨g, 3, none⟩) hg y3).setCell (p := ⟨g, 4, none⟩) hg y4).setCell (p := ⟨g, 5, none⟩) hg y5).setCell (p := ⟨g, 6, none⟩) hg y6).setCell (p := ⟨g, 7, none⟩) hg y7).setCell (p := ⟨g, 8, none⟩) hg y8).setCell (p := ⟨g, 9, none⟩) hg y9).setCell (p := ⟨g, 10, none⟩) hg y10
end
abbrev lrow (c : Cfg) (B : Option Addr) (m k : Nat) (n : Int) : Array Value := #[.int .u8 c.tag, .int .i64 c.most, .int .i64 c.seg, .int .i64 c.least, .int .i64 c.den, .int .i64 c.leafLow, .int .i64 c.rootLow, .int .i64 c.rootHigh, .int .i64 c.leafHigh, .slice B m k, .int .u64 n]
/-- the error of a map -/
def errL (c : Cfg) (L : Lv) : Int := if errC c = 0 then (if chkR L = 0 ∧ ((prR L).length : Int) ≤ c.most ∧ tot L ≤ 2 * (prR L).length + 2 then 0 else 8) else errC c
def prD (c : Cfg) (L : Lv) : List Pr := if errL c L = 0 then prR L else []
def vlD (c : Cfg) (L : Lv) (key : Int) : Int := if errL c L = 0 ∧ isB L key = true then (gxR L key).val else 0
def veD (c : Cfg) (L : Lv) (key : Int) : Int := if errL c L = 0 then (if isB L key = true then 0 else 6) else errL c L
theorem errC_vals (c : Cfg) : errC c = 0 ∨ errC c = 50 := by unfold errC; split <;> simp
theorem errL_zero {c : Cfg} {L : Lv} (h : errL c L = 0) : errC c = 0 ∧ chkR L = 0 ∧ ((prR L).length : Int) ≤ c.most ∧ tot L ≤ 2 * (prR L).length + 2 := by
  unfold errL at h
  by_cases h1 : errC c = 0
  · rw [if_pos h1] at h
    split at h
    · rename_i h2; exact ⟨h1, h2⟩
    · cases h
  · rw [if_neg h1] at h; exact absurd h h1
set_option maxHeartbeats 8000000 in
theorem checkD_any (B : Option Addr) (Rs : List Rm) (k : Nat) (c : Cfg) (n : Int) (w : World) (hB : RunsAt w B Rs) (hT : tot (lvs Rs) ≤ 1000000) (hl : Rs.length ≤ 1000000) :
    Calls Tryz.prog 17 #[.agg (lrow c B Rs.length k n)] w fun r w' => r = .returned (.int .i64 (errL c (lvs Rs))) ∧ Below w.heap.size w w' := by
  obtain ⟨W0, hW0⟩ : ∃ W0, w.alloc (.cells #[.int .u8 c.tag, .int .i64 c.most, .int .i64 c.seg, .int .i64 c.least, .int .i64 c.den, .int .i64 c.leafLow, .int .i64 c.rootLow, .int .i64 c.rootHigh, .int .i64 c.leafHigh, .slice B Rs.length k, .int .u64 n] 29) = W0 := ⟨_, rfl⟩
  have hb0 : Below w.heap.size w W0 := by rw [← hW0]; exact (Below.refl _ _).alloc (Nat.le_refl _) _
  have b0 : Blk W0 w.heap.size 29 #[.int .u8 c.tag, .int .i64 c.most, .int .i64 c.seg, .int .i64 c.least, .int .i64 c.den, .int .i64 c.leafLow, .int .i64 c.rootLow, .int .i64 c.rootHigh, .int .i64 c.leafHigh, .slice B Rs.length k, .int .u64 n] := by rw [← hW0]; exact Blk.new _ _ _
  have HW0 := Lib.hid hW0
  have HB := Lib.hid (hB.below hb0)
  have HB0 := Lib.hid hb0
  have HC0 := Lib.hid b0
  have hcn := fun W (hW : Below W0.heap.size W0 W) => countR_any B Rs k n W (HB.out.below hW) hT hl
  obtain ⟨V, hV⟩ : ∃ V, errL c (lvs Rs) = V := ⟨_, rfl⟩
  rw [hV]
  unfold errL at hV
  obtain ⟨E, hE⟩ : ∃ E, errC c = E := ⟨_, rfl⟩
  obtain ⟨F, hF⟩ : ∃ F, chkR (lvs Rs) = F := ⟨_, rfl⟩
  obtain ⟨P, hP⟩ : ∃ P, (prR (lvs Rs)).length = P := ⟨_, rfl⟩
  obtain ⟨T, hTT⟩ : ∃ T, tot (lvs Rs) = T := ⟨_, rfl⟩
  have hPT : P ≤ T := by
    rw [← hP, ← hTT]
    by_cases h : chkR (lvs Rs) = 0
    · rw [prR_len h]; exact allL_le
    · rw [prR_bad h]; simp
  rw [hF, hP, hTT] at hcn
  rw [hE, hF, hP, hTT] at hV
  rw [hTT] at hT
  have hce := fun W => checkC_any c W
  rw [hE] at hce
  have HCE := Lib.hid hce
  have HV := Lib.hid hV
  obtain ⟨Z, hZ⟩ : ∃ Z : Int, (if F = 0 then (T : Int) else 0) = Z := ⟨_, rfl⟩
  rw [hZ] at hcn
  have HCN := Lib.hid hcn
  have HZ := Lib.hid hZ
  clear hW0 hB hcn hV hce hE hF hP hTT hZ
  have q0 : W0.cell? ⟨w.heap.size, 0, none⟩ = some (.int .u8 c.tag) := b0.cell 0
  have q1 : W0.cell? ⟨w.heap.size, 1, none⟩ = some (.int .i64 c.most) := b0.cell 1
  have q2 : W0.cell? ⟨w.heap.size, 2, none⟩ = some (.int .i64 c.seg) := b0.cell 2
  have q3 : W0.cell? ⟨w.heap.size, 3, none⟩ = some (.int .i64 c.least) := b0.cell 3
  have q4 : W0.cell? ⟨w.heap.size, 4, none⟩ = some (.int .i64 c.den) := b0.cell 4
  have q5 : W0.cell? ⟨w.heap.size, 5, none⟩ = some (.int .i64 c.leafLow) := b0.cell 5
  have q6 : W0.cell? ⟨w.heap.size, 6, none⟩ = some (.int .i64 c.rootLow) := b0.cell 6
  have q7 : W0.cell? ⟨w.heap.size, 7, none⟩ = some (.int .i64 c.rootHigh) := b0.cell 7
  have q8 : W0.cell? ⟨w.heap.size, 8, none⟩ = some (.int .i64 c.leafHigh) := b0.cell 8
  have q9 : W0.cell? ⟨w.heap.size, 9, none⟩ = some (.slice B Rs.length k) := b0.cell 9
  have q10 : W0.cell? ⟨w.heap.size, 10, none⟩ = some (.int .u64 n) := b0.cell 10
  clear b0
  go_enter Tryz.func17, Tryz.ntmps17
  go_upto_region 1 with fail
  rw [HW0.out]
  go_wp2_with fail
  refine (HCE.out _).mono ?_
  rintro e w1 ⟨rfl, hb1⟩
  have HB1 := Lib.hid (bext HB0.out hb1)
  have b1 := HC0.out.below hb1 HC0.out.lt
  have HC1 := Lib.hid b1
  have HS1 := Lib.hid hb1
  clear hb1 hb0 q0 q1 q2 q3 q4 q5 q6 q7 q8 q9 q10
  by_cases h0 : E = 0
  case neg =>
    have h1 : (E != 0) = true := by simpa using h0
    have HVV : Hid (V = E) := by show _ = _; rw [← HV.out, if_neg h0]
    clear h0
    go_wp2_with fail
    go_ret
    exact ⟨by rw [HVV.out]; rfl, HB1.out⟩
  case pos =>
  have HV1 := Lib.hid (show (if F = 0 ∧ (P : Int) ≤ c.most ∧ T ≤ 2 * P + 2 then (0 : Int) else 8) = V by rw [← HV.out, if_pos h0])
  subst h0
  have q0 : w1.cell? ⟨w.heap.size, 0, none⟩ = some (.int .u8 c.tag) := b1.cell 0
  have q1 : w1.cell? ⟨w.heap.size, 1, none⟩ = some (.int .i64 c.most) := b1.cell 1
  have q2 : w1.cell? ⟨w.heap.size, 2, none⟩ = some (.int .i64 c.seg) := b1.cell 2
  have q3 : w1.cell? ⟨w.heap.size, 3, none⟩ = some (.int .i64 c.least) := b1.cell 3
  have q4 : w1.cell? ⟨w.heap.size, 4, none⟩ = some (.int .i64 c.den) := b1.cell 4
  have q5 : w1.cell? ⟨w.heap.size, 5, none⟩ = some (.int .i64 c.leafLow) := b1.cell 5
  have q6 : w1.cell? ⟨w.heap.size, 6, none⟩ = some (.int .i64 c.rootLow) := b1.cell 6
  have q7 : w1.cell? ⟨w.heap.size, 7, none⟩ = some (.int .i64 c.rootHigh) := b1.cell 7
  have q8 : w1.cell? ⟨w.heap.size, 8, none⟩ = some (.int .i64 c.leafHigh) := b1.cell 8
  have q9 : w1.cell? ⟨w.heap.size, 9, none⟩ = some (.slice B Rs.length k) := b1.cell 9
  have q10 : w1.cell? ⟨w.heap.size, 10, none⟩ = some (.int .u64 n) := b1.cell 10
  clear b1
  go_wp2_with fail
  refine (HCN.out _ HS1.out).mono ?_
  rintro e w2 ⟨rfl, hb2⟩
  have HB2 := Lib.hid (bext HB1.out hb2)
  have b2 := HC1.out.below hb2 HC1.out.lt
  have r1 : w2.cell? ⟨w.heap.size, 1, none⟩ = some (.int .i64 c.most) := b2.cell 1
  clear hb2 b2 q0 q1 q2 q3 q4 q5 q6 q7 q8 q9 q10
  have hw1 : IntKind.i64.wrap (2 * (P : Int)) = 2 * (P : Int) := IntWalk.i64_in _ (by omega)
  have hw2 : IntKind.i64.wrap (2 * (P : Int) + 2) = 2 * (P : Int) + 2 := IntWalk.i64_in _ (by omega)
  have hv := HV1.out
  by_cases hf : F = 0
  case neg =>
    have h1 : (F != 0) = true := by simpa using hf
    have HVV : Hid (V = 8) := by show _ = _; rw [← hv, if_neg (fun h => hf h.1)]
    clear hf hv hw1 hw2
    go_wp2_with fail
    go_ret
    exact ⟨by rw [HVV.out]; rfl, HB2.out⟩
  case pos =>
  subst hf
  have hz : Z = (T : Int) := by rw [← HZ.out, if_pos rfl]
  subst hz
  by_cases h1 : c.most < (P : Int)
  · have HVV : Hid (V = 8) := by show _ = _; rw [← hv, if_neg (fun h => by omega)]
    clear hv
    go_wp2_with fail
    go_ret
    exact ⟨by rw [HVV.out]; rfl, HB2.out⟩
  · by_cases h2 : 2 * (P : Int) + 2 < (T : Int)
    · have HVV : Hid (V = 8) := by show _ = _; rw [← hv, if_neg (fun h => by omega)]
      clear hv
      go_wp2_with fail
      go_ret
      exact ⟨by rw [HVV.out]; rfl, HB2.out⟩
    · have HVV : Hid (V = 0) := by show _ = _; rw [← hv, if_pos ⟨rfl, by omega, by omega⟩]
      clear hv
      go_wp2_with fail
      go_ret
      exact ⟨by rw [HVV.out]; rfl, HB2.out⟩
set_option maxHeartbeats 8000000 in
theorem pairsD_any (B : Option Addr) (Rs : List Rm) (k : Nat) (c : Cfg) (n : Int) (w : World) (hB : RunsAt w B Rs) (hT : tot (lvs Rs) ≤ 1000000) (hl : Rs.length ≤ 1000000) :
    Calls Tryz.prog 22 #[.agg (lrow c B Rs.length k n)] w (GivesPrs (prD c (lvs Rs)) (errL c (lvs Rs)) w) := by
  obtain ⟨W0, hW0⟩ : ∃ W0, w.alloc (.cells #[.int .u8 c.tag, .int .i64 c.most, .int .i64 c.seg, .int .i64 c.least, .int .i64 c.den, .int .i64 c.leafLow, .int .i64 c.rootLow, .int .i64 c.rootHigh, .int .i64 c.leafHigh, .slice B Rs.length k, .int .u64 n] 29) = W0 := ⟨_, rfl⟩
  have hb0 : Below w.heap.size w W0 := by rw [← hW0]; exact (Below.refl _ _).alloc (Nat.le_refl _) _
  have b0 : Blk W0 w.heap.size 29 #[.int .u8 c.tag, .int .i64 c.most, .int .i64 c.seg, .int .i64 c.least, .int .i64 c.den, .int .i64 c.leafLow, .int .i64 c.rootLow, .int .i64 c.rootHigh, .int .i64 c.leafHigh, .slice B Rs.length k, .int .u64 n] := by rw [← hW0]; exact Blk.new _ _ _
  have HW0 := Lib.hid hW0
  have HB := Lib.hid (hB.below hb0)
  have HB0 := Lib.hid hb0
  have HC0 := Lib.hid b0
  have hcn := fun W (hW : Below W0.heap.size W0 W) => pairsR_any B Rs k n W (HB.out.below hW) hT hl
  have hck := fun W (hW : Below W0.heap.size W0 W) => checkD_any B Rs k c n W (HB.out.below hW) hT hl
  obtain ⟨P, hP⟩ : ∃ V, prD c (lvs Rs) = V := ⟨_, rfl⟩
  obtain ⟨E, hE⟩ : ∃ E, errL c (lvs Rs) = E := ⟨_, rfl⟩
  have hP2 : E ≠ 0 → P = [] := fun h => by rw [← hP]; unfold prD; rw [if_neg (by rw [hE]; exact h)]
  have hP3 : E = 0 → prR (lvs Rs) = P ∧ chkR (lvs Rs) = 0 := fun h => by
    refine ⟨?_, (errL_zero (hE.trans h)).2.1⟩
    rw [← hP]; unfold prD; rw [if_pos (hE.trans h)]
  rw [hE] at hck
  rw [hP, hE]
  have HCN := Lib.hid hcn
  have HCK := Lib.hid hck
  have HP2 := Lib.hid hP2
  have HP3 := Lib.hid hP3
  clear hW0 hB hcn hck hP hE hP2 hP3
  have q0 : W0.cell? ⟨w.heap.size, 0, none⟩ = some (.int .u8 c.tag) := b0.cell 0
  have q1 : W0.cell? ⟨w.heap.size, 1, none⟩ = some (.int .i64 c.most) := b0.cell 1
  have q2 : W0.cell? ⟨w.heap.size, 2, none⟩ = some (.int .i64 c.seg) := b0.cell 2
  have q3 : W0.cell? ⟨w.heap.size, 3, none⟩ = some (.int .i64 c.least) := b0.cell 3
  have q4 : W0.cell? ⟨w.heap.size, 4, none⟩ = some (.int .i64 c.den) := b0.cell 4
  have q5 : W0.cell? ⟨w.heap.size, 5, none⟩ = some (.int .i64 c.leafLow) := b0.cell 5
  have q6 : W0.cell? ⟨w.heap.size, 6, none⟩ = some (.int .i64 c.rootLow) := b0.cell 6
  have q7 : W0.cell? ⟨w.heap.size, 7, none⟩ = some (.int .i64 c.rootHigh) := b0.cell 7
  have q8 : W0.cell? ⟨w.heap.size, 8, none⟩ = some (.int .i64 c.leafHigh) := b0.cell 8
  have q9 : W0.cell? ⟨w.heap.size, 9, none⟩ = some (.slice B Rs.length k) := b0.cell 9
  have q10 : W0.cell? ⟨w.heap.size, 10, none⟩ = some (.int .u64 n) := b0.cell 10
  clear b0
  go_enter Tryz.func22, Tryz.ntmps22
  go_upto_region 1 with fail
  rw [HW0.out]
  go_wp2_with fail
  refine (HCK.out _ (Below.refl _ _)).mono ?_
  rintro e w1 ⟨rfl, hb1⟩
  have HB1 := Lib.hid (bext HB0.out hb1)
  have b1 := HC0.out.below hb1 HC0.out.lt
  have HS1 := Lib.hid hb1
  clear hb1 hb0 q0 q1 q2 q3 q4 q5 q6 q7 q8 q9 q10
  by_cases h0 : E = 0
  case neg =>
    have h1 : (E != 0) = true := by simpa using h0
    have hp := HP2.out h0
    subst hp
    clear h0
    go_wp2_with fail
    refine bodyPost_ret (v := .tuple #[.slice none 0 0, .int .i64 E]) (by simp [results, Tryz.results22, go_sem]) rfl ?_
    exact ⟨none, 0, rfl, World.ownsRow_nil _ _ _ _, HB1.out⟩
  case pos =>
  subst h0
  have hcc := HCN.out _ HS1.out
  rw [(HP3.out rfl).1, (HP3.out rfl).2] at hcc
  have HCC := Lib.hid hcc
  have q0 : w1.cell? ⟨w.heap.size, 0, none⟩ = some (.int .u8 c.tag) := b1.cell 0
  have q1 : w1.cell? ⟨w.heap.size, 1, none⟩ = some (.int .i64 c.most) := b1.cell 1
  have q2 : w1.cell? ⟨w.heap.size, 2, none⟩ = some (.int .i64 c.seg) := b1.cell 2
  have q3 : w1.cell? ⟨w.heap.size, 3, none⟩ = some (.int .i64 c.least) := b1.cell 3
  have q4 : w1.cell? ⟨w.heap.size, 4, none⟩ = some (.int .i64 c.den) := b1.cell 4
  have q5 : w1.cell? ⟨w.heap.size, 5, none⟩ = some (.int .i64 c.leafLow) := b1.cell 5
  have q6 : w1.cell? ⟨w.heap.size, 6, none⟩ = some (.int .i64 c.rootLow) := b1.cell 6
  have q7 : w1.cell? ⟨w.heap.size, 7, none⟩ = some (.int .i64 c.rootHigh) := b1.cell 7
  have q8 : w1.cell? ⟨w.heap.size, 8, none⟩ = some (.int .i64 c.leafHigh) := b1.cell 8
  have q9 : w1.cell? ⟨w.heap.size, 9, none⟩ = some (.slice B Rs.length k) := b1.cell 9
  have q10 : w1.cell? ⟨w.heap.size, 10, none⟩ = some (.int .u64 n) := b1.cell 10
  clear b1 hcc
  go_wp2_with fail
  refine HCC.out.mono ?_
  rintro e w2 ⟨A2, c2, rfl, ho2, hb2⟩
  have HO := Lib.hid (own_mono (B' := w.heap.size) ho2 HB1.out.size)
  have HB2 := Lib.hid (bext HB1.out hb2)
  clear ho2 hb2 q0 q1 q2 q3 q4 q5 q6 q7 q8 q9 q10
  go_wp2_with fail
  refine bodyPost_ret (v := .tuple #[.slice A2 P.length c2, .int .i64 0]) (by simp [results, Tryz.results22, go_sem]) rfl ?_
  exact ⟨A2, c2, rfl, HO.out, HB2.out⟩
theorem ge_vals {L : Lv} {key : Int} (h : chkR L = 0) : geR L key = 0 ∨ geR L key = 6 := by unfold geR; rw [if_pos h]; split <;> simp
end Go.Proofs.YtolclahkfmplfaaGreat

/- Contract: shelfmarkref27.Great. -/
namespace Go.Proofs.YtolclahkfmplfaaGreat
open Go Go.RowKit
set_option maxRecDepth 100000
theorem great27_any (B : Option Addr) (Rs : List Rm) (k most : Nat) (c : Cfg) (n : Int) (w : World) (hB : RunsAt w B Rs) (hm : most ≤ 1000000) :
    Calls Tryz.prog 4 #[.agg (lrow c B Rs.length k n), .int .i64 most] w fun r w' => ∃ G : Bool, r = .returned (.bool G) ∧ (G = false → Rs.length + tot (lvs Rs) ≤ most) ∧ Below w.heap.size w w' := by
  obtain ⟨W0, hW0⟩ : ∃ W0, w.alloc (.cells #[.int .u8 c.tag, .int .i64 c.most, .int .i64 c.seg, .int .i64 c.least, .int .i64 c.den, .int .i64 c.leafLow, .int .i64 c.rootLow, .int .i64 c.rootHigh, .int .i64 c.leafHigh, .slice B Rs.length k, .int .u64 n] 29) = W0 := ⟨_, rfl⟩
  have hb0 : Below w.heap.size w W0 := by rw [← hW0]; exact (Below.refl _ _).alloc (Nat.le_refl _) _
  have b0 : Blk W0 w.heap.size 29 #[.int .u8 c.tag, .int .i64 c.most, .int .i64 c.seg, .int .i64 c.least, .int .i64 c.den, .int .i64 c.leafLow, .int .i64 c.rootLow, .int .i64 c.rootHigh, .int .i64 c.leafHigh, .slice B Rs.length k, .int .u64 n] := by rw [← hW0]; exact Blk.new _ _ _
  have HW0 := Lib.hid hW0
  have HB := Lib.hid (hB.below hb0)
  have HB0 := Lib.hid hb0
  have HC0 := Lib.hid b0
  have HG := Lib.hid (great26_any B Rs k most n W0 HB.out hm)
  clear hW0 hB
  have q0 : W0.cell? ⟨w.heap.size, 0, none⟩ = some (.int .u8 c.tag) := b0.cell 0
  have q1 : W0.cell? ⟨w.heap.size, 1, none⟩ = some (.int .i64 c.most) := b0.cell 1
  have q2 : W0.cell? ⟨w.heap.size, 2, none⟩ = some (.int .i64 c.seg) := b0.cell 2
  have q3 : W0.cell? ⟨w.heap.size, 3, none⟩ = some (.int .i64 c.least) := b0.cell 3
  have q4 : W0.cell? ⟨w.heap.size, 4, none⟩ = some (.int .i64 c.den) := b0.cell 4
  have q5 : W0.cell? ⟨w.heap.size, 5, none⟩ = some (.int .i64 c.leafLow) := b0.cell 5
  have q6 : W0.cell? ⟨w.heap.size, 6, none⟩ = some (.int .i64 c.rootLow) := b0.cell 6
  have q7 : W0.cell? ⟨w.heap.size, 7, none⟩ = some (.int .i64 c.rootHigh) := b0.cell 7
  have q8 : W0.cell? ⟨w.heap.size, 8, none⟩ = some (.int .i64 c.leafHigh) := b0.cell 8
  have q9 : W0.cell? ⟨w.heap.size, 9, none⟩ = some (.slice B Rs.length k) := b0.cell 9
  have q10 : W0.cell? ⟨w.heap.size, 10, none⟩ = some (.int .u64 n) := b0.cell 10
  clear b0
  go_enter Tryz.func4, Tryz.ntmps4
  go_upto_region 1 with fail
  rw [HW0.out]
  go_wp2_with fail
  refine HG.out.mono ?_
  rintro e w1 ⟨G, rfl, hG, hb1⟩
  have HGG := Lib.hid hG
  clear hG q0 q1 q2 q3 q4 q5 q6 q7 q8 q9 q10
  go_wp2
  go_ret
  exact ⟨G, rfl, HGG.out, bext HB0.out hb1⟩
end Go.Proofs.YtolclahkfmplfaaGreat

/- Contract: ladder.New. -/
namespace Go.Proofs.YtolclahkfmplfaaGreat
open Go Go.RowKit
set_option maxRecDepth 100000
def cz : Cfg := ⟨0, 0, 0, 0, 0, 0, 0, 0, 0⟩
def GivesLd (c : Cfg) (L : Lv) (n e : Int) (w : World) (r : Ending) (w' : World) : Prop := ∃ B k Rs, r = .returned (.tuple #[.agg (lrow c B Rs.length k n), .int .i64 e]) ∧ lvs Rs = L ∧ OwnRs w' w.heap.size B k Rs ∧ Below w.heap.size w w'
def ldC (c : Cfg) (e : Int) : Cfg := if e = 0 then c else cz
def upE (e0 : Int) (L : Lv) (y : Ent) : Int := if e0 = 0 then addE L y else e0
def upL (e0 : Int) (L : Lv) (n : Int) (y : Ent) : Lv := if e0 = 0 then addL L n y else []
def upN (e0 : Int) (L : Lv) (n : Int) (y : Ent) : Int := if e0 = 0 then addN L n y else 0
def putE0 (c : Cfg) (L : Lv) (key : Int) : Int := if veD c L key = 6 then (if ((prR L).length : Int) = c.most then 9 else 0) else veD c L key
def putY (key val : Int) : Ent := ⟨key, val, false⟩
def delY (key : Int) : Ent := ⟨key, 0, true⟩
theorem errL_ok {c : Cfg} {L : Lv} (h1 : errC c = 0) (h2 : May L) (h3 : ((allL L).length : Int) ≤ c.most) (h4 : tot L ≤ 2 * (allL L).length + 2) : errL c L = 0 := by
  have hc := chkR_zero.2 h2
  unfold errL
  rw [if_pos h1, if_pos ⟨hc, by rw [prR_len hc]; exact h3, by rw [prR_len hc]; exact h4⟩]
theorem OwnRs.set11 {w : World} {B0 g : Nat} {B : Option Addr} {c : Nat} {Rs : List Rm} {t : TypeId} {x0 x1 x2 x3 x4 x5 x6 x7 x8 x9 x10 : Value} (h : OwnRs w B0 B c Rs) (hB : Blk w g t #[x0, x1, x2, x3, x4, x5, x6, x7, x8, x9, x10]) (h1 : 58 ≠ t) (h2 : 68 ≠ t) (y0 y1 y2 y3 y4 y5 y6 y7 y8 y9 y10 : Value) : OwnRs (((((((((((w.setCell ⟨g, 0, none⟩ y0).setCell ⟨g, 1, none⟩ y1).setCell ⟨g, 2, none⟩ y2).setCell ⟨g, 3, none⟩ y3).setCell ⟨g, 4, none⟩ y4).setCell ⟨g, 5, none⟩ y5).setCell ⟨g, 6, none⟩ y6).setCell ⟨g, 7, none⟩ y7).setCell ⟨g, 8, none⟩ y8).setCell ⟨g, 9, none⟩ y9).setCell ⟨g, 10, none⟩ y10) B0 B c Rs := by
  have h10 := h.setT hB h1 h2 0 y0
  have b10 := hB.set_ 0 y0
  have h11 := h10.setT b10 h1 h2 1 y1
  have b11 := b10.set_ 1 y1
  have h12 := h11.setT b11 h1 h2 2 y2
  have b12 := b11.set_ 2 y2
  have h13 := h12.setT b12 h1 h2 3 y3
  have b13 := b12.set_ 3 y3
  have h14 := h13.setT b13 h1 h2 4 y4
  have b14 := b13.set_ 4 y4
  have h15 := h14.setT b14 h1 h2 5 y5
  have b15 := b14.set_ 5 y5
  have h16 := h15.setT b15 h1 h2 6 y6
  have b16 := b15.set_ 6 y6
  have h17 := h16.setT b16 h1 h2 7 y7
  have b17 := b16.set_ 7 y7
  have h18 := h17.setT b17 h1 h2 8 y8
  have b18 := b17.set_ 8 y8
  have h19 := h18.setT b18 h1 h2 9 y9
  have b19 := b18.set_ 9 y9
  have h20 := h19.setT b19 h1 h2 10 y10
  have b20 := b19.set_ 10 y10
  exact h20
end Go.Proofs.YtolclahkfmplfaaGreat

/- Contracts: rungs.Same; the reference's Same of levels, in general. -/
namespace Go.Proofs.YtolclahkfmplfaaGreat
open Go Go.RowKit
set_option maxRecDepth 100000
def Pre (Rs Ts : List Rm) (k : Nat) : Prop := ∀ j (h1 : j < Rs.length) (h2 : j < Ts.length), j < k → (Rs[j]'h1).l = (Ts[j]'h2).l
theorem pre_up {Rs Ts : List Rm} {k : Nat} (h : Pre Rs Ts k) (h1 : k < Rs.length) (h2 : k < Ts.length) (he : (Rs[k]'h1).l = (Ts[k]'h2).l) : Pre Rs Ts (k + 1) := fun j h3 h4 h5 => by
  by_cases e : j = k
  · subst e; exact he
  · exact h j h3 h4 (by omega)
theorem lvs_at {Rs : List Rm} {j : Nat} (h : j < Rs.length) : (lvs Rs)[j]? = some (Rs[j]'h).l := by
  unfold lvs
  rw [List.getElem?_map, List.getElem?_eq_getElem h]
  rfl
theorem pre_no {Rs Ts : List Rm} {k : Nat} (h1 : k < Rs.length) (h2 : k < Ts.length) (he : (Rs[k]'h1).l ≠ (Ts[k]'h2).l) : decide (lvs Rs = lvs Ts) = false := by
  refine decide_eq_false fun h => he ?_
  have h3 := lvs_at h1
  rw [h, lvs_at h2] at h3
  exact (Option.some.inj h3).symm
theorem pre_end {Rs Ts : List Rm} {k : Nat} (h : Pre Rs Ts k) (h1 : Rs.length = Ts.length) (h2 : ¬ k < Rs.length) : decide (lvs Rs = lvs Ts) = true := by
  refine decide_eq_true (List.ext_getElem? fun j => ?_)
  by_cases hj : j < Rs.length
  · rw [lvs_at hj, lvs_at (h1 ▸ hj), h j hj (h1 ▸ hj) (by omega)]
  · rw [List.getElem?_eq_none (by rw [lvs_len]; omega), List.getElem?_eq_none (by rw [lvs_len]; omega)]
theorem len_no {Rs Ts : List Rm} (h : ¬ Rs.length = Ts.length) : decide (lvs Rs = lvs Ts) = false := decide_eq_false fun h2 => h (by have := congrArg List.length h2; rwa [lvs_len, lvs_len] at this)
set_option maxHeartbeats 4000000 in
theorem sameAllB_any (B D : Option Addr) (Rs Ts : List Rm) (c d : Nat) (w : World) (hB : RunsAt w B Rs) (hD : RunsAt w D Ts) (hl : Rs.length ≤ 1000000) (hrs : ∀ r ∈ Rs, r.l.length ≤ 1000000) (hts : ∀ r ∈ Ts, r.l.length ≤ 1000000) :
    Calls Tryz.prog 46 #[.slice B Rs.length c, .slice D Ts.length d] w fun r w' => r = .returned (.bool (decide (lvs Rs = lvs Ts))) ∧ Below w.heap.size w w' := by
  have HB := Lib.hid hB
  have HD := Lib.hid hD
  have HHR := Lib.hid hrs
  have HHT := Lib.hid hts
  clear hB hD hrs hts
  by_cases hlen : Rs.length = Ts.length
  case neg =>
    rw [len_no hlen]
    have g1 : ((Rs.length : Int) != (Ts.length : Int)) = true := by simpa using (show ¬ (Rs.length : Int) = (Ts.length : Int) by omega)
    clear hlen
    go_enter Tryz.func46, Tryz.ntmps46
    go_wp2
    go_ret
    exact ⟨rfl, Below.refl _ _⟩
  case pos =>
  obtain ⟨Q, hQ⟩ : ∃ Q, decide (lvs Rs = lvs Ts) = Q := ⟨_, rfl⟩
  rw [hQ]
  have HQ := Lib.hid hQ
  have HLEN := Lib.hid hlen
  have g1 : ((Rs.length : Int) != (Ts.length : Int)) = false := by simpa using (show (Rs.length : Int) = (Ts.length : Int) by omega)
  have HP0 : Hid (Pre Rs Ts 0) := fun j _ _ h => by omega
  have hl2 : Ts.length ≤ 1000000 := by omega
  clear hQ hlen
  go_enter Tryz.func46, Tryz.ntmps46
  go_wp2
  go_loopw [5] (fun i wr => ∃ k : Nat, k ≤ Rs.length ∧ i = .int .i64 k ∧ Below w.heap.size w wr ∧ Hid (Pre Rs Ts k)) (fun i _ => Rs.length - (intOf i).toNat)
  case atStart => exact ⟨0, Nat.zero_le _, rfl, Below.refl _ _, HP0.out⟩
  case round =>
    obtain ⟨k, hk, rfl, hb, hpre⟩ := hrel
    by_cases hlt : k < Rs.length
    · have hlt2 : k < Ts.length := by rw [← HLEN.out]; exact hlt
      obtain ⟨b, off, rfl, hbl, cp⟩ := HB.out.sl.oneB hb k hlt
      obtain ⟨b2, off2, rfl, hbl2, cq⟩ := HD.out.sl.oneB hb k hlt2
      have hok := (HB.out.ok _ (List.getElem_mem hlt)).below hb
      have hok2 := (HD.out.ok _ (List.getElem_mem hlt2)).below hb
      have hrl := HHR.out _ (List.getElem_mem hlt)
      have hrl2 := HHT.out _ (List.getElem_mem hlt2)
      have hup := Lib.hid (fun h => pre_up hpre.out hlt hlt2 h)
      have hno := Lib.hid (fun h => pre_no hlt hlt2 h)
      obtain ⟨r, hr⟩ : ∃ r, Rs[k]'hlt = r := ⟨_, rfl⟩
      obtain ⟨s, hs⟩ : ∃ s, Ts[k]'hlt2 = s := ⟨_, rfl⟩
      rw [hr] at cp hok hrl hup hno
      rw [hs] at cq hok2 hrl2 hup hno
      obtain ⟨l, A, cl⟩ := r
      obtain ⟨m, A2, cm⟩ := s
      have cp1 : wr.cell? ⟨b, off + k, none⟩ = some (.slice A l.length cl) := cp
      have cq1 : wr.cell? ⟨b2, off2 + k, none⟩ = some (.slice A2 m.length cm) := cq
      dsimp only at hrl hrl2 hup hno
      have hki : (0 : Int) ≤ (k : Int) := by omega
      have hki2 : (k : Int) < (Rs.length : Int) := by omega
      have hki3 : (k : Int) < (Ts.length : Int) := by omega
      obtain ⟨V, hV⟩ : ∃ V, decide (l = m) = V := ⟨_, rfl⟩
      have lb1 : b < wr.heap.size := Nat.lt_of_lt_of_le hbl hb.size
      have lb2 : b2 < wr.heap.size := Nat.lt_of_lt_of_le hbl2 hb.size
      have HV := Lib.hid hV
      have hsm : ∀ W, Below wr.heap.size wr W → Calls Tryz.prog 73 #[.agg #[.slice A l.length cl], .agg #[.slice A2 m.length cm]] W (fun r w' => r = .returned (.bool V) ∧ Below W.heap.size W w') := by
        intro W hW
        have h8 := refSame_any A A2 l m cl cm W (hok.sl.below hW) (hok2.sl.below hW) (by omega) (by omega)
        rw [hV] at h8
        exact h8
      have HSM := Lib.hid hsm
      clear cp cq hr hs hok hok2 hV hsm hbl hbl2
      go_upto_region 6 with fail
      go_cut [26] from 17 to 26 (fun v wx => v = .bool (!V) ∧ Below wr.heap.size wr wx)
      case first =>
        go_region_held3 (fun w' => (∀ bq jq, bq < wr.heap.size → w'.cell? ⟨bq, jq, none⟩ = wr.cell? ⟨bq, jq, none⟩) ∧ (∀ bq jq, bq < wr.heap.size → w'.frozen? ⟨bq, jq, none⟩ = wr.frozen? ⟨bq, jq, none⟩) ∧ wr.heap.size ≤ w'.heap.size ∧ Below wr.heap.size wr w') ((with_reducible first | exact SB.init | exact SB.init0 | exact SB.below (by assumption) (by assumption) | assumption))
          (first
            | (go_at_call 73; refine (HSM.out _ (SB.bel (by assumption))).mono ?_; rintro e22 v22 ⟨rfl, hv22⟩; have hl22 := SB.le hv22 (by assumption); obtain ⟨hc22, hz22, hs22⟩ := wfacts hv22)
            | fail "no arm")
        all_goals
          go_wp2_with fail
          go_meet
          exact ⟨by simp, SB.bel (by assumption)⟩
      case rest =>
        obtain ⟨rfl, hb2⟩ := hcut
        have hb3 := bext hb hb2
        clear cp1 cq1
        cases V with
        | true =>
          go_wp2
          go_roundw
          case rel => exact ⟨k + 1, by omega, by go_num, hb3, hup.out (of_decide_eq_true HV.out)⟩
          case measure => simp [intOf]; omega
        | false =>
          have HF : Hid (Q = false) := by show _ = _; rw [← HQ.out]; exact hno.out (of_decide_eq_false HV.out)
          go_wp2
          go_ret
          exact ⟨by rw [HF.out]; rfl, hb3⟩
    · have HF : Hid (Q = true) := by show _ = _; rw [← HQ.out]; exact pre_end hpre.out HLEN.out hlt
      go_wp2
      go_ret
      exact ⟨by rw [HF.out]; rfl, hb⟩
theorem same26_any (B D : Option Addr) (Rs Ts : List Rm) (nr nt c d : Nat) (n m : Int) (w : World) (hnr : Rs.length = nr) (hnt : Ts.length = nt) (hB : RunsAt w B Rs) (hD : RunsAt w D Ts) (hl : Rs.length ≤ 1000000) (hrs : ∀ r ∈ Rs, r.l.length ≤ 1000000) (hts : ∀ r ∈ Ts, r.l.length ≤ 1000000) :
    Calls Tryz.prog 28 #[.agg #[.slice B nr c, .int .u64 n], .agg #[.slice D nt d, .int .u64 m]] w fun r w' => r = .returned (.bool (decide (n = m) && decide (lvs Rs = lvs Ts))) ∧ Below w.heap.size w w' := by
  have hb0 : Below w.heap.size w ((w.alloc (.cells #[.slice B nr c, .int .u64 n] 27)).alloc (.cells #[.slice D nt d, .int .u64 m] 27)) := ((Below.refl _ _).alloc (Nat.le_refl _) _).alloc (by simp) _
  have hsa := fun W (hW : Below w.heap.size w W) => sameAllB_any B D Rs Ts c d W (hB.below hW) (hD.below hW) hl hrs hts
  rw [hnr, hnt] at hsa
  obtain ⟨Q, hQ⟩ : ∃ Q, decide (lvs Rs = lvs Ts) = Q := ⟨_, rfl⟩
  rw [hQ] at hsa ⊢
  have HSA := Lib.hid hsa
  clear hsa hB hD hrs hts hQ
  by_cases hnm : n = m
  · subst hnm
    rw [decide_eq_true rfl, Bool.true_and]
    go_enter Tryz.func28, Tryz.ntmps28
    go_wp2_with fail
    refine (HSA.out _ hb0).mono ?_
    rintro e w1 ⟨rfl, hb1⟩
    go_wp2
    go_ret
    exact ⟨rfl, bext hb0 hb1⟩
  · have g1 : (n == m) = false := by simpa using hnm
    rw [decide_eq_false hnm, Bool.false_and]
    clear hnm
    go_enter Tryz.func28, Tryz.ntmps28
    go_wp2_with fail
    go_ret
    exact ⟨rfl, hb0⟩
end Go.Proofs.YtolclahkfmplfaaGreat

/- Contracts: shelfmarkref05.May, and what it calls. -/
namespace Go.Proofs.YtolclahkfmplfaaGreat
open Go Go.RowKit
set_option maxRecDepth 100000
theorem pow01_any (k : Nat) (w : World) (hk : k ≤ 16) : Calls Tryz.prog 102 #[.int .i64 (k : Nat)] w fun r w' => r = .returned (.int .i64 ((2 ^ k : Nat) : Int)) ∧ w' = w := by
  obtain ⟨R, hR⟩ : ∃ R, 2 ^ k = R := ⟨_, rfl⟩
  rw [hR]
  have HR := Lib.hid hR
  clear hR
  go_enter Tryz.func102, Tryz.ntmps102
  go_wp2
  go_loopw [3, 4] (fun n i wr => ∃ j p : Nat, j ≤ k ∧ i = .int .i64 j ∧ n = .int .i64 (p : Int) ∧ wr = w ∧ Hid (2 ^ j = p)) (fun _ i _ => k - (intOf i).toNat)
  case atStart => exact ⟨0, 1, Nat.zero_le _, rfl, rfl, rfl, rfl⟩
  case round =>
    obtain ⟨j, p, hj, rfl, rfl, hw, hp⟩ := hrel
    have hw2 := hw.symm
    subst hw2
    by_cases hlt : j < k
    · have hp1 : 2 ^ j ≤ 2 ^ 16 := Nat.pow_le_pow_right (by omega) (by omega)
      have hp2 : p ≤ 65536 := by rw [hp.out] at hp1; omega
      have hpn : Hid (2 ^ (j + 1) = 2 * p) := by show _ = _; rw [Nat.pow_succ, hp.out]; omega
      have hwr : IntKind.i64.wrap (2 * (p : Int)) = ((2 * p : Nat) : Int) := (IntWalk.i64_in _ (by omega)).trans (by omega)
      have i1 : (j : Int) < (k : Int) := by omega
      clear hp1
      go_wp2
      go_roundw
      case rel => exact ⟨j + 1, 2 * p, by omega, by go_num, rfl, by first | trivial | rfl, hpn⟩
      case measure => simp [intOf]; omega
    · have hjk : j = k := by omega
      subst hjk
      have i1 : ¬ (j : Int) < (j : Int) := by omega
      go_wp2
      go_ret
      have hRp : R = p := by rw [← HR.out, hp.out]
      exact ⟨by rw [hRp]; rfl, rfl⟩
theorem power01_any (n : Int) (w : World) (h1 : n ≤ 256) : Calls Tryz.prog 79 #[.int .i64 n] w fun r w' => r = .returned (.bool (pow2 n.toNat)) ∧ w' = w := by
  by_cases hz : 1 ≤ n
  · obtain ⟨m, rfl⟩ : ∃ m : Nat, n = (m : Int) := ⟨n.toNat, (Int.toNat_of_nonneg (by omega)).symm⟩
    have hlg := fun W => log_any m W (by omega)
    have hl16 := log2_le (n := m) (by omega)
    have hpw := fun W => pow01_any (Nat.log2 m) W hl16
    have hP : pow2 ((m : Int)).toNat = decide (((2 ^ Nat.log2 m : Nat) : Int) = (m : Int)) := by
      unfold pow2
      rw [Int.toNat_natCast, decide_eq_true (by omega), Bool.true_and]
      by_cases h : 2 ^ Nat.log2 m = m
      · rw [decide_eq_true h, decide_eq_true (by omega)]
      · rw [decide_eq_false h, decide_eq_false (by omega)]
    rw [hP]
    obtain ⟨L, hL⟩ : ∃ L, Nat.log2 m = L := ⟨_, rfl⟩
    rw [hL] at hlg hpw
    rw [hL]
    obtain ⟨q, hq⟩ : ∃ q, 2 ^ L = q := ⟨_, rfl⟩
    rw [hq] at hpw
    rw [hq]
    obtain ⟨V, hV⟩ : ∃ V, decide ((q : Int) = (m : Int)) = V := ⟨_, rfl⟩
    rw [hV]
    have HV := Lib.hid hV
    clear hV
    have HLG := Lib.hid hlg
    have HPW := Lib.hid hpw
    clear hlg hpw hP hL hq hl16
    go_enter Tryz.func79, Tryz.ntmps79
    go_wp2_with fail
    refine (HLG.out _).mono ?_
    rintro e w1 ⟨rfl, hw1⟩
    subst hw1
    go_wp2_with fail
    refine (HPW.out _).mono ?_
    rintro e w2 ⟨rfl, hw2⟩
    subst hw2
    by_cases hqm : (q : Int) = (m : Int)
    · have hqm2 : ((q : Int) == (m : Int)) = true := by simpa using hqm
      have HT : Hid (V = true) := by show _ = _; rw [← HV.out, decide_eq_true hqm]
      clear hqm
      go_wp2_with fail
      go_ret
      exact ⟨by rw [HT.out]; rfl, rfl⟩
    · have hqm2 : ((q : Int) == (m : Int)) = false := by simpa using hqm
      have HT : Hid (V = false) := by show _ = _; rw [← HV.out, decide_eq_false hqm]
      clear hqm
      go_wp2_with fail
      go_ret
      exact ⟨by rw [HT.out]; rfl, rfl⟩
  · have hP : pow2 n.toNat = false := by unfold pow2; rw [show n.toNat = 0 from Int.toNat_of_nonpos (by omega)]; rfl
    rw [hP]
    go_enter Tryz.func79, Tryz.ntmps79
    go_wp2_with fail
    go_ret
    exact ⟨rfl, rfl⟩
theorem power05_any (n a b : Int) (w : World) (h1 : b ≤ 256) : Calls Tryz.prog 55 #[.int .i64 n, .int .i64 a, .int .i64 b] w fun r w' => r = .returned (.bool (powB n a b)) ∧ w' = w := by
  by_cases hz1 : a ≤ n
  · by_cases hz2 : n ≤ b
    · have hp := fun W => power01_any n W (by omega)
      have hB : powB n a b = pow2 n.toNat := by unfold powB; rw [decide_eq_true hz1, decide_eq_true hz2]; simp
      rw [hB]
      obtain ⟨V, hV⟩ : ∃ V, pow2 n.toNat = V := ⟨_, rfl⟩
      rw [hV] at hp
      rw [hV]
      have HP := Lib.hid hp
      clear hp hB hV
      go_enter Tryz.func55, Tryz.ntmps55
      go_wp2_with fail
      refine (HP.out _).mono ?_
      rintro e w1 ⟨rfl, hw1⟩
      subst hw1
      go_wp2_with fail
      go_ret
      exact ⟨rfl, rfl⟩
    · have hB : powB n a b = false := by unfold powB; rw [decide_eq_false hz2]; simp
      rw [hB]
      go_enter Tryz.func55, Tryz.ntmps55
      go_wp2_with fail
      go_ret
      exact ⟨rfl, rfl⟩
  · have hB : powB n a b = false := by unfold powB; rw [decide_eq_false hz1]; simp
    rw [hB]
    go_enter Tryz.func55, Tryz.ntmps55
    go_wp2_with fail
    go_ret
    exact ⟨rfl, rfl⟩
theorem height05_any (c : Cfg) (s g : Nat) (w : World) (hg : c.seg = (g : Int)) (hs : s ≤ 65536) (h0 : 0 < g) (h1 : g ≤ s) :
    Calls Tryz.prog 56 #[.agg c.row, .int .i64 (s : Nat)] w fun r w' => r = .returned (.int .i64 (Nat.log2 (s / g) : Nat)) ∧ Below w.heap.size w w' := by
  obtain ⟨W0, hW0⟩ : ∃ W0, w.alloc (.cells c.row 23) = W0 := ⟨_, rfl⟩
  have hb0 : Below w.heap.size w W0 := by rw [← hW0]; exact (Below.refl _ _).alloc (Nat.le_refl _) _
  have b0 : Blk W0 w.heap.size 23 c.row := by rw [← hW0]; exact Blk.new _ _ _
  have HW0 := Lib.hid hW0
  have c2 : W0.cell? ⟨w.heap.size, 2, none⟩ = some (.int .i64 (g : Int)) := (b0.cell 2).trans (by rw [← hg]; rfl)
  have hq : (s : Int).tdiv (g : Int) = ((s / g : Nat) : Int) := by rw [Int.tdiv_eq_ediv_of_nonneg (by omega)]; exact (Int.natCast_ediv s g).symm
  have hd1 : 0 < s / g := Nat.div_pos h1 h0
  have hd2 : s / g ≤ s := Nat.div_le_self s g
  have hz : ¬ (g : Int) = 0 := by omega
  obtain ⟨Q, hQ⟩ : ∃ Q, s / g = Q := ⟨_, rfl⟩
  rw [hQ] at hq hd1 hd2 ⊢
  have hw : IntKind.i64.wrap (Q : Int) = (Q : Int) := IntWalk.i64_in _ (by omega)
  have HD := Lib.hid (fun W => log_any Q W (by omega))
  clear hW0 hQ b0 hg h1
  go_enter Tryz.func56, Tryz.ntmps56
  go_upto_region 1 with fail
  rw [HW0.out]
  go_wp2_with fail
  refine (HD.out _).mono ?_
  rintro e w1 ⟨rfl, hw1⟩
  subst hw1
  go_wp2
  go_ret
  exact ⟨rfl, hb0⟩
set_option maxHeartbeats 4000000 in
theorem takes05_any (c : Cfg) (n d h l : Nat) (w : World) (hs : TakeS c n d h l) :
    Calls Tryz.prog 57 #[.agg c.row, .int .i64 (n : Nat)] w fun r w' => r = .returned (.int .i64 (takesN n d h l : Nat)) ∧ Below w.heap.size w w' := by
  obtain ⟨T, hT⟩ : ∃ T, takesN n d h l = T := ⟨_, rfl⟩
  rw [hT]
  have HT : Hid (Fits n d h 16 l ∧ takesF n d h 16 l = T) := ⟨fits_start hs.n2 hs.dh (by have := hs.l1; omega) hs.l2, hT⟩
  have HS := Lib.hid hs
  clear hT hs
  obtain ⟨W0, hW0⟩ : ∃ W0, w.alloc (.cells c.row 23) = W0 := ⟨_, rfl⟩
  have hb0 : Below w.heap.size w W0 := by rw [← hW0]; exact (Below.refl _ _).alloc (Nat.le_refl _) _
  have b0 : Blk W0 w.heap.size 23 c.row := by rw [← hW0]; exact Blk.new _ _ _
  have HW0 := Lib.hid hW0
  have c3 : W0.cell? ⟨w.heap.size, 3, none⟩ = some (.int .i64 (l : Int)) := (b0.cell 3).trans (by rw [← HS.out.least]; rfl)
  have c4 : W0.cell? ⟨w.heap.size, 4, none⟩ = some (.int .i64 (d : Int)) := (b0.cell 4).trans (by rw [← HS.out.den]; rfl)
  have c7 : W0.cell? ⟨w.heap.size, 7, none⟩ = some (.int .i64 (h : Int)) := (b0.cell 7).trans (by rw [← HS.out.high]; rfl)
  have i0 := b0.lt
  clear hW0 b0
  go_enter Tryz.func57, Tryz.ntmps57
  go_upto_region 1 with fail
  rw [HW0.out]
  go_wp2_with fail
  go_loopw [5] (fun s wr => ∃ z g : Nat, s = .int .i64 (z : Int) ∧ wr = W0 ∧ Hid (Fits n d h g z ∧ takesF n d h g z = T ∧ 65536 - z ≤ 65536)) (fun s _ => 65536 - (intOf s).toNat)
  case atStart => exact ⟨l, 16, rfl, rfl, HT.out.1, HT.out.2, by omega⟩
  case round =>
    obtain ⟨z, g, rfl, hw, hI⟩ := hrel
    have hw2 := hw.symm
    subst hw2
    obtain ⟨hf, ht, _⟩ := hI.out
    have hz6 := hf.le
    have hz0 := hf.pos
    have hnd : n * d ≤ 1048576 := by
      have := Nat.mul_le_mul HS.out.n2 HS.out.d2
      omega
    have hhz : h * z ≤ 4194304 := by
      have := Nat.mul_le_mul HS.out.h2 hz6
      omega
    have m1 : IntKind.i64.wrap ((n : Int) * (d : Int)) = ((n * d : Nat) : Int) := by rw [show (n : Int) * (d : Int) = ((n * d : Nat) : Int) from by simp]; exact IntWalk.i64_in _ (by omega)
    have m2 : IntKind.i64.wrap ((h : Int) * (z : Int)) = ((h * z : Nat) : Int) := by rw [show (h : Int) * (z : Int) = ((h * z : Nat) : Int) from by simp]; exact IntWalk.i64_in _ (by omega)
    have m3 : IntKind.i64.wrap (2 * (z : Int)) = ((2 * z : Nat) : Int) := (IntWalk.i64_in _ (by omega)).trans (by omega)
    obtain ⟨p, hp⟩ : ∃ p, n * d = p := ⟨_, rfl⟩
    obtain ⟨r, hr⟩ : ∃ r, h * z = r := ⟨_, rfl⟩
    by_cases hgo : r < p
    · obtain ⟨k', hk', ht', hf'⟩ := takes_step hf (by rw [hp, hr]; exact hgo) HS.out.n2 HS.out.dh
      have hle := hf'.le
      have HN : Hid (Fits n d h k' (2 * z) ∧ takesF n d h k' (2 * z) = T ∧ 65536 - 2 * z ≤ 65536) := ⟨hf', by rw [← ht', ht], by omega⟩
      have i1 : (r : Int) < (p : Int) := by omega
      rw [hp] at m1
      rw [hr] at m2
      clear hk' ht' hf' hI hf ht hp hr hnd hhz
      go_wp2_with fail
      go_roundw
      case rel => exact ⟨2 * z, k', rfl, by first | trivial | rfl, HN⟩
      case measure => simp [intOf]; omega
    · have HV : Hid (T = z) := by show _ = _; rw [← ht, takes_end (by rw [hp, hr]; exact hgo)]
      have i1 : ¬ (r : Int) < (p : Int) := by omega
      rw [hp] at m1
      rw [hr] at m2
      clear hI hf ht hp hr hnd hhz
      go_wp2_with fail
      go_ret
      exact ⟨by rw [HV.out]; rfl, hb0⟩
end Go.Proofs.YtolclahkfmplfaaGreat

/- Contract: shelfmarkref05.May. -/
namespace Go.Proofs.YtolclahkfmplfaaGreat
open Go Go.RowKit
set_option maxRecDepth 100000
set_option maxHeartbeats 16000000 in
theorem may05_any (c : Cfg) (w : World) : Calls Tryz.prog 35 #[.agg c.row] w fun r w' => r = .returned (.bool (okC c)) ∧ Below w.heap.size w w' := by
  obtain ⟨W0, hW0⟩ : ∃ W0, w.alloc (.cells c.row 23) = W0 := ⟨_, rfl⟩
  have hb0 : Below w.heap.size w W0 := by rw [← hW0]; exact (Below.refl _ _).alloc (Nat.le_refl _) _
  have b0 : Blk W0 w.heap.size 23 c.row := by rw [← hW0]; exact Blk.new _ _ _
  have HW0 := Lib.hid hW0
  have HB0 := Lib.hid hb0
  have HC0 := Lib.hid b0
  have hp1 := fun W => power05_any c.seg 4 64 W (by omega)
  have hp2 := fun W => power05_any c.least c.seg 256 W (by omega)
  obtain ⟨t4, h4⟩ : ∃ t, powB c.seg 4 64 = t := ⟨_, rfl⟩
  obtain ⟨t5, h5⟩ : ∃ t, powB c.least c.seg 256 = t := ⟨_, rfl⟩
  rw [h4] at hp1
  rw [h5] at hp2
  obtain ⟨V, hV⟩ : ∃ V, okC c = V := ⟨_, rfl⟩
  rw [hV]
  have hno1 : ∀ b ∈ sizesL c, b = false → V = false := fun b hb h => by
    rw [← hV]; unfold okC
    rw [show (sizesL c).all id = false from by rw [List.all_eq_false]; exact ⟨b, hb, by rw [h]; simp⟩]; rfl
  have hno2 : ∀ b ∈ partsL c, b = false → V = false := fun b hb h => by
    rw [← hV]; unfold okC
    rw [show (partsL c).all id = false from by rw [List.all_eq_false]; exact ⟨b, hb, by rw [h]; simp⟩, Bool.and_false]; rfl
  have hno3 : ∀ b ∈ roomL c, b = false → V = false := fun b hb h => by
    rw [← hV]; unfold okC
    rw [show (roomL c).all id = false from by rw [List.all_eq_false]; exact ⟨b, hb, by rw [h]; simp⟩, Bool.and_false]; rfl
  unfold sizesL at hno1
  unfold partsL at hno2
  unfold roomL at hno3
  rw [h4, h5] at hno1
  have HV := Lib.hid hV
  have HP1 := Lib.hid hp1
  have HP2 := Lib.hid hp2
  have H4 := Lib.hid h4
  have H5 := Lib.hid h5
  have N1 := Lib.hid hno1
  have N2 := Lib.hid hno2
  have N3 := Lib.hid hno3
  clear hW0 hb0 hp1 hp2 h4 h5 hV hno1 hno2 hno3
  have q0 : W0.cell? ⟨w.heap.size, 0, none⟩ = some (.int .u8 c.tag) := b0.cell 0
  have q1 : W0.cell? ⟨w.heap.size, 1, none⟩ = some (.int .i64 c.most) := b0.cell 1
  have q2 : W0.cell? ⟨w.heap.size, 2, none⟩ = some (.int .i64 c.seg) := b0.cell 2
  have q3 : W0.cell? ⟨w.heap.size, 3, none⟩ = some (.int .i64 c.least) := b0.cell 3
  have q4 : W0.cell? ⟨w.heap.size, 4, none⟩ = some (.int .i64 c.den) := b0.cell 4
  have q5 : W0.cell? ⟨w.heap.size, 5, none⟩ = some (.int .i64 c.leafLow) := b0.cell 5
  have q6 : W0.cell? ⟨w.heap.size, 6, none⟩ = some (.int .i64 c.rootLow) := b0.cell 6
  have q7 : W0.cell? ⟨w.heap.size, 7, none⟩ = some (.int .i64 c.rootHigh) := b0.cell 7
  have q8 : W0.cell? ⟨w.heap.size, 8, none⟩ = some (.int .i64 c.leafHigh) := b0.cell 8
  have i0 := b0.lt
  clear b0
  go_enter Tryz.func35, Tryz.ntmps35
  go_upto_region 1 with fail
  rw [HW0.out]
  by_cases a1 : c.tag < 1
  case pos =>
    have HF : Hid (V = false) := N1.out _ (List.mem_cons_self) (decide_eq_false (by omega))
    go_wp2_with fail
    go_ret
    exact ⟨by rw [HF.out]; rfl, HB0.out⟩
  case neg =>
  by_cases a2 : 3 < c.tag
  case pos =>
    have HF : Hid (V = false) := N1.out _ (List.mem_cons_of_mem _ (List.mem_cons_self)) (decide_eq_false (by omega))
    go_wp2_with fail
    go_ret
    exact ⟨by rw [HF.out]; rfl, HB0.out⟩
  case neg =>
  by_cases a3 : c.most < 1
  case pos =>
    have HF : Hid (V = false) := N1.out _ (List.mem_cons_of_mem _ (List.mem_cons_of_mem _ (List.mem_cons_self))) (decide_eq_false (by omega))
    go_wp2_with fail
    go_ret
    exact ⟨by rw [HF.out]; rfl, HB0.out⟩
  case neg =>
  by_cases a4 : 16384 < c.most
  case pos =>
    have HF : Hid (V = false) := N1.out _ (List.mem_cons_of_mem _ (List.mem_cons_of_mem _ (List.mem_cons_of_mem _ (List.mem_cons_self)))) (decide_eq_false (by omega))
    go_wp2_with fail
    go_ret
    exact ⟨by rw [HF.out]; rfl, HB0.out⟩
  case neg =>
  go_wp2_with fail
  refine (HP1.out _).mono ?_
  rintro e v1 ⟨rfl, hv1⟩
  subst hv1
  cases hb1 : t4 with
  | false =>
    have HF : Hid (V = false) := N1.out _ (List.mem_cons_of_mem _ (List.mem_cons_of_mem _ (List.mem_cons_of_mem _ (List.mem_cons_of_mem _ (List.mem_cons_self))))) hb1
    go_wp2_with fail
    go_ret
    exact ⟨by rw [HF.out]; rfl, HB0.out⟩
  | true =>
  go_wp2_with fail
  refine (HP2.out _).mono ?_
  rintro e v2 ⟨rfl, hv2⟩
  subst hv2
  cases hb2 : t5 with
  | false =>
    have HF : Hid (V = false) := N1.out _ (List.mem_cons_of_mem _ (List.mem_cons_of_mem _ (List.mem_cons_of_mem _ (List.mem_cons_of_mem _ (List.mem_cons_of_mem _ (List.mem_cons_self)))))) hb2
    go_wp2_with fail
    go_ret
    exact ⟨by rw [HF.out]; rfl, HB0.out⟩
  | true =>
  by_cases a7 : c.den < 1
  case pos =>
    have HF : Hid (V = false) := N1.out _ (List.mem_cons_of_mem _ (List.mem_cons_of_mem _ (List.mem_cons_of_mem _ (List.mem_cons_of_mem _ (List.mem_cons_of_mem _ (List.mem_cons_of_mem _ (List.mem_cons_self))))))) (decide_eq_false (by omega))
    go_wp2_with fail
    go_ret
    exact ⟨by rw [HF.out]; rfl, HB0.out⟩
  case neg =>
  by_cases a8 : 64 < c.den
  case pos =>
    have HF : Hid (V = false) := N1.out _ (List.mem_cons_of_mem _ (List.mem_cons_of_mem _ (List.mem_cons_of_mem _ (List.mem_cons_of_mem _ (List.mem_cons_of_mem _ (List.mem_cons_of_mem _ (List.mem_cons_of_mem _ (List.mem_cons_self)))))))) (decide_eq_false (by omega))
    go_wp2_with fail
    go_ret
    exact ⟨by rw [HF.out]; rfl, HB0.out⟩
  case neg =>
  by_cases b1 : c.leafLow < 0
  case pos =>
    have HF : Hid (V = false) := N2.out _ (List.mem_cons_self) (decide_eq_false (by omega))
    go_wp2_with fail
    go_ret
    exact ⟨by rw [HF.out]; rfl, HB0.out⟩
  case neg =>
  by_cases b2 : c.rootLow ≤ c.leafLow
  case pos =>
    have HF : Hid (V = false) := N2.out _ (List.mem_cons_of_mem _ (List.mem_cons_self)) (decide_eq_false (by omega))
    go_wp2_with fail
    go_ret
    exact ⟨by rw [HF.out]; rfl, HB0.out⟩
  case neg =>
  by_cases b4 : c.leafHigh ≤ c.rootHigh
  case pos =>
    have HF : Hid (V = false) := N2.out _ (List.mem_cons_of_mem _ (List.mem_cons_of_mem _ (List.mem_cons_of_mem _ (List.mem_cons_self)))) (decide_eq_false (by omega))
    go_wp2_with fail
    go_ret
    exact ⟨by rw [HF.out]; rfl, HB0.out⟩
  case neg =>
  by_cases b5 : c.den < c.leafHigh
  case pos =>
    have HF : Hid (V = false) := N2.out _ (List.mem_cons_of_mem _ (List.mem_cons_of_mem _ (List.mem_cons_of_mem _ (List.mem_cons_of_mem _ (List.mem_cons_self))))) (decide_eq_false (by omega))
    go_wp2_with fail
    go_ret
    exact ⟨by rw [HF.out]; rfl, HB0.out⟩
  case neg =>
  by_cases b6 : c.den < c.rootLow
  case pos =>
    have HF : Hid (V = false) := N3.out _ (List.mem_cons_of_mem _ (List.mem_cons_self)) (decide_eq_false (by omega))
    go_wp2_with fail
    go_ret
    exact ⟨by rw [HF.out]; rfl, HB0.out⟩
  case neg =>
  by_cases d1 : c.rootHigh < 0
  case pos =>
    have HF : Hid (V = false) := N3.out _ (List.mem_cons_self) (decide_eq_false (by omega))
    go_wp2_with fail
    go_ret
    exact ⟨by rw [HF.out]; rfl, HB0.out⟩
  case neg =>
  have hz1 : IntKind.i64.wrap (2 * c.rootHigh) = 2 * c.rootHigh := IntWalk.i64_in _ (by omega)
  have hz2 : IntKind.i64.wrap (8 * c.rootLow) = 8 * c.rootLow := IntWalk.i64_in _ (by omega)
  have hz3 : IntKind.i64.wrap (2 * c.den) = 2 * c.den := IntWalk.i64_in _ (by omega)
  subst hb1 hb2
  have hsg := H4.out
  have hls := H5.out
  simp only [powB, Bool.and_eq_true, decide_eq_true_eq] at hsg hls
  obtain ⟨⟨hx5, hx6⟩, hx7⟩ := hsg
  obtain ⟨⟨hx8, hx9⟩, hx10⟩ := hls
  have hm : 0 ≤ c.rootLow * c.least ∧ c.rootLow * c.least ≤ 16384 := by
    have h1 : 0 ≤ c.rootLow := by omega
    have h2 : c.rootLow ≤ 64 := by omega
    refine ⟨Int.mul_nonneg h1 (by omega), ?_⟩
    have := Int.mul_le_mul h2 hx9 (by omega) (by omega)
    omega
  have hz4 : IntKind.i64.wrap (c.rootLow * c.least) = c.rootLow * c.least := IntWalk.i64_in _ (by omega)
  have HX := Lib.hid (show (4 ≤ c.seg ∧ c.seg ≤ 64) ∧ (c.seg ≤ c.least ∧ c.least ≤ 256) ∧ pow2 c.seg.toNat = true ∧ pow2 c.least.toNat = true from ⟨⟨hx5, hx6⟩, ⟨hx8, hx9⟩, hx7, hx10⟩)
  clear hx5 hx6 hx7 hx8 hx9 hx10 hm
  by_cases d2 : 2 * c.rootHigh < c.den
  case pos =>
    have HF : Hid (V = false) := N3.out _ (List.mem_cons_self) (decide_eq_false (by omega))
    go_wp2_with fail
    go_ret
    exact ⟨by rw [HF.out]; rfl, HB0.out⟩
  case neg =>
  by_cases d3 : c.den < 8 * c.rootLow
  case pos =>
    have HF : Hid (V = false) := N3.out _ (List.mem_cons_of_mem _ (List.mem_cons_self)) (decide_eq_false (by omega))
    go_wp2_with fail
    go_ret
    exact ⟨by rw [HF.out]; rfl, HB0.out⟩
  case neg =>
  by_cases d4 : c.rootLow * c.least < 2 * c.den
  case pos =>
    have HF : Hid (V = false) := N3.out _ (List.mem_cons_of_mem _ (List.mem_cons_of_mem _ (List.mem_cons_self))) (decide_eq_false (by omega))
    go_wp2_with fail
    go_ret
    exact ⟨by rw [HF.out]; rfl, HB0.out⟩
  case neg =>
  go_upto_region 7 with fail
  clear hz1 hz2 hz3 hz4
  obtain ⟨⟨hx5, hx6⟩, ⟨hx8, hx9⟩, hx7, hx10⟩ := HX.out
  have hts : TakeS c c.most.toNat c.den.toNat c.rootHigh.toNat c.least.toNat := ⟨(Int.toNat_of_nonneg (by omega)).symm, (Int.toNat_of_nonneg (by omega)).symm, (Int.toNat_of_nonneg (by omega)).symm, by omega, by omega, by omega, by omega, by omega, by omega, by omega, by omega⟩
  have htl := takes_le (n := c.most.toNat) (den := c.den.toNat) (high := c.rootHigh.toNat) hts.n2 hts.dh (fits_start (s := c.least.toNat) hts.n2 hts.dh (by have := hts.l1; omega) hts.l2)
  have htk := fun W => takes05_any c c.most.toNat c.den.toNat c.rootHigh.toNat c.least.toNat W hts
  have htall : c.tall = Nat.log2 (takesN c.most.toNat c.den.toNat c.rootHigh.toNat c.least.toNat / c.seg.toNat) := rfl
  have htl2 : takesN c.most.toNat c.den.toNat c.rootHigh.toNat c.least.toNat ≤ 65536 ∧ c.least.toNat ≤ takesN c.most.toNat c.den.toNat c.rootHigh.toNat c.least.toNat := htl
  obtain ⟨T, hT⟩ : ∃ T, takesN c.most.toNat c.den.toNat c.rootHigh.toNat c.least.toNat = T := ⟨_, rfl⟩
  rw [hT] at htk htall htl2
  rw [Int.toNat_of_nonneg (by omega : 0 ≤ c.most)] at htk
  have hht := fun W => height05_any c T c.seg.toNat W (Int.toNat_of_nonneg (by omega)).symm htl2.1 (by omega) (by omega)
  rw [← htall] at hht
  obtain ⟨t, ht⟩ : ∃ t, c.tall = t := ⟨_, rfl⟩
  rw [ht] at hht htall
  have ht16 : t ≤ 16 := by
    rw [htall]
    exact log2_le (Nat.le_trans (Nat.div_le_self _ _) htl2.1)
  have hm1 : 0 ≤ c.den * (t : Int) ∧ c.den * (t : Int) ≤ 1024 := by
    refine ⟨Int.mul_nonneg (by omega) (by omega), ?_⟩
    have := Int.mul_le_mul (show c.den ≤ 64 by omega) (show (t : Int) ≤ 16 by omega) (by omega) (by omega)
    omega
  have hm2 : 0 ≤ (c.leafHigh - c.rootHigh) * c.seg ∧ (c.leafHigh - c.rootHigh) * c.seg ≤ 4096 := by
    refine ⟨Int.mul_nonneg (by omega) (by omega), ?_⟩
    have := Int.mul_le_mul (show c.leafHigh - c.rootHigh ≤ 64 by omega) hx6 (by omega) (by omega)
    omega
  have hz1 : IntKind.i64.wrap (c.leafHigh - c.rootHigh) = c.leafHigh - c.rootHigh := IntWalk.i64_in _ (by omega)
  have hz2 : IntKind.i64.wrap ((c.leafHigh - c.rootHigh) * c.seg) = (c.leafHigh - c.rootHigh) * c.seg := IntWalk.i64_in _ (by omega)
  have hz3 : IntKind.i64.wrap (c.den * (t : Int)) = c.den * (t : Int) := IntWalk.i64_in _ (by omega)
  have HE : Hid (V = decide (c.den * (t : Int) ≤ (c.leafHigh - c.rootHigh) * c.seg)) := by
    show _ = _
    rw [← HV.out]
    unfold okC tallB
    rw [show (sizesL c).all id = true from by unfold sizesL; rw [H4.out, H5.out]; simp only [List.all_cons, List.all_nil, id, Bool.and_eq_true, decide_eq_true_eq, Bool.and_true, true_and]; omega,
      show (partsL c).all id = true from by unfold partsL; simp only [List.all_cons, List.all_nil, id, Bool.and_eq_true, decide_eq_true_eq, Bool.and_true]; omega,
      show (roomL c).all id = true from by unfold roomL; simp only [List.all_cons, List.all_nil, id, Bool.and_eq_true, decide_eq_true_eq, Bool.and_true]; omega, ht]
    rfl
  have HTK := Lib.hid htk
  have HHT := Lib.hid hht
  have i3 := HC0.out.lt
  clear hts htl htk htall htl2 hT hht ht hx5 hx6 hx7 hx8 hx9 hx10 hm1 hm2 ht16
  go_cut [2] from 106 to 123 (fun v wx => v = .bool (decide (c.den * (t : Int) ≤ (c.leafHigh - c.rootHigh) * c.seg)) ∧ Below v2.heap.size v2 wx)
  case first =>
    go_region_held3 (fun w' => (∀ bq jq, bq < v2.heap.size → w'.cell? ⟨bq, jq, none⟩ = v2.cell? ⟨bq, jq, none⟩) ∧ (∀ bq jq, bq < v2.heap.size → w'.frozen? ⟨bq, jq, none⟩ = v2.frozen? ⟨bq, jq, none⟩) ∧ v2.heap.size ≤ w'.heap.size ∧ Below v2.heap.size v2 w') ((with_reducible first | exact SB.init | exact SB.init0 | exact SB.alloc _ (by assumption) | exact SB.allocD _ (by assumption) | exact SB.below (by assumption) (by assumption) | assumption))
      (first
        | (go_at_call 57; refine (HTK.out _).mono ?_; rintro e21 v21 ⟨rfl, hv21⟩; have hl21 := SB.le hv21 (by assumption); obtain ⟨hc21, hz21, hs21⟩ := wfacts hv21)
        | (go_at_call 56; refine (HHT.out _).mono ?_; rintro e22 v22 ⟨rfl, hv22⟩; have hl22 := SB.le hv22 (by assumption); obtain ⟨hc22, hz22, hs22⟩ := wfacts hv22)
        | fail "no arm")
    all_goals
      go_wp2_with fail
      go_meet
      exact ⟨by simp, SB.bel (by assumption)⟩
  case rest =>
    obtain ⟨rfl, hb4⟩ := hcut
    go_wp2_with fail
    go_ret
    exact ⟨by rw [HE.out]; rfl, bext HB0.out hb4⟩
end Go.Proofs.YtolclahkfmplfaaGreat
