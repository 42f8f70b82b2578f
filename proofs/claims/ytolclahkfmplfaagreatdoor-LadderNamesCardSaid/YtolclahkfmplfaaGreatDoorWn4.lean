/- Fj Pm Mr Fr Mp Rf Fd0 Fh: texts of the claim, in this order. -/
import Derived.Test.YtolclahkfmplfaaGreatDoorWg16
import Derived.Test.YtolclahkfmplfaaGreatDoorWn1
import Derived.Test.YtolclahkfmplfaaGreatDoorWg14
import Derived.Test.YtolclahkfmplfaaGreatDoorWg11
import Derived.Deep.RegionWith
import Derived.Test.YtolclahkfmplfaaGreatDoorWg1
import Derived.Test.YtolclahkfmplfaaGreatDoorProg
import Derived.Test.YtolclahkfmplfaaGreatDoorWg2
import Derived.BigQuiet
import Derived.ArgAppend
import Derived.Lib.SliceRun
import Derived.Deep.RegionLaw
import Derived.Test.YtolclahkfmplfaaGreatDoorWn2
import Derived.Test.YtolclahkfmplfaaGreatDoorWn3
import Derived.Test.YtolclahkfmplfaaGreatDoorWg5
/- Contracts: ladder.anew, shelfmarkref27.Anew. -/
namespace Go.Proofs.YtolclahkfmplfaaGreatDoor
open Go Go.RowKit
set_option maxRecDepth 100000
def anE (c : Cfg) (L : Lv) (l : List Pr) : Int := if c.most < (l.length : Int) then 9 else ofEr L l
def anL (c : Cfg) (L : Lv) (l : List Pr) : Lv := if c.most < (l.length : Int) then [] else ofLr L l
def anN (c : Cfg) (L : Lv) (n : Int) (l : List Pr) : Int := if c.most < (l.length : Int) then 0 else ofNr L n l
set_option maxHeartbeats 16000000 in
theorem anew_any (B : Option Addr) (Rs : List Rm) (k : Nat) (c : Cfg) (n : Int) (A : Option Addr) (l : List Pr) (ca : Nat) (w : World) (hB : RunsAt w B Rs) (hT : tot (lvs Rs) ≤ 1000000) (hl : Rs.length ≤ 1000000) (hA : Sl w A (l.flatMap Pr.cells)) (hl6 : l.length ≤ 65536) :
    Calls Tryz.prog 25 #[.agg (lrow c B Rs.length k n), .slice A l.length ca] w (GivesLd (ldC c (anE c (lvs Rs) l)) (anL c (lvs Rs) l) (anN c (lvs Rs) n l) (anE c (lvs Rs) l) w) := by
  obtain ⟨W0, hW0⟩ : ∃ W0, (w.alloc (.cells #[.int .u8 c.tag, .int .i64 c.most, .int .i64 c.seg, .int .i64 c.least, .int .i64 c.den, .int .i64 c.leafLow, .int .i64 c.rootLow, .int .i64 c.rootHigh, .int .i64 c.leafHigh, .slice B Rs.length k, .int .u64 n] 29)).alloc (.cells #[.int .u8 0, .int .i64 0, .int .i64 0, .int .i64 0, .int .i64 0, .int .i64 0, .int .i64 0, .int .i64 0, .int .i64 0, .slice none 0 0, .int .u64 0] 29) = W0 := ⟨_, rfl⟩
  have hb0 : Below w.heap.size w W0 := by rw [← hW0]; exact ((Below.refl _ _).alloc (Nat.le_refl _) _).alloc (by simp) _
  have b0 : Blk W0 w.heap.size 29 #[.int .u8 c.tag, .int .i64 c.most, .int .i64 c.seg, .int .i64 c.least, .int .i64 c.den, .int .i64 c.leafLow, .int .i64 c.rootLow, .int .i64 c.rootHigh, .int .i64 c.leafHigh, .slice B Rs.length k, .int .u64 n] := by rw [← hW0]; exact (Blk.new _ _ _).alloc _
  have br0 : Blk W0 (w.heap.size + 1) 29 #[.int .u8 0, .int .i64 0, .int .i64 0, .int .i64 0, .int .i64 0, .int .i64 0, .int .i64 0, .int .i64 0, .int .i64 0, .slice none 0 0, .int .u64 0] := by
    rw [← hW0]
    have := Blk.new (w.alloc (.cells #[.int .u8 c.tag, .int .i64 c.most, .int .i64 c.seg, .int .i64 c.least, .int .i64 c.den, .int .i64 c.leafLow, .int .i64 c.rootLow, .int .i64 c.rootHigh, .int .i64 c.leafHigh, .slice B Rs.length k, .int .u64 n] 29)) 29 #[.int .u8 0, .int .i64 0, .int .i64 0, .int .i64 0, .int .i64 0, .int .i64 0, .int .i64 0, .int .i64 0, .int .i64 0, .slice none 0 0, .int .u64 0]
    rwa [World.size_alloc] at this
  have HW0 := Lib.hid hW0
  have HB := Lib.hid (hB.below hb0)
  have HB0 := Lib.hid hb0
  have HC0 := Lib.hid b0
  have HR0 := Lib.hid br0
  have hof := fun W (hW : Below w.heap.size w W) => ofR_any B A Rs l k ca n W (hB.below hW) hT hl (hA.below hW) hl6
  obtain ⟨LA, hLA⟩ : ∃ x, ofLr (lvs Rs) l = x := ⟨_, rfl⟩
  obtain ⟨NA, hNA⟩ : ∃ x, ofNr (lvs Rs) n l = x := ⟨_, rfl⟩
  obtain ⟨EA, hEA⟩ : ∃ x, ofEr (lvs Rs) l = x := ⟨_, rfl⟩
  have hno : EA ≠ 0 → ldC c EA = cz ∧ LA = [] ∧ NA = 0 := fun h => by
    obtain ⟨z1, _, z3⟩ := of_no (n := n) hEA h
    exact ⟨by unfold ldC; rw [if_neg h], by rw [← hLA, z3], by rw [← hNA, z1]⟩
  rw [hLA, hNA, hEA] at hof
  obtain ⟨E9, hE9⟩ : ∃ x, anE c (lvs Rs) l = x := ⟨_, rfl⟩
  obtain ⟨L9, hL9⟩ : ∃ x, anL c (lvs Rs) l = x := ⟨_, rfl⟩
  obtain ⟨N9, hN9⟩ : ∃ x, anN c (lvs Rs) n l = x := ⟨_, rfl⟩
  rw [hE9, hL9, hN9]
  unfold anE at hE9
  unfold anL at hL9
  unfold anN at hN9
  rw [hEA] at hE9
  rw [hLA] at hL9
  rw [hNA] at hN9
  have HOF := Lib.hid hof
  have HNO := Lib.hid hno
  have HE9 := Lib.hid hE9
  have HL9 := Lib.hid hL9
  have HN9 := Lib.hid hN9
  clear hW0 hof hno hE9 hL9 hN9 hLA hNA hEA hB hA
  have q0 : W0.cell? ⟨w.heap.size, 0, none⟩ = some (.int .u8 c.tag) := b0.cell 0
  have q1 : W0.cell? ⟨w.heap.size, 1, none⟩ = some (.int .i64 c.most) := b0.cell 1
  have q2 : W0.cell? ⟨w.heap.size, 2, none⟩ = some (.int .i64 c.seg) := b0.cell 2
  have q3 : W0.cell? ⟨w.heap.size, 3, none⟩ = some (.int .i64 c.least) := b0.cell 3
  have q4 : W0.cell? ⟨w.heap.size, 4, none⟩ = some (.int .i64 c.den) := b0.cell 4
  have q5 : W0.cell? ⟨w.heap.size, 5, none⟩ = some (.int .i64 c.leafLow) := b0.cell 5
  have q6 : W0.cell? ⟨w.heap.size, 6, none⟩ = some (.int .i64 c.rootLow) := b0.cell 6
  have q7 : W0.cell? ⟨w.heap.size, 7, none⟩ = some (.int .i64 c.rootHigh) := b0.cell 7
  have q8 : W0.cell? ⟨w.heap.size, 8, none⟩ = some (.int .i64 c.leafHigh) := b0.cell 8
  have q9 : W0.cell? ⟨w.heap.size, 9, none⟩ = some (.slice B Rs.length k) := b0.cell 9
  have q10 : W0.cell? ⟨w.heap.size, 10, none⟩ = some (.int .u64 n) := b0.cell 10
  have l1 := b0.lt
  clear b0 br0 hb0
  go_enter Tryz.func25, Tryz.ntmps25
  go_upto_region 1 with fail
  rw [HW0.out]
  by_cases hfu : c.most < (l.length : Int)
  case pos =>
    have HZ : Hid (E9 = 9 ∧ L9 = [] ∧ N9 = 0) := by
      show _ ∧ _
      rw [← HE9.out, ← HL9.out, ← HN9.out, if_pos hfu, if_pos hfu, if_pos hfu]
      exact ⟨rfl, rfl, rfl⟩
    have br := HR0.out
    have r0 : W0.cell? ⟨w.heap.size + 1, 0, none⟩ = some (.int .u8 0) := br.cell 0
    have r1 : W0.cell? ⟨w.heap.size + 1, 1, none⟩ = some (.int .i64 0) := br.cell 1
    have r2 : W0.cell? ⟨w.heap.size + 1, 2, none⟩ = some (.int .i64 0) := br.cell 2
    have r3 : W0.cell? ⟨w.heap.size + 1, 3, none⟩ = some (.int .i64 0) := br.cell 3
    have r4 : W0.cell? ⟨w.heap.size + 1, 4, none⟩ = some (.int .i64 0) := br.cell 4
    have r5 : W0.cell? ⟨w.heap.size + 1, 5, none⟩ = some (.int .i64 0) := br.cell 5
    have r6 : W0.cell? ⟨w.heap.size + 1, 6, none⟩ = some (.int .i64 0) := br.cell 6
    have r7 : W0.cell? ⟨w.heap.size + 1, 7, none⟩ = some (.int .i64 0) := br.cell 7
    have r8 : W0.cell? ⟨w.heap.size + 1, 8, none⟩ = some (.int .i64 0) := br.cell 8
    have r9 : W0.cell? ⟨w.heap.size + 1, 9, none⟩ = some (.slice none 0 0) := br.cell 9
    have r10 : W0.cell? ⟨w.heap.size + 1, 10, none⟩ = some (.int .u64 0) := br.cell 10
    have fr0 := br.frozen 0
    have fr1 := br.frozen 1
    have fr2 := br.frozen 2
    have fr3 := br.frozen 3
    have fr4 := br.frozen 4
    have fr5 := br.frozen 5
    have fr6 := br.frozen 6
    have fr7 := br.frozen 7
    have fr8 := br.frozen 8
    have fr9 := br.frozen 9
    have fr10 := br.frozen 10
    clear br
    go_wp2_with fail
    have bz := put11 HR0.out (.int .u8 0) (.int .i64 0) (.int .i64 0) (.int .i64 0) (.int .i64 0) (.int .i64 0) (.int .i64 0) (.int .i64 0) (.int .i64 0) (.slice none 0 0) (.int .u64 0)
    have z0 := bz.cell 0
    have z1 := bz.cell 1
    have z2 := bz.cell 2
    have z3 := bz.cell 3
    have z4 := bz.cell 4
    have z5 := bz.cell 5
    have z6 := bz.cell 6
    have z7 := bz.cell 7
    have z8 := bz.cell 8
    have z9 := bz.cell 9
    have z10 := bz.cell 10
    simp only [List.getElem?_toArray, List.getElem?_cons_zero, List.getElem?_cons_succ] at z0 z1 z2 z3 z4 z5 z6 z7 z8 z9 z10
    refine bodyPost_ret (v := .tuple #[.agg #[.int .u8 0, .int .i64 0, .int .i64 0, .int .i64 0, .int .i64 0, .int .i64 0, .int .i64 0, .int .i64 0, .int .i64 0, .slice none 0 0, .int .u64 0], .int .i64 9]) (by simp [results, Tryz.results25, go_sem, z0, z1, z2, z3, z4, z5, z6, z7, z8, z9, z10]) rfl ?_
    have hcz : ldC c 9 = cz := by unfold ldC; rw [if_neg (by omega)]
    rw [HZ.out.1, HZ.out.2.1, HZ.out.2.2, hcz]
    exact ⟨none, 0, [], rfl, rfl, OwnRs.nil _ _, below11 HB0.out (Nat.le_succ _) _ _ _ _ _ _ _ _ _ _ _⟩
  case neg =>
  have HUQ : Hid (E9 = EA ∧ L9 = LA ∧ N9 = NA) := by
    show _ ∧ _
    rw [← HE9.out, ← HL9.out, ← HN9.out, if_neg hfu, if_neg hfu, if_neg hfu]
    exact ⟨rfl, rfl, rfl⟩
  have bc := HC0.out
  have br := HR0.out
  have q0 : W0.cell? ⟨w.heap.size, 0, none⟩ = some (.int .u8 c.tag) := bc.cell 0
  have q1 : W0.cell? ⟨w.heap.size, 1, none⟩ = some (.int .i64 c.most) := bc.cell 1
  have q2 : W0.cell? ⟨w.heap.size, 2, none⟩ = some (.int .i64 c.seg) := bc.cell 2
  have q3 : W0.cell? ⟨w.heap.size, 3, none⟩ = some (.int .i64 c.least) := bc.cell 3
  have q4 : W0.cell? ⟨w.heap.size, 4, none⟩ = some (.int .i64 c.den) := bc.cell 4
  have q5 : W0.cell? ⟨w.heap.size, 5, none⟩ = some (.int .i64 c.leafLow) := bc.cell 5
  have q6 : W0.cell? ⟨w.heap.size, 6, none⟩ = some (.int .i64 c.rootLow) := bc.cell 6
  have q7 : W0.cell? ⟨w.heap.size, 7, none⟩ = some (.int .i64 c.rootHigh) := bc.cell 7
  have q8 : W0.cell? ⟨w.heap.size, 8, none⟩ = some (.int .i64 c.leafHigh) := bc.cell 8
  have q9 : W0.cell? ⟨w.heap.size, 9, none⟩ = some (.slice B Rs.length k) := bc.cell 9
  have q10 : W0.cell? ⟨w.heap.size, 10, none⟩ = some (.int .u64 n) := bc.cell 10
  have lq := bc.lt
  clear bc br
  go_upto_region 4 with fail
  obtain ⟨U, hU⟩ : ∃ W, W0.alloc (.cells #[.int .u8 c.tag, .int .i64 c.most, .int .i64 c.seg, .int .i64 c.least, .int .i64 c.den, .int .i64 c.leafLow, .int .i64 c.rootLow, .int .i64 c.rootHigh, .int .i64 c.leafHigh, .slice B Rs.length k, .int .u64 n] 60) = W := ⟨_, rfl⟩
  have hau : Below W0.heap.size W0 U := by rw [← hU]; exact (Below.refl _ _).alloc (Nat.le_refl _) _
  have bu : Blk U W0.heap.size 60 (lrow c B Rs.length k n) := by rw [← hU]; exact Blk.new _ _ _
  try rw [hU]
  have HBU := Lib.hid (bext HB0.out hau)
  have HCU := Lib.hid ((HC0.out).below hau (HC0.out).lt)
  have HRU := Lib.hid ((HR0.out).below hau (HR0.out).lt)
  have HNG : Hid (w.heap.size + 1 < W0.heap.size) := (HR0.out).lt
  obtain ⟨gu, hgu⟩ : ∃ g, W0.heap.size = g := ⟨_, rfl⟩
  rw [hgu] at bu HNG
  try rw [hgu]
  have HUU := Lib.hid bu
  have bc := HCU.out
  clear hU hau bu hgu q0 q1 q2 q3 q4 q5 q6 q7 q8 q9 q10 lq
  have q0 : U.cell? ⟨w.heap.size, 0, none⟩ = some (.int .u8 c.tag) := bc.cell 0
  have q1 : U.cell? ⟨w.heap.size, 1, none⟩ = some (.int .i64 c.most) := bc.cell 1
  have q2 : U.cell? ⟨w.heap.size, 2, none⟩ = some (.int .i64 c.seg) := bc.cell 2
  have q3 : U.cell? ⟨w.heap.size, 3, none⟩ = some (.int .i64 c.least) := bc.cell 3
  have q4 : U.cell? ⟨w.heap.size, 4, none⟩ = some (.int .i64 c.den) := bc.cell 4
  have q5 : U.cell? ⟨w.heap.size, 5, none⟩ = some (.int .i64 c.leafLow) := bc.cell 5
  have q6 : U.cell? ⟨w.heap.size, 6, none⟩ = some (.int .i64 c.rootLow) := bc.cell 6
  have q7 : U.cell? ⟨w.heap.size, 7, none⟩ = some (.int .i64 c.rootHigh) := bc.cell 7
  have q8 : U.cell? ⟨w.heap.size, 8, none⟩ = some (.int .i64 c.leafHigh) := bc.cell 8
  have q9 : U.cell? ⟨w.heap.size, 9, none⟩ = some (.slice B Rs.length k) := bc.cell 9
  have q10 : U.cell? ⟨w.heap.size, 10, none⟩ = some (.int .u64 n) := bc.cell 10
  clear bc
  go_wp2_with fail
  refine (HOF.out U HBU.out).mono ?_
  rintro e w8 ⟨B2, k2, R2, rfl, hl2, ho2, hb8⟩
  clear q0 q1 q2 q3 q4 q5 q6 q7 q8 q9 q10
  have HL2 := Lib.hid hl2
  have HO2 := Lib.hid ho2
  have HB8 := Lib.hid (bext HBU.out hb8)
  have HR8 := Lib.hid (HRU.out.below hb8 HRU.out.lt)
  have HU8 := Lib.hid (HUU.out.below hb8 HUU.out.lt)
  have HGU := Lib.hid (show gu < U.heap.size from HUU.out.lt)
  have HSU := Lib.hid HBU.out.size
  clear hl2 ho2 hb8
  go_wp2_with fail
  refine (become_any B B2 Rs.length k R2.length k2 gu c n NA EA _ HU8.out).mono ?_
  obtain ⟨X, hX⟩ : ∃ X, (if EA = 0 then lrow c B2 R2.length k2 NA else lrow cz none 0 0 0) = X := ⟨_, rfl⟩
  rw [hX]
  have HX := Lib.hid hX
  clear hX
  rintro e w9 ⟨rfl, hm9⟩
  have HB9 := Lib.hid (HB8.out.trans (hm9.below (B := w.heap.size) HB8.out.size (fun q hq => by have h1 := HNG.out; omega)))
  have br9 := HR8.out.mod hm9 (fun h => by have h1 := HNG.out; omega)
  have HO9 := Lib.hid ((OwnRs.mk (own_mod HO2.out.row hm9 (fun q hq h => by have h1 := HGU.out; omega)) (fun r hr => own_mod (HO2.out.ent r hr) hm9 (fun q hq h => by have h1 := HGU.out; omega)) : OwnRs w9 U.heap.size B2 k2 R2).mono HSU.out)
  have HR9 := Lib.hid br9
  have r0 : w9.cell? ⟨w.heap.size + 1, 0, none⟩ = some (.int .u8 0) := br9.cell 0
  have r1 : w9.cell? ⟨w.heap.size + 1, 1, none⟩ = some (.int .i64 0) := br9.cell 1
  have r2 : w9.cell? ⟨w.heap.size + 1, 2, none⟩ = some (.int .i64 0) := br9.cell 2
  have r3 : w9.cell? ⟨w.heap.size + 1, 3, none⟩ = some (.int .i64 0) := br9.cell 3
  have r4 : w9.cell? ⟨w.heap.size + 1, 4, none⟩ = some (.int .i64 0) := br9.cell 4
  have r5 : w9.cell? ⟨w.heap.size + 1, 5, none⟩ = some (.int .i64 0) := br9.cell 5
  have r6 : w9.cell? ⟨w.heap.size + 1, 6, none⟩ = some (.int .i64 0) := br9.cell 6
  have r7 : w9.cell? ⟨w.heap.size + 1, 7, none⟩ = some (.int .i64 0) := br9.cell 7
  have r8 : w9.cell? ⟨w.heap.size + 1, 8, none⟩ = some (.int .i64 0) := br9.cell 8
  have r9 : w9.cell? ⟨w.heap.size + 1, 9, none⟩ = some (.slice none 0 0) := br9.cell 9
  have r10 : w9.cell? ⟨w.heap.size + 1, 10, none⟩ = some (.int .u64 0) := br9.cell 10
  have fr0 := br9.frozen 0
  have fr1 := br9.frozen 1
  have fr2 := br9.frozen 2
  have fr3 := br9.frozen 3
  have fr4 := br9.frozen 4
  have fr5 := br9.frozen 5
  have fr6 := br9.frozen 6
  have fr7 := br9.frozen 7
  have fr8 := br9.frozen 8
  have fr9 := br9.frozen 9
  have fr10 := br9.frozen 10
  clear hm9 br9
  by_cases hA0 : EA = 0
  case neg =>
    have hx : X = #[.int .u8 0, .int .i64 0, .int .i64 0, .int .i64 0, .int .i64 0, .int .i64 0, .int .i64 0, .int .i64 0, .int .i64 0, .slice none 0 0, .int .u64 0] := by rw [← HX.out, if_neg hA0]; rfl
    subst hx
    have HV := Lib.hid (HNO.out hA0)
    clear hA0
    go_wp2_with fail
    have bz := put11 HR9.out (.int .u8 0) (.int .i64 0) (.int .i64 0) (.int .i64 0) (.int .i64 0) (.int .i64 0) (.int .i64 0) (.int .i64 0) (.int .i64 0) (.slice none 0 0) (.int .u64 0)
    have z0 := bz.cell 0
    have z1 := bz.cell 1
    have z2 := bz.cell 2
    have z3 := bz.cell 3
    have z4 := bz.cell 4
    have z5 := bz.cell 5
    have z6 := bz.cell 6
    have z7 := bz.cell 7
    have z8 := bz.cell 8
    have z9 := bz.cell 9
    have z10 := bz.cell 10
    simp only [List.getElem?_toArray, List.getElem?_cons_zero, List.getElem?_cons_succ] at z0 z1 z2 z3 z4 z5 z6 z7 z8 z9 z10
    refine bodyPost_ret (v := .tuple #[.agg #[.int .u8 0, .int .i64 0, .int .i64 0, .int .i64 0, .int .i64 0, .int .i64 0, .int .i64 0, .int .i64 0, .int .i64 0, .slice none 0 0, .int .u64 0], .int .i64 EA]) (by simp [results, Tryz.results25, go_sem, z0, z1, z2, z3, z4, z5, z6, z7, z8, z9, z10]) rfl ?_
    rw [HUQ.out.1, HUQ.out.2.1, HUQ.out.2.2, HV.out.1, HV.out.2.1, HV.out.2.2]
    exact ⟨none, 0, [], rfl, rfl, OwnRs.nil _ _, below11 HB9.out (Nat.le_succ _) _ _ _ _ _ _ _ _ _ _ _⟩
  case pos =>
  subst hA0
  have hx : X = lrow c B2 R2.length k2 NA := by rw [← HX.out, if_pos rfl]
  subst hx
  go_wp2_with fail
  have bz := put11 HR9.out (.int .u8 c.tag) (.int .i64 c.most) (.int .i64 c.seg) (.int .i64 c.least) (.int .i64 c.den) (.int .i64 c.leafLow) (.int .i64 c.rootLow) (.int .i64 c.rootHigh) (.int .i64 c.leafHigh) (.slice B2 R2.length k2) (.int .u64 NA)
  have z0 := bz.cell 0
  have z1 := bz.cell 1
  have z2 := bz.cell 2
  have z3 := bz.cell 3
  have z4 := bz.cell 4
  have z5 := bz.cell 5
  have z6 := bz.cell 6
  have z7 := bz.cell 7
  have z8 := bz.cell 8
  have z9 := bz.cell 9
  have z10 := bz.cell 10
  simp only [List.getElem?_toArray, List.getElem?_cons_zero, List.getElem?_cons_succ] at z0 z1 z2 z3 z4 z5 z6 z7 z8 z9 z10
  refine bodyPost_ret (v := .tuple #[.agg #[.int .u8 c.tag, .int .i64 c.most, .int .i64 c.seg, .int .i64 c.least, .int .i64 c.den, .int .i64 c.leafLow, .int .i64 c.rootLow, .int .i64 c.rootHigh, .int .i64 c.leafHigh, .slice B2 R2.length k2, .int .u64 NA], .int .i64 0]) (by simp [results, Tryz.results25, go_sem, z0, z1, z2, z3, z4, z5, z6, z7, z8, z9, z10]) rfl ?_
  rw [HUQ.out.1, HUQ.out.2.1, HUQ.out.2.2]
  exact ⟨B2, k2, R2, rfl, HL2.out, HO9.out.set11 HR9.out (by decide) (by decide) _ _ _ _ _ _ _ _ _ _ _, below11 HB9.out (Nat.le_succ _) _ _ _ _ _ _ _ _ _ _ _⟩
end Go.Proofs.YtolclahkfmplfaaGreatDoor

/- What a map is, on lists of pairs: ranks, neighbours, and what operations do. No program in sight. -/
namespace Go.Proofs.YtolclahkfmplfaaGreatDoor
open Go Go.RowKit

instance : Inhabited Pr := ⟨⟨0, 0⟩⟩
deriving instance DecidableEq for Pr

def keys (l : List Pr) : List Int := l.map Pr.key
def Ris (l : List Pr) : Prop := rises (keys l) = true
instance (l : List Pr) : Decidable (Ris l) := by unfold Ris; infer_instance
def bel (l : List Pr) (k : Int) : Nat := l.countP (fun p => decide (p.key < k))
def upk (l : List Pr) (k : Int) : Nat := l.countP (fun p => decide (p.key ≤ k))
def has (l : List Pr) (k : Int) : Bool := decide (bel l k < upk l k)

theorem ris_iff (l : List Pr) : Ris l ↔ l.Pairwise (fun a b => a.key < b.key) := by
  unfold Ris rises keys
  rw [decide_eq_true_iff, List.pairwise_map]
theorem Ris.nil : Ris [] := by rw [ris_iff]; exact List.Pairwise.nil
theorem ris_cons {p : Pr} {l : List Pr} : Ris (p :: l) ↔ (∀ q ∈ l, p.key < q.key) ∧ Ris l := by rw [ris_iff, ris_iff, List.pairwise_cons]
theorem Ris.sub {l m : List Pr} (h : Ris l) (hs : m.Sublist l) : Ris m := by rw [ris_iff] at h ⊢; exact h.sublist hs
theorem Ris.get {l : List Pr} (h : Ris l) {i j : Nat} (hij : i < j) (hj : j < l.length) : (l[i]'(by omega)).key < (l[j]'hj).key := by
  rw [ris_iff] at h
  exact (List.pairwise_iff_getElem.1 h) i j (by omega) hj hij

theorem bel_le (l : List Pr) (k : Int) : bel l k ≤ l.length := List.countP_le_length
theorem upk_le (l : List Pr) (k : Int) : upk l k ≤ l.length := List.countP_le_length
theorem bel_upk (l : List Pr) (k : Int) : bel l k ≤ upk l k := List.countP_mono_left (by intro p _ h; simp at h ⊢; omega)

theorem count_split (p : Pr → Bool) : ∀ (l : List Pr) (n : Nat), n ≤ l.length → (∀ i (h : i < l.length), i < n → p (l[i]'h) = true) → (∀ i (h : i < l.length), n ≤ i → p (l[i]'h) = false) → l.countP p = n
  | [], n, hn, _, _ => by simp at hn; simp [hn]
  | a :: l, 0, _, _, h2 => by
    rw [List.countP_eq_zero]
    intro x hx
    obtain ⟨i, hi, rfl⟩ := List.getElem_of_mem hx
    rw [h2 i hi (Nat.zero_le _)]
    simp
  | a :: l, n + 1, hn, h1, h2 => by
    rw [List.countP_cons_of_pos (show p a = true from h1 0 (by simp) (by omega)), count_split p l n (by simpa using hn) (fun i h hi => h1 (i + 1) (by simpa using h) (by omega)) (fun i h hi => h2 (i + 1) (by simpa using h) (by omega))]

/-- in a rising list the keys below one come first -/
theorem count_first (p : Pr → Bool) : ∀ (l : List Pr), (∀ i j (hi : i < j) (hj : j < l.length), p (l[j]'hj) = true → p (l[i]'(by omega)) = true) → ∀ i (hi : i < l.length), p (l[i]'hi) = true ↔ i < l.countP p
  | [], _, i, hi => by simp at hi
  | a :: l, h, i, hi => by
    have hl : ∀ i j (hi : i < j) (hj : j < l.length), p (l[j]'hj) = true → p (l[i]'(by omega)) = true := fun i j hij hj => by
      have := h (i + 1) (j + 1) (by omega) (by simpa using hj)
      simpa using this
    by_cases ha : p a = true
    · rw [List.countP_cons_of_pos ha]
      cases i with
      | zero => simp [ha]
      | succ i => simpa using count_first p l hl i (by simpa using hi)
    · have h0 : ∀ x ∈ a :: l, ¬ p x = true := by
        intro x hx hp
        obtain ⟨j, hj, rfl⟩ := List.getElem_of_mem hx
        cases j with
        | zero => exact ha (by simpa using hp)
        | succ j => exact ha (by simpa using h 0 (j + 1) (by omega) hj hp)
      rw [List.countP_eq_zero.2 h0]
      constructor
      · intro hp; exact absurd hp (h0 _ (List.getElem_mem hi))
      · omega

theorem bel_iff {l : List Pr} (h : Ris l) (k : Int) (i : Nat) (hi : i < l.length) : (l[i]'hi).key < k ↔ i < bel l k := by
  have := count_first (fun p => decide (p.key < k)) l (fun i j hij hj hp => by have := h.get hij hj; simp at hp ⊢; omega) i hi
  simpa [bel] using this
theorem upk_iff {l : List Pr} (h : Ris l) (k : Int) (i : Nat) (hi : i < l.length) : (l[i]'hi).key ≤ k ↔ i < upk l k := by
  have := count_first (fun p => decide (p.key ≤ k)) l (fun i j hij hj hp => by have := h.get hij hj; simp at hp ⊢; omega) i hi
  simpa [upk] using this
theorem upk_bel {l : List Pr} (h : Ris l) (k : Int) : upk l k ≤ bel l k + 1 := by
  by_cases h1 : bel l k + 1 < upk l k
  · have hu := upk_le l k
    have a := (upk_iff h k (bel l k + 1) (by omega)).2 h1
    have b := h.get (i := bel l k) (j := bel l k + 1) (by omega) (by omega)
    have c := (bel_iff h k (bel l k) (by omega)).1 (by omega)
    omega
  · omega
theorem has_iff {l : List Pr} (h : Ris l) (k : Int) : has l k = true ↔ ∃ hb : bel l k < l.length, (l[bel l k]'hb).key = k := by
  unfold has
  rw [decide_eq_true_iff]
  constructor
  · intro hlt
    have hu := upk_le l k
    refine ⟨by omega, ?_⟩
    have a := (upk_iff h k (bel l k) (by omega)).2 hlt
    have b := mt (bel_iff h k (bel l k) (by omega)).1 (by omega)
    omega
  · rintro ⟨hb, he⟩
    exact (upk_iff h k (bel l k) hb).1 (by omega)
theorem upk_has {l : List Pr} (h : Ris l) (k : Int) : upk l k = bel l k + (if has l k = true then 1 else 0) := by
  have h1 := upk_bel h k
  have h2 := bel_upk l k
  unfold has
  split <;> rename_i hh <;> simp at hh <;> omega

end Go.Proofs.YtolclahkfmplfaaGreatDoor

/- Contracts: whether pairs rise, whether they may be a map's, and where keys stand. -/
namespace Go.Proofs.YtolclahkfmplfaaGreatDoor
open Go Go.RowKit
set_option maxRecDepth 100000




/-- the order of a pair's key and a key -/
def cmpK (p : Pr) (k : Int) : Int := if p.key < k then -1 else if k < p.key then 1 else 0

theorem cmpK_neg {p : Pr} {k : Int} : cmpK p k < 0 ↔ p.key < k := by unfold cmpK; split <;> (try split) <;> omega
theorem cmpK_zero {p : Pr} {k : Int} : cmpK p k = 0 ↔ p.key = k := by unfold cmpK; split <;> (try split) <;> omega



end Go.Proofs.YtolclahkfmplfaaGreatDoor

/- Slices of pairs that a call hands back in new memory, parts of slices, and append onto a part that is full. No program in sight. -/
namespace Go.Proofs.YtolclahkfmplfaaGreatDoor
open Go Go.RowKit

/-- pairs in memory that is new behind block B -/
def Fr (w : World) (B : Nat) (t : TypeId) (A : Option Addr) (c : Nat) (l : List Pr) : Prop :=
  l.length ≤ c ∧ c ≤ maxLen ∧ ((A = none ∧ l = [] ∧ c = 0) ∨ ∃ g cur, A = some ⟨g, 0, none⟩ ∧ B ≤ g ∧ Blk w g t cur ∧ cur.toList.take (l.length * 2) = l.flatMap Pr.cells ∧ c * 2 ≤ cur.size)

section
variable {w w' : World} {B : Nat} {t : TypeId} {A : Option Addr} {c : Nat} {l : List Pr}
theorem prs_length (l : List Pr) : (l.flatMap Pr.cells).length = l.length * 2 := flat_length Pr.cells 2 Pr.cells_length l
theorem Fr.nil : Fr w B t none 0 [] := ⟨Nat.le_refl _, by unfold maxLen; omega, .inl ⟨rfl, rfl, rfl⟩⟩
theorem Fr.of_own {n : Nat} (h : w.ownsRow B t 2 (.slice A n c) n (l.flatMap Pr.cells)) (hn : n = l.length) : Fr w B t A c l := by
  subst hn
  rcases h.2 with ⟨h1, h2⟩ | ⟨g, cap, cur, h1, h2, h3, h4, h5, h6, h7⟩
  · have : l = [] := List.eq_nil_of_length_eq_zero h2
    subst this
    injection h1 with e1 e2 e3
    subst e1 e3
    exact Fr.nil
  · injection h1 with e1 e2 e3
    subst e1 e3
    exact ⟨h4, h5, .inr ⟨g, cur, rfl, h2, h3, h7, by omega⟩⟩
theorem Fr.sl (h : Fr w B t A c l) : Sl w A (l.flatMap Pr.cells) := by
  rcases h.2.2 with ⟨_, rfl, _⟩ | ⟨g, cur, rfl, _, hg, ht, _⟩
  · exact .inl rfl
  · refine hg.sl 0 _ fun j u hu => ?_
    rw [← ht, List.getElem?_take] at hu
    split at hu
    · simpa using hu
    · cases hu
theorem Fr.below (h : Fr w B t A c l) (hb : Below w.heap.size w w') : Fr w' B t A c l := by
  refine ⟨h.1, h.2.1, ?_⟩
  rcases h.2.2 with h1 | ⟨g, cur, h1, h2, hg, h3⟩
  · exact .inl h1
  · exact .inr ⟨g, cur, h1, h2, hg.below hb hg.lt, h3⟩
theorem Fr.mono {B' : Nat} (h : Fr w B t A c l) (hB : B' ≤ B) : Fr w B' t A c l := by
  refine ⟨h.1, h.2.1, ?_⟩
  rcases h.2.2 with h1 | ⟨g, cur, h1, h2, h3⟩
  · exact .inl h1
  · exact .inr ⟨g, cur, h1, Nat.le_trans hB h2, h3⟩
/-- its first part, full -/
theorem Fr.take (h : Fr w B t A c l) (k : Nat) (hk : k ≤ l.length) (hA : A = none → k = 0) : Fr w B t A k (l.take k) := by
  have hkl : (l.take k).length = k := by simp; omega
  refine ⟨by omega, by have := h.1; have := h.2.1; omega, ?_⟩
  rcases h.2.2 with ⟨h1, h2, _⟩ | ⟨g, cur, h1, h2, h3, h4, h5⟩
  · subst h2; have := hA h1; subst this; exact .inl ⟨h1, rfl, rfl⟩
  · refine .inr ⟨g, cur, h1, h2, h3, ?_, by have := h.1; omega⟩
    rw [hkl]
    have : cur.toList.take (k * 2) = (cur.toList.take (l.length * 2)).take (k * 2) := by rw [List.take_take, Nat.min_eq_left (by omega)]
    rw [this, h4]
    have e : l.flatMap Pr.cells = (l.take k).flatMap Pr.cells ++ (l.drop k).flatMap Pr.cells := by rw [← List.flatMap_append, List.take_append_drop]
    rw [e, List.take_left' (by rw [prs_length, hkl])]

/-- the address of a part -/
def partA (A : Option Addr) (k m : Nat) : Option Addr := if m = k then A else A.map (·.add (k * 2))
theorem flat_take (l : List Pr) (k : Nat) : (l.flatMap Pr.cells).take (k * 2) = (l.take k).flatMap Pr.cells := by
  by_cases h : k ≤ l.length
  · have e : l.flatMap Pr.cells = (l.take k).flatMap Pr.cells ++ (l.drop k).flatMap Pr.cells := by rw [← List.flatMap_append, List.take_append_drop]
    rw [e, List.take_left' (by rw [prs_length]; simp; omega)]
  · rw [List.take_of_length_le (by rw [prs_length]; omega), List.take_of_length_le (by omega)]
theorem flat_drop (l : List Pr) (k : Nat) : (l.flatMap Pr.cells).drop (k * 2) = (l.drop k).flatMap Pr.cells := by
  by_cases h : k ≤ l.length
  · have e : l.flatMap Pr.cells = (l.take k).flatMap Pr.cells ++ (l.drop k).flatMap Pr.cells := by rw [← List.flatMap_append, List.take_append_drop]
    rw [e, List.drop_left' (by rw [prs_length]; simp; omega)]
  · rw [List.drop_eq_nil_of_le (by rw [prs_length]; omega), List.drop_eq_nil_of_le (by omega)]; rfl
theorem Sl.take (h : Sl w A (l.flatMap Pr.cells)) (k : Nat) : Sl w A ((l.take k).flatMap Pr.cells) := by
  rcases h with h | ⟨b, off, h1, h2, h3⟩
  · left; rw [← flat_take, h]; simp
  · refine .inr ⟨b, off, h1, h2, fun j u hu => h3 j u ?_⟩
    rw [← flat_take, List.getElem?_take] at hu
    split at hu
    · exact hu
    · cases hu
theorem Sl.drop (h : Sl w A (l.flatMap Pr.cells)) (k m : Nat) (hm : l.length ≤ m) : Sl w (partA A k m) ((l.drop k).flatMap Pr.cells) := by
  unfold partA
  split
  · rename_i e
    left
    rw [← flat_drop, List.drop_eq_nil_of_le (by rw [prs_length]; omega)]
  · rcases h with h | ⟨b, off, h1, h2, h3⟩
    · left; rw [← flat_drop, h]; simp
    · subst h1
      refine .inr ⟨b, off + k * 2, by simp [Addr.add_lit], h2, fun j u hu => ?_⟩
      rw [← flat_drop, List.getElem?_drop] at hu
      have := h3 _ u hu
      rwa [Nat.add_assoc]
end

/-- append onto a slice without room -/
theorem run_append_full {P : Program} (w : World) (t ty e : TypeId) (i : TypeInfo) (z : Value) (size bytes : Nat) (ht : P.underlying t = some (.slice e)) (hi : P.info? e = some i) (hz : i.zero = some z)
    (hsize : i.size = size) (hby : i.bytes = bytes) (hzs : z.cells.size = size) (hsz : 0 < size)
    (A : Option Addr) (n : Nat) (olds : List Value) (hA : A = none → n = 0) (ho : Sl w A olds) (hlo : olds.length = n * size)
    (A' : Option Addr) (m c : Nat) (news : List Value) (hr : Sl w A' news) (hl : news.length = m * size) (h1 : ∀ u ∈ news, u.oneCell' = true)
    (h63 : n + m ≤ maxLen) (hbytes : (n + m) * bytes ≤ 140737488355328) :
    ∃ v' w', (Builtin.append_ #[t, t] ty #[.slice A n n, .slice A' m c]).run P w = .ok v' w' ∧
      (0 < m → w'.ownsRow w.heap.size e size v' (n + m) (olds ++ news)) ∧ (m = 0 → v' = .slice A n n ∧ w' = w) ∧ w.grownBy w' none := by
  by_cases hm : m = 0
  · subst hm
    refine ⟨.slice A n n, w, ?_, by omega, fun _ => ⟨rfl, rfl⟩, World.grownBy.refl w _⟩
    cases A' with
    | none =>
      cases A with
      | none => have := hA rfl; subst this; simp [Builtin.append_, run_underlying ht, sizeOf, typeInfo, hi, Builtin.lenOf, Builtin.firstCells]
      | some a => simp [Builtin.append_, run_underlying ht, sizeOf, typeInfo, hi, Builtin.lenOf, Builtin.firstCells, storeCells]
    | some a' =>
      cases A with
      | none => have := hA rfl; subst this; simp [Builtin.append_, run_underlying ht, sizeOf, typeInfo, hi, Builtin.lenOf, Builtin.firstCells, loadCells, loadCellsFrom]
      | some a => simp [Builtin.append_, run_underlying ht, sizeOf, typeInfo, hi, Builtin.lenOf, Builtin.firstCells, storeCells, loadCells, loadCellsFrom]
  · have hr' : ∃ b off, A' = some ⟨b, off, none⟩ ∧ ∀ j u, news[j]? = some u → w.cell? ⟨b, off + j, none⟩ = some u := by
      rcases hr with hr | ⟨b, off, h1, _, h3⟩
      · subst hr
        rw [List.length_nil] at hl
        have := Nat.mul_pos (Nat.pos_of_ne_zero hm) hsz
        omega
      · exact ⟨b, off, h1, h3⟩
    obtain ⟨b, off, rfl, hnews⟩ := hr'
    by_cases hn : n = 0
    · subst hn
      have : olds = [] := List.eq_nil_of_length_eq_zero (by simpa using hlo)
      subst this
      cases A with
      | none =>
        obtain ⟨v', w', hrun, h2, h3, _⟩ := run_append_own (P := P) w w.heap.size t ty e i z size bytes ht hi hz hsize hby hzs hsz (.slice none 0 0) 0 [] (World.ownsRow_nil w _ e size) ⟨b, off, none⟩ m c news hl
          (fun j u hu => by rw [Addr.add_lit]; exact hnews j u hu) h1 h63 hbytes (Nat.le_refl _)
        exact ⟨v', w', hrun, fun _ => h2, fun h => absurd h hm, h3⟩
      | some a =>
        obtain ⟨v', w', hrun, h2, h3⟩ := run_append_arg_grows (P := P) w t ty e i z size bytes ht hi hz hsize hby hzs hsz a 0 0 [] (by simp) (by simp) ⟨b, off, none⟩ m c news hl
          (fun j u hu => by rw [Addr.add_lit]; exact hnews j u hu) (by omega) h63 hbytes
        exact ⟨v', w', hrun, fun _ => h2, fun h => absurd h hm, h3⟩
    · rcases ho with ho | ⟨b', off', rfl, _, holds⟩
      · subst ho
        rw [List.length_nil] at hlo
        have := Nat.mul_pos (Nat.pos_of_ne_zero hn) hsz
        omega
      · obtain ⟨v', w', hrun, h2, h3⟩ := run_append_arg_grows (P := P) w t ty e i z size bytes ht hi hz hsize hby hzs hsz ⟨b', off', none⟩ n n olds hlo (fun j u hu => by rw [Addr.add_lit]; exact holds j u hu) ⟨b, off, none⟩ m c news hl
          (fun j u hu => by rw [Addr.add_lit]; exact hnews j u hu) (by omega) h63 hbytes
        exact ⟨v', w', hrun, fun _ => h2, fun h => absurd h hm, h3⟩

theorem step_append_full {P : Program} (w : World) {ops : Array Oper} {o : Oper} {a : Act} {K : Act → World → Prop} {Q : Exit → Act → World → Prop} {E : Prop} (hgd : o.guard = none) (s x : Operand) (t : TypeId)
    (ho : o.op = .call { callee := .builtin .append, args := #[s, x], argTypes := #[t, t] })
    (e : TypeId) (i : TypeInfo) (z : Value) (size bytes : Nat) (ht : P.underlying t = some (.slice e)) (hi : P.info? e = some i) (hz : i.zero = some z)
    (hsize : i.size = size) (hby : i.bytes = bytes) (hzs : z.cells.size = size) (hsz : 0 < size)
    (A : Option Addr) (n : Nat) (olds : List Value) (hA : A = none → n = 0) (hs : a.eval s = .slice A n n) (hol : Sl w A olds) (hlo : olds.length = n * size)
    (A' : Option Addr) (m c : Nat) (news : List Value) (hx : a.eval x = .slice A' m c) (hr : Sl w A' news) (hl : news.length = m * size) (h1 : ∀ u ∈ news, u.oneCell' = true)
    (h63 : n + m ≤ maxLen) (hbytes : (n + m) * bytes ≤ 140737488355328)
    (h : ∀ v' w', (0 < m → w'.ownsRow w.heap.size e size v' (n + m) (olds ++ news)) → (m = 0 → v' = .slice A n n ∧ w' = w) → w.grownBy w' none → K (a.put o.dst v') w') :
    if Region.wanted o (yielded ops a.tmps) = true then Oper.wp P o a w K Q else E := by
  have hw : Region.wanted o (yielded ops a.tmps) = true := by simp [Region.wanted, hgd]
  rw [if_pos hw]
  obtain ⟨v', w', hrun, h2, h3, h4⟩ := run_append_full (P := P) w t o.type e i z size bytes ht hi hz hsize hby hzs hsz A n olds hA hol hlo A' m c news hr hl h1 h63 hbytes
  unfold Oper.wp execOp
  simp only [ho, resolve, invoke, builtin, Sem.run_bind, Sem.run_pure, Result.andThen_ok, List.map_toArray, List.map_cons, List.map_nil, hs, hx, hrun]
  exact h v' w' h2 h3 h4

/-- onto a new slice's full part: again new -/
theorem Fr.append {w w' : World} {B : Nat} {t : TypeId} {A _A' : Option Addr} {_c k : Nat} {l news : List Pr} {v' : Value} {n m : Nat} (h : Fr w B t A k l) (hn : n = l.length) (hkn : k = n) (hm : m = news.length) (hB : B ≤ w.heap.size)
    (h1 : 0 < m → w'.ownsRow w.heap.size t 2 v' (n + m) (l.flatMap Pr.cells ++ news.flatMap Pr.cells)) (h2 : m = 0 → v' = .slice A n n ∧ w' = w) :
    ∃ A2 c2, v' = .slice A2 (n + m) c2 ∧ Fr w' B t A2 c2 (l ++ news) := by
  subst hn hm hkn
  by_cases hm : news.length = 0
  · obtain ⟨rfl, rfl⟩ := h2 hm
    have : news = [] := List.eq_nil_of_length_eq_zero hm
    subst this
    exact ⟨A, l.length, rfl, by simpa using h⟩
  · have ho := h1 (by omega)
    obtain ⟨A2, c2, rfl, _, _⟩ := own_form ho
    rw [← List.flatMap_append] at ho
    exact ⟨A2, c2, rfl, (Fr.of_own ho (by simp)).mono hB⟩
end Go.Proofs.YtolclahkfmplfaaGreatDoor

/- Contracts: a copy in new memory, and a pair put in. -/
namespace Go.Proofs.YtolclahkfmplfaaGreatDoor
open Go Go.RowKit
set_option maxRecDepth 100000

theorem pr_info0 : (Tryz.prog.info? 40).map (fun i => (i.zero, i.size, i.bytes)) = some (some (.agg #[.int .i64 0, .int .i64 0]), 2, 16) := by kernel_rfl
theorem one_prs (l : List Pr) : ∀ u ∈ l.flatMap Pr.cells, u.oneCell' = true := by
  intro u hu; obtain ⟨e, _, he⟩ := List.mem_flatMap.1 hu; simp [Pr.cells] at he; rcases he with rfl | rfl <;> rfl
theorem eql_nil (A : Option Addr) (n c : Nat) (w : World) : (binOp .eql 41 (.slice A n c) (.slice none 0 0)).run Tryz.prog w = .ok (.bool A.isNone) w := Lib.run_eql_slice_nil w _ _ A n c _ _ Tryz.underlying41

/-- hands back pairs in new memory -/
def GivesFr (l : List Pr) (w : World) (r : Ending) (w' : World) : Prop := ∃ A c, r = .returned (.slice A l.length c) ∧ Fr w' w.heap.size 40 A c l ∧ Below w.heap.size w w'

set_option maxHeartbeats 1000000 in
theorem clone_any (A : Option Addr) (l : List Pr) (c : Nat) (w : World) (hA : Sl w A (l.flatMap Pr.cells)) (hl : l.length ≤ 1000000) :
    Calls Tryz.prog 23 #[.slice A l.length c] w (GivesFr l w) := by
  obtain ⟨i0, hi, hz0, hz1, hz2⟩ := info_parts pr_info0
  have hn := eql_nil A l.length c w
  cases A with
  | none =>
    have hnil : l = [] := by
      rcases hA with h | ⟨b, off, h, _⟩
      · cases l with
        | nil => rfl
        | cons a l => simp [Pr.cells] at h
      · cases h
    subst hnil
    have hn2 : ∀ n, (binOp .eql 41 (.slice none n c) (.slice none 0 0)).run Tryz.prog w = .ok (.bool true) w := fun n => eql_nil none n c w
    clear hn
    go_enter Tryz.func23, Tryz.ntmps23
    go_wp2
    go_ret
    exact ⟨none, 0, rfl, Fr.nil, Below.refl _ _⟩
  | some a =>
    have hb0 : Below w.heap.size w (w.alloc (.cells #[] 40)) := (Below.refl _ _).alloc (Nat.le_refl _) _
    have hown0 : (w.alloc (.cells #[] 40)).ownsRow w.heap.size 40 2 (.slice (some ⟨w.heap.size, 0, none⟩) 0 0) 0 [] := World.ownsRow_made w #[] 0 (Nat.le_refl _) (Nat.zero_le _) rfl
    go_enter Tryz.func23, Tryz.ntmps23
    go_wp2_with (at_builtin; refine wpList_append_sl _ rfl (.tmp 5) (.tmp 6) _ rfl w.heap.size 40 i0 _ 2 16 Tryz.underlying41 hi hz0 hz1 hz2 rfl (by omega) (.slice (some ⟨w.heap.size, 0, none⟩) 0 0) 0 [] rfl hown0 (some a) l.length c (l.flatMap Pr.cells) rfl (hA.below hb0) (prs_length l) (one_prs l) (by unfold maxLen; omega) (by omega) (by simp) ?_; intro v1 w1 hown1 hg1; simp only [Nat.zero_add, List.nil_append] at hown1; obtain ⟨A1, c1, rfl, hlc1, hcm1⟩ := own_form hown1)
    go_ret
    exact ⟨A1, c1, rfl, Fr.of_own hown1 rfl, hb0.grown hg1 (by simp) (fun k hk => (hown0.lt k hk).1)⟩

end Go.Proofs.YtolclahkfmplfaaGreatDoor

/- Contracts: the references' searches in pairs. -/
namespace Go.Proofs.YtolclahkfmplfaaGreatDoor
open Go Go.RowKit
set_option maxRecDepth 100000

theorem bel_succ {l : List Pr} {k : Nat} (h : k < l.length) (key : Int) : bel (l.take (k + 1)) key = bel (l.take k) key + (if (l[k]'h).key < key then 1 else 0) := by
  unfold bel
  rw [List.take_succ_eq_append_getElem h, List.countP_append, List.countP_cons, List.countP_nil]
  simp


/-- hands back a pair and whether there is one -/
def GivesPB (p : Pr) (b : Bool) (w : World) (r : Ending) (w' : World) : Prop := r = .returned (.tuple #[.agg #[.int .i64 p.key, .int .i64 p.val], .bool b]) ∧ Below w.heap.size w w'
def ceilP (l : List Pr) (key : Int) : Pr := if bel l key < l.length then l[bel l key]! else ⟨0, 0⟩
def ceilB (l : List Pr) (key : Int) : Bool := decide (bel l key < l.length)
def floorP (l : List Pr) (key : Int) : Pr := if 0 < upk l key then l[upk l key - 1]! else ⟨0, 0⟩
def floorB (l : List Pr) (key : Int) : Bool := decide (0 < upk l key)


theorem sl_newP (W : World) (t : TypeId) (cs : Array Value) : Sl (W.alloc (.cells cs t)) (some ⟨W.heap.size, 0, none⟩) cs.toList :=
  (Blk.new W t cs).sl 0 _ (by intro j u hu; simpa using hu)

def withoutL (l : List Pr) (a b : Int) : List Pr := l.filter (fun p => decide (p.key < a) || decide (b < p.key))
theorem without_succ {l : List Pr} {k : Nat} (h : k < l.length) (a b : Int) : withoutL (l.take (k + 1)) a b = withoutL (l.take k) a b ++ (if (l[k]'h).key < a ∨ b < (l[k]'h).key then [l[k]'h] else []) := by
  unfold withoutL
  rw [List.take_succ_eq_append_getElem h, List.filter_append, List.filter_cons, List.filter_nil]
  by_cases h1 : (l[k]'h).key < a ∨ b < (l[k]'h).key
  · rw [if_pos h1, if_pos (by simpa using h1)]
  · rw [if_neg h1, if_neg (by simpa using h1)]
theorem without_len (l : List Pr) (a b : Int) : (withoutL l a b).length ≤ l.length := List.length_filter_le _ _

def runOfL (l : List Pr) (a b : Int) (N : Nat) : List Pr := (l.filter (fun p => decide (a ≤ p.key) && decide (p.key ≤ b))).take N
theorem runOf_succ {l : List Pr} {k : Nat} (h : k < l.length) (a b : Int) (N : Nat) : runOfL (l.take (k + 1)) a b N = runOfL (l.take k) a b N ++ (if a ≤ (l[k]'h).key ∧ (l[k]'h).key ≤ b ∧ (runOfL (l.take k) a b N).length < N then [l[k]'h] else []) := by
  unfold runOfL
  rw [List.take_succ_eq_append_getElem h, List.filter_append, List.filter_cons, List.filter_nil]
  by_cases h1 : a ≤ (l[k]'h).key ∧ (l[k]'h).key ≤ b
  · rw [if_pos (by simpa using h1), List.take_append]
    simp only [List.length_take]
    by_cases h2 : ((l.take k).filter (fun p => decide (a ≤ p.key) && decide (p.key ≤ b))).length < N
    · rw [if_pos ⟨h1.1, h1.2, by omega⟩]
      congr 1
      rw [List.take_of_length_le (by simp; omega)]
    · rw [if_neg (by omega), show N - ((l.take k).filter (fun p => decide (a ≤ p.key) && decide (p.key ≤ b))).length = 0 by omega, List.take_zero]
  · rw [if_neg (by simpa using h1), List.append_nil, if_neg (by omega), List.append_nil]
theorem runOf_len (l : List Pr) (a b : Int) (N : Nat) : (runOfL l a b N).length ≤ l.length := by
  unfold runOfL
  rw [List.length_take]
  have := List.length_filter_le (fun p : Pr => decide (a ≤ p.key) && decide (p.key ≤ b)) l
  omega

end Go.Proofs.YtolclahkfmplfaaGreatDoor

/- Contract: shelfmarkref27.Value. -/
namespace Go.Proofs.YtolclahkfmplfaaGreatDoor
open Go Go.RowKit
set_option maxRecDepth 100000
theorem prD_ris (c : Cfg) (L : Lv) : Ris (prD c L) := by
  unfold prD
  by_cases he : errL c L = 0
  · have hR := (errL_zero he).2.1
    rw [if_pos he, prR_map hR, ris_iff, List.pairwise_map]
    exact allL_ris (chkR_zero.1 hR)
  · rw [if_neg he]; exact Ris.nil
theorem prD_len (c : Cfg) (L : Lv) : (prD c L).length ≤ tot L := by
  unfold prD
  by_cases he : errL c L = 0
  · rw [if_pos he, prR_len (errL_zero he).2.1]; exact allL_le
  · rw [if_neg he]; exact Nat.zero_le _
/-- a key's value among pairs -/
def valB (P : List Pr) (key : Int) : Bool := ceilB P key && decide ((ceilP P key).key = key)
def valV (P : List Pr) (key : Int) : Int := if valB P key = true then (ceilP P key).val else 0
theorem val_at {P : List Pr} (hr : Ris P) {p : Pr} (hp : p ∈ P) : valB P p.key = true ∧ ceilP P p.key = p := by
  obtain ⟨i, hi, rfl⟩ := List.getElem_of_mem hp
  have h1 : bel P (P[i]'hi).key = i := by
    have h2 := bel_iff hr (P[i]'hi).key
    rcases Nat.lt_trichotomy (bel P (P[i]'hi).key) i with h | h | h
    · have h3 := hr.get h hi
      have h4 := (h2 _ (by omega)).1 h3
      omega
    · exact h
    · have h4 := (h2 i hi).2 h
      omega
  have h5 : ceilP P (P[i]'hi).key = P[i]'hi := by unfold ceilP; rw [h1, if_pos hi, getElem!_pos P _ hi]
  refine ⟨?_, h5⟩
  unfold valB ceilB
  rw [h5, h1, decide_eq_true hi, decide_eq_true rfl]
  rfl
theorem val_is {c : Cfg} {L : Lv} (he : errL c L = 0) (key : Int) : valB (prD c L) key = isB L key ∧ valV (prD c L) key = vlD c L key ∧ veD c L key = if valB (prD c L) key = true then 0 else 6 := by
  have hR := (errL_zero he).2.1
  have hP : prD c L = prR L := by unfold prD; rw [if_pos he]
  have hr := prD_ris c L
  have hm := prR_mem hR key
  have hve : veD c L key = if isB L key = true then 0 else 6 := by unfold veD; rw [if_pos he]
  have hvl : vlD c L key = if isB L key = true then (gxR L key).val else 0 := by
    unfold vlD
    by_cases h : isB L key = true
    · rw [if_pos ⟨he, h⟩, if_pos h]
    · rw [if_neg (fun x => h x.2), if_neg h]
  rw [← hP] at hm
  by_cases h : isB L key = true
  · have h1 := of_decide_eq_true (hm.trans h)
    obtain ⟨h2, h3⟩ := val_at hr h1
    refine ⟨h2.trans h.symm, ?_, ?_⟩
    · unfold valV
      rw [h2, if_pos rfl, hvl, if_pos h, h3]
    · rw [hve, if_pos h, if_pos h2]
  · have h2 : valB (prD c L) key = false := by
      cases hv : valB (prD c L) key with
      | false => rfl
      | true =>
        unfold valB at hv
        rw [Bool.and_eq_true] at hv
        have h3 : bel (prD c L) key < (prD c L).length := of_decide_eq_true hv.1
        have h4 : (ceilP (prD c L) key).key = key := of_decide_eq_true hv.2
        have h5 : ceilP (prD c L) key = (prD c L)[bel (prD c L) key]'h3 := by unfold ceilP; rw [if_pos h3, getElem!_pos (prD c L) _ h3]
        rw [h5] at h4
        have h6 : (prD c L)[bel (prD c L) key]'h3 ∈ prD c L := List.getElem_mem h3
        have h7 : key ∈ (prD c L).map Pr.key := List.mem_map.2 ⟨_, h6, h4⟩
        have h8 : (prD c L).map Pr.key = (allL L).map Ent.key := by rw [hP, prR_map hR, List.map_map]; rfl
        rw [h8] at h7
        exact absurd ((key_in (chkR_zero.1 hR) key).1 h7) h
    have h9 : isB L key = false := by cases hb : isB L key <;> simp_all
    refine ⟨h2.trans h9.symm, ?_, ?_⟩
    · unfold valV
      rw [h2, hvl, if_neg h]; rfl
    · rw [hve, if_neg h, h2]; rfl
end Go.Proofs.YtolclahkfmplfaaGreatDoor

/- Contracts: ladder.Range's closure, slices.IndexFunc and DeleteFunc of pairs by it. -/
namespace Go.Proofs.YtolclahkfmplfaaGreatDoor
open Go Go.RowKit
set_option maxRecDepth 100000
def inB (p : Pr) (a b : Int) : Bool := decide (a ≤ p.key) && decide (p.key ≤ b)
theorem without_is (l : List Pr) (a b : Int) : withoutL l a b = l.filter (fun p => !inB p a b) := by
  unfold withoutL
  congr 1
  funext p
  unfold inB
  by_cases h1 : a ≤ p.key <;> by_cases h2 : p.key ≤ b <;> simp [h1, h2] <;> omega
theorem range1_any (p : Pr) (g4 g5 : Nat) (a b : Int) (w : World) (h4 : w.cell? ⟨g4, 0, none⟩ = some (.int .i64 a)) (h5 : w.cell? ⟨g5, 0, none⟩ = some (.int .i64 b)) (l4 : g4 < w.heap.size) (l5 : g5 < w.heap.size) :
    Calls Tryz.prog 24 #[.agg #[.int .i64 p.key, .int .i64 p.val], .pointer (some ⟨g4, 0, none⟩), .pointer (some ⟨g5, 0, none⟩)] w fun r w' => r = .returned (.bool (inB p a b)) ∧ Below w.heap.size w w' := by
  obtain ⟨W0, hW0⟩ : ∃ W0, w.alloc (.cells #[.int .i64 p.key, .int .i64 p.val] 40) = W0 := ⟨_, rfl⟩
  have hb0 : Below w.heap.size w W0 := by rw [← hW0]; exact (Below.refl _ _).alloc (Nat.le_refl _) _
  have b0 : Blk W0 w.heap.size 40 #[.int .i64 p.key, .int .i64 p.val] := by rw [← hW0]; exact Blk.new _ _ _
  have c0 : W0.cell? ⟨w.heap.size, 0, none⟩ = some (.int .i64 p.key) := b0.cell 0
  have c4 : W0.cell? ⟨g4, 0, none⟩ = some (.int .i64 a) := ((bcell hb0).1 _ _ l4).trans h4
  have c5 : W0.cell? ⟨g5, 0, none⟩ = some (.int .i64 b) := ((bcell hb0).1 _ _ l5).trans h5
  have HW0 := Lib.hid hW0
  obtain ⟨V, hV⟩ : ∃ V, inB p a b = V := ⟨_, rfl⟩
  rw [hV]
  unfold inB at hV
  have HV := Lib.hid hV
  clear hW0 hV h4 h5 b0
  go_enter Tryz.func24, Tryz.ntmps24
  go_upto_region 1 with fail
  rw [HW0.out]
  by_cases h1 : a ≤ p.key
  · by_cases h2 : p.key ≤ b
    · have HT : Hid (V = true) := by show _ = _; rw [← HV.out, decide_eq_true h1, decide_eq_true h2]; rfl
      go_wp2_with fail
      go_ret
      exact ⟨by rw [HT.out]; rfl, hb0⟩
    · have HT : Hid (V = false) := by show _ = _; rw [← HV.out, decide_eq_false h2]; simp
      go_wp2_with fail
      go_ret
      exact ⟨by rw [HT.out]; rfl, hb0⟩
  · have HT : Hid (V = false) := by show _ = _; rw [← HV.out, decide_eq_false h1]; rfl
    go_wp2_with fail
    go_ret
    exact ⟨by rw [HT.out]; rfl, hb0⟩
/-- where the first of pairs stands that is to go -/
def FirstIn (l : List Pr) (a b : Int) (v : Int) : Prop := (v = -1 ∧ ∀ e ∈ l, inB e a b = false) ∨ ∃ (k : Nat) (h : k < l.length), v = (k : Int) ∧ inB (l[k]'h) a b = true ∧ ∀ e ∈ l.take k, inB e a b = false
set_option maxHeartbeats 2000000 in
theorem indexP_any (A : Option Addr) (l : List Pr) (c g4 g5 : Nat) (a b : Int) (w : World) (hA : Sl w A (l.flatMap Pr.cells)) (hl : l.length ≤ 1000000) (h4 : w.cell? ⟨g4, 0, none⟩ = some (.int .i64 a)) (h5 : w.cell? ⟨g5, 0, none⟩ = some (.int .i64 b)) (l4 : g4 < w.heap.size) (l5 : g5 < w.heap.size) :
    Calls Tryz.prog 51 #[.slice A l.length c, .func (.func 24) #[] #[.pointer (some ⟨g4, 0, none⟩), .pointer (some ⟨g5, 0, none⟩)]] w fun r w' => ∃ v : Int, r = .returned (.int .i64 v) ∧ FirstIn l a b v ∧ Below w.heap.size w w' := by
  have HA := Lib.hid hA
  have H4 := Lib.hid h4
  have H5 := Lib.hid h5
  clear hA h4 h5
  go_enter Tryz.func51, Tryz.ntmps51
  go_wp2_with fail
  go_loopw [8] (fun i wr => ∃ k : Nat, k ≤ l.length ∧ i = .int .i64 k ∧ Below w.heap.size w wr ∧ Hid (∀ e ∈ l.take k, inB e a b = false)) (fun i _ => l.length - (intOf i).toNat)
  case atStart => exact ⟨0, Nat.zero_le _, rfl, Below.refl _ _, fun e h => by simp at h⟩
  case round =>
    obtain ⟨k, hk, rfl, hb, hd⟩ := hrel
    by_cases hlt : k < l.length
    · obtain ⟨bb, off, rfl, hbl, c1, c2⟩ := HA.out.prB hb k hlt
      have hcall := range1_any (l[k]'hlt) g4 g5 a b wr (((bcell hb).1 _ _ l4).trans H4.out) (((bcell hb).1 _ _ l5).trans H5.out) (Nat.lt_of_lt_of_le l4 hb.size) (Nat.lt_of_lt_of_le l5 hb.size)
      obtain ⟨p, hp⟩ : ∃ p, l[k]'hlt = p := ⟨_, rfl⟩
      have HP := Lib.hid hp
      rw [hp] at c1 c2 hcall
      obtain ⟨V, hV⟩ : ∃ V, inB p a b = V := ⟨_, rfl⟩
      rw [hV] at hcall
      have HV := Lib.hid hV
      have HC := Lib.hid hcall
      have i0 : (0 : Int) ≤ (k : Int) := by omega
      have i1 : (k : Int) < (l.length : Int) := by omega
      clear hp hV hcall
      go_wp2_with fail
      refine HC.out.mono ?_
      rintro e w1 ⟨rfl, hb1⟩
      cases V with
      | true =>
        go_wp2_with fail
        go_ret
        exact ⟨k, rfl, .inr ⟨k, hlt, rfl, by rw [HP.out]; exact HV.out, hd.out⟩, bext hb hb1⟩
      | false =>
        go_wp2_with fail
        go_roundw
        case rel =>
          refine ⟨k + 1, by omega, by go_num, bext hb hb1, fun e he => ?_⟩
          rw [List.take_succ_eq_append_getElem hlt, List.mem_append, List.mem_singleton] at he
          rcases he with he | he
          · exact hd.out e he
          · rw [he, HP.out]; exact HV.out
        case measure => simp [intOf]; omega
    · have hkn : l.take k = l := List.take_of_length_le (by omega)
      have i1 : ¬ (k : Int) < (l.length : Int) := by omega
      have HF : Hid (∀ e ∈ l, inB e a b = false) := by rw [hkn] at hd; exact hd.out
      clear hkn
      go_wp2_with fail
      go_ret
      exact ⟨-1, rfl, .inl ⟨rfl, HF.out⟩, hb⟩
end Go.Proofs.YtolclahkfmplfaaGreatDoor
