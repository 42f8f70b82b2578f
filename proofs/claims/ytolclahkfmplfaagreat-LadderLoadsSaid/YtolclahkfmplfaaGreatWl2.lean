/- Fm Fr Mp Rf Fh Fi Dh0 Dc: texts of the claim, in this order. -/
import Derived.Test.YtolclahkfmplfaaGreatWl1
import Derived.ArgAppend
import Derived.Lib.SliceRun
import Derived.Deep.RegionLaw
import Derived.BigQuiet
import Derived.Test.YtolclahkfmplfaaGreatWz5
import Derived.Test.YtolclahkfmplfaaGreatWz13
/- Contract: ladder.Load. -/
namespace Go.Proofs.YtolclahkfmplfaaGreat
open Go Go.RowKit
set_option maxRecDepth 100000
def loE (c : Cfg) (L : Lv) (l : List Pr) : Int := if errL c L = 0 then (if Ris l then anE c L l else 130) else errL c L
def loL (c : Cfg) (L : Lv) (l : List Pr) : Lv := if errL c L = 0 then (if Ris l then anL c L l else []) else []
def loN (c : Cfg) (L : Lv) (n : Int) (l : List Pr) : Int := if errL c L = 0 then (if Ris l then anN c L n l else 0) else 0
set_option maxHeartbeats 16000000 in
theorem loadD_any (B : Option Addr) (Rs : List Rm) (k : Nat) (c : Cfg) (n : Int) (A : Option Addr) (l : List Pr) (ca : Nat) (w : World) (hB : RunsAt w B Rs) (hT : tot (lvs Rs) ≤ 1000000) (hl : Rs.length ≤ 1000000) (hA : Sl w A (l.flatMap Pr.cells)) (hl6 : l.length ≤ 65536) :
    Calls Tryz.prog 6 #[.agg (lrow c B Rs.length k n), .slice A l.length ca] w (GivesLd (ldC c (loE c (lvs Rs) l)) (loL c (lvs Rs) l) (loN c (lvs Rs) n l) (loE c (lvs Rs) l) w) := by
  obtain ⟨W0, hW0⟩ : ∃ W0, (w.alloc (.cells #[.int .u8 c.tag, .int .i64 c.most, .int .i64 c.seg, .int .i64 c.least, .int .i64 c.den, .int .i64 c.leafLow, .int .i64 c.rootLow, .int .i64 c.rootHigh, .int .i64 c.leafHigh, .slice B Rs.length k, .int .u64 n] 29)).alloc (.cells #[.int .u8 0, .int .i64 0, .int .i64 0, .int .i64 0, .int .i64 0, .int .i64 0, .int .i64 0, .int .i64 0, .int .i64 0, .slice none 0 0, .int .u64 0] 29) = W0 := ⟨_, rfl⟩
  have hb0 : Below w.heap.size w W0 := by rw [← hW0]; exact ((Below.refl _ _).alloc (Nat.le_refl _) _).alloc (by simp) _
  have b0 : Blk W0 w.heap.size 29 #[.int .u8 c.tag, .int .i64 c.most, .int .i64 c.seg, .int .i64 c.least, .int .i64 c.den, .int .i64 c.leafLow, .int .i64 c.rootLow, .int .i64 c.rootHigh, .int .i64 c.leafHigh, .slice B Rs.length k, .int .u64 n] := by rw [← hW0]; exact (Blk.new _ _ _).alloc _
  have br0 : Blk W0 (w.heap.size + 1) 29 #[.int .u8 0, .int .i64 0, .int .i64 0, .int .i64 0, .int .i64 0, .int .i64 0, .int .i64 0, .int .i64 0, .int .i64 0, .slice none 0 0, .int .u64 0] := by
    rw [← hW0]
    have := Blk.new (w.alloc (.cells #[.int .u8 c.tag, .int .i64 c.most, .int .i64 c.seg, .int .i64 c.least, .int .i64 c.den, .int .i64 c.leafLow, .int .i64 c.rootLow, .int .i64 c.rootHigh, .int .i64 c.leafHigh, .slice B Rs.length k, .int .u64 n] 29)) 29 #[.int .u8 0, .int .i64 0, .int .i64 0, .int .i64 0, .int .i64 0, .int .i64 0, .int .i64 0, .int .i64 0, .int .i64 0, .slice none 0 0, .int .u64 0]
    rwa [World.size_alloc] at this
  have HW0 := Lib.hid hW0
  have HB := Lib.hid (hB.below hb0)
  have HB0 := Lib.hid hb0
  have HC0 := Lib.hid b0
  have HR0 := Lib.hid br0
  have hck := checkD_any B Rs k c n W0 HB.out hT hl
  have han := fun W (hW : Below w.heap.size w W) => anew_any B Rs k c n A l ca W (hB.below hW) hT hl (hA.below hW) hl6
  obtain ⟨V, hV⟩ : ∃ x, errL c (lvs Rs) = x := ⟨_, rfl⟩
  have hE : loE c (lvs Rs) l = if V = 0 then (if Ris l then anE c (lvs Rs) l else 130) else V := by rw [← hV]; rfl
  have hL : loL c (lvs Rs) l = if V = 0 then (if Ris l then anL c (lvs Rs) l else []) else [] := by rw [← hV]; rfl
  have hN : loN c (lvs Rs) n l = if V = 0 then (if Ris l then anN c (lvs Rs) n l else 0) else 0 := by rw [← hV]; rfl
  obtain ⟨E9, hE9⟩ : ∃ x, loE c (lvs Rs) l = x := ⟨_, rfl⟩
  obtain ⟨L9, hL9⟩ : ∃ x, loL c (lvs Rs) l = x := ⟨_, rfl⟩
  obtain ⟨N9, hN9⟩ : ∃ x, loN c (lvs Rs) n l = x := ⟨_, rfl⟩
  rw [hE9] at hE
  rw [hL9] at hL
  rw [hN9] at hN
  rw [hE9, hL9, hN9]
  rw [hV] at hck
  obtain ⟨ae, hae⟩ : ∃ z, anE c (lvs Rs) l = z := ⟨_, rfl⟩
  obtain ⟨al, hal⟩ : ∃ z, anL c (lvs Rs) l = z := ⟨_, rfl⟩
  obtain ⟨an, hann⟩ : ∃ z, anN c (lvs Rs) n l = z := ⟨_, rfl⟩
  rw [hae, hal, hann] at han
  rw [hae] at hE
  rw [hal] at hL
  rw [hann] at hN
  obtain ⟨ac, hac⟩ : ∃ z, ldC c ae = z := ⟨_, rfl⟩
  rw [hac] at han
  have hz9 : ∀ e : Int, e ≠ 0 → ldC c e = cz := fun e h => by unfold ldC; rw [if_neg h]
  have HCK := Lib.hid hck
  have HAN := Lib.hid han
  have HE := Lib.hid hE
  have HL := Lib.hid hL
  have HN := Lib.hid hN
  have HAC := Lib.hid hac
  have HZ9 := Lib.hid hz9
  have HA := Lib.hid hA
  clear hW0 hB hck han hE hL hN hac hae hal hann hE9 hL9 hN9 hV hz9 hA hT
  have q0 : W0.cell? ⟨w.heap.size, 0, none⟩ = some (.int .u8 c.tag) := b0.cell 0
  have q1 : W0.cell? ⟨w.heap.size, 1, none⟩ = some (.int .i64 c.most) := b0.cell 1
  have q2 : W0.cell? ⟨w.heap.size, 2, none⟩ = some (.int .i64 c.seg) := b0.cell 2
  have q3 : W0.cell? ⟨w.heap.size, 3, none⟩ = some (.int .i64 c.least) := b0.cell 3
  have q4 : W0.cell? ⟨w.heap.size, 4, none⟩ = some (.int .i64 c.den) := b0.cell 4
  have q5 : W0.cell? ⟨w.heap.size, 5, none⟩ = some (.int .i64 c.leafLow) := b0.cell 5
  have q6 : W0.cell? ⟨w.heap.size, 6, none⟩ = some (.int .i64 c.rootLow) := b0.cell 6
  have q7 : W0.cell? ⟨w.heap.size, 7, none⟩ = some (.int .i64 c.rootHigh) := b0.cell 7
  have q8 : W0.cell? ⟨w.heap.size, 8, none⟩ = some (.int .i64 c.leafHigh) := b0.cell 8
  have q9 : W0.cell? ⟨w.heap.size, 9, none⟩ = some (.slice B Rs.length k) := b0.cell 9
  have q10 : W0.cell? ⟨w.heap.size, 10, none⟩ = some (.int .u64 n) := b0.cell 10
  clear b0 hb0 br0
  go_enter Tryz.func6, Tryz.ntmps6
  go_upto_region 1 with fail
  rw [HW0.out]
  go_wp2_with fail
  refine HCK.out.mono ?_
  rintro e w1 ⟨rfl, hb1⟩
  have HF1 := Lib.hid (bext HB0.out hb1)
  have HC1 := Lib.hid (HC0.out.below hb1 HC0.out.lt)
  have HR1 := Lib.hid (HR0.out.below hb1 HR0.out.lt)
  clear hb1 q0 q1 q2 q3 q4 q5 q6 q7 q8 q9 q10
  by_cases hV0 : V = 0
  case neg =>
    have h1 : (V != 0) = true := by simpa using hV0
    have HX : Hid (E9 = V ∧ L9 = [] ∧ N9 = 0) := by
      show _ ∧ _
      rw [HE.out, HL.out, HN.out, if_neg hV0, if_neg hV0, if_neg hV0]
      exact ⟨rfl, rfl, rfl⟩
    have br1 := HR1.out
    have y0 : w1.cell? ⟨(w.heap.size + 1), 0, none⟩ = some (.int .u8 0) := br1.cell 0
    have y1 : w1.cell? ⟨(w.heap.size + 1), 1, none⟩ = some (.int .i64 0) := br1.cell 1
    have y2 : w1.cell? ⟨(w.heap.size + 1), 2, none⟩ = some (.int .i64 0) := br1.cell 2
    have y3 : w1.cell? ⟨(w.heap.size + 1), 3, none⟩ = some (.int .i64 0) := br1.cell 3
    have y4 : w1.cell? ⟨(w.heap.size + 1), 4, none⟩ = some (.int .i64 0) := br1.cell 4
    have y5 : w1.cell? ⟨(w.heap.size + 1), 5, none⟩ = some (.int .i64 0) := br1.cell 5
    have y6 : w1.cell? ⟨(w.heap.size + 1), 6, none⟩ = some (.int .i64 0) := br1.cell 6
    have y7 : w1.cell? ⟨(w.heap.size + 1), 7, none⟩ = some (.int .i64 0) := br1.cell 7
    have y8 : w1.cell? ⟨(w.heap.size + 1), 8, none⟩ = some (.int .i64 0) := br1.cell 8
    have y9 : w1.cell? ⟨(w.heap.size + 1), 9, none⟩ = some (.slice none 0 0) := br1.cell 9
    have y10 : w1.cell? ⟨(w.heap.size + 1), 10, none⟩ = some (.int .u64 0) := br1.cell 10
    have fr0 := br1.frozen 0
    have fr1 := br1.frozen 1
    have fr2 := br1.frozen 2
    have fr3 := br1.frozen 3
    have fr4 := br1.frozen 4
    have fr5 := br1.frozen 5
    have fr6 := br1.frozen 6
    have fr7 := br1.frozen 7
    have fr8 := br1.frozen 8
    have fr9 := br1.frozen 9
    have fr10 := br1.frozen 10
    have l2 := br1.lt
    clear br1
    go_wp2_with fail
    have bz := put11 HR1.out (.int .u8 0) (.int .i64 0) (.int .i64 0) (.int .i64 0) (.int .i64 0) (.int .i64 0) (.int .i64 0) (.int .i64 0) (.int .i64 0) (.slice none 0 0) (.int .u64 0)
    have z0 := bz.cell 0
    have z1 := bz.cell 1
    have z2 := bz.cell 2
    have z3 := bz.cell 3
    have z4 := bz.cell 4
    have z5 := bz.cell 5
    have z6 := bz.cell 6
    have z7 := bz.cell 7
    have z8 := bz.cell 8
    have z9 := bz.cell 9
    have z10 := bz.cell 10
    simp only [List.getElem?_toArray, List.getElem?_cons_zero, List.getElem?_cons_succ] at z0 z1 z2 z3 z4 z5 z6 z7 z8 z9 z10
    refine bodyPost_ret (v := .tuple #[.agg #[.int .u8 0, .int .i64 0, .int .i64 0, .int .i64 0, .int .i64 0, .int .i64 0, .int .i64 0, .int .i64 0, .int .i64 0, .slice none 0 0, .int .u64 0], .int .i64 V]) (by simp [results, Tryz.results6, go_sem, z0, z1, z2, z3, z4, z5, z6, z7, z8, z9, z10]) rfl ?_
    rw [HX.out.1, HX.out.2.1, HX.out.2.2, HZ9.out V hV0]
    exact ⟨none, 0, [], rfl, rfl, OwnRs.nil _ _, below11 HF1.out (Nat.le_succ _) _ _ _ _ _ _ _ _ _ _ _⟩
  case pos =>
  have HXY : Hid (Ris l → E9 = ae ∧ L9 = al ∧ N9 = an) := by
    show _ → _
    intro h
    rw [HE.out, HL.out, HN.out, if_pos hV0, if_pos hV0, if_pos hV0, if_pos h, if_pos h, if_pos h]
    exact ⟨rfl, rfl, rfl⟩
  have HXN : Hid (¬ Ris l → E9 = 130 ∧ L9 = [] ∧ N9 = 0) := by
    show _ → _
    intro h
    rw [HE.out, HL.out, HN.out, if_pos hV0, if_pos hV0, if_pos hV0, if_neg h, if_neg h, if_neg h]
    exact ⟨rfl, rfl, rfl⟩
  clear HE HL HN
  subst hV0
  go_wp2_with fail
  go_loopw [7] (fun i wr => ∃ k : Nat, 1 ≤ k ∧ i = .int .i64 k ∧ Below w1.heap.size w1 wr ∧ Hid (RiseTo (l.map Pr.key) k)) (fun i _ => l.length - (intOf i).toNat)
  case atStart => exact ⟨1, Nat.le_refl _, rfl, Below.refl _ _, RiseTo.start _⟩
  case round =>
    obtain ⟨j, hj, rfl, hb, hn⟩ := hrel
    have HB2 := Lib.hid (bext HF1.out hb)
    have HR2 := Lib.hid (HR1.out.below hb HR1.out.lt)
    have HC2 := Lib.hid (HC1.out.below hb HC1.out.lt)
    by_cases hlt : j < l.length
    · obtain ⟨b, off, rfl, hbl, c1, c2⟩ := (HA.out.below HB2.out).pr j hlt
      obtain ⟨b', off', e, _, d1, d2⟩ := (HA.out.below HB2.out).pr (j - 1) (by omega)
      simp only [Option.some.injEq, Addr.mk.injEq] at e
      obtain ⟨rfl, rfl, _⟩ := e
      have i0 : (0 : Int) ≤ (j : Int) := by omega
      have i1 : (j : Int) < (l.length : Int) := by omega
      have i2 : (0 : Int) ≤ (j : Int) - 1 := by omega
      have i3 : (j : Int) - 1 < (l.length : Int) := by omega
      clear c2 d2
      go_upto_region 7 with fail
      go_quiet (fail)
      by_cases hx : (l[j]'hlt).key ≤ (l[j - 1]'(by omega)).key
      · have HNR : Hid (¬ Ris l) := fun h => absurd (h.symm.trans (RiseTo.no (ks := keys l) hj (by simpa [keys] using hlt) (by simpa [keys] using hx))) (by simp)
        have HX := Lib.hid (HXN.out HNR.out)
        have hbq := bdrew (Below.refl wr.heap.size wr) nq
        have HBQ := Lib.hid (bdrew HB2.out nq)
        have br1 := HR2.out.below hbq HR2.out.lt
        have HRQ := Lib.hid br1
        have hx2 : (l[j]'hlt).key ≤ (l[j - 1]'(by omega)).key := hx
        have y0 : (wr.drewN nq).cell? ⟨(w.heap.size + 1), 0, none⟩ = some (.int .u8 0) := br1.cell 0
        have y1 : (wr.drewN nq).cell? ⟨(w.heap.size + 1), 1, none⟩ = some (.int .i64 0) := br1.cell 1
        have y2 : (wr.drewN nq).cell? ⟨(w.heap.size + 1), 2, none⟩ = some (.int .i64 0) := br1.cell 2
        have y3 : (wr.drewN nq).cell? ⟨(w.heap.size + 1), 3, none⟩ = some (.int .i64 0) := br1.cell 3
        have y4 : (wr.drewN nq).cell? ⟨(w.heap.size + 1), 4, none⟩ = some (.int .i64 0) := br1.cell 4
        have y5 : (wr.drewN nq).cell? ⟨(w.heap.size + 1), 5, none⟩ = some (.int .i64 0) := br1.cell 5
        have y6 : (wr.drewN nq).cell? ⟨(w.heap.size + 1), 6, none⟩ = some (.int .i64 0) := br1.cell 6
        have y7 : (wr.drewN nq).cell? ⟨(w.heap.size + 1), 7, none⟩ = some (.int .i64 0) := br1.cell 7
        have y8 : (wr.drewN nq).cell? ⟨(w.heap.size + 1), 8, none⟩ = some (.int .i64 0) := br1.cell 8
        have y9 : (wr.drewN nq).cell? ⟨(w.heap.size + 1), 9, none⟩ = some (.slice none 0 0) := br1.cell 9
        have y10 : (wr.drewN nq).cell? ⟨(w.heap.size + 1), 10, none⟩ = some (.int .u64 0) := br1.cell 10
        have fr0 := br1.frozen 0
        have fr1 := br1.frozen 1
        have fr2 := br1.frozen 2
        have fr3 := br1.frozen 3
        have fr4 := br1.frozen 4
        have fr5 := br1.frozen 5
        have fr6 := br1.frozen 6
        have fr7 := br1.frozen 7
        have fr8 := br1.frozen 8
        have fr9 := br1.frozen 9
        have fr10 := br1.frozen 10
        have l2 := br1.lt
        clear br1 hbq
        go_wp2_with fail
        have bz := put11 HRQ.out (.int .u8 0) (.int .i64 0) (.int .i64 0) (.int .i64 0) (.int .i64 0) (.int .i64 0) (.int .i64 0) (.int .i64 0) (.int .i64 0) (.slice none 0 0) (.int .u64 0)
        have z0 := bz.cell 0
        have z1 := bz.cell 1
        have z2 := bz.cell 2
        have z3 := bz.cell 3
        have z4 := bz.cell 4
        have z5 := bz.cell 5
        have z6 := bz.cell 6
        have z7 := bz.cell 7
        have z8 := bz.cell 8
        have z9 := bz.cell 9
        have z10 := bz.cell 10
        simp only [List.getElem?_toArray, List.getElem?_cons_zero, List.getElem?_cons_succ] at z0 z1 z2 z3 z4 z5 z6 z7 z8 z9 z10
        refine bodyPost_ret (v := .tuple #[.agg #[.int .u8 0, .int .i64 0, .int .i64 0, .int .i64 0, .int .i64 0, .int .i64 0, .int .i64 0, .int .i64 0, .int .i64 0, .slice none 0 0, .int .u64 0], .int .i64 130]) (by simp [results, Tryz.results6, go_sem, z0, z1, z2, z3, z4, z5, z6, z7, z8, z9, z10]) rfl ?_
        rw [HX.out.1, HX.out.2.1, HX.out.2.2, HZ9.out 130 (by omega)]
        exact ⟨none, 0, [], rfl, rfl, OwnRs.nil _ _, below11 HBQ.out (Nat.le_succ _) _ _ _ _ _ _ _ _ _ _ _⟩
      · have hx2 : (l[j - 1]'(by omega)).key < (l[j]'hlt).key := by omega
        have HST := Lib.hid (hn.out.step hj (by simpa using hlt) (by simpa using hx2))
        go_wp2_with fail
        go_roundw
        case rel => exact ⟨j + 1, by omega, by go_num, bdrew hb _, HST.out⟩
        case measure => simp [intOf]; omega
    · have HRI : Hid (Ris l) := hn.out.all (by simp; omega)
      have HX := Lib.hid (HXY.out HRI.out)
      have bm1 := HC2.out
      have q0 : wr.cell? ⟨w.heap.size, 0, none⟩ = some (.int .u8 c.tag) := bm1.cell 0
      have q1 : wr.cell? ⟨w.heap.size, 1, none⟩ = some (.int .i64 c.most) := bm1.cell 1
      have q2 : wr.cell? ⟨w.heap.size, 2, none⟩ = some (.int .i64 c.seg) := bm1.cell 2
      have q3 : wr.cell? ⟨w.heap.size, 3, none⟩ = some (.int .i64 c.least) := bm1.cell 3
      have q4 : wr.cell? ⟨w.heap.size, 4, none⟩ = some (.int .i64 c.den) := bm1.cell 4
      have q5 : wr.cell? ⟨w.heap.size, 5, none⟩ = some (.int .i64 c.leafLow) := bm1.cell 5
      have q6 : wr.cell? ⟨w.heap.size, 6, none⟩ = some (.int .i64 c.rootLow) := bm1.cell 6
      have q7 : wr.cell? ⟨w.heap.size, 7, none⟩ = some (.int .i64 c.rootHigh) := bm1.cell 7
      have q8 : wr.cell? ⟨w.heap.size, 8, none⟩ = some (.int .i64 c.leafHigh) := bm1.cell 8
      have q9 : wr.cell? ⟨w.heap.size, 9, none⟩ = some (.slice B Rs.length k) := bm1.cell 9
      have q10 : wr.cell? ⟨w.heap.size, 10, none⟩ = some (.int .u64 n) := bm1.cell 10
      clear bm1
      go_wp2_with fail
      refine (HAN.out _ HB2.out).mono ?_
      rintro e w9 ⟨B2, k2, R2, rfl, hl2, ho2, hb9⟩
      have HL2 := Lib.hid hl2
      have HO2 := Lib.hid (ho2.mono HB2.out.size)
      have HB9 := Lib.hid (bext HB2.out hb9)
      have HR9 := Lib.hid (HR2.out.below hb9 HR2.out.lt)
      clear hl2 ho2 hb9 q0 q1 q2 q3 q4 q5 q6 q7 q8 q9 q10
      have br1 := HR9.out
      have y0 : w9.cell? ⟨(w.heap.size + 1), 0, none⟩ = some (.int .u8 0) := br1.cell 0
      have y1 : w9.cell? ⟨(w.heap.size + 1), 1, none⟩ = some (.int .i64 0) := br1.cell 1
      have y2 : w9.cell? ⟨(w.heap.size + 1), 2, none⟩ = some (.int .i64 0) := br1.cell 2
      have y3 : w9.cell? ⟨(w.heap.size + 1), 3, none⟩ = some (.int .i64 0) := br1.cell 3
      have y4 : w9.cell? ⟨(w.heap.size + 1), 4, none⟩ = some (.int .i64 0) := br1.cell 4
      have y5 : w9.cell? ⟨(w.heap.size + 1), 5, none⟩ = some (.int .i64 0) := br1.cell 5
      have y6 : w9.cell? ⟨(w.heap.size + 1), 6, none⟩ = some (.int .i64 0) := br1.cell 6
      have y7 : w9.cell? ⟨(w.heap.size + 1), 7, none⟩ = some (.int .i64 0) := br1.cell 7
      have y8 : w9.cell? ⟨(w.heap.size + 1), 8, none⟩ = some (.int .i64 0) := br1.cell 8
      have y9 : w9.cell? ⟨(w.heap.size + 1), 9, none⟩ = some (.slice none 0 0) := br1.cell 9
      have y10 : w9.cell? ⟨(w.heap.size + 1), 10, none⟩ = some (.int .u64 0) := br1.cell 10
      have fr0 := br1.frozen 0
      have fr1 := br1.frozen 1
      have fr2 := br1.frozen 2
      have fr3 := br1.frozen 3
      have fr4 := br1.frozen 4
      have fr5 := br1.frozen 5
      have fr6 := br1.frozen 6
      have fr7 := br1.frozen 7
      have fr8 := br1.frozen 8
      have fr9 := br1.frozen 9
      have fr10 := br1.frozen 10
      have l2 := br1.lt
      clear br1
      go_wp2_with fail
      have bz := put11 HR9.out (.int .u8 ac.tag) (.int .i64 ac.most) (.int .i64 ac.seg) (.int .i64 ac.least) (.int .i64 ac.den) (.int .i64 ac.leafLow) (.int .i64 ac.rootLow) (.int .i64 ac.rootHigh) (.int .i64 ac.leafHigh) (.slice B2 R2.length k2) (.int .u64 an)
      have z0 := bz.cell 0
      have z1 := bz.cell 1
      have z2 := bz.cell 2
      have z3 := bz.cell 3
      have z4 := bz.cell 4
      have z5 := bz.cell 5
      have z6 := bz.cell 6
      have z7 := bz.cell 7
      have z8 := bz.cell 8
      have z9 := bz.cell 9
      have z10 := bz.cell 10
      simp only [List.getElem?_toArray, List.getElem?_cons_zero, List.getElem?_cons_succ] at z0 z1 z2 z3 z4 z5 z6 z7 z8 z9 z10
      refine bodyPost_ret (v := .tuple #[.agg #[.int .u8 ac.tag, .int .i64 ac.most, .int .i64 ac.seg, .int .i64 ac.least, .int .i64 ac.den, .int .i64 ac.leafLow, .int .i64 ac.rootLow, .int .i64 ac.rootHigh, .int .i64 ac.leafHigh, .slice B2 R2.length k2, .int .u64 an], .int .i64 ae]) (by simp [results, Tryz.results6, go_sem, z0, z1, z2, z3, z4, z5, z6, z7, z8, z9, z10]) rfl ?_
      rw [HX.out.1, HX.out.2.1, HX.out.2.2, HAC.out]
      exact ⟨B2, k2, R2, rfl, HL2.out, HO2.out.set11 HR9.out (by decide) (by decide) _ _ _ _ _ _ _ _ _ _ _, below11 HB9.out (Nat.le_succ _) _ _ _ _ _ _ _ _ _ _ _⟩
end Go.Proofs.YtolclahkfmplfaaGreat

/- Slices of pairs that a call hands back in new memory, parts of slices, and append onto a part that is full. No program in sight. -/
namespace Go.Proofs.YtolclahkfmplfaaGreat
open Go Go.RowKit

/-- pairs in memory that is new behind block B -/
def Fr (w : World) (B : Nat) (t : TypeId) (A : Option Addr) (c : Nat) (l : List Pr) : Prop :=
  l.length ≤ c ∧ c ≤ maxLen ∧ ((A = none ∧ l = [] ∧ c = 0) ∨ ∃ g cur, A = some ⟨g, 0, none⟩ ∧ B ≤ g ∧ Blk w g t cur ∧ cur.toList.take (l.length * 2) = l.flatMap Pr.cells ∧ c * 2 ≤ cur.size)

section
variable {w w' : World} {B : Nat} {t : TypeId} {A : Option Addr} {c : Nat} {l : List Pr}
theorem prs_length (l : List Pr) : (l.flatMap Pr.cells).length = l.length * 2 := flat_length Pr.cells 2 Pr.cells_length l
theorem Fr.nil : Fr w B t none 0 [] := ⟨Nat.le_refl _, by unfold maxLen; omega, .inl ⟨rfl, rfl, rfl⟩⟩
theorem Fr.of_own {n : Nat} (h : w.ownsRow B t 2 (.slice A n c) n (l.flatMap Pr.cells)) (hn : n = l.length) : Fr w B t A c l := by
  subst hn
  rcases h.2 with ⟨h1, h2⟩ | ⟨g, cap, cur, h1, h2, h3, h4, h5, h6, h7⟩
  · have : l = [] := List.eq_nil_of_length_eq_zero h2
    subst this
    injection h1 with e1 e2 e3
    subst e1 e3
    exact Fr.nil
  · injection h1 with e1 e2 e3
    subst e1 e3
    exact ⟨h4, h5, .inr ⟨g, cur, rfl, h2, h3, h7, by omega⟩⟩
theorem Fr.sl (h : Fr w B t A c l) : Sl w A (l.flatMap Pr.cells) := by
  rcases h.2.2 with ⟨_, rfl, _⟩ | ⟨g, cur, rfl, _, hg, ht, _⟩
  · exact .inl rfl
  · refine hg.sl 0 _ fun j u hu => ?_
    rw [← ht, List.getElem?_take] at hu
    split at hu
    · simpa using hu
    · cases hu
theorem Fr.below (h : Fr w B t A c l) (hb : Below w.heap.size w w') : Fr w' B t A c l := by
  refine ⟨h.1, h.2.1, ?_⟩
  rcases h.2.2 with h1 | ⟨g, cur, h1, h2, hg, h3⟩
  · exact .inl h1
  · exact .inr ⟨g, cur, h1, h2, hg.below hb hg.lt, h3⟩
theorem Fr.mono {B' : Nat} (h : Fr w B t A c l) (hB : B' ≤ B) : Fr w B' t A c l := by
  refine ⟨h.1, h.2.1, ?_⟩
  rcases h.2.2 with h1 | ⟨g, cur, h1, h2, h3⟩
  · exact .inl h1
  · exact .inr ⟨g, cur, h1, Nat.le_trans hB h2, h3⟩
/-- its first part, full -/
theorem Fr.take (h : Fr w B t A c l) (k : Nat) (hk : k ≤ l.length) (hA : A = none → k = 0) : Fr w B t A k (l.take k) := by
  have hkl : (l.take k).length = k := by simp; omega
  refine ⟨by omega, by have := h.1; have := h.2.1; omega, ?_⟩
  rcases h.2.2 with ⟨h1, h2, _⟩ | ⟨g, cur, h1, h2, h3, h4, h5⟩
  · subst h2; have := hA h1; subst this; exact .inl ⟨h1, rfl, rfl⟩
  · refine .inr ⟨g, cur, h1, h2, h3, ?_, by have := h.1; omega⟩
    rw [hkl]
    have : cur.toList.take (k * 2) = (cur.toList.take (l.length * 2)).take (k * 2) := by rw [List.take_take, Nat.min_eq_left (by omega)]
    rw [this, h4]
    have e : l.flatMap Pr.cells = (l.take k).flatMap Pr.cells ++ (l.drop k).flatMap Pr.cells := by rw [← List.flatMap_append, List.take_append_drop]
    rw [e, List.take_left' (by rw [prs_length, hkl])]

/-- the address of a part -/
def partA (A : Option Addr) (k m : Nat) : Option Addr := if m = k then A else A.map (·.add (k * 2))
theorem flat_take (l : List Pr) (k : Nat) : (l.flatMap Pr.cells).take (k * 2) = (l.take k).flatMap Pr.cells := by
  by_cases h : k ≤ l.length
  · have e : l.flatMap Pr.cells = (l.take k).flatMap Pr.cells ++ (l.drop k).flatMap Pr.cells := by rw [← List.flatMap_append, List.take_append_drop]
    rw [e, List.take_left' (by rw [prs_length]; simp; omega)]
  · rw [List.take_of_length_le (by rw [prs_length]; omega), List.take_of_length_le (by omega)]
theorem flat_drop (l : List Pr) (k : Nat) : (l.flatMap Pr.cells).drop (k * 2) = (l.drop k).flatMap Pr.cells := by
  by_cases h : k ≤ l.length
  · have e : l.flatMap Pr.cells = (l.take k).flatMap Pr.cells ++ (l.drop k).flatMap Pr.cells := by rw [← List.flatMap_append, List.take_append_drop]
    rw [e, List.drop_left' (by rw [prs_length]; simp; omega)]
  · rw [List.drop_eq_nil_of_le (by rw [prs_length]; omega), List.drop_eq_nil_of_le (by omega)]; rfl
theorem Sl.take (h : Sl w A (l.flatMap Pr.cells)) (k : Nat) : Sl w A ((l.take k).flatMap Pr.cells) := by
  rcases h with h | ⟨b, off, h1, h2, h3⟩
  · left; rw [← flat_take, h]; simp
  · refine .inr ⟨b, off, h1, h2, fun j u hu => h3 j u ?_⟩
    rw [← flat_take, List.getElem?_take] at hu
    split at hu
    · exact hu
    · cases hu
theorem Sl.drop (h : Sl w A (l.flatMap Pr.cells)) (k m : Nat) (hm : l.length ≤ m) : Sl w (partA A k m) ((l.drop k).flatMap Pr.cells) := by
  unfold partA
  split
  · rename_i e
    left
    rw [← flat_drop, List.drop_eq_nil_of_le (by rw [prs_length]; omega)]
  · rcases h with h | ⟨b, off, h1, h2, h3⟩
    · left; rw [← flat_drop, h]; simp
    · subst h1
      refine .inr ⟨b, off + k * 2, by simp [Addr.add_lit], h2, fun j u hu => ?_⟩
      rw [← flat_drop, List.getElem?_drop] at hu
      have := h3 _ u hu
      rwa [Nat.add_assoc]
end

/-- append onto a slice without room -/
theorem run_append_full {P : Program} (w : World) (t ty e : TypeId) (i : TypeInfo) (z : Value) (size bytes : Nat) (ht : P.underlying t = some (.slice e)) (hi : P.info? e = some i) (hz : i.zero = some z)
    (hsize : i.size = size) (hby : i.bytes = bytes) (hzs : z.cells.size = size) (hsz : 0 < size)
    (A : Option Addr) (n : Nat) (olds : List Value) (hA : A = none → n = 0) (ho : Sl w A olds) (hlo : olds.length = n * size)
    (A' : Option Addr) (m c : Nat) (news : List Value) (hr : Sl w A' news) (hl : news.length = m * size) (h1 : ∀ u ∈ news, u.oneCell' = true)
    (h63 : n + m ≤ maxLen) (hbytes : (n + m) * bytes ≤ 140737488355328) :
    ∃ v' w', (Builtin.append_ #[t, t] ty #[.slice A n n, .slice A' m c]).run P w = .ok v' w' ∧
      (0 < m → w'.ownsRow w.heap.size e size v' (n + m) (olds ++ news)) ∧ (m = 0 → v' = .slice A n n ∧ w' = w) ∧ w.grownBy w' none := by
  by_cases hm : m = 0
  · subst hm
    refine ⟨.slice A n n, w, ?_, by omega, fun _ => ⟨rfl, rfl⟩, World.grownBy.refl w _⟩
    cases A' with
    | none =>
      cases A with
      | none => have := hA rfl; subst this; simp [Builtin.append_, run_underlying ht, sizeOf, typeInfo, hi, Builtin.lenOf, Builtin.firstCells]
      | some a => simp [Builtin.append_, run_underlying ht, sizeOf, typeInfo, hi, Builtin.lenOf, Builtin.firstCells, storeCells]
    | some a' =>
      cases A with
      | none => have := hA rfl; subst this; simp [Builtin.append_, run_underlying ht, sizeOf, typeInfo, hi, Builtin.lenOf, Builtin.firstCells, loadCells, loadCellsFrom]
      | some a => simp [Builtin.append_, run_underlying ht, sizeOf, typeInfo, hi, Builtin.lenOf, Builtin.firstCells, storeCells, loadCells, loadCellsFrom]
  · have hr' : ∃ b off, A' = some ⟨b, off, none⟩ ∧ ∀ j u, news[j]? = some u → w.cell? ⟨b, off + j, none⟩ = some u := by
      rcases hr with hr | ⟨b, off, h1, _, h3⟩
      · subst hr
        rw [List.length_nil] at hl
        have := Nat.mul_pos (Nat.pos_of_ne_zero hm) hsz
        omega
      · exact ⟨b, off, h1, h3⟩
    obtain ⟨b, off, rfl, hnews⟩ := hr'
    by_cases hn : n = 0
    · subst hn
      have : olds = [] := List.eq_nil_of_length_eq_zero (by simpa using hlo)
      subst this
      cases A with
      | none =>
        obtain ⟨v', w', hrun, h2, h3, _⟩ := run_append_own (P := P) w w.heap.size t ty e i z size bytes ht hi hz hsize hby hzs hsz (.slice none 0 0) 0 [] (World.ownsRow_nil w _ e size) ⟨b, off, none⟩ m c news hl
          (fun j u hu => by rw [Addr.add_lit]; exact hnews j u hu) h1 h63 hbytes (Nat.le_refl _)
        exact ⟨v', w', hrun, fun _ => h2, fun h => absurd h hm, h3⟩
      | some a =>
        obtain ⟨v', w', hrun, h2, h3⟩ := run_append_arg_grows (P := P) w t ty e i z size bytes ht hi hz hsize hby hzs hsz a 0 0 [] (by simp) (by simp) ⟨b, off, none⟩ m c news hl
          (fun j u hu => by rw [Addr.add_lit]; exact hnews j u hu) (by omega) h63 hbytes
        exact ⟨v', w', hrun, fun _ => h2, fun h => absurd h hm, h3⟩
    · rcases ho with ho | ⟨b', off', rfl, _, holds⟩
      · subst ho
        rw [List.length_nil] at hlo
        have := Nat.mul_pos (Nat.pos_of_ne_zero hn) hsz
        omega
      · obtain ⟨v', w', hrun, h2, h3⟩ := run_append_arg_grows (P := P) w t ty e i z size bytes ht hi hz hsize hby hzs hsz ⟨b', off', none⟩ n n olds hlo (fun j u hu => by rw [Addr.add_lit]; exact holds j u hu) ⟨b, off, none⟩ m c news hl
          (fun j u hu => by rw [Addr.add_lit]; exact hnews j u hu) (by omega) h63 hbytes
        exact ⟨v', w', hrun, fun _ => h2, fun h => absurd h hm, h3⟩

theorem step_append_full {P : Program} (w : World) {ops : Array Oper} {o : Oper} {a : Act} {K : Act → World → Prop} {Q : Exit → Act → World → Prop} {E : Prop} (hgd : o.guard = none) (s x : Operand) (t : TypeId)
    (ho : o.op = .call { callee := .builtin .append, args := #[s, x], argTypes := #[t, t] })
    (e : TypeId) (i : TypeInfo) (z : Value) (size bytes : Nat) (ht : P.underlying t = some (.slice e)) (hi : P.info? e = some i) (hz : i.zero = some z)
    (hsize : i.size = size) (hby : i.bytes = bytes) (hzs : z.cells.size = size) (hsz : 0 < size)
    (A : Option Addr) (n : Nat) (olds : List Value) (hA : A = none → n = 0) (hs : a.eval s = .slice A n n) (hol : Sl w A olds) (hlo : olds.length = n * size)
    (A' : Option Addr) (m c : Nat) (news : List Value) (hx : a.eval x = .slice A' m c) (hr : Sl w A' news) (hl : news.length = m * size) (h1 : ∀ u ∈ news, u.oneCell' = true)
    (h63 : n + m ≤ maxLen) (hbytes : (n + m) * bytes ≤ 140737488355328)
    (h : ∀ v' w', (0 < m → w'.ownsRow w.heap.size e size v' (n + m) (olds ++ news)) → (m = 0 → v' = .slice A n n ∧ w' = w) → w.grownBy w' none → K (a.put o.dst v') w') :
    if Region.wanted o (yielded ops a.tmps) = true then Oper.wp P o a w K Q else E := by
  have hw : Region.wanted o (yielded ops a.tmps) = true := by simp [Region.wanted, hgd]
  rw [if_pos hw]
  obtain ⟨v', w', hrun, h2, h3, h4⟩ := run_append_full (P := P) w t o.type e i z size bytes ht hi hz hsize hby hzs hsz A n olds hA hol hlo A' m c news hr hl h1 h63 hbytes
  unfold Oper.wp execOp
  simp only [ho, resolve, invoke, builtin, Sem.run_bind, Sem.run_pure, Result.andThen_ok, List.map_toArray, List.map_cons, List.map_nil, hs, hx, hrun]
  exact h v' w' h2 h3 h4

/-- onto a new slice's full part: again new -/
theorem Fr.append {w w' : World} {B : Nat} {t : TypeId} {A _A' : Option Addr} {_c k : Nat} {l news : List Pr} {v' : Value} {n m : Nat} (h : Fr w B t A k l) (hn : n = l.length) (hkn : k = n) (hm : m = news.length) (hB : B ≤ w.heap.size)
    (h1 : 0 < m → w'.ownsRow w.heap.size t 2 v' (n + m) (l.flatMap Pr.cells ++ news.flatMap Pr.cells)) (h2 : m = 0 → v' = .slice A n n ∧ w' = w) :
    ∃ A2 c2, v' = .slice A2 (n + m) c2 ∧ Fr w' B t A2 c2 (l ++ news) := by
  subst hn hm hkn
  by_cases hm : news.length = 0
  · obtain ⟨rfl, rfl⟩ := h2 hm
    have : news = [] := List.eq_nil_of_length_eq_zero hm
    subst this
    exact ⟨A, l.length, rfl, by simpa using h⟩
  · have ho := h1 (by omega)
    obtain ⟨A2, c2, rfl, _, _⟩ := own_form ho
    rw [← List.flatMap_append] at ho
    exact ⟨A2, c2, rfl, (Fr.of_own ho (by simp)).mono hB⟩
end Go.Proofs.YtolclahkfmplfaaGreat

/- Contracts: a copy in new memory, and a pair put in. -/
namespace Go.Proofs.YtolclahkfmplfaaGreat
open Go Go.RowKit
set_option maxRecDepth 100000

theorem pr_info0 : (Tryz.prog.info? 50).map (fun i => (i.zero, i.size, i.bytes)) = some (some (.agg #[.int .i64 0, .int .i64 0]), 2, 16) := by kernel_rfl
theorem one_prs (l : List Pr) : ∀ u ∈ l.flatMap Pr.cells, u.oneCell' = true := by
  intro u hu; obtain ⟨e, _, he⟩ := List.mem_flatMap.1 hu; simp [Pr.cells] at he; rcases he with rfl | rfl <;> rfl
theorem eql_nil (A : Option Addr) (n c : Nat) (w : World) : (binOp .eql 30 (.slice A n c) (.slice none 0 0)).run Tryz.prog w = .ok (.bool A.isNone) w := Lib.run_eql_slice_nil w _ _ A n c _ _ Tryz.underlying30

/-- hands back pairs in new memory -/
def GivesFr (l : List Pr) (w : World) (r : Ending) (w' : World) : Prop := ∃ A c, r = .returned (.slice A l.length c) ∧ Fr w' w.heap.size 50 A c l ∧ Below w.heap.size w w'


end Go.Proofs.YtolclahkfmplfaaGreat

/- Contracts: the references' searches in pairs. -/
namespace Go.Proofs.YtolclahkfmplfaaGreat
open Go Go.RowKit
set_option maxRecDepth 100000

theorem bel_succ {l : List Pr} {k : Nat} (h : k < l.length) (key : Int) : bel (l.take (k + 1)) key = bel (l.take k) key + (if (l[k]'h).key < key then 1 else 0) := by
  unfold bel
  rw [List.take_succ_eq_append_getElem h, List.countP_append, List.countP_cons, List.countP_nil]
  simp


/-- hands back a pair and whether there is one -/
def GivesPB (p : Pr) (b : Bool) (w : World) (r : Ending) (w' : World) : Prop := r = .returned (.tuple #[.agg #[.int .i64 p.key, .int .i64 p.val], .bool b]) ∧ Below w.heap.size w w'
def ceilP (l : List Pr) (key : Int) : Pr := if bel l key < l.length then l[bel l key]! else ⟨0, 0⟩
def ceilB (l : List Pr) (key : Int) : Bool := decide (bel l key < l.length)
def floorP (l : List Pr) (key : Int) : Pr := if 0 < upk l key then l[upk l key - 1]! else ⟨0, 0⟩
def floorB (l : List Pr) (key : Int) : Bool := decide (0 < upk l key)


theorem sl_newP (W : World) (t : TypeId) (cs : Array Value) : Sl (W.alloc (.cells cs t)) (some ⟨W.heap.size, 0, none⟩) cs.toList :=
  (Blk.new W t cs).sl 0 _ (by intro j u hu; simpa using hu)

def withoutL (l : List Pr) (a b : Int) : List Pr := l.filter (fun p => decide (p.key < a) || decide (b < p.key))
theorem without_succ {l : List Pr} {k : Nat} (h : k < l.length) (a b : Int) : withoutL (l.take (k + 1)) a b = withoutL (l.take k) a b ++ (if (l[k]'h).key < a ∨ b < (l[k]'h).key then [l[k]'h] else []) := by
  unfold withoutL
  rw [List.take_succ_eq_append_getElem h, List.filter_append, List.filter_cons, List.filter_nil]
  by_cases h1 : (l[k]'h).key < a ∨ b < (l[k]'h).key
  · rw [if_pos h1, if_pos (by simpa using h1)]
  · rw [if_neg h1, if_neg (by simpa using h1)]
theorem without_len (l : List Pr) (a b : Int) : (withoutL l a b).length ≤ l.length := List.length_filter_le _ _

def runOfL (l : List Pr) (a b : Int) (N : Nat) : List Pr := (l.filter (fun p => decide (a ≤ p.key) && decide (p.key ≤ b))).take N
theorem runOf_succ {l : List Pr} {k : Nat} (h : k < l.length) (a b : Int) (N : Nat) : runOfL (l.take (k + 1)) a b N = runOfL (l.take k) a b N ++ (if a ≤ (l[k]'h).key ∧ (l[k]'h).key ≤ b ∧ (runOfL (l.take k) a b N).length < N then [l[k]'h] else []) := by
  unfold runOfL
  rw [List.take_succ_eq_append_getElem h, List.filter_append, List.filter_cons, List.filter_nil]
  by_cases h1 : a ≤ (l[k]'h).key ∧ (l[k]'h).key ≤ b
  · rw [if_pos (by simpa using h1), List.take_append]
    simp only [List.length_take]
    by_cases h2 : ((l.take k).filter (fun p => decide (a ≤ p.key) && decide (p.key ≤ b))).length < N
    · rw [if_pos ⟨h1.1, h1.2, by omega⟩]
      congr 1
      rw [List.take_of_length_le (by simp; omega)]
    · rw [if_neg (by omega), show N - ((l.take k).filter (fun p => decide (a ≤ p.key) && decide (p.key ≤ b))).length = 0 by omega, List.take_zero]
  · rw [if_neg (by simpa using h1), List.append_nil, if_neg (by omega), List.append_nil]
theorem runOf_len (l : List Pr) (a b : Int) (N : Nat) : (runOfL l a b N).length ≤ l.length := by
  unfold runOfL
  rw [List.length_take]
  have := List.length_filter_le (fun p : Pr => decide (a ≤ p.key) && decide (p.key ≤ b)) l
  omega

end Go.Proofs.YtolclahkfmplfaaGreat

/- Contracts: ladder.Range's closure, slices.IndexFunc and DeleteFunc of pairs by it. -/
namespace Go.Proofs.YtolclahkfmplfaaGreat
open Go Go.RowKit
set_option maxRecDepth 100000
def inB (p : Pr) (a b : Int) : Bool := decide (a ≤ p.key) && decide (p.key ≤ b)
theorem without_is (l : List Pr) (a b : Int) : withoutL l a b = l.filter (fun p => !inB p a b) := by
  unfold withoutL
  congr 1
  funext p
  unfold inB
  by_cases h1 : a ≤ p.key <;> by_cases h2 : p.key ≤ b <;> simp [h1, h2] <;> omega
/-- where the first of pairs stands that is to go -/
def FirstIn (l : List Pr) (a b : Int) (v : Int) : Prop := (v = -1 ∧ ∀ e ∈ l, inB e a b = false) ∨ ∃ (k : Nat) (h : k < l.length), v = (k : Int) ∧ inB (l[k]'h) a b = true ∧ ∀ e ∈ l.take k, inB e a b = false
end Go.Proofs.YtolclahkfmplfaaGreat

/- Contract: slices.DeleteFunc of pairs, by ladder.Range's closure. -/
namespace Go.Proofs.YtolclahkfmplfaaGreat
open Go Go.RowKit
set_option maxRecDepth 100000
theorem run_clear_any {P : Program} (w : World) (t e ty : TypeId) (z : Value) (ht : P.underlying t = some (.slice e)) (hv : ∀ w, (zeroValue e).run P w = .ok z w) (b o n c : Nat) (hn : 0 < n)
    (hc : ∀ j, j < (Builtin.zeroCells z.cells n).toList.length → (w.cell? ⟨b, o + j, none⟩).isSome = true) (hf : ∀ j, j < (Builtin.zeroCells z.cells n).toList.length → w.frozen? ⟨b, o + j, none⟩ = false) (h1 : ∀ v ∈ (Builtin.zeroCells z.cells n).toList, v.oneCell' = true) :
    (Builtin.clear_ #[t] ty #[.slice (some ⟨b, o, none⟩) n c]).run P w = .ok (.tuple #[]) (w.setCells b o (Builtin.zeroCells z.cells n).toList) := by
  have hst := run_storeCells_cells (P := P) b o (Builtin.zeroCells z.cells n).toList 0 w (by simpa using hc) (by simpa using hf) h1
  simp only [Nat.add_zero] at hst
  obtain ⟨m, rfl⟩ : ∃ m, n = m + 1 := ⟨n - 1, by omega⟩
  simp only [Builtin.clear_]
  simp [run_underlying ht, hv, hst]
theorem below_setCells {B b : Nat} (hb : B ≤ b) {a : World} : ∀ (vs : List Value) (o : Nat) (w : World), Below B a w → Below B a (w.setCells b o vs)
  | [], _, _, h => h
  | v :: r, o, _, h => below_setCells hb r (o + 1) _ (h.setCell (p := ⟨b, o, none⟩) hb v)
theorem take_push (x y : Value) : ∀ (n : Nat) (L : List Value), n + 2 ≤ L.length → ((L.set n x).set (n + 1) y).take (n + 2) = L.take n ++ [x, y]
  | 0, a :: b :: r, _ => by simp
  | 0, [_], h => by simp at h
  | 0, [], h => by simp at h
  | n + 1, a :: r, h => by
    have := take_push x y n r (by simpa using h)
    simp only [List.set_cons_succ, List.take_succ_cons, List.cons_append, this]
  | n + 1, [], h => by simp at h
/-- while pairs are struck: m is kept of the first k -/
structure DelI (B0 g c : Nat) (a b : Int) (l : List Pr) (w : World) (k : Nat) (m : List Pr) (cur : Array Value) (wr : World) : Prop where
  bel : Below B0 w wr
  blk : Blk wr g 50 cur
  size : c * 2 ≤ cur.size
  cap : l.length ≤ c
  low : cur.toList.take (m.length * 2) = m.flatMap Pr.cells
  high : ∀ j (h : j < l.length), k ≤ j → cur[j * 2]? = some (.int .i64 (l[j]'h).key) ∧ cur[j * 2 + 1]? = some (.int .i64 (l[j]'h).val)
  len : m.length < k
  eq : m = (l.take k).filter (fun p => !inB p a b)
theorem DelI.skip {B0 g c k : Nat} {a b : Int} {l m : List Pr} {w wr wx : World} {cur : Array Value} (h : DelI B0 g c a b l w k m cur wr) (hb : Below wr.heap.size wr wx) (hB : B0 ≤ wr.heap.size) (hk : k < l.length) (hp : inB (l[k]'hk) a b = true) : DelI B0 g c a b l w (k + 1) m cur wx := by
  refine ⟨h.bel.trans (hb.mono hB), h.blk.below hb h.blk.lt, h.size, h.cap, h.low, fun j hj hkj => h.high j hj (by omega), by have := h.len; omega, ?_⟩
  rw [List.take_succ_eq_append_getElem hk, List.filter_append, ← h.eq]
  simp [hp]
theorem DelI.keep {B0 g c k : Nat} {a b : Int} {l m : List Pr} {w wr wx : World} {cur : Array Value} (h : DelI B0 g c a b l w k m cur wr) (hb : Below wr.heap.size wr wx) (hB : B0 ≤ wr.heap.size) (hg : B0 ≤ g) (hk : k < l.length) {p : Pr} (hpe : l[k]'hk = p) (hp : inB p a b = false) :
    ∃ cur', DelI B0 g c a b l w (k + 1) (m ++ [p]) cur' ((wx.setCell ⟨g, m.length * 2, none⟩ (.int .i64 p.key)).setCell ⟨g, m.length * 2 + 1, none⟩ (.int .i64 p.val)) := by
  have hbl := h.blk.below hb h.blk.lt
  have hlen := h.len
  have hsz := h.size
  have hcap := h.cap
  refine ⟨(cur.setIfInBounds (m.length * 2) (.int .i64 p.key)).setIfInBounds (m.length * 2 + 1) (.int .i64 p.val), ?_, (hbl.set_ _ _).set_ _ _, by simpa using hsz, hcap, ?_, ?_, ?_, ?_⟩
  · exact ((h.bel.trans (hb.mono hB)).setCell (p := ⟨g, m.length * 2, none⟩) hg _).setCell (p := ⟨g, m.length * 2 + 1, none⟩) hg _
  · rw [Array.toList_setIfInBounds, Array.toList_setIfInBounds, List.length_append, List.length_singleton, show (m.length + 1) * 2 = m.length * 2 + 2 from by omega, take_push _ _ _ _ (by have : cur.toList.length = cur.size := rfl; omega), h.low, List.flatMap_append]
    simp [Pr.cells]
  · intro j hj hkj
    have h1 := h.high j hj (by omega)
    constructor
    · rw [Array.getElem?_setIfInBounds_ne (by omega), Array.getElem?_setIfInBounds_ne (by omega)]; exact h1.1
    · rw [Array.getElem?_setIfInBounds_ne (by omega), Array.getElem?_setIfInBounds_ne (by omega)]; exact h1.2
  · simp; omega
  · rw [List.take_succ_eq_append_getElem hk, List.filter_append, ← h.eq, hpe]
    simp [hp]
theorem zv_pair (w : World) : (zeroValue 50).run Tryz.prog w = .ok (.agg #[.int .i64 0, .int .i64 0]) w := Tryz.zeroValue50 w
theorem zc_pair (n : Nat) : (Builtin.zeroCells (Value.agg #[.int .i64 0, .int .i64 0]).cells n).toList.length = n * 2 ∧ ∀ v ∈ (Builtin.zeroCells (Value.agg #[.int .i64 0, .int .i64 0]).cells n).toList, v.oneCell' = true := by
  constructor
  · simp [Builtin.zeroCells, Value.cells]
  · intro v hv
    simp [Builtin.zeroCells, Value.cells] at hv
    obtain ⟨i, hi⟩ := hv
    have h2 : i % 2 = 0 ∨ i % 2 = 1 := by omega
    rcases h2 with h2 | h2 <;> simp [h2] at hi <;> rw [← hi.2] <;> rfl
theorem first_take {l : List Pr} {a b : Int} {k : Nat} (h : k < l.length) (h1 : inB (l[k]'h) a b = true) (h2 : ∀ e ∈ l.take k, inB e a b = false) : l.take k = (l.take (k + 1)).filter (fun p => !inB p a b) := by
  rw [List.take_succ_eq_append_getElem h, List.filter_append, List.filter_eq_self.2 (fun e he => by rw [h2 e he]; rfl)]
  simp [h1]
/-- the cells of a block that holds pairs -/
theorem fr_cells {cur : Array Value} {l : List Pr} (h : cur.toList.take (l.length * 2) = l.flatMap Pr.cells) (j : Nat) (hj : j < l.length) : cur[j * 2]? = some (.int .i64 (l[j]'hj).key) ∧ cur[j * 2 + 1]? = some (.int .i64 (l[j]'hj).val) := by
  have h1 : ∀ i u, (l.flatMap Pr.cells)[i]? = some u → cur[i]? = some u := fun i u hu => by
    rw [← h, List.getElem?_take] at hu
    split at hu
    · simpa using hu
    · cases hu
  have h2 := fun q (hq : q < 2) => flat_get Pr.cells 2 Pr.cells_length l j q hj hq
  exact ⟨h1 _ _ (by have := h2 0 (by omega); simpa [Pr.cells] using this), h1 _ _ (by have := h2 1 (by omega); simpa [Pr.cells] using this)⟩
end Go.Proofs.YtolclahkfmplfaaGreat

/- Plain: whether a key is among pairs. No program in sight. -/
namespace Go.Proofs.YtolclahkfmplfaaGreat
open Go
theorem len_sub : ∀ {a b : List Int}, a.Nodup → (∀ x ∈ a, x ∈ b) → a.length ≤ b.length
  | [], _, _, _ => Nat.zero_le _
  | x :: a, b, hn, h => by
    have hx := h x List.mem_cons_self
    have h2 := List.nodup_cons.1 hn
    have h3 := len_sub (a := a) (b := b.erase x) h2.2 fun y hy => (List.mem_erase_of_ne (fun e => h2.1 (by rw [← e]; exact hy))).2 (h y (List.mem_cons_of_mem _ hy))
    rw [List.length_erase_of_mem hx] at h3
    have h4 := List.length_pos_of_mem hx
    simp only [List.length_cons]
    omega
theorem key_in {L : Lv} (hM : May L) (k : Int) : k ∈ (allL L).map Ent.key ↔ isB L k = true := by
  have hl := allL_look hM.mE k
  rw [lv_is (chkR_zero.2 hM)] at hl
  constructor
  · intro hm
    obtain ⟨e, he, hk⟩ := List.mem_map.1 hm
    have h5 := look_mem (allL_ris hM) he
    rw [hk, hl] at h5
    by_cases hb : isB L k = true
    · exact hb
    · rw [if_neg hb] at h5; cases h5
  · intro hb
    rw [if_pos hb] at hl
    obtain ⟨h5, h6⟩ := look_key hl
    exact List.mem_map.2 ⟨_, h6, h5⟩
end Go.Proofs.YtolclahkfmplfaaGreat

/- Plain facts: neighbours in levels. No program in sight. -/
namespace Go.Proofs.YtolclahkfmplfaaGreat
open Go
/-- an order of keys, upward or downward -/
structure Ord (lt : Int → Int → Bool) : Prop where
  tr : ∀ a b c, lt a b = true → lt b c = true → lt a c = true
  tr2 : ∀ a b c, lt a b = true → lt c b = false → lt a c = true
  irr : ∀ a, lt a a = false
def ltN (a b : Int) : Bool := decide (a < b)
def ltL (a b : Int) : Bool := decide (b < a)
theorem ord_N : Ord ltN := ⟨fun a b c h1 h2 => by unfold ltN at *; rw [decide_eq_true_iff] at *; omega, fun a b c h1 h2 => by unfold ltN at *; rw [decide_eq_true_iff] at *; rw [decide_eq_false_iff_not] at h2; omega, fun a => by unfold ltN; rw [decide_eq_false_iff_not]; omega⟩
theorem ord_L : Ord ltL := ⟨fun a b c h1 h2 => by unfold ltL at *; rw [decide_eq_true_iff] at *; omega, fun a b c h1 h2 => by unfold ltL at *; rw [decide_eq_true_iff] at *; rw [decide_eq_false_iff_not] at h2; omega, fun a => by unfold ltL; rw [decide_eq_false_iff_not]; omega⟩
/-- what a run has next, on a side -/
structure AskOk (ok : Int → Bool) (lt : Int → Int → Bool) (l : List Ent) (E : Int) (X : Ent) : Prop where
  vals : E = 0 ∨ E = 6
  mem : E = 0 → X ∈ l ∧ ok X.key = true
  best : E = 0 → ∀ e ∈ l, ok e.key = true → lt e.key X.key = false
  none : E = 6 → ∀ e ∈ l, ok e.key = false
def stepB (lt : Int → Int → Bool) (o : Option Ent) (E : Int) (X : Ent) : Option Ent := if E = 0 ∧ (o = none ∨ lt X.key (o.getD zeroE).key = true) then some X else o
structure BestOk (ok : Int → Bool) (lt : Int → Int → Bool) (rs : Lv) (o : Option Ent) : Prop where
  none : o = none → ∀ l ∈ rs, ∀ e ∈ l, ok e.key = false
  mem : ∀ x, o = some x → ok x.key = true ∧ ∃ l ∈ rs, x ∈ l
  best : ∀ x, o = some x → ∀ l ∈ rs, ∀ e ∈ l, ok e.key = true → lt e.key x.key = false
theorem best_nil (ok : Int → Bool) (lt : Int → Int → Bool) : BestOk ok lt [] none := ⟨fun _ l hl => absurd hl (by simp), fun x hx => (by cases hx), fun x hx => (by cases hx)⟩
theorem best_step {ok : Int → Bool} {lt : Int → Int → Bool} (ho : Ord lt) {rs : Lv} {o : Option Ent} {l : List Ent} {E : Int} {X : Ent} (h : BestOk ok lt rs o) (ha : AskOk ok lt l E X) : BestOk ok lt (rs ++ [l]) (stepB lt o E X) := by
  unfold stepB
  rcases ha.vals with h0 | h6
  · obtain ⟨m1, m2⟩ := ha.mem h0
    have hb := ha.best h0
    cases o with
    | none =>
      rw [if_pos ⟨h0, .inl rfl⟩]
      refine ⟨fun h => (by cases h), fun x hx => ?_, fun x hx q hq e he hok => ?_⟩
      · cases hx; exact ⟨m2, l, by simp, m1⟩
      · cases hx
        rcases List.mem_append.1 hq with hq | hq
        · rw [h.none rfl q hq e he] at hok; cases hok
        · obtain rfl : q = l := by simpa using hq
          exact hb e he hok
    | some b =>
      by_cases hlt : lt X.key b.key = true
      · rw [if_pos ⟨h0, .inr hlt⟩]
        refine ⟨fun h => (by cases h), fun x hx => ?_, fun x hx q hq e he hok => ?_⟩
        · cases hx; exact ⟨m2, l, by simp, m1⟩
        · cases hx
          rcases List.mem_append.1 hq with hq | hq
          · cases hc : lt e.key X.key with
            | false => rfl
            | true =>
              have h1 := h.best b rfl q hq e he hok
              rw [ho.tr _ _ _ hc hlt] at h1; cases h1
          · obtain rfl : q = l := by simpa using hq
            exact hb e he hok
      · have hlf : lt X.key b.key = false := by simpa using hlt
        rw [if_neg (fun h => by rcases h.2 with h | h; · cases h
                                · exact hlt h)]
        refine ⟨fun h => (by cases h), fun x hx => ?_, fun x hx q hq e he hok => ?_⟩
        · cases hx
          obtain ⟨k1, q, k2, k3⟩ := h.mem b rfl
          exact ⟨k1, q, by simp [k2], k3⟩
        · cases hx
          rcases List.mem_append.1 hq with hq | hq
          · exact h.best b rfl q hq e he hok
          · obtain rfl : q = l := by simpa using hq
            cases hc : lt e.key b.key with
            | false => rfl
            | true =>
              have h1 := hb e he hok
              rw [ho.tr2 _ _ _ hc hlf] at h1; cases h1
  · rw [if_neg (fun h => by rw [h6] at h; exact absurd h.1 (by decide))]
    refine ⟨fun hn q hq e he => ?_, fun x hx => ?_, fun x hx q hq e he hok => ?_⟩
    · rcases List.mem_append.1 hq with hq | hq
      · exact h.none hn q hq e he
      · obtain rfl : q = l := by simpa using hq
        exact ha.none h6 e he
    · obtain ⟨k1, q, k2, k3⟩ := h.mem x hx
      exact ⟨k1, q, by simp [k2], k3⟩
    · rcases List.mem_append.1 hq with hq | hq
      · exact h.best x hx q hq e he hok
      · obtain rfl : q = l := by simpa using hq
        rw [ha.none h6 e he] at hok; cases hok
theorem ask_next {l : List Ent} (h : chkE l = 0) (key : Int) : AskOk (fun k => decide (key ≤ k)) ltN l (nxE l key) (nxX l key) := by
  have hr := chk_ris h
  have hp := inL_perm l
  by_cases hB : belK (inL l) key < (inL l).length
  · obtain ⟨h1, h2⟩ := nx_yes h hB
    rw [h1, h2]
    refine ⟨.inl rfl, fun _ => ⟨hp.mem_iff.1 (List.getElem_mem hB), decide_eq_true (ris_at hr hB)⟩, fun _ e he hok => ?_, fun h => (by cases h)⟩
    obtain ⟨j, hj, he2⟩ := List.getElem_of_mem (hp.mem_iff.2 he)
    have h3 := ris_count key hr j hj
    have h4 := of_decide_eq_true hok
    rw [he2] at h3
    have h5 : belK (inL l) key ≤ j := by
      by_cases hx : j < belK (inL l) key
      · have := h3.2 hx; omega
      · omega
    have h6 := ris_le hr h5 hj
    rw [he2] at h6
    unfold ltN
    exact decide_eq_false (by omega)
  · rw [(nx_no h hB).1]
    refine ⟨.inr rfl, fun h => (by cases h), fun h => (by cases h), fun _ e he => ?_⟩
    obtain ⟨j, hj, he2⟩ := List.getElem_of_mem (hp.mem_iff.2 he)
    have h3 := (ris_count key hr j hj).2 (by omega)
    rw [he2] at h3
    exact decide_eq_false (by omega)
theorem ask_last {l : List Ent} (h : chkE l = 0) (key : Int) : AskOk (fun k => decide (k < key)) ltL l (lsE l key) (lsX l key) := by
  have hr := chk_ris h
  have hp := inL_perm l
  have hBl := belK_le (inL l) key
  by_cases hB : 0 < belK (inL l) key
  · obtain ⟨h1, h2⟩ := ls_yes h hB
    have hlt : belK (inL l) key - 1 < (inL l).length := by omega
    rw [h1, h2]
    refine ⟨.inl rfl, fun _ => ⟨hp.mem_iff.1 (List.getElem_mem hlt), decide_eq_true ((ris_count key hr _ hlt).2 (by omega))⟩, fun _ e he hok => ?_, fun h => (by cases h)⟩
    obtain ⟨j, hj, he2⟩ := List.getElem_of_mem (hp.mem_iff.2 he)
    have h3 := ris_count key hr j hj
    rw [he2] at h3
    have h4 := h3.1 (of_decide_eq_true hok)
    have h6 := ris_le hr (show j ≤ belK (inL l) key - 1 by omega) hlt
    rw [he2] at h6
    unfold ltL
    exact decide_eq_false (by omega)
  · rw [ls_no h hB]
    refine ⟨.inr rfl, fun h => (by cases h), fun h => (by cases h), fun _ e he => ?_⟩
    obtain ⟨j, hj, he2⟩ := List.getElem_of_mem (hp.mem_iff.2 he)
    have h3 := ris_count key hr j hj
    rw [he2] at h3
    refine decide_eq_false fun h4 => ?_
    have := h3.1 h4
    omega
theorem near_find {ok : Int → Bool} {lt : Int → Int → Bool} : ∀ {l : List Ent} {z : Ent}, l.Pairwise (fun a b => lt a.key b.key = true) → z ∈ l → ok z.key = true → (∀ e ∈ l, ok e.key = true → lt e.key z.key = false) → l.find? (fun e => ok e.key) = some z
  | [], z, _, hz, _, _ => by simp at hz
  | a :: t, z, hp, hz, hok, h => by
    rcases List.mem_cons.1 hz with rfl | hz
    · rw [List.find?_cons, hok]
    · have h1 := (List.pairwise_cons.1 hp).1 z hz
      have h2 : ok a.key = false := by
        cases hc : ok a.key with
        | false => rfl
        | true =>
          have h3 := h a (by simp) hc
          rw [h1] at h3; cases h3
      rw [List.find?_cons, h2]
      exact near_find (List.pairwise_cons.1 hp).2 hz hok (fun e he => h e (by simp [he]))
theorem find_congr {p q : Ent → Bool} : ∀ {l : List Ent}, (∀ e ∈ l, p e = q e) → l.find? p = l.find? q
  | [], _ => rfl
  | a :: t, h => by
    rw [List.find?_cons, List.find?_cons, h a (by simp), find_congr (fun e he => h e (by simp [he]))]
theorem newest_lv : ∀ {rs : Lv} {k : Int} {e : Ent}, newest rs k = some e → e.key = k ∧ ∃ l ∈ rs, e ∈ l
  | [], k, e, h => by cases h
  | r :: rs, k, e, h => by
    unfold newest at h
    rw [List.findSome?_cons] at h
    cases hl : look r k with
    | some y =>
      rw [hl] at h
      cases h
      exact ⟨(look_key hl).1, r, by simp, (look_key hl).2⟩
    | none =>
      rw [hl] at h
      obtain ⟨h1, l, h2, h3⟩ := newest_lv (rs := rs) h
      exact ⟨h1, l, by simp [h2], h3⟩
theorem newest_of {rs : Lv} {e : Ent} {l : List Ent} (hl : l ∈ rs) (he : e ∈ l) : ∃ z, newest rs e.key = some z ∧ z.key = e.key := by
  cases h : newest rs e.key with
  | some z => exact ⟨z, rfl, (newest_lv h).1⟩
  | none =>
    unfold newest at h
    rw [List.findSome?_eq_none_iff] at h
    exact absurd rfl (look_isNone (h l hl) e he)
/-- the nearest live entry -/
def nxO (L : Lv) (key : Int) : Option Ent := (allL L).find? (fun e => decide (key ≤ e.key))
def lsO (L : Lv) (key : Int) : Option Ent := (allL L).reverse.find? (fun e => decide (e.key < key))
theorem all_in {L : Lv} (h : May L) {e : Ent} (he : e ∈ allL L) : ∃ l ∈ L, e ∈ l := by
  have h1 := look_mem (allL_ris h) he
  rw [allL_look h.mE] at h1
  exact (newest_lv (lv_some h1).1).2
theorem all_live_in {L : Lv} (h : May L) {z : Ent} {k : Int} (hz : newest L k = some z) (hd : z.dead = false) : z ∈ allL L ∧ z.key = k := by
  have h1 := allL_look h.mE k
  rw [hz] at h1
  have h2 : lvO (some z) = some z := by unfold lvO; simp [hd]
  rw [h2] at h1
  exact ⟨(look_key h1).2, (look_key h1).1⟩
theorem all_dead_no {L : Lv} (h : May L) {z : Ent} {k : Int} (hz : newest L k = some z) (hd : z.dead = true) {e : Ent} (he : e ∈ allL L) : e.key ≠ k := by
  intro hk
  have h1 := look_mem (allL_ris h) he
  rw [hk, allL_look h.mE, hz] at h1
  have h2 : lvO (some z) = none := by unfold lvO; simp [hd]
  rw [h2] at h1
  cases h1
theorem nx_none {L : Lv} (h : May L) {key : Int} (hb : BestOk (fun k => decide (key ≤ k)) ltN L none) : nxO L key = none := by
  unfold nxO
  rw [List.find?_eq_none]
  intro e he
  obtain ⟨l, hl, he2⟩ := all_in h he
  have := hb.none rfl l hl e he2
  simpa using this
theorem nx_some {L : Lv} (h : May L) {key : Int} {x z : Ent} (hb : BestOk (fun k => decide (key ≤ k)) ltN L (some x)) (hz : newest L x.key = some z) (hd : z.dead = false) : nxO L key = some z := by
  obtain ⟨h1, h2⟩ := all_live_in h hz hd
  refine near_find (lt := ltN) (ok := fun k => decide (key ≤ k)) ?_ h1 ?_ ?_
  · exact (allL_ris h).imp (fun {a b} hab => decide_eq_true hab)
  · rw [h2]; exact (hb.mem x rfl).1
  · intro e he hok
    obtain ⟨l, hl, he2⟩ := all_in h he
    rw [h2]
    exact hb.best x rfl l hl e he2 hok
theorem nx_skip {L : Lv} (h : May L) {key : Int} {x z : Ent} (hb : BestOk (fun k => decide (key ≤ k)) ltN L (some x)) (hz : newest L x.key = some z) (hd : z.dead = true) : nxO L key = nxO L (x.key + 1) := by
  unfold nxO
  refine find_congr fun e he => ?_
  have h1 := all_dead_no h hz hd he
  obtain ⟨l, hl, he2⟩ := all_in h he
  have h3 := of_decide_eq_true (hb.mem x rfl).1
  by_cases hk : key ≤ e.key
  · have h2 := hb.best x rfl l hl e he2 (decide_eq_true hk)
    unfold ltN at h2
    have h4 := of_decide_eq_false h2
    rw [decide_eq_true hk, decide_eq_true (by omega)]
  · rw [decide_eq_false hk, decide_eq_false (by omega)]
theorem ls_none {L : Lv} (h : May L) {key : Int} (hb : BestOk (fun k => decide (k < key)) ltL L none) : lsO L key = none := by
  unfold lsO
  rw [List.find?_eq_none]
  intro e he
  obtain ⟨l, hl, he2⟩ := all_in h (List.mem_reverse.1 he)
  have := hb.none rfl l hl e he2
  simpa using this
theorem ls_some {L : Lv} (h : May L) {key : Int} {x z : Ent} (hb : BestOk (fun k => decide (k < key)) ltL L (some x)) (hz : newest L x.key = some z) (hd : z.dead = false) : lsO L key = some z := by
  obtain ⟨h1, h2⟩ := all_live_in h hz hd
  refine near_find (lt := ltL) (ok := fun k => decide (k < key)) ?_ (List.mem_reverse.2 h1) ?_ ?_
  · rw [List.pairwise_reverse]
    exact (allL_ris h).imp (fun {a b} hab => decide_eq_true hab)
  · rw [h2]; exact (hb.mem x rfl).1
  · intro e he hok
    obtain ⟨l, hl, he2⟩ := all_in h (List.mem_reverse.1 he)
    rw [h2]
    exact hb.best x rfl l hl e he2 hok
theorem ls_skip {L : Lv} (h : May L) {key : Int} {x z : Ent} (hb : BestOk (fun k => decide (k < key)) ltL L (some x)) (hz : newest L x.key = some z) (hd : z.dead = true) : lsO L key = lsO L x.key := by
  unfold lsO
  refine find_congr fun e he => ?_
  have he' := List.mem_reverse.1 he
  have h1 := all_dead_no h hz hd he'
  obtain ⟨l, hl, he2⟩ := all_in h he'
  have h3 := of_decide_eq_true (hb.mem x rfl).1
  by_cases hk : e.key < key
  · have h2 := hb.best x rfl l hl e he2 (decide_eq_true hk)
    unfold ltL at h2
    have h4 := of_decide_eq_false h2
    rw [decide_eq_true hk, decide_eq_true (by omega)]
  · rw [decide_eq_false hk, decide_eq_false (by omega)]
/-- how many entries lie on the side: it falls from round to round -/
def sideN (L : Lv) (ok : Int → Bool) : Nat := L.flatten.countP (fun e => ok e.key)
theorem side_lt {L : Lv} {p q : Int → Bool} (hpq : ∀ k, p k = true → q k = true) {l : List Ent} {x : Ent} (hl : l ∈ L) (hx : x ∈ l) (h1 : q x.key = true) (h2 : p x.key = false) : sideN L p < sideN L q := by
  have hm : x ∈ L.flatten := List.mem_flatten.2 ⟨l, hl, hx⟩
  unfold sideN
  revert hm
  generalize L.flatten = F
  intro hm
  induction F with
  | nil => exact absurd hm (by simp)
  | cons a t ih =>
    have hle : t.countP (fun e => p e.key) ≤ t.countP (fun e => q e.key) := List.countP_mono_left (fun e _ he => hpq e.key he)
    rw [List.countP_cons, List.countP_cons]
    rcases List.mem_cons.1 hm with rfl | hm
    · rw [h1, h2]
      simp
      omega
    · have := ih hm
      by_cases hp : p a.key = true
      · rw [if_pos hp, if_pos (hpq _ hp)]; omega
      · rw [if_neg hp]; split <;> omega
end Go.Proofs.YtolclahkfmplfaaGreat
