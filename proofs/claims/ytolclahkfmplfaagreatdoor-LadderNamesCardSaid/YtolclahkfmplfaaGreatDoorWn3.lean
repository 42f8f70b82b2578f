/- De Ix Ib Il Df Dj: texts of the claim, in this order. -/
import Derived.Test.YtolclahkfmplfaaGreatDoorWn2
import Derived.Test.YtolclahkfmplfaaGreatDoorWg2
import Derived.WalkMore
import Derived.ScopeJumps
import Derived.Test.YtolclahkfmplfaaGreatDoorWg11
import Derived.Test.YtolclahkfmplfaaGreatDoorWg15
import Derived.Test.YtolclahkfmplfaaGreatDoorWg14
import Derived.Test.YtolclahkfmplfaaGreatDoorWg10
import Derived.Test.YtolclahkfmplfaaGreatDoorWg1
import Derived.Test.YtolclahkfmplfaaGreatDoorWn1
/- Contracts: ladder.Next, ladder.Last. -/
namespace Go.Proofs.YtolclahkfmplfaaGreatDoor
open Go Go.RowKit
set_option maxRecDepth 100000
def resE (err : Int) (o : Option Ent) : Int := if err = 0 then isE o else err
def resP (err : Int) (o : Option Ent) : Pr := if err = 0 then ⟨(o.getD zeroE).key, (o.getD zeroE).val⟩ else ⟨0, 0⟩
theorem findL_any (B : Option Addr) (Rs : List Rm) (k : Nat) (key : Int) (w : World) (hB : RunsAt w B Rs) (hM : May (lvs Rs)) (hT : TabAt 1 Lib.deBruijn64tab w) {z : Ent} (hz : newest (lvs Rs) key = some z) :
    Calls Tryz.prog 33 #[.slice B Rs.length k, .int .i64 key] w (GivesX z 0 w) := by
  have hQ := rm_le' (chkR_zero.2 hM)
  have h8 := kfind_any B Rs k key w hB hQ.1 hQ.2 hT
  have hlv : Rs.map Rm.l = lvs Rs := rfl
  obtain ⟨h1, h2⟩ := gR_kf key (chkR_zero.2 hM)
  rw [hlv, h1, h2] at h8
  have h3 : gxR (lvs Rs) key = z ∧ geR (lvs Rs) key = 0 := by
    unfold gxR geR
    rw [if_pos (chkR_zero.2 hM), if_pos (chkR_zero.2 hM), hz]
    exact ⟨rfl, rfl⟩
  rw [h3.1, h3.2] at h8
  exact h8
structure NearS (w : World) (B : Option Addr) (Rs : List Rm) (k : Nat) (c : Cfg) (n : Int) (gu : Nat) (cur : Int) (wr : World) : Prop where
  bel : Below w.heap.size w wr
  bm : Blk wr w.heap.size 29 (lrow c B Rs.length k n)
  bk : Blk wr (w.heap.size + 1) 2 #[.int .i64 cur]
  br : Blk wr (w.heap.size + 1 + 1) 40 #[.int .i64 0, .int .i64 0]
  bu : Blk wr gu 60 (lrow c B Rs.length k n)
section
variable {w : World} {B : Option Addr} {Rs : List Rm} {k : Nat} {c : Cfg} {n : Int} {gu : Nat} {cur : Int} {wr wx : World}
theorem NearS.below (h : NearS w B Rs k c n gu cur wr) (hb : Below wr.heap.size wr wx) : NearS w B Rs k c n gu cur wx :=
  ⟨bext h.bel hb, h.bm.below hb h.bm.lt, h.bk.below hb h.bk.lt, h.br.below hb h.br.lt, h.bu.below hb h.bu.lt⟩
theorem NearS.key (h : NearS w B Rs k c n gu cur wr) (cur2 : Int) : NearS w B Rs k c n gu cur2 (wr.setCell ⟨w.heap.size + 1, 0, none⟩ (.int .i64 cur2)) := by
  have hne : gu ≠ w.heap.size + 1 := fun e => by
    subst e
    have := h.bu.symm.trans h.bk
    simp at this
  exact ⟨h.bel.setCell (p := ⟨w.heap.size + 1, 0, none⟩) (Nat.le_succ _) _, h.bm.far (p := ⟨w.heap.size + 1, 0, none⟩) (by simp) _, by simpa using h.bk.set_ 0 (.int .i64 cur2), h.br.far (p := ⟨w.heap.size + 1, 0, none⟩) (by simp) _, h.bu.far (p := ⟨w.heap.size + 1, 0, none⟩) hne _⟩
end
def NextI (w : World) (B : Option Addr) (Rs : List Rm) (k : Nat) (c : Cfg) (n key : Int) (O : Option Ent) (g : Nat) (a : Act) (wr : World) : Prop :=
  ∃ (gu : Nat) (cur : Int) (u6 u8 u9 u10 u11 u12 u13 u14 u15 u16 u17 u18 u19 u20 u21 u22 u23 u24 u25 u26 u27 u28 u29 u30 u31 u32 u33 u34 u35 u36 u37 u38 u39 u40 u41 u42 u43 u44 u45 u46 u47 u48 u49 u50 u51 : Value), a = ⟨#[.agg (lrow c B Rs.length k n), .int .i64 key, .pointer (some ⟨w.heap.size, 0, none⟩), .pointer (some ⟨w.heap.size + 1, 0, none⟩), .pointer (some ⟨w.heap.size + 1 + 1, 0, none⟩), .int .i64 0, u6, .pointer (some ⟨gu, 0, none⟩), u8, u9, u10, u11, u12, u13, u14, u15, u16, u17, u18, u19, u20, u21, u22, u23, u24, u25, u26, u27, u28, u29, u30, u31, u32, u33, u34, u35, u36, u37, u38, u39, u40, u41, u42, u43, u44, u45, u46, u47, u48, u49, u50, u51], []⟩ ∧ Hid (NearS w B Rs k c n gu cur wr) ∧ Hid (nxO (lvs Rs) cur = O) ∧ Hid (g = sideN (lvs Rs) (fun q => decide (cur ≤ q))) ∧ Hid (May (lvs Rs)) ∧ Hid (errL c (lvs Rs) = 0)
set_option maxHeartbeats 16000000 in
theorem nextD_any (B : Option Addr) (Rs : List Rm) (k : Nat) (c : Cfg) (n : Int) (key : Int) (w : World) (hB : RunsAt w B Rs) (hT : tot (lvs Rs) ≤ 1000000) (hl : Rs.length ≤ 1000000) (hkb : ∀ l ∈ lvs Rs, ∀ e ∈ l, -9223372036854775808 ≤ e.key ∧ e.key ≤ 9223372036854775807) (hTb : TabAt 1 Lib.deBruijn64tab w) :
    Calls Tryz.prog 11 #[.agg (lrow c B Rs.length k n), .int .i64 key] w fun r w' => r = .returned (.tuple #[.agg #[.int .i64 (resP (errL c (lvs Rs)) (nxO (lvs Rs) key)).key, .int .i64 (resP (errL c (lvs Rs)) (nxO (lvs Rs) key)).val], .int .i64 (resE (errL c (lvs Rs)) (nxO (lvs Rs) key))]) ∧ Below w.heap.size w w' := by
  obtain ⟨W0, hW0⟩ : ∃ W0, ((w.alloc (.cells #[.int .u8 c.tag, .int .i64 c.most, .int .i64 c.seg, .int .i64 c.least, .int .i64 c.den, .int .i64 c.leafLow, .int .i64 c.rootLow, .int .i64 c.rootHigh, .int .i64 c.leafHigh, .slice B Rs.length k, .int .u64 n] 29)).alloc (.cells #[.int .i64 key] 2)).alloc (.cells #[.int .i64 0, .int .i64 0] 40) = W0 := ⟨_, rfl⟩
  have hb0 : Below w.heap.size w W0 := by rw [← hW0]; exact (((Below.refl _ _).alloc (Nat.le_refl _) _).alloc (by simp) _).alloc (by simp; omega) _
  have b0 : Blk W0 w.heap.size 29 #[.int .u8 c.tag, .int .i64 c.most, .int .i64 c.seg, .int .i64 c.least, .int .i64 c.den, .int .i64 c.leafLow, .int .i64 c.rootLow, .int .i64 c.rootHigh, .int .i64 c.leafHigh, .slice B Rs.length k, .int .u64 n] := by rw [← hW0]; exact ((Blk.new _ _ _).alloc _).alloc _
  have bk0 : Blk W0 (w.heap.size + 1) 2 #[.int .i64 key] := by
    rw [← hW0]
    have := Blk.new (w.alloc (.cells #[.int .u8 c.tag, .int .i64 c.most, .int .i64 c.seg, .int .i64 c.least, .int .i64 c.den, .int .i64 c.leafLow, .int .i64 c.rootLow, .int .i64 c.rootHigh, .int .i64 c.leafHigh, .slice B Rs.length k, .int .u64 n] 29)) 2 #[.int .i64 key]
    rw [World.size_alloc] at this
    exact this.alloc _
  have br0 : Blk W0 (w.heap.size + 1 + 1) 40 #[.int .i64 0, .int .i64 0] := by
    rw [← hW0]
    have := Blk.new ((w.alloc (.cells #[.int .u8 c.tag, .int .i64 c.most, .int .i64 c.seg, .int .i64 c.least, .int .i64 c.den, .int .i64 c.leafLow, .int .i64 c.rootLow, .int .i64 c.rootHigh, .int .i64 c.leafHigh, .slice B Rs.length k, .int .u64 n] 29)).alloc (.cells #[.int .i64 key] 2)) 40 #[.int .i64 0, .int .i64 0]
    rwa [World.size_alloc, World.size_alloc] at this
  have HW0 := Lib.hid hW0
  have HB0 := Lib.hid hb0
  have HC0 := Lib.hid b0
  have HK0 := Lib.hid bk0
  have HR0 := Lib.hid br0
  have HB := Lib.hid hB
  have HT := Lib.hid hTb
  have hck := fun W (hW : Below W0.heap.size W0 W) => checkD_any B Rs k c n W ((hB.below hb0).below hW) hT hl
  obtain ⟨X, hX⟩ : ∃ X, errL c (lvs Rs) = X := ⟨_, rfl⟩
  rw [hX] at hck ⊢
  have HMM := Lib.hid (show X = 0 → May (lvs Rs) from fun h => chkR_zero.1 (errL_zero (hX.trans h)).2.1)
  have HCK := Lib.hid hck
  obtain ⟨O, hO⟩ : ∃ O, nxO (lvs Rs) key = O := ⟨_, rfl⟩
  rw [hO]
  have HO := Lib.hid hO
  have HKB := Lib.hid hkb
  have HXE := Lib.hid hX
  clear hW0 hB hck hX hO hTb hkb
  have q0 : W0.cell? ⟨w.heap.size, 0, none⟩ = some (.int .u8 c.tag) := b0.cell 0
  have q1 : W0.cell? ⟨w.heap.size, 1, none⟩ = some (.int .i64 c.most) := b0.cell 1
  have q2 : W0.cell? ⟨w.heap.size, 2, none⟩ = some (.int .i64 c.seg) := b0.cell 2
  have q3 : W0.cell? ⟨w.heap.size, 3, none⟩ = some (.int .i64 c.least) := b0.cell 3
  have q4 : W0.cell? ⟨w.heap.size, 4, none⟩ = some (.int .i64 c.den) := b0.cell 4
  have q5 : W0.cell? ⟨w.heap.size, 5, none⟩ = some (.int .i64 c.leafLow) := b0.cell 5
  have q6 : W0.cell? ⟨w.heap.size, 6, none⟩ = some (.int .i64 c.rootLow) := b0.cell 6
  have q7 : W0.cell? ⟨w.heap.size, 7, none⟩ = some (.int .i64 c.rootHigh) := b0.cell 7
  have q8 : W0.cell? ⟨w.heap.size, 8, none⟩ = some (.int .i64 c.leafHigh) := b0.cell 8
  have q9 : W0.cell? ⟨w.heap.size, 9, none⟩ = some (.slice B Rs.length k) := b0.cell 9
  have q10 : W0.cell? ⟨w.heap.size, 10, none⟩ = some (.int .u64 n) := b0.cell 10
  clear b0 bk0 br0 hb0
  go_enter Tryz.func11, Tryz.ntmps11
  go_upto_region 1 with fail
  rw [HW0.out]
  refine wp_scope_ghost 0 (NextI w B Rs k c n key O) rfl ?pass ?first
  case first =>
    rintro K hK
    have HKK := Lib.hid hK
    clear hK
    go_wp2_with fail
    refine (HCK.out _ (Below.refl _ _)).mono ?_
    rintro e w1 ⟨rfl, hb1⟩
    have HB1 := Lib.hid (bext HB0.out hb1)
    have HC1 := Lib.hid (HC0.out.below hb1 HC0.out.lt)
    have HK1 := Lib.hid (HK0.out.below hb1 HK0.out.lt)
    have br1 := HR0.out.below hb1 HR0.out.lt
    have HR1 := Lib.hid br1
    have r0 : w1.cell? ⟨w.heap.size + 1 + 1, 0, none⟩ = some (.int .i64 0) := br1.cell 0
    have r1 : w1.cell? ⟨w.heap.size + 1 + 1, 1, none⟩ = some (.int .i64 0) := br1.cell 1
    have fr0 := br1.frozen 0
    have fr1 := br1.frozen 1
    clear hb1 br1 q0 q1 q2 q3 q4 q5 q6 q7 q8 q9 q10
    by_cases h0 : X = 0
    case neg =>
      have h1 : (X != 0) = true := by simpa using h0
      have HV : Hid (resE X O = X ∧ resP X O = ⟨0, 0⟩) := ⟨by unfold resE; rw [if_neg h0], by unfold resP; rw [if_neg h0]⟩
      clear h0
      go_wp2_with fail
      simp only [Exit.jump]
      have bz := box2 HR1.out (.int .i64 0) (.int .i64 0)
      have z0 := bz.cell 0
      have z1 := bz.cell 1
      simp only [List.getElem?_toArray, List.getElem?_cons_zero, List.getElem?_cons_succ] at z0 z1
      refine bodyPost_ret (v := .tuple #[.agg #[.int .i64 0, .int .i64 0], .int .i64 X]) (by simp [results, Tryz.results11, go_sem, z0, z1]) rfl ?_
      exact ⟨by rw [HV.out.1, HV.out.2], below2 HB1.out (by omega) _ _⟩
    case pos =>
    have HM := Lib.hid (HMM.out h0)
    have HX0 : Hid (errL c (lvs Rs) = 0) := HXE.out.trans h0
    subst h0
    have bc1 := HC1.out
    have q0 : w1.cell? ⟨w.heap.size, 0, none⟩ = some (.int .u8 c.tag) := bc1.cell 0
    have q1 : w1.cell? ⟨w.heap.size, 1, none⟩ = some (.int .i64 c.most) := bc1.cell 1
    have q2 : w1.cell? ⟨w.heap.size, 2, none⟩ = some (.int .i64 c.seg) := bc1.cell 2
    have q3 : w1.cell? ⟨w.heap.size, 3, none⟩ = some (.int .i64 c.least) := bc1.cell 3
    have q4 : w1.cell? ⟨w.heap.size, 4, none⟩ = some (.int .i64 c.den) := bc1.cell 4
    have q5 : w1.cell? ⟨w.heap.size, 5, none⟩ = some (.int .i64 c.leafLow) := bc1.cell 5
    have q6 : w1.cell? ⟨w.heap.size, 6, none⟩ = some (.int .i64 c.rootLow) := bc1.cell 6
    have q7 : w1.cell? ⟨w.heap.size, 7, none⟩ = some (.int .i64 c.rootHigh) := bc1.cell 7
    have q8 : w1.cell? ⟨w.heap.size, 8, none⟩ = some (.int .i64 c.leafHigh) := bc1.cell 8
    have q9 : w1.cell? ⟨w.heap.size, 9, none⟩ = some (.slice B Rs.length k) := bc1.cell 9
    have q10 : w1.cell? ⟨w.heap.size, 10, none⟩ = some (.int .u64 n) := bc1.cell 10
    have lq := bc1.lt
    clear bc1 r0 r1 fr0 fr1
    go_wp2_with fail
    obtain ⟨U, hU⟩ : ∃ U, w1.alloc (.cells (lrow c B Rs.length k n) 60) = U := ⟨_, rfl⟩
    have hau : Below w1.heap.size w1 U := by rw [← hU]; exact (Below.refl _ _).alloc (Nat.le_refl _) _
    have bu : Blk U w1.heap.size 60 (lrow c B Rs.length k n) := by rw [← hU]; exact Blk.new _ _ _
    have hU' : w1.alloc (.cells #[.int .u8 c.tag, .int .i64 c.most, .int .i64 c.seg, .int .i64 c.least, .int .i64 c.den, .int .i64 c.leafLow, .int .i64 c.rootLow, .int .i64 c.rootHigh, .int .i64 c.leafHigh, .slice B Rs.length k, .int .u64 n] 60) = U := hU
    try rw [hU']
    have HNS : Hid (NearS w B Rs k c n w1.heap.size key U) := ⟨bext HB1.out hau, HC1.out.below hau HC1.out.lt, HK1.out.below hau HK1.out.lt, HR1.out.below hau HR1.out.lt, bu⟩
    clear hU hU' hau bu q0 q1 q2 q3 q4 q5 q6 q7 q8 q9 q10 lq
    go_step3
    rename_i hk
    exact hk _ _ (HKK.out _ _ _ ⟨w1.heap.size, key, _, _, _, _, _, _, _, _, _, _, _, _, _, _, _, _, _, _, _, _, _, _, _, _, _, _, _, _, _, _, _, _, _, _, _, _, _, _, _, _, _, _, _, _, _, rfl, HNS, HO, rfl, HM, HX0⟩)
  case pass =>
    rintro g a' wr ⟨gu, cur, u6, u8, u9, u10, u11, u12, u13, u14, u15, u16, u17, u18, u19, u20, u21, u22, u23, u24, u25, u26, u27, u28, u29, u30, u31, u32, u33, u34, u35, u36, u37, u38, u39, u40, u41, u42, u43, u44, u45, u46, u47, u48, u49, u50, u51, rfl, hS, hO2, hg, hM, hX0⟩ K hK
    have HKK := Lib.hid hK
    have HXZ : Hid (X = 0) := HXE.out.symm.trans hX0.out
    clear hK
    have hbs := fun (h : Blk wr (w.heap.size + 1) 2 #[.int .i64 cur]) => besideNext_any B Rs k gu (w.heap.size + 1) c n cur wr (HB.out.below hS.out.bel) hM.out hS.out.bu (h.cell 0) (tab_below2 HT.out hS.out.bel)
    have HBS := Lib.hid (hbs hS.out.bk)
    clear hbs HW0 HB0 HC0 HK0 HR0 HCK HMM q0 q1 q2 q3 q4 q5 q6 q7 q8 q9 q10 hT
    go_wp2_with fail
    refine HBS.out.mono ?_
    rintro e w2 ⟨o, rfl, hbest, hb2⟩
    have S2 := Lib.hid (hS.out.below hb2)
    have HBE := Lib.hid hbest
    clear hbest hb2 HBS
    go_upto_region 6 with fail
    obtain ⟨x, hx⟩ : ∃ x, o.getD zeroE = x := ⟨_, rfl⟩
    rw [hx]
    obtain ⟨W3, hW3⟩ : ∃ W, w2.alloc (.cells #[.int .i64 x.key, .int .i64 x.val, .bool x.dead] 46) = W := ⟨_, rfl⟩
    have ha3 : Below w2.heap.size w2 W3 := by rw [← hW3]; exact (Below.refl _ _).alloc (Nat.le_refl _) _
    have b3 : Blk W3 w2.heap.size 46 #[.int .i64 x.key, .int .i64 x.val, .bool x.dead] := by rw [← hW3]; exact Blk.new _ _ _
    try rw [hW3]
    have HA3 := Lib.hid ha3
    have HX3 := Lib.hid b3
    have S3 := Lib.hid (S2.out.below ha3)
    have br := S3.out.br
    have r0 : W3.cell? ⟨w.heap.size + 1 + 1, 0, none⟩ = some (.int .i64 0) := br.cell 0
    have r1 : W3.cell? ⟨w.heap.size + 1 + 1, 1, none⟩ = some (.int .i64 0) := br.cell 1
    have fr0 := br.frozen 0
    have fr1 := br.frozen 1
    clear hW3 ha3 b3 br
    cases o with
    | none =>
      have HV : Hid (O = none) := by show _ = _; rw [← hO2.out]; exact nx_none hM.out HBE.out
      have hz : isE none = 6 := rfl
      go_wp2_with fail
      simp only [Exit.jump]
      have bz := box2 S3.out.br (.int .i64 0) (.int .i64 0)
      have z0 := bz.cell 0
      have z1 := bz.cell 1
      simp only [List.getElem?_toArray, List.getElem?_cons_zero, List.getElem?_cons_succ] at z0 z1
      refine bodyPost_ret (v := .tuple #[.agg #[.int .i64 0, .int .i64 0], .int .i64 6]) (by simp [results, Tryz.results11, go_sem, z0, z1, isE_none]) rfl ?_
      exact ⟨by rw [HV.out, HXZ.out]; rfl, below2 S3.out.bel (by omega) _ _⟩
    | some x' =>
    obtain rfl : x' = x := hx
    have hz : isE (some x') = 0 := rfl
    obtain ⟨z, hz1, hz2⟩ : ∃ z, newest (lvs Rs) x'.key = some z ∧ z.key = x'.key := by
      obtain ⟨l, hl, hxl⟩ := (HBE.out.mem x' rfl).2
      exact newest_of hl hxl
    have HZ1 := Lib.hid hz1
    have HZ2 := Lib.hid hz2
    have hfd := findL_any B Rs k x'.key W3 (HB.out.below S3.out.bel) hM.out (tab_below2 HT.out S3.out.bel) hz1
    have HFD := Lib.hid hfd
    have x0 : W3.cell? ⟨w2.heap.size, 0, none⟩ = some (.int .i64 x'.key) := HX3.out.cell 0
    have m9 : W3.cell? ⟨w.heap.size, 9, none⟩ = some (.slice B Rs.length k) := S3.out.bm.cell 9
    clear hfd hz1 hz2 r0 r1 fr0 fr1
    go_wp2_with fail
    refine HFD.out.mono ?_
    rintro e w4 ⟨rfl, hb4⟩
    have HB4 := Lib.hid (bext HA3.out hb4)
    have b4 := HX3.out.below hb4 HX3.out.lt
    have HX4 := Lib.hid b4
    have x0' : w4.cell? ⟨w2.heap.size, 0, none⟩ = some (.int .i64 x'.key) := b4.cell 0
    have x1' : w4.cell? ⟨w2.heap.size, 1, none⟩ = some (.int .i64 x'.val) := b4.cell 1
    have x2' : w4.cell? ⟨w2.heap.size, 2, none⟩ = some (.bool x'.dead) := b4.cell 2
    have fx0 := b4.frozen 0
    have fx1 := b4.frozen 1
    have fx2 := b4.frozen 2
    clear b4 hb4 x0 m9 hz
    go_upto_region 9 with fail
    obtain ⟨W5, hW5⟩ : ∃ W, ((w4.setCell ⟨w2.heap.size, 0, none⟩ (.int .i64 z.key)).setCell ⟨w2.heap.size, 1, none⟩ (.int .i64 z.val)).setCell ⟨w2.heap.size, 2, none⟩ (.bool z.dead) = W := ⟨_, rfl⟩
    rw [hW5]
    have b5 : Blk W5 w2.heap.size 46 #[.int .i64 z.key, .int .i64 z.val, .bool z.dead] := by rw [← hW5]; exact put3 HX4.out _ _ _
    have hb5 : Below w2.heap.size w2 W5 := by rw [← hW5]; exact below3 HB4.out (Nat.le_refl _) _ _ _
    have S5 := Lib.hid (S2.out.below hb5)
    obtain ⟨g8, hg8⟩ : ∃ g, w2.heap.size = g := ⟨_, rfl⟩
    rw [hg8] at b5
    try rw [hg8]
    have c0 : W5.cell? ⟨g8, 0, none⟩ = some (.int .i64 z.key) := b5.cell 0
    have c1 : W5.cell? ⟨g8, 1, none⟩ = some (.int .i64 z.val) := b5.cell 1
    have c2 : W5.cell? ⟨g8, 2, none⟩ = some (.bool z.dead) := b5.cell 2
    have br := S5.out.br
    have r0 : W5.cell? ⟨w.heap.size + 1 + 1, 0, none⟩ = some (.int .i64 0) := br.cell 0
    have r1 : W5.cell? ⟨w.heap.size + 1 + 1, 1, none⟩ = some (.int .i64 0) := br.cell 1
    have fr0 := br.frozen 0
    have fr1 := br.frozen 1
    have bk := S5.out.bk
    have k0 : W5.cell? ⟨w.heap.size + 1, 0, none⟩ = some (.int .i64 cur) := bk.cell 0
    have fk0 := bk.frozen 0
    clear hW5 b5 hb5 hg8 br bk x0' x1' x2' fx0 fx1 fx2
    cases hd : z.dead with
    | false =>
      have HV : Hid (O = some z) := by show _ = _; rw [← hO2.out]; exact nx_some hM.out HBE.out HZ1.out hd
      go_wp2_with fail
      simp only [Exit.jump]
      have bz := box2 S5.out.br (.int .i64 z.key) (.int .i64 z.val)
      have z0 := bz.cell 0
      have z1 := bz.cell 1
      simp only [List.getElem?_toArray, List.getElem?_cons_zero, List.getElem?_cons_succ] at z0 z1
      refine bodyPost_ret (v := .tuple #[.agg #[.int .i64 z.key, .int .i64 z.val], .int .i64 0]) (by simp [results, Tryz.results11, go_sem, z0, z1, isE_some]) rfl ?_
      exact ⟨by rw [HV.out, HXZ.out]; rfl, below2 S5.out.bel (by omega) _ _⟩
    | true =>
      have hkb := HKB.out
      obtain ⟨l, hl, hxl⟩ := (HBE.out.mem x' rfl).2
      have hkx := hkb l hl x' hxl
      rw [← HZ2.out] at hkx
      have HSK : Hid (nxO (lvs Rs) (z.key + 1) = O) := by show _ = _; rw [← hO2.out, HZ2.out]; exact (nx_skip hM.out HBE.out HZ1.out hd).symm
      by_cases hmx : z.key = 9223372036854775807
      · have HV : Hid (O = none) := by
          show _ = _
          rw [← HSK.out]
          unfold nxO
          rw [List.find?_eq_none]
          intro e he
          obtain ⟨l2, hl2, he2⟩ := all_in hM.out he
          have h9 := hkb l2 hl2 e he2
          rw [hmx]
          simp
          omega
        have hm1 : (z.key == 9223372036854775807) = true := by simpa using hmx
        clear hkb hkx hl hxl hmx
        go_wp2_with fail
        simp only [Exit.jump]
        have bz := box2 S5.out.br (.int .i64 0) (.int .i64 0)
        have z0 := bz.cell 0
        have z1 := bz.cell 1
        simp only [List.getElem?_toArray, List.getElem?_cons_zero, List.getElem?_cons_succ] at z0 z1
        refine bodyPost_ret (v := .tuple #[.agg #[.int .i64 0, .int .i64 0], .int .i64 6]) (by simp [results, Tryz.results11, go_sem, z0, z1, isE_some]) rfl ?_
        exact ⟨by rw [HV.out, HXZ.out]; rfl, below2 S5.out.bel (by omega) _ _⟩
      · have hm1 : (z.key == 9223372036854775807) = false := by simpa using hmx
        have hw : IntKind.i64.wrap (z.key + 1) = z.key + 1 := IntWalk.i64_in _ (by omega)
        have HLT : Hid (sideN (lvs Rs) (fun q => decide (z.key + 1 ≤ q)) < g) := by
          show _ < _
          rw [hg.out]
          have h3 := of_decide_eq_true (HBE.out.mem x' rfl).1
          have h4 := HZ2.out
          exact side_lt (fun q hq => decide_eq_true (by have := of_decide_eq_true hq; omega)) hl hxl (decide_eq_true h3) (decide_eq_false (by omega))
        have S6 := Lib.hid (S5.out.key (z.key + 1))
        have HO6 : Hid (nxO (lvs Rs) (z.key + 1) = O) := HSK
        clear hkb hkx hl hxl hmx
        go_wp2_with fail
        go_step3
        refine ⟨rfl, HKK.out _ _ _ HLT.out ⟨gu, _, _, _, _, _, _, _, _, _, _, _, _, _, _, _, _, _, _, _, _, _, _, _, _, _, _, _, _, _, _, _, _, _, _, _, _, _, _, _, _, _, _, _, _, _, _, rfl, S6, HO6, rfl, hM, hX0⟩⟩
def LastI (w : World) (B : Option Addr) (Rs : List Rm) (k : Nat) (c : Cfg) (n key : Int) (O : Option Ent) (g : Nat) (a : Act) (wr : World) : Prop :=
  ∃ (gu : Nat) (cur : Int) (u6 u8 u9 u10 u11 u12 u13 u14 u15 u16 u17 u18 u19 u20 u21 u22 u23 u24 u25 u26 u27 u28 u29 u30 u31 u32 u33 u34 u35 u36 u37 u38 u39 u40 u41 u42 u43 u44 u45 u46 : Value), a = ⟨#[.agg (lrow c B Rs.length k n), .int .i64 key, .pointer (some ⟨w.heap.size, 0, none⟩), .pointer (some ⟨w.heap.size + 1, 0, none⟩), .pointer (some ⟨w.heap.size + 1 + 1, 0, none⟩), .int .i64 0, u6, .pointer (some ⟨gu, 0, none⟩), u8, u9, u10, u11, u12, u13, u14, u15, u16, u17, u18, u19, u20, u21, u22, u23, u24, u25, u26, u27, u28, u29, u30, u31, u32, u33, u34, u35, u36, u37, u38, u39, u40, u41, u42, u43, u44, u45, u46], []⟩ ∧ Hid (NearS w B Rs k c n gu cur wr) ∧ Hid (lsO (lvs Rs) cur = O) ∧ Hid (g = sideN (lvs Rs) (fun q => decide (q < cur))) ∧ Hid (May (lvs Rs)) ∧ Hid (errL c (lvs Rs) = 0)
set_option maxHeartbeats 16000000 in
theorem lastD_any (B : Option Addr) (Rs : List Rm) (k : Nat) (c : Cfg) (n : Int) (key : Int) (w : World) (hB : RunsAt w B Rs) (hT : tot (lvs Rs) ≤ 1000000) (hl : Rs.length ≤ 1000000) (hTb : TabAt 1 Lib.deBruijn64tab w) :
    Calls Tryz.prog 12 #[.agg (lrow c B Rs.length k n), .int .i64 key] w fun r w' => r = .returned (.tuple #[.agg #[.int .i64 (resP (errL c (lvs Rs)) (lsO (lvs Rs) key)).key, .int .i64 (resP (errL c (lvs Rs)) (lsO (lvs Rs) key)).val], .int .i64 (resE (errL c (lvs Rs)) (lsO (lvs Rs) key))]) ∧ Below w.heap.size w w' := by
  obtain ⟨W0, hW0⟩ : ∃ W0, ((w.alloc (.cells #[.int .u8 c.tag, .int .i64 c.most, .int .i64 c.seg, .int .i64 c.least, .int .i64 c.den, .int .i64 c.leafLow, .int .i64 c.rootLow, .int .i64 c.rootHigh, .int .i64 c.leafHigh, .slice B Rs.length k, .int .u64 n] 29)).alloc (.cells #[.int .i64 key] 2)).alloc (.cells #[.int .i64 0, .int .i64 0] 40) = W0 := ⟨_, rfl⟩
  have hb0 : Below w.heap.size w W0 := by rw [← hW0]; exact (((Below.refl _ _).alloc (Nat.le_refl _) _).alloc (by simp) _).alloc (by simp; omega) _
  have b0 : Blk W0 w.heap.size 29 #[.int .u8 c.tag, .int .i64 c.most, .int .i64 c.seg, .int .i64 c.least, .int .i64 c.den, .int .i64 c.leafLow, .int .i64 c.rootLow, .int .i64 c.rootHigh, .int .i64 c.leafHigh, .slice B Rs.length k, .int .u64 n] := by rw [← hW0]; exact ((Blk.new _ _ _).alloc _).alloc _
  have bk0 : Blk W0 (w.heap.size + 1) 2 #[.int .i64 key] := by
    rw [← hW0]
    have := Blk.new (w.alloc (.cells #[.int .u8 c.tag, .int .i64 c.most, .int .i64 c.seg, .int .i64 c.least, .int .i64 c.den, .int .i64 c.leafLow, .int .i64 c.rootLow, .int .i64 c.rootHigh, .int .i64 c.leafHigh, .slice B Rs.length k, .int .u64 n] 29)) 2 #[.int .i64 key]
    rw [World.size_alloc] at this
    exact this.alloc _
  have br0 : Blk W0 (w.heap.size + 1 + 1) 40 #[.int .i64 0, .int .i64 0] := by
    rw [← hW0]
    have := Blk.new ((w.alloc (.cells #[.int .u8 c.tag, .int .i64 c.most, .int .i64 c.seg, .int .i64 c.least, .int .i64 c.den, .int .i64 c.leafLow, .int .i64 c.rootLow, .int .i64 c.rootHigh, .int .i64 c.leafHigh, .slice B Rs.length k, .int .u64 n] 29)).alloc (.cells #[.int .i64 key] 2)) 40 #[.int .i64 0, .int .i64 0]
    rwa [World.size_alloc, World.size_alloc] at this
  have HW0 := Lib.hid hW0
  have HB0 := Lib.hid hb0
  have HC0 := Lib.hid b0
  have HK0 := Lib.hid bk0
  have HR0 := Lib.hid br0
  have HB := Lib.hid hB
  have HT := Lib.hid hTb
  have hck := fun W (hW : Below W0.heap.size W0 W) => checkD_any B Rs k c n W ((hB.below hb0).below hW) hT hl
  obtain ⟨X, hX⟩ : ∃ X, errL c (lvs Rs) = X := ⟨_, rfl⟩
  rw [hX] at hck ⊢
  have HMM := Lib.hid (show X = 0 → May (lvs Rs) from fun h => chkR_zero.1 (errL_zero (hX.trans h)).2.1)
  have HCK := Lib.hid hck
  obtain ⟨O, hO⟩ : ∃ O, lsO (lvs Rs) key = O := ⟨_, rfl⟩
  rw [hO]
  have HO := Lib.hid hO
  skip
  have HXE := Lib.hid hX
  clear hW0 hB hck hX hO hTb
  have q0 : W0.cell? ⟨w.heap.size, 0, none⟩ = some (.int .u8 c.tag) := b0.cell 0
  have q1 : W0.cell? ⟨w.heap.size, 1, none⟩ = some (.int .i64 c.most) := b0.cell 1
  have q2 : W0.cell? ⟨w.heap.size, 2, none⟩ = some (.int .i64 c.seg) := b0.cell 2
  have q3 : W0.cell? ⟨w.heap.size, 3, none⟩ = some (.int .i64 c.least) := b0.cell 3
  have q4 : W0.cell? ⟨w.heap.size, 4, none⟩ = some (.int .i64 c.den) := b0.cell 4
  have q5 : W0.cell? ⟨w.heap.size, 5, none⟩ = some (.int .i64 c.leafLow) := b0.cell 5
  have q6 : W0.cell? ⟨w.heap.size, 6, none⟩ = some (.int .i64 c.rootLow) := b0.cell 6
  have q7 : W0.cell? ⟨w.heap.size, 7, none⟩ = some (.int .i64 c.rootHigh) := b0.cell 7
  have q8 : W0.cell? ⟨w.heap.size, 8, none⟩ = some (.int .i64 c.leafHigh) := b0.cell 8
  have q9 : W0.cell? ⟨w.heap.size, 9, none⟩ = some (.slice B Rs.length k) := b0.cell 9
  have q10 : W0.cell? ⟨w.heap.size, 10, none⟩ = some (.int .u64 n) := b0.cell 10
  clear b0 bk0 br0 hb0
  go_enter Tryz.func12, Tryz.ntmps12
  go_upto_region 1 with fail
  rw [HW0.out]
  refine wp_scope_ghost 0 (LastI w B Rs k c n key O) rfl ?pass ?first
  case first =>
    rintro K hK
    have HKK := Lib.hid hK
    clear hK
    go_wp2_with fail
    refine (HCK.out _ (Below.refl _ _)).mono ?_
    rintro e w1 ⟨rfl, hb1⟩
    have HB1 := Lib.hid (bext HB0.out hb1)
    have HC1 := Lib.hid (HC0.out.below hb1 HC0.out.lt)
    have HK1 := Lib.hid (HK0.out.below hb1 HK0.out.lt)
    have br1 := HR0.out.below hb1 HR0.out.lt
    have HR1 := Lib.hid br1
    have r0 : w1.cell? ⟨w.heap.size + 1 + 1, 0, none⟩ = some (.int .i64 0) := br1.cell 0
    have r1 : w1.cell? ⟨w.heap.size + 1 + 1, 1, none⟩ = some (.int .i64 0) := br1.cell 1
    have fr0 := br1.frozen 0
    have fr1 := br1.frozen 1
    clear hb1 br1 q0 q1 q2 q3 q4 q5 q6 q7 q8 q9 q10
    by_cases h0 : X = 0
    case neg =>
      have h1 : (X != 0) = true := by simpa using h0
      have HV : Hid (resE X O = X ∧ resP X O = ⟨0, 0⟩) := ⟨by unfold resE; rw [if_neg h0], by unfold resP; rw [if_neg h0]⟩
      clear h0
      go_wp2_with fail
      simp only [Exit.jump]
      have bz := box2 HR1.out (.int .i64 0) (.int .i64 0)
      have z0 := bz.cell 0
      have z1 := bz.cell 1
      simp only [List.getElem?_toArray, List.getElem?_cons_zero, List.getElem?_cons_succ] at z0 z1
      refine bodyPost_ret (v := .tuple #[.agg #[.int .i64 0, .int .i64 0], .int .i64 X]) (by simp [results, Tryz.results12, go_sem, z0, z1]) rfl ?_
      exact ⟨by rw [HV.out.1, HV.out.2], below2 HB1.out (by omega) _ _⟩
    case pos =>
    have HM := Lib.hid (HMM.out h0)
    have HX0 : Hid (errL c (lvs Rs) = 0) := HXE.out.trans h0
    subst h0
    have bc1 := HC1.out
    have q0 : w1.cell? ⟨w.heap.size, 0, none⟩ = some (.int .u8 c.tag) := bc1.cell 0
    have q1 : w1.cell? ⟨w.heap.size, 1, none⟩ = some (.int .i64 c.most) := bc1.cell 1
    have q2 : w1.cell? ⟨w.heap.size, 2, none⟩ = some (.int .i64 c.seg) := bc1.cell 2
    have q3 : w1.cell? ⟨w.heap.size, 3, none⟩ = some (.int .i64 c.least) := bc1.cell 3
    have q4 : w1.cell? ⟨w.heap.size, 4, none⟩ = some (.int .i64 c.den) := bc1.cell 4
    have q5 : w1.cell? ⟨w.heap.size, 5, none⟩ = some (.int .i64 c.leafLow) := bc1.cell 5
    have q6 : w1.cell? ⟨w.heap.size, 6, none⟩ = some (.int .i64 c.rootLow) := bc1.cell 6
    have q7 : w1.cell? ⟨w.heap.size, 7, none⟩ = some (.int .i64 c.rootHigh) := bc1.cell 7
    have q8 : w1.cell? ⟨w.heap.size, 8, none⟩ = some (.int .i64 c.leafHigh) := bc1.cell 8
    have q9 : w1.cell? ⟨w.heap.size, 9, none⟩ = some (.slice B Rs.length k) := bc1.cell 9
    have q10 : w1.cell? ⟨w.heap.size, 10, none⟩ = some (.int .u64 n) := bc1.cell 10
    have lq := bc1.lt
    clear bc1 r0 r1 fr0 fr1
    go_wp2_with fail
    obtain ⟨U, hU⟩ : ∃ U, w1.alloc (.cells (lrow c B Rs.length k n) 60) = U := ⟨_, rfl⟩
    have hau : Below w1.heap.size w1 U := by rw [← hU]; exact (Below.refl _ _).alloc (Nat.le_refl _) _
    have bu : Blk U w1.heap.size 60 (lrow c B Rs.length k n) := by rw [← hU]; exact Blk.new _ _ _
    have hU' : w1.alloc (.cells #[.int .u8 c.tag, .int .i64 c.most, .int .i64 c.seg, .int .i64 c.least, .int .i64 c.den, .int .i64 c.leafLow, .int .i64 c.rootLow, .int .i64 c.rootHigh, .int .i64 c.leafHigh, .slice B Rs.length k, .int .u64 n] 60) = U := hU
    try rw [hU']
    have HNS : Hid (NearS w B Rs k c n w1.heap.size key U) := ⟨bext HB1.out hau, HC1.out.below hau HC1.out.lt, HK1.out.below hau HK1.out.lt, HR1.out.below hau HR1.out.lt, bu⟩
    clear hU hU' hau bu q0 q1 q2 q3 q4 q5 q6 q7 q8 q9 q10 lq
    go_step3
    rename_i hk
    exact hk _ _ (HKK.out _ _ _ ⟨w1.heap.size, key, _, _, _, _, _, _, _, _, _, _, _, _, _, _, _, _, _, _, _, _, _, _, _, _, _, _, _, _, _, _, _, _, _, _, _, _, _, _, _, _, rfl, HNS, HO, rfl, HM, HX0⟩)
  case pass =>
    rintro g a' wr ⟨gu, cur, u6, u8, u9, u10, u11, u12, u13, u14, u15, u16, u17, u18, u19, u20, u21, u22, u23, u24, u25, u26, u27, u28, u29, u30, u31, u32, u33, u34, u35, u36, u37, u38, u39, u40, u41, u42, u43, u44, u45, u46, rfl, hS, hO2, hg, hM, hX0⟩ K hK
    have HKK := Lib.hid hK
    have HXZ : Hid (X = 0) := HXE.out.symm.trans hX0.out
    clear hK
    have hbs := fun (h : Blk wr (w.heap.size + 1) 2 #[.int .i64 cur]) => besideLast_any B Rs k gu (w.heap.size + 1) c n cur wr (HB.out.below hS.out.bel) hM.out hS.out.bu (h.cell 0) (tab_below2 HT.out hS.out.bel)
    have HBS := Lib.hid (hbs hS.out.bk)
    clear hbs HW0 HB0 HC0 HK0 HR0 HCK HMM q0 q1 q2 q3 q4 q5 q6 q7 q8 q9 q10 hT
    go_wp2_with fail
    refine HBS.out.mono ?_
    rintro e w2 ⟨o, rfl, hbest, hb2⟩
    have S2 := Lib.hid (hS.out.below hb2)
    have HBE := Lib.hid hbest
    clear hbest hb2 HBS
    go_upto_region 6 with fail
    obtain ⟨x, hx⟩ : ∃ x, o.getD zeroE = x := ⟨_, rfl⟩
    rw [hx]
    obtain ⟨W3, hW3⟩ : ∃ W, w2.alloc (.cells #[.int .i64 x.key, .int .i64 x.val, .bool x.dead] 46) = W := ⟨_, rfl⟩
    have ha3 : Below w2.heap.size w2 W3 := by rw [← hW3]; exact (Below.refl _ _).alloc (Nat.le_refl _) _
    have b3 : Blk W3 w2.heap.size 46 #[.int .i64 x.key, .int .i64 x.val, .bool x.dead] := by rw [← hW3]; exact Blk.new _ _ _
    try rw [hW3]
    have HA3 := Lib.hid ha3
    have HX3 := Lib.hid b3
    have S3 := Lib.hid (S2.out.below ha3)
    have br := S3.out.br
    have r0 : W3.cell? ⟨w.heap.size + 1 + 1, 0, none⟩ = some (.int .i64 0) := br.cell 0
    have r1 : W3.cell? ⟨w.heap.size + 1 + 1, 1, none⟩ = some (.int .i64 0) := br.cell 1
    have fr0 := br.frozen 0
    have fr1 := br.frozen 1
    clear hW3 ha3 b3 br
    cases o with
    | none =>
      have HV : Hid (O = none) := by show _ = _; rw [← hO2.out]; exact ls_none hM.out HBE.out
      have hz : isE none = 6 := rfl
      go_wp2_with fail
      simp only [Exit.jump]
      have bz := box2 S3.out.br (.int .i64 0) (.int .i64 0)
      have z0 := bz.cell 0
      have z1 := bz.cell 1
      simp only [List.getElem?_toArray, List.getElem?_cons_zero, List.getElem?_cons_succ] at z0 z1
      refine bodyPost_ret (v := .tuple #[.agg #[.int .i64 0, .int .i64 0], .int .i64 6]) (by simp [results, Tryz.results12, go_sem, z0, z1, isE_none]) rfl ?_
      exact ⟨by rw [HV.out, HXZ.out]; rfl, below2 S3.out.bel (by omega) _ _⟩
    | some x' =>
    obtain rfl : x' = x := hx
    have hz : isE (some x') = 0 := rfl
    obtain ⟨z, hz1, hz2⟩ : ∃ z, newest (lvs Rs) x'.key = some z ∧ z.key = x'.key := by
      obtain ⟨l, hl, hxl⟩ := (HBE.out.mem x' rfl).2
      exact newest_of hl hxl
    have HZ1 := Lib.hid hz1
    have HZ2 := Lib.hid hz2
    have hfd := findL_any B Rs k x'.key W3 (HB.out.below S3.out.bel) hM.out (tab_below2 HT.out S3.out.bel) hz1
    have HFD := Lib.hid hfd
    have x0 : W3.cell? ⟨w2.heap.size, 0, none⟩ = some (.int .i64 x'.key) := HX3.out.cell 0
    have m9 : W3.cell? ⟨w.heap.size, 9, none⟩ = some (.slice B Rs.length k) := S3.out.bm.cell 9
    clear hfd hz1 hz2 r0 r1 fr0 fr1
    go_wp2_with fail
    refine HFD.out.mono ?_
    rintro e w4 ⟨rfl, hb4⟩
    have HB4 := Lib.hid (bext HA3.out hb4)
    have b4 := HX3.out.below hb4 HX3.out.lt
    have HX4 := Lib.hid b4
    have x0' : w4.cell? ⟨w2.heap.size, 0, none⟩ = some (.int .i64 x'.key) := b4.cell 0
    have x1' : w4.cell? ⟨w2.heap.size, 1, none⟩ = some (.int .i64 x'.val) := b4.cell 1
    have x2' : w4.cell? ⟨w2.heap.size, 2, none⟩ = some (.bool x'.dead) := b4.cell 2
    have fx0 := b4.frozen 0
    have fx1 := b4.frozen 1
    have fx2 := b4.frozen 2
    clear b4 hb4 x0 m9 hz
    go_upto_region 9 with fail
    obtain ⟨W5, hW5⟩ : ∃ W, ((w4.setCell ⟨w2.heap.size, 0, none⟩ (.int .i64 z.key)).setCell ⟨w2.heap.size, 1, none⟩ (.int .i64 z.val)).setCell ⟨w2.heap.size, 2, none⟩ (.bool z.dead) = W := ⟨_, rfl⟩
    rw [hW5]
    have b5 : Blk W5 w2.heap.size 46 #[.int .i64 z.key, .int .i64 z.val, .bool z.dead] := by rw [← hW5]; exact put3 HX4.out _ _ _
    have hb5 : Below w2.heap.size w2 W5 := by rw [← hW5]; exact below3 HB4.out (Nat.le_refl _) _ _ _
    have S5 := Lib.hid (S2.out.below hb5)
    obtain ⟨g8, hg8⟩ : ∃ g, w2.heap.size = g := ⟨_, rfl⟩
    rw [hg8] at b5
    try rw [hg8]
    have c0 : W5.cell? ⟨g8, 0, none⟩ = some (.int .i64 z.key) := b5.cell 0
    have c1 : W5.cell? ⟨g8, 1, none⟩ = some (.int .i64 z.val) := b5.cell 1
    have c2 : W5.cell? ⟨g8, 2, none⟩ = some (.bool z.dead) := b5.cell 2
    have br := S5.out.br
    have r0 : W5.cell? ⟨w.heap.size + 1 + 1, 0, none⟩ = some (.int .i64 0) := br.cell 0
    have r1 : W5.cell? ⟨w.heap.size + 1 + 1, 1, none⟩ = some (.int .i64 0) := br.cell 1
    have fr0 := br.frozen 0
    have fr1 := br.frozen 1
    have bk := S5.out.bk
    have k0 : W5.cell? ⟨w.heap.size + 1, 0, none⟩ = some (.int .i64 cur) := bk.cell 0
    have fk0 := bk.frozen 0
    clear hW5 b5 hb5 hg8 br bk x0' x1' x2' fx0 fx1 fx2
    cases hd : z.dead with
    | false =>
      have HV : Hid (O = some z) := by show _ = _; rw [← hO2.out]; exact ls_some hM.out HBE.out HZ1.out hd
      go_wp2_with fail
      simp only [Exit.jump]
      have bz := box2 S5.out.br (.int .i64 z.key) (.int .i64 z.val)
      have z0 := bz.cell 0
      have z1 := bz.cell 1
      simp only [List.getElem?_toArray, List.getElem?_cons_zero, List.getElem?_cons_succ] at z0 z1
      refine bodyPost_ret (v := .tuple #[.agg #[.int .i64 z.key, .int .i64 z.val], .int .i64 0]) (by simp [results, Tryz.results12, go_sem, z0, z1, isE_some]) rfl ?_
      exact ⟨by rw [HV.out, HXZ.out]; rfl, below2 S5.out.bel (by omega) _ _⟩
    | true =>
      obtain ⟨l, hl, hxl⟩ := (HBE.out.mem x' rfl).2
      have HO6 : Hid (lsO (lvs Rs) z.key = O) := by show _ = _; rw [← hO2.out, HZ2.out]; exact (ls_skip hM.out HBE.out HZ1.out hd).symm
      have HLT : Hid (sideN (lvs Rs) (fun q => decide (q < z.key)) < g) := by
        show _ < _
        rw [hg.out]
        have h3 := of_decide_eq_true (HBE.out.mem x' rfl).1
        have h4 := HZ2.out
        exact side_lt (fun q hq => decide_eq_true (by have := of_decide_eq_true hq; omega)) hl hxl (decide_eq_true h3) (decide_eq_false (by omega))
      have S6 := Lib.hid (S5.out.key z.key)
      clear hl hxl
      go_wp2_with fail
      go_step3
      refine ⟨rfl, HKK.out _ _ _ HLT.out ⟨gu, _, _, _, _, _, _, _, _, _, _, _, _, _, _, _, _, _, _, _, _, _, _, _, _, _, _, _, _, _, _, _, _, _, _, _, _, _, _, _, _, _, rfl, S6, HO6, rfl, hM, hX0⟩⟩
end Go.Proofs.YtolclahkfmplfaaGreatDoor

/- Plain facts: the chapter's examples of levels. No program in sight. -/
namespace Go.Proofs.YtolclahkfmplfaaGreatDoor
open Go
theorem lay_in {l m : List Ent} (h : laid l = m) : inL m = l := by rw [← h, in_laid]
theorem mrg2 {a b la lb m : List Ent} {bare : Bool} (ha : laid la = a) (hb : laid lb = b) (ca : buildE la = 0) (cb : buildE lb = 0) (hs : la.length + lb.length ≤ 100) (hm : bareE bare (allE [la, lb]) = m) : mL [a, b] bare = laid m := by
  have h : mE [a, b] = 0 := by
    refine mE_of (chkAll_zero ?_) ?_
    · intro r hr
      simp only [List.mem_cons, List.not_mem_nil, or_false] at hr
      rcases hr with rfl | rfl
      · rw [← ha]; exact build_chk ca
      · rw [← hb]; exact build_chk cb
    · rw [← ha, ← hb]
      simp [laid_length]
      omega
  rw [mL_is bare h]
  simp only [List.map, lay_in ha, lay_in hb]
  rw [hm]
theorem kranks1 : ranks 1 = [0] := by unfold ranks; rw [show inord 1 0 = [0] by simp [inord]]; decide
theorem kranks0 : ranks 0 = [] := by unfold ranks; rw [show inord 0 0 = [] by simp [inord]]; decide
theorem lay0 : laid [] = [] := by unfold laid; rw [show ([] : List Ent).length = 0 from rfl, kranks0]; rfl
theorem lay1 (a : Ent) : laid [a] = [a] := by unfold laid; rw [show [a].length = 1 from rfl, kranks1]; rfl
theorem lay2 (a b : Ent) : laid [a, b] = [b, a] := by unfold laid; rw [show [a, b].length = 2 from rfl, kranks2]; rfl
theorem up_1 : up 1 = 0 := by decide
theorem up_2 : up 2 = 1 := by decide +kernel
theorem in_0 : inL [] = [] := lay_in lay0
theorem in_1 (a : Ent) : inL [a] = [a] := lay_in (lay1 a)
theorem in_2 (a b : Ent) : inL [b, a] = [a, b] := lay_in (lay2 a b)
theorem may_nil : May [] := (may_iff []).1 (by decide +kernel)

theorem climb_1 {rs rs' : Lv} {y : Ent} {n n1 n2 : Int} {m : List Ent} (hd : y.dead = false ∨ rs ≠ []) (h : lev rs 0 ≠ []) (h1 : IntKind.u64.wrap (n + 1) = n1) (hm : mergeR rs [y] = m) (hn : IntKind.u64.wrap (n1 + m.length) = n2) (hr : rs.set 0 [] = rs') : climbE rs n y = climb rs' m n2 := by
  unfold climbE
  rw [if_neg (by rintro ⟨h1, h2⟩; rcases hd with h3 | h3 <;> first | exact h3 h2 | (rw [h3] at h1; cases h1)), h1]
  have hu : up [y].length = 0 := up_1
  rw [climb_up (by simp) (by rw [hu]; exact h), hm, hn, hu, hr]
theorem climb_0 {rs : Lv} {y : Ent} {n n1 : Int} (hd : y.dead = false ∨ rs ≠ []) (h : lev rs 0 = []) (h1 : IntKind.u64.wrap (n + 1) = n1) : climbE rs n y = (rs, [y], n1) := by
  unfold climbE
  rw [if_neg (by rintro ⟨h1, h2⟩; rcases hd with h3 | h3 <;> first | exact h3 h2 | (rw [h3] at h1; cases h1)), h1]
  exact climb_end (.inr (by rw [show up [y].length = 0 from up_1]; exact h))
theorem add_is {rs a L : Lv} {r : List Ent} {y : Ent} {n n' : Int} (h : addE rs y = 0) (hc : climbE rs n y = (a, r, n')) (hL : cutL (standL a r) = L) (hf : fat L = false) : addL rs n y = L ∧ addN rs n y = n' := by
  have h1 : letL rs n y = L := by unfold letL; rw [hc]; exact hL
  have h2 : letN rs n y = n' := by unfold letN; rw [hc]
  unfold addL addN slimL slimN
  rw [if_pos h, if_pos h, h1, h2, hf]
  exact ⟨rfl, rfl⟩
theorem fat_small {L : Lv} (h : tot L ≤ 2) : fat L = false := decide_eq_false (by omega)
def x5 : Ent := ⟨5, 1, false⟩
def x6 : Ent := ⟨6, 2, false⟩
def x7 : Ent := ⟨7, 3, false⟩
def k5 : Ent := ⟨5, 0, true⟩
theorem al1E : addE [] x5 = 0 := addE_zero.2 ⟨may_nil, by decide, by decide⟩
theorem al1 : addL [] 0 x5 = [[x5]] ∧ addN [] 0 x5 = 1 :=
  add_is al1E (climb_0 (.inl rfl) (lev_nil _) (by decide)) (by decide +kernel) (fat_small (by decide))
theorem al1M : May [[x5]] := by have h := (add_may al1E 0).1; rwa [al1.1] at h
theorem al2E : addE [[x5]] x7 = 0 := addE_zero.2 ⟨al1M, by decide, by decide⟩
theorem al2 : addL [[x5]] 1 x7 = [[], [x7, x5]] ∧ addN [[x5]] 1 x7 = 4 := by
  refine add_is al2E ?_ (a := [[]]) (r := [x7, x5]) (by decide +kernel) (fat_small (by decide))
  have hm : mergeR [[x5]] [x7] = [x7, x5] := by
    unfold mergeR
    rw [show up [x7].length = 0 from up_1]
    exact (mrg2 (lay1 x7) (lay1 x5) (by decide) (by decide) (by decide) (m := [x5, x7]) (by simp [allE, bothE, bareE, liveE, x5, x7, heldB])).trans (lay2 x5 x7)
  rw [climb_1 (.inl rfl) (by decide) (by decide : IntKind.u64.wrap ((1 : Int) + 1) = 2) hm (by decide : IntKind.u64.wrap ((2 : Int) + ([x7, x5] : List Ent).length) = 4) (rfl : [[x5]].set 0 [] = [[]])]
  exact climb_end (.inr (by rw [show up [x7, x5].length = 1 from up_2]; rfl))
theorem al2M : May [[], [x7, x5]] := by have h := (add_may al2E 1).1; rwa [al2.1] at h
theorem al3E : addE [[], [x7, x5]] x6 = 0 := addE_zero.2 ⟨al2M, by decide, by decide⟩
theorem al3 : addL [[], [x7, x5]] 4 x6 = [[x6], [x7, x5]] ∧ addN [[], [x7, x5]] 4 x6 = 5 := by
  refine add_is al3E (climb_0 (.inl rfl) rfl (by decide)) (by decide +kernel) ?_
  have h : allL [[x6], [x7, x5]] = [x5, x6, x7] := by
    unfold allL
    simp only [List.map, in_1, in_2]
    simp [allE, bothE, liveE, x5, x6, x7]
  unfold fat
  rw [h]
  decide
theorem al3M : May [[x6], [x7, x5]] := by have h := (add_may al3E 4).1; rwa [al3.1] at h
theorem al4E : addE [[x6], [x7, x5]] k5 = 0 := addE_zero.2 ⟨al3M, by decide, by decide⟩
theorem al4 : addL [[x6], [x7, x5]] 5 k5 = [[], [x7, x6]] ∧ addN [[x6], [x7, x5]] 5 k5 = 10 := by
  refine add_is al4E ?_ (a := [[], []]) (r := [x7, x6]) (by decide +kernel) (fat_small (by decide))
  have hm : mergeR [[x6], [x7, x5]] [k5] = [x6, k5] := by
    unfold mergeR
    rw [show up [k5].length = 0 from up_1]
    exact (mrg2 (lay1 k5) (lay1 x6) (by decide) (by decide) (by decide) (m := [k5, x6]) (by simp [allE, bothE, bareE, x5, x6, x7, k5, heldB])).trans (lay2 k5 x6)
  have hm2 : mergeR [[], [x7, x5]] [x6, k5] = [x7, x6] := by
    unfold mergeR
    rw [show up [x6, k5].length = 1 from up_2]
    exact (mrg2 (lay2 k5 x6) (lay2 x5 x7) (by decide) (by decide) (by decide) (m := [x6, x7]) (by simp [allE, bothE, bareE, liveE, x5, x6, x7, k5, heldB])).trans (lay2 x6 x7)
  rw [climb_1 (rs' := [[], [x7, x5]]) (.inr (by simp)) (by decide) (by decide : IntKind.u64.wrap ((5 : Int) + 1) = 6) hm (by decide : IntKind.u64.wrap ((6 : Int) + ([x6, k5] : List Ent).length) = 8) (rfl : [[x6], [x7, x5]].set 0 [] = [[], [x7, x5]])]
  have hu : up [x6, k5].length = 1 := up_2
  rw [climb_up (by simp) (by rw [hu]; decide), hm2, hu, show IntKind.u64.wrap ((8 : Int) + ([x7, x6] : List Ent).length) = 10 by decide]
  exact climb_end (.inr (by rw [show up [x7, x6].length = 1 from up_2]; rfl))
end Go.Proofs.YtolclahkfmplfaaGreatDoor

/- Contracts of the laws' helpers of chapter 26: let, stands. -/
namespace Go.Proofs.YtolclahkfmplfaaGreatDoor
open Go Go.RowKit
set_option maxRecDepth 100000
/-- levels behind entries were let in one by one -/
def letS (rs : Lv) (n : Int) : List Ent → Lv × Int × Int
  | [] => (rs, n, 0)
  | y :: l => if addE rs y = 0 then letS (addL rs n y) (addN rs n y) l else ([], 0, addE rs y)
theorem letS_up {rs : Lv} {n : Int} {l : List Ent} {k : Nat} (h : k < l.length) (h0 : addE rs (l[k]'h) = 0) : letS rs n (l.drop k) = letS (addL rs n (l[k]'h)) (addN rs n (l[k]'h)) (l.drop (k + 1)) := by
  rw [List.drop_eq_getElem_cons h, letS, if_pos h0]
theorem letS_no {rs : Lv} {n : Int} {l : List Ent} {k : Nat} (h : k < l.length) (h0 : addE rs (l[k]'h) ≠ 0) : letS rs n (l.drop k) = ([], 0, addE rs (l[k]'h)) := by
  rw [List.drop_eq_getElem_cons h, letS, if_neg h0]
theorem letS_end {rs : Lv} {n : Int} {l : List Ent} {k : Nat} (h : ¬ k < l.length) : letS rs n (l.drop k) = (rs, n, 0) := by
  rw [List.drop_eq_nil_of_le (by omega), letS]
def GivesAt (L0 : Lv × Int × Int) (w : World) (r : Ending) (w' : World) : Prop := ∃ B c Rs, r = .returned (.tuple #[.agg #[.slice B Rs.length c, .int .u64 L0.2.1], .int .i64 L0.2.2]) ∧ lvs Rs = L0.1 ∧ RunsAt w' B Rs ∧ Below w.heap.size w w'
structure LetI (w : World) (L0 : Lv × Int × Int) (l : List Ent) (k : Nat) (B : Option Addr) (c : Nat) (Rs : List Rm) (n : Int) (wr : World) : Prop where
  bel : Below w.heap.size w wr
  bx : Blk wr w.heap.size 27 #[.slice B Rs.length c, .int .u64 n]
  br : Blk wr (w.heap.size + 1) 27 #[.slice none 0 0, .int .u64 0]
  at_ : RunsAt w B Rs ∨ OwnRs wr w.heap.size B c Rs
  eq : letS (lvs Rs) n (l.drop k) = L0
  tot : tot (lvs Rs) ≤ 65536
  len : Rs.length ≤ 1000000
theorem LetI.runs {w wr : World} {L0 : Lv × Int × Int} {l : List Ent} {k : Nat} {B : Option Addr} {c : Nat} {Rs : List Rm} {n : Int} (h : LetI w L0 l k B c Rs n wr) : RunsAt wr B Rs := by
  rcases h.at_ with h1 | h1
  · exact h1.below h.bel
  · exact h1.runsAt
/-- behind an entry was let in: what stands in memory -/
structure LetC (w : World) (L : Lv) (N : Int) (gy : Nat) (B : Option Addr) (c : Nat) (Rs : List Rm) (wx : World) : Prop where
  lv : lvs Rs = L
  own : OwnRs wx w.heap.size B c Rs
  by_ : Blk wx gy 27 #[.slice B Rs.length c, .int .u64 N]
  bel : Below w.heap.size w wx
  gy_ : w.heap.size ≤ gy
theorem addL_le {rs : Lv} {n : Int} {y : Ent} (h : addE rs y = 0) : tot (addL rs n y) ≤ 65536 ∧ (addL rs n y).length ≤ 17 := by
  have h1 := (add_may h n).1
  exact ⟨h1.size, h1.len⟩
/-- has a level these entries? -/
def standsB (rs : Lv) (k : Nat) (want : List Ent) : Bool := decide (k < rs.length) && (decide (chkE (lev rs k) = 0) && decide (sortL (lev rs k) = want))
end Go.Proofs.YtolclahkfmplfaaGreatDoor

/- Contract: the chapter's examples of levels (alive of law26). -/
namespace Go.Proofs.YtolclahkfmplfaaGreatDoor
open Go Go.RowKit
set_option maxRecDepth 100000
theorem alS1 : letS [] 0 [x5, x7, x6] = ([[x6], [x7, x5]], 5, 0) := by
  rw [letS, if_pos al1E, al1.1, al1.2, letS, if_pos al2E, al2.1, al2.2, letS, if_pos al3E, al3.1, al3.2, letS]
theorem alS2 : letS [[x6], [x7, x5]] 5 [k5] = ([[], [x7, x6]], 10, 0) := by
  rw [letS, if_pos al4E, al4.1, al4.2, letS]
theorem srt1 (a : Ent) (h : chkE [a] = 0) : sortL [a] = [a] := by unfold sortL; rw [if_pos h, in_1]
theorem srt2 (a b : Ent) (h : chkE [b, a] = 0) : sortL [b, a] = [a, b] := by unfold sortL; rw [if_pos h, in_2]
theorem al4M : May [[], [x7, x6]] := by have h := (add_may al4E 5).1; rwa [al4.1] at h
theorem alT1 : standsB [[x6], [x7, x5]] 0 [x6] = true := by
  have h : chkE [x6] = 0 := al3M.chk 0
  unfold standsB
  rw [show lev [[x6], [x7, x5]] 0 = [x6] from rfl, srt1 _ h, decide_eq_true h]
  decide
theorem alT2 : standsB [[x6], [x7, x5]] 1 [x5, x7] = true := by
  have h : chkE [x7, x5] = 0 := al3M.chk 1
  unfold standsB
  rw [show lev [[x6], [x7, x5]] 1 = [x7, x5] from rfl, srt2 _ _ h, decide_eq_true h]
  decide
theorem alT3 : standsB [[], [x7, x6]] 0 [] = true := by
  have h : chkE [] = 0 := al4M.chk 0
  unfold standsB
  rw [show lev [[], [x7, x6]] 0 = [] from rfl, show sortL [] = [] by unfold sortL; rw [if_pos h, in_0], decide_eq_true h]
  decide
theorem alT4 : standsB [[], [x7, x6]] 1 [x6, x7] = true := by
  have h : chkE [x7, x6] = 0 := al4M.chk 1
  unfold standsB
  rw [show lev [[], [x7, x6]] 1 = [x7, x6] from rfl, srt2 _ _ h, decide_eq_true h]
  decide
theorem rs_of {Rs : List Rm} {L : Lv} {T : Nat} (h : lvs Rs = L) (h1 : tot L ≤ T) (h2 : L.length ≤ 17) (h3 : T ≤ 1000000 := by omega) : Rs.length ≤ 1000000 ∧ ∀ r ∈ Rs, r.l.length ≤ 1000000 := by
  refine ⟨by rw [rs_len h]; omega, fun r hr => ?_⟩
  have h5 := le_sum (List.mem_map.2 ⟨r.l, List.mem_map.2 ⟨r, hr, rfl⟩, rfl⟩ : r.l.length ∈ ((lvs Rs).map List.length))
  rw [h] at h5
  unfold tot at h1
  omega
end Go.Proofs.YtolclahkfmplfaaGreatDoor

/- Plain facts: the chapter's example of a map (alive of law27). No program in sight. -/
namespace Go.Proofs.YtolclahkfmplfaaGreatDoor
open Go
def chap : Cfg := ⟨3, 8, 4, 16, 8, 0, 1, 4, 8⟩
theorem chap_ok : errC chap = 0 := by unfold errC; rw [if_pos (by decide +kernel)]
def p5 : Ent := ⟨5, 50, false⟩
def p9 : Ent := ⟨9, 90, false⟩
def q5 : Ent := ⟨5, 51, false⟩
def L1 : Lv := [[p5]]
def L2 : Lv := [[], [p9, p5]]
def L3 : Lv := [[q5], [p9, p5]]
def L4 : Lv := [[k5], [p9, p5]]
theorem ve_some {c : Cfg} {L : Lv} {k : Int} {z : Ent} (h : errL c L = 0) (hz : newest L k = some z) (hd : z.dead = false) : veD c L k = 0 ∧ vlD c L k = z.val := by
  have hc := (errL_zero h).2.1
  have h1 : gxR L k = z ∧ geR L k = 0 := by unfold gxR geR; rw [if_pos hc, if_pos hc, hz]; exact ⟨rfl, rfl⟩
  have h2 : isB L k = true := by unfold isB; rw [h1.1, h1.2, hd]; rfl
  unfold veD vlD
  rw [if_pos h, if_pos h2, if_pos ⟨h, h2⟩, h1.1]
  exact ⟨rfl, rfl⟩
theorem ve_none {c : Cfg} {L : Lv} {k : Int} (h : errL c L = 0) (hz : newest L k = none) : veD c L k = 6 := by
  have hc := (errL_zero h).2.1
  have h1 : geR L k = 6 := by unfold geR; rw [if_pos hc, hz]; rfl
  have h2 : isB L k = false := by unfold isB; rw [h1]; rfl
  unfold veD
  rw [if_pos h, h2]
  rfl
theorem e0_M : May [] := may_nil
theorem e0 : errL chap [] = 0 := errL_ok chap_ok may_nil (by decide) (by decide)
theorem a1E : addE [] p5 = 0 := addE_zero.2 ⟨may_nil, by decide, by decide⟩
theorem a1A : addL [] 0 p5 = L1 ∧ addN [] 0 p5 = 1 := add_is a1E (climb_0 (.inl rfl) (lev_nil _) (by decide)) (by decide +kernel) (fat_small (by decide))
theorem L1M : May L1 := by have h := (add_may a1E 0).1; rwa [a1A.1] at h
theorem L1a : allL L1 = [p5] := by
  unfold allL L1
  simp only [List.map, in_1]
  simp [allE, bothE, liveE, p5]
theorem e1e : errL chap L1 = 0 := errL_ok chap_ok L1M (by rw [L1a]; decide) (by rw [L1a]; decide)
theorem a2E : addE L1 p9 = 0 := addE_zero.2 ⟨L1M, by decide, by decide⟩
theorem a2A : addL L1 1 p9 = L2 ∧ addN L1 1 p9 = 4 := by
  refine add_is a2E ?_ (a := [[]]) (r := [p9, p5]) (by decide +kernel) (fat_small (by decide))
  have hm : mergeR L1 [p9] = [p9, p5] := by
    unfold mergeR L1
    rw [show up [p9].length = 0 from up_1]
    exact (mrg2 (lay1 p9) (lay1 p5) (by decide) (by decide) (by decide) (m := [p5, p9]) (by simp [allE, bothE, bareE, liveE, p5, p9, heldB])).trans (lay2 p5 p9)
  rw [climb_1 (rs' := [[]]) (.inl rfl) (by decide) (by decide : IntKind.u64.wrap ((1 : Int) + 1) = 2) hm (by decide : IntKind.u64.wrap ((2 : Int) + ([p9, p5] : List Ent).length) = 4) rfl]
  exact climb_end (.inr (by rw [show up [p9, p5].length = 1 from up_2]; rfl))
theorem L2M : May L2 := by have h := (add_may a2E 1).1; rwa [a2A.1] at h
theorem L2a : allL L2 = [p5, p9] := by
  unfold allL L2
  simp only [List.map, in_0, in_2]
  simp [allE, bothE, liveE, p5, p9]
theorem e2e : errL chap L2 = 0 := errL_ok chap_ok L2M (by rw [L2a]; decide) (by rw [L2a]; decide)
theorem a3E : addE L2 q5 = 0 := addE_zero.2 ⟨L2M, by decide, by decide⟩
theorem L3a : allL L3 = [q5, p9] := by
  unfold allL L3
  simp only [List.map, in_1, in_2]
  simp [allE, bothE, liveE, p5, q5, p9]
theorem a3A : addL L2 4 q5 = L3 ∧ addN L2 4 q5 = 5 := by
  refine add_is a3E (climb_0 (.inl rfl) rfl (by decide)) (by decide +kernel) ?_
  unfold fat
  rw [L3a]
  decide
theorem L3M : May L3 := by have h := (add_may a3E 4).1; rwa [a3A.1] at h
theorem e3e : errL chap L3 = 0 := errL_ok chap_ok L3M (by rw [L3a]; decide) (by rw [L3a]; decide)
theorem a4E : addE L3 k5 = 0 := addE_zero.2 ⟨L3M, by decide, by decide⟩
theorem L4a : allL L4 = [p9] := by
  unfold allL L4
  simp only [List.map, in_1, in_2]
  simp [allE, bothE, liveE, p5, k5, p9]
theorem a4A : addL L3 5 k5 = L4 ∧ addN L3 5 k5 = 7 := by
  refine add_is a4E ?_ (a := L2) (r := [k5]) (by decide +kernel) ?_
  · have hm : mergeR L3 [k5] = [k5] := by
      unfold mergeR L3
      rw [show up [k5].length = 0 from up_1]
      exact (mrg2 (lay1 k5) (lay1 q5) (by decide) (by decide) (by decide) (m := [k5]) (by simp [allE, bothE, bareE, k5, q5, heldB, p5, p9])).trans (lay1 k5)
    rw [climb_1 (rs' := L2) (.inr (by unfold L3; simp)) (by decide) (by decide : IntKind.u64.wrap ((5 : Int) + 1) = 6) hm (by decide : IntKind.u64.wrap ((6 : Int) + ([k5] : List Ent).length) = 7) rfl]
    exact climb_end (.inr (by rw [show up [k5].length = 0 from up_1]; rfl))
  · unfold fat
    rw [L4a]
    decide
theorem L4M : May L4 := by have h := (add_may a4E 5).1; rwa [a4A.1] at h
theorem e4e : errL chap L4 = 0 := errL_ok chap_ok L4M (by rw [L4a]; decide) (by rw [L4a]; decide)
theorem pr4 : prD chap L4 = [⟨9, 90⟩] := by
  unfold prD
  rw [if_pos e4e]
  unfold prR
  rw [if_pos (chkR_zero.2 L4M), L4a]
  rfl
theorem nx6 : nxO L3 6 = some p9 := by unfold nxO; rw [L3a]; rfl
theorem ls9 : lsO L3 9 = some q5 := by unfold lsO; rw [L3a]; rfl
theorem g1 : veD chap [] 5 = 6 := ve_none e0 (by decide)
theorem g2 : veD chap L1 9 = 6 := ve_none e1e (by decide)
theorem g3 : veD chap L2 5 = 0 := (ve_some (z := p5) e2e (by decide) rfl).1
theorem g4 : veD chap L3 5 = 0 ∧ vlD chap L3 5 = 51 := ve_some (z := q5) e3e (by decide) rfl
theorem u1 : putE0 chap [] 5 = 0 := by
  unfold putE0
  rw [g1, if_pos rfl, prR_len (chkR_zero.2 may_nil)]
  decide
theorem u2 : putE0 chap L1 9 = 0 := by
  unfold putE0
  rw [g2, if_pos rfl, prR_len (chkR_zero.2 L1M), L1a]
  decide
theorem u3 : putE0 chap L2 5 = 0 := by unfold putE0; rw [g3]; rfl
theorem up_z (c : Cfg) {e0 : Int} {L : Lv} {n : Int} {y : Ent} (h : e0 = 0) (h2 : addE L y = 0) : upE e0 L y = 0 ∧ upL e0 L n y = addL L n y ∧ upN e0 L n y = addN L n y ∧ ldC c (upE e0 L y) = c := by
  unfold ldC upE upL upN
  rw [if_pos h, if_pos h, if_pos h, h2]
  exact ⟨rfl, rfl, rfl, rfl⟩
end Go.Proofs.YtolclahkfmplfaaGreatDoor

/- Plain facts for the law LadderNear. No program in sight. -/
namespace Go.Proofs.YtolclahkfmplfaaGreatDoor
open Go
def toP (e : Ent) : Pr := ⟨e.key, e.val⟩
theorem prR_map {L : Lv} (h : chkR L = 0) : prR L = (allL L).map toP := by
  unfold prR plainE
  rw [if_pos h]
  have : liveE (allL L) = allL L := by unfold allL; exact live_live _
  rw [this]
  rfl
theorem nx_at {L : Lv} (hM : May L) {key : Int} {n : Nat} (hn : n ≤ (allL L).length) (h1 : ∀ j (h : j < (allL L).length), j < n → ((allL L)[j]'h).key < key) (h2 : ∀ h : n < (allL L).length, ¬ ((allL L)[n]'h).key < key) :
    nxO L key = (allL L)[n]? ∧ lsO L key = if n = 0 then none else (allL L)[n - 1]? := by
  have hr := allL_ris hM
  unfold nxO lsO
  generalize allL L = Q at *
  have hlt : ∀ e ∈ Q.take n, e.key < key := fun e he => by
    obtain ⟨i, hi, rfl⟩ := List.getElem_of_mem he
    rw [List.length_take] at hi
    rw [List.getElem_take]
    exact h1 i (by omega) (by omega)
  have hge : ∀ e ∈ Q.drop n, ¬ e.key < key := fun e he => by
    obtain ⟨i, hi, rfl⟩ := List.getElem_of_mem he
    rw [List.length_drop] at hi
    rw [List.getElem_drop]
    have h0 := h2 (by omega)
    by_cases h9 : i = 0
    · subst h9; exact h0
    · have := List.pairwise_iff_getElem.1 hr n (n + i) (by omega) (by omega) (by omega)
      omega
  have hQ : Q = Q.take n ++ Q.drop n := (List.take_append_drop n Q).symm
  have hR : Q.reverse = (Q.drop n).reverse ++ (Q.take n).reverse := by rw [← List.reverse_append, List.take_append_drop]
  constructor
  · rw [show Q.find? (fun e => decide (key ≤ e.key)) = (Q.take n ++ Q.drop n).find? (fun e => decide (key ≤ e.key)) from by rw [← hQ], List.find?_append]
    rw [List.find?_eq_none.2 (fun e he => by have := hlt e he; simp; omega), Option.none_or]
    by_cases hl : n < Q.length
    · rw [List.drop_eq_getElem_cons hl, List.find?_cons_of_pos (by have := h2 hl; simp; omega), List.getElem?_eq_getElem hl]
    · rw [List.drop_eq_nil_of_le (by omega), List.getElem?_eq_none (by omega)]
      rfl
  · rw [hR, List.find?_append]
    rw [List.find?_eq_none.2 (fun e he => by have := hge e (List.mem_reverse.1 he); simp; omega), Option.none_or]
    by_cases hz : n = 0
    · subst hz; simp
    · rw [if_neg hz]
      have hl : n - 1 < Q.length := by omega
      have ht : Q.take n = Q.take (n - 1) ++ [Q[n - 1]'hl] := by
        have h7 := List.take_append_getElem hl
        rw [show n - 1 + 1 = n from by omega] at h7
        exact h7.symm
      rw [ht, List.reverse_append, List.reverse_singleton, List.singleton_append, List.find?_cons_of_pos (by have := h1 (n - 1) hl (by omega); simpa using this), List.getElem?_eq_getElem hl]
structure NearOk (P : List Pr) (n : Nat) (o l : Option Ent) : Prop where
  nx : ∀ h : n < P.length, isE o = 0 ∧ toP (o.getD zeroE) = P[n]'h
  nn : ¬ n < P.length → isE o = 6
  ls : ∀ (h : n - 1 < P.length), 0 < n → isE l = 0 ∧ toP (l.getD zeroE) = P[n - 1]'h
  ln : ¬ 0 < n → isE l = 6
theorem near_ok {c : Cfg} {L : Lv} (he : errL c L = 0) {key : Int} {n : Nat} (hn : n ≤ (prD c L).length) (h1 : ∀ j (h : j < (prD c L).length), j < n → ((prD c L)[j]'h).key < key) (h2 : ∀ h : n < (prD c L).length, ¬ ((prD c L)[n]'h).key < key) :
    NearOk (prD c L) n (nxO L key) (lsO L key) := by
  have hR := (errL_zero he).2.1
  have hP : prD c L = (allL L).map toP := by unfold prD; rw [if_pos he, prR_map hR]
  generalize prD c L = P at *
  subst hP
  rw [List.length_map] at hn
  obtain ⟨g1, g2⟩ := nx_at (chkR_zero.1 hR) (key := key) hn (fun j h hj => by have := h1 j (by simpa using h) hj; simpa [toP] using this) (fun h => by have := h2 (by simpa using h); simpa [toP] using this)
  rw [g1, g2]
  refine ⟨fun h => ?_, fun h => ?_, fun h h0 => ?_, fun h => ?_⟩
  · rw [List.length_map] at h
    rw [List.getElem?_eq_getElem h]
    exact ⟨rfl, by simp⟩
  · rw [List.length_map] at h
    rw [List.getElem?_eq_none (by omega)]
    rfl
  · rw [List.length_map] at h
    rw [if_neg (by omega), List.getElem?_eq_getElem h]
    exact ⟨rfl, by simp⟩
  · rw [if_pos (by omega)]
    rfl
end Go.Proofs.YtolclahkfmplfaaGreatDoor
