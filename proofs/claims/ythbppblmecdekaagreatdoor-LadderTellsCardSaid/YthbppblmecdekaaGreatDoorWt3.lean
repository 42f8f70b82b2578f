/- De Dh0 Dj: texts of the claim, in this order. -/
import Derived.Test.YthbppblmecdekaaGreatDoorWt2
import Derived.Test.YthbppblmecdekaaGreatDoorWg2
import Derived.WalkMore
import Derived.ScopeJumps
import Derived.Test.YthbppblmecdekaaGreatDoorWg18
import Derived.Test.YthbppblmecdekaaGreatDoorWg19
import Derived.Test.YthbppblmecdekaaGreatDoorWt1
/- Contracts: ladder.Next, ladder.Last. -/
namespace Go.Proofs.YthbppblmecdekaaGreatDoor
open Go Go.RowKit
set_option maxRecDepth 100000
def resE (err : Int) (o : Option Ent) : Int := if err = 0 then isE o else err
def resP (err : Int) (o : Option Ent) : Pr := if err = 0 then ⟨(o.getD zeroE).key, (o.getD zeroE).val⟩ else ⟨0, 0⟩
theorem findL_any (B : Option Addr) (Rs : List Rm) (k : Nat) (key : Int) (w : World) (hB : RunsAt w B Rs) (hM : May (lvs Rs)) (hT : TabAt 1 Lib.deBruijn64tab w) {z : Ent} (hz : newest (lvs Rs) key = some z) :
    Calls Tryz.prog 49 #[.slice B Rs.length k, .int .i64 key] w (GivesX z 0 w) := by
  have hQ := rm_le' (chkR_zero.2 hM)
  have h8 := kfind_any B Rs k key w hB hQ.1 hQ.2 hT
  have hlv : Rs.map Rm.l = lvs Rs := rfl
  obtain ⟨h1, h2⟩ := gR_kf key (chkR_zero.2 hM)
  rw [hlv, h1, h2] at h8
  have h3 : gxR (lvs Rs) key = z ∧ geR (lvs Rs) key = 0 := by
    unfold gxR geR
    rw [if_pos (chkR_zero.2 hM), if_pos (chkR_zero.2 hM), hz]
    exact ⟨rfl, rfl⟩
  rw [h3.1, h3.2] at h8
  exact h8
structure NearS (w : World) (B : Option Addr) (Rs : List Rm) (k : Nat) (c : Cfg) (n : Int) (gu : Nat) (cur : Int) (wr : World) : Prop where
  bel : Below w.heap.size w wr
  bm : Blk wr w.heap.size 29 (lrow c B Rs.length k n)
  bk : Blk wr (w.heap.size + 1) 2 #[.int .i64 cur]
  br : Blk wr (w.heap.size + 1 + 1) 47 #[.int .i64 0, .int .i64 0]
  bu : Blk wr gu 89 (lrow c B Rs.length k n)
section
variable {w : World} {B : Option Addr} {Rs : List Rm} {k : Nat} {c : Cfg} {n : Int} {gu : Nat} {cur : Int} {wr wx : World}
theorem NearS.below (h : NearS w B Rs k c n gu cur wr) (hb : Below wr.heap.size wr wx) : NearS w B Rs k c n gu cur wx :=
  ⟨bext h.bel hb, h.bm.below hb h.bm.lt, h.bk.below hb h.bk.lt, h.br.below hb h.br.lt, h.bu.below hb h.bu.lt⟩
theorem NearS.key (h : NearS w B Rs k c n gu cur wr) (cur2 : Int) : NearS w B Rs k c n gu cur2 (wr.setCell ⟨w.heap.size + 1, 0, none⟩ (.int .i64 cur2)) := by
  have hne : gu ≠ w.heap.size + 1 := fun e => by
    subst e
    have := h.bu.symm.trans h.bk
    simp at this
  exact ⟨h.bel.setCell (p := ⟨w.heap.size + 1, 0, none⟩) (Nat.le_succ _) _, h.bm.far (p := ⟨w.heap.size + 1, 0, none⟩) (by simp) _, by simpa using h.bk.set_ 0 (.int .i64 cur2), h.br.far (p := ⟨w.heap.size + 1, 0, none⟩) (by simp) _, h.bu.far (p := ⟨w.heap.size + 1, 0, none⟩) hne _⟩
end
def NextI (w : World) (B : Option Addr) (Rs : List Rm) (k : Nat) (c : Cfg) (n key : Int) (O : Option Ent) (g : Nat) (a : Act) (wr : World) : Prop :=
  ∃ (gu : Nat) (cur : Int) (u6 u8 u9 u10 u11 u12 u13 u14 u15 u16 u17 u18 u19 u20 u21 u22 u23 u24 u25 u26 u27 u28 u29 u30 u31 u32 u33 u34 u35 u36 u37 u38 u39 u40 u41 u42 u43 u44 u45 u46 u47 u48 u49 u50 u51 : Value), a = ⟨#[.agg (lrow c B Rs.length k n), .int .i64 key, .pointer (some ⟨w.heap.size, 0, none⟩), .pointer (some ⟨w.heap.size + 1, 0, none⟩), .pointer (some ⟨w.heap.size + 1 + 1, 0, none⟩), .int .i64 0, u6, .pointer (some ⟨gu, 0, none⟩), u8, u9, u10, u11, u12, u13, u14, u15, u16, u17, u18, u19, u20, u21, u22, u23, u24, u25, u26, u27, u28, u29, u30, u31, u32, u33, u34, u35, u36, u37, u38, u39, u40, u41, u42, u43, u44, u45, u46, u47, u48, u49, u50, u51], []⟩ ∧ Hid (NearS w B Rs k c n gu cur wr) ∧ Hid (nxO (lvs Rs) cur = O) ∧ Hid (g = sideN (lvs Rs) (fun q => decide (cur ≤ q))) ∧ Hid (May (lvs Rs)) ∧ Hid (errL c (lvs Rs) = 0)
set_option maxHeartbeats 16000000 in
theorem nextD_any (B : Option Addr) (Rs : List Rm) (k : Nat) (c : Cfg) (n : Int) (key : Int) (w : World) (hB : RunsAt w B Rs) (hT : tot (lvs Rs) ≤ 1000000) (hl : Rs.length ≤ 1000000) (hkb : ∀ l ∈ lvs Rs, ∀ e ∈ l, -9223372036854775808 ≤ e.key ∧ e.key ≤ 9223372036854775807) (hTb : TabAt 1 Lib.deBruijn64tab w) :
    Calls Tryz.prog 15 #[.agg (lrow c B Rs.length k n), .int .i64 key] w fun r w' => r = .returned (.tuple #[.agg #[.int .i64 (resP (errL c (lvs Rs)) (nxO (lvs Rs) key)).key, .int .i64 (resP (errL c (lvs Rs)) (nxO (lvs Rs) key)).val], .int .i64 (resE (errL c (lvs Rs)) (nxO (lvs Rs) key))]) ∧ Below w.heap.size w w' := by
  obtain ⟨W0, hW0⟩ : ∃ W0, ((w.alloc (.cells #[.int .u8 c.tag, .int .i64 c.most, .int .i64 c.seg, .int .i64 c.least, .int .i64 c.den, .int .i64 c.leafLow, .int .i64 c.rootLow, .int .i64 c.rootHigh, .int .i64 c.leafHigh, .slice B Rs.length k, .int .u64 n] 29)).alloc (.cells #[.int .i64 key] 2)).alloc (.cells #[.int .i64 0, .int .i64 0] 47) = W0 := ⟨_, rfl⟩
  have hb0 : Below w.heap.size w W0 := by rw [← hW0]; exact (((Below.refl _ _).alloc (Nat.le_refl _) _).alloc (by simp) _).alloc (by simp; omega) _
  have b0 : Blk W0 w.heap.size 29 #[.int .u8 c.tag, .int .i64 c.most, .int .i64 c.seg, .int .i64 c.least, .int .i64 c.den, .int .i64 c.leafLow, .int .i64 c.rootLow, .int .i64 c.rootHigh, .int .i64 c.leafHigh, .slice B Rs.length k, .int .u64 n] := by rw [← hW0]; exact ((Blk.new _ _ _).alloc _).alloc _
  have bk0 : Blk W0 (w.heap.size + 1) 2 #[.int .i64 key] := by
    rw [← hW0]
    have := Blk.new (w.alloc (.cells #[.int .u8 c.tag, .int .i64 c.most, .int .i64 c.seg, .int .i64 c.least, .int .i64 c.den, .int .i64 c.leafLow, .int .i64 c.rootLow, .int .i64 c.rootHigh, .int .i64 c.leafHigh, .slice B Rs.length k, .int .u64 n] 29)) 2 #[.int .i64 key]
    rw [World.size_alloc] at this
    exact this.alloc _
  have br0 : Blk W0 (w.heap.size + 1 + 1) 47 #[.int .i64 0, .int .i64 0] := by
    rw [← hW0]
    have := Blk.new ((w.alloc (.cells #[.int .u8 c.tag, .int .i64 c.most, .int .i64 c.seg, .int .i64 c.least, .int .i64 c.den, .int .i64 c.leafLow, .int .i64 c.rootLow, .int .i64 c.rootHigh, .int .i64 c.leafHigh, .slice B Rs.length k, .int .u64 n] 29)).alloc (.cells #[.int .i64 key] 2)) 47 #[.int .i64 0, .int .i64 0]
    rwa [World.size_alloc, World.size_alloc] at this
  have HW0 := Lib.hid hW0
  have HB0 := Lib.hid hb0
  have HC0 := Lib.hid b0
  have HK0 := Lib.hid bk0
  have HR0 := Lib.hid br0
  have HB := Lib.hid hB
  have HT := Lib.hid hTb
  have hck := fun W (hW : Below W0.heap.size W0 W) => checkD_any B Rs k c n W ((hB.below hb0).below hW) hT hl
  obtain ⟨X, hX⟩ : ∃ X, errL c (lvs Rs) = X := ⟨_, rfl⟩
  rw [hX] at hck ⊢
  have HMM := Lib.hid (show X = 0 → May (lvs Rs) from fun h => chkR_zero.1 (errL_zero (hX.trans h)).2.1)
  have HCK := Lib.hid hck
  obtain ⟨O, hO⟩ : ∃ O, nxO (lvs Rs) key = O := ⟨_, rfl⟩
  rw [hO]
  have HO := Lib.hid hO
  have HKB := Lib.hid hkb
  have HXE := Lib.hid hX
  clear hW0 hB hck hX hO hTb hkb
  have q0 : W0.cell? ⟨w.heap.size, 0, none⟩ = some (.int .u8 c.tag) := b0.cell 0
  have q1 : W0.cell? ⟨w.heap.size, 1, none⟩ = some (.int .i64 c.most) := b0.cell 1
  have q2 : W0.cell? ⟨w.heap.size, 2, none⟩ = some (.int .i64 c.seg) := b0.cell 2
  have q3 : W0.cell? ⟨w.heap.size, 3, none⟩ = some (.int .i64 c.least) := b0.cell 3
  have q4 : W0.cell? ⟨w.heap.size, 4, none⟩ = some (.int .i64 c.den) := b0.cell 4
  have q5 : W0.cell? ⟨w.heap.size, 5, none⟩ = some (.int .i64 c.leafLow) := b0.cell 5
  have q6 : W0.cell? ⟨w.heap.size, 6, none⟩ = some (.int .i64 c.rootLow) := b0.cell 6
  have q7 : W0.cell? ⟨w.heap.size, 7, none⟩ = some (.int .i64 c.rootHigh) := b0.cell 7
  have q8 : W0.cell? ⟨w.heap.size, 8, none⟩ = some (.int .i64 c.leafHigh) := b0.cell 8
  have q9 : W0.cell? ⟨w.heap.size, 9, none⟩ = some (.slice B Rs.length k) := b0.cell 9
  have q10 : W0.cell? ⟨w.heap.size, 10, none⟩ = some (.int .u64 n) := b0.cell 10
  clear b0 bk0 br0 hb0
  go_enter Tryz.func15, Tryz.ntmps15
  go_upto_region 1 with fail
  rw [HW0.out]
  refine wp_scope_ghost 0 (NextI w B Rs k c n key O) rfl ?pass ?first
  case first =>
    rintro K hK
    have HKK := Lib.hid hK
    clear hK
    go_wp2_with fail
    refine (HCK.out _ (Below.refl _ _)).mono ?_
    rintro e w1 ⟨rfl, hb1⟩
    have HB1 := Lib.hid (bext HB0.out hb1)
    have HC1 := Lib.hid (HC0.out.below hb1 HC0.out.lt)
    have HK1 := Lib.hid (HK0.out.below hb1 HK0.out.lt)
    have br1 := HR0.out.below hb1 HR0.out.lt
    have HR1 := Lib.hid br1
    have r0 : w1.cell? ⟨w.heap.size + 1 + 1, 0, none⟩ = some (.int .i64 0) := br1.cell 0
    have r1 : w1.cell? ⟨w.heap.size + 1 + 1, 1, none⟩ = some (.int .i64 0) := br1.cell 1
    have fr0 := br1.frozen 0
    have fr1 := br1.frozen 1
    clear hb1 br1 q0 q1 q2 q3 q4 q5 q6 q7 q8 q9 q10
    by_cases h0 : X = 0
    case neg =>
      have h1 : (X != 0) = true := by simpa using h0
      have HV : Hid (resE X O = X ∧ resP X O = ⟨0, 0⟩) := ⟨by unfold resE; rw [if_neg h0], by unfold resP; rw [if_neg h0]⟩
      clear h0
      go_wp2_with fail
      simp only [Exit.jump]
      have bz := box2 HR1.out (.int .i64 0) (.int .i64 0)
      have z0 := bz.cell 0
      have z1 := bz.cell 1
      simp only [List.getElem?_toArray, List.getElem?_cons_zero, List.getElem?_cons_succ] at z0 z1
      refine bodyPost_ret (v := .tuple #[.agg #[.int .i64 0, .int .i64 0], .int .i64 X]) (by simp [results, Tryz.results15, go_sem, z0, z1]) rfl ?_
      exact ⟨by rw [HV.out.1, HV.out.2], below2 HB1.out (by omega) _ _⟩
    case pos =>
    have HM := Lib.hid (HMM.out h0)
    have HX0 : Hid (errL c (lvs Rs) = 0) := HXE.out.trans h0
    subst h0
    have bc1 := HC1.out
    have q0 : w1.cell? ⟨w.heap.size, 0, none⟩ = some (.int .u8 c.tag) := bc1.cell 0
    have q1 : w1.cell? ⟨w.heap.size, 1, none⟩ = some (.int .i64 c.most) := bc1.cell 1
    have q2 : w1.cell? ⟨w.heap.size, 2, none⟩ = some (.int .i64 c.seg) := bc1.cell 2
    have q3 : w1.cell? ⟨w.heap.size, 3, none⟩ = some (.int .i64 c.least) := bc1.cell 3
    have q4 : w1.cell? ⟨w.heap.size, 4, none⟩ = some (.int .i64 c.den) := bc1.cell 4
    have q5 : w1.cell? ⟨w.heap.size, 5, none⟩ = some (.int .i64 c.leafLow) := bc1.cell 5
    have q6 : w1.cell? ⟨w.heap.size, 6, none⟩ = some (.int .i64 c.rootLow) := bc1.cell 6
    have q7 : w1.cell? ⟨w.heap.size, 7, none⟩ = some (.int .i64 c.rootHigh) := bc1.cell 7
    have q8 : w1.cell? ⟨w.heap.size, 8, none⟩ = some (.int .i64 c.leafHigh) := bc1.cell 8
    have q9 : w1.cell? ⟨w.heap.size, 9, none⟩ = some (.slice B Rs.length k) := bc1.cell 9
    have q10 : w1.cell? ⟨w.heap.size, 10, none⟩ = some (.int .u64 n) := bc1.cell 10
    have lq := bc1.lt
    clear bc1 r0 r1 fr0 fr1
    go_wp2_with fail
    obtain ⟨U, hU⟩ : ∃ U, w1.alloc (.cells (lrow c B Rs.length k n) 89) = U := ⟨_, rfl⟩
    have hau : Below w1.heap.size w1 U := by rw [← hU]; exact (Below.refl _ _).alloc (Nat.le_refl _) _
    have bu : Blk U w1.heap.size 89 (lrow c B Rs.length k n) := by rw [← hU]; exact Blk.new _ _ _
    have hU' : w1.alloc (.cells #[.int .u8 c.tag, .int .i64 c.most, .int .i64 c.seg, .int .i64 c.least, .int .i64 c.den, .int .i64 c.leafLow, .int .i64 c.rootLow, .int .i64 c.rootHigh, .int .i64 c.leafHigh, .slice B Rs.length k, .int .u64 n] 89) = U := hU
    try rw [hU']
    have HNS : Hid (NearS w B Rs k c n w1.heap.size key U) := ⟨bext HB1.out hau, HC1.out.below hau HC1.out.lt, HK1.out.below hau HK1.out.lt, HR1.out.below hau HR1.out.lt, bu⟩
    clear hU hU' hau bu q0 q1 q2 q3 q4 q5 q6 q7 q8 q9 q10 lq
    go_step3
    rename_i hk
    exact hk _ _ (HKK.out _ _ _ ⟨w1.heap.size, key, _, _, _, _, _, _, _, _, _, _, _, _, _, _, _, _, _, _, _, _, _, _, _, _, _, _, _, _, _, _, _, _, _, _, _, _, _, _, _, _, _, _, _, _, _, rfl, HNS, HO, rfl, HM, HX0⟩)
  case pass =>
    rintro g a' wr ⟨gu, cur, u6, u8, u9, u10, u11, u12, u13, u14, u15, u16, u17, u18, u19, u20, u21, u22, u23, u24, u25, u26, u27, u28, u29, u30, u31, u32, u33, u34, u35, u36, u37, u38, u39, u40, u41, u42, u43, u44, u45, u46, u47, u48, u49, u50, u51, rfl, hS, hO2, hg, hM, hX0⟩ K hK
    have HKK := Lib.hid hK
    have HXZ : Hid (X = 0) := HXE.out.symm.trans hX0.out
    clear hK
    have hbs := fun (h : Blk wr (w.heap.size + 1) 2 #[.int .i64 cur]) => besideNext_any B Rs k gu (w.heap.size + 1) c n cur wr (HB.out.below hS.out.bel) hM.out hS.out.bu (h.cell 0) (tab_below2 HT.out hS.out.bel)
    have HBS := Lib.hid (hbs hS.out.bk)
    clear hbs HW0 HB0 HC0 HK0 HR0 HCK HMM q0 q1 q2 q3 q4 q5 q6 q7 q8 q9 q10 hT
    go_wp2_with fail
    refine HBS.out.mono ?_
    rintro e w2 ⟨o, rfl, hbest, hb2⟩
    have S2 := Lib.hid (hS.out.below hb2)
    have HBE := Lib.hid hbest
    clear hbest hb2 HBS
    go_upto_region 6 with fail
    obtain ⟨x, hx⟩ : ∃ x, o.getD zeroE = x := ⟨_, rfl⟩
    rw [hx]
    obtain ⟨W3, hW3⟩ : ∃ W, w2.alloc (.cells #[.int .i64 x.key, .int .i64 x.val, .bool x.dead] 71) = W := ⟨_, rfl⟩
    have ha3 : Below w2.heap.size w2 W3 := by rw [← hW3]; exact (Below.refl _ _).alloc (Nat.le_refl _) _
    have b3 : Blk W3 w2.heap.size 71 #[.int .i64 x.key, .int .i64 x.val, .bool x.dead] := by rw [← hW3]; exact Blk.new _ _ _
    try rw [hW3]
    have HA3 := Lib.hid ha3
    have HX3 := Lib.hid b3
    have S3 := Lib.hid (S2.out.below ha3)
    have br := S3.out.br
    have r0 : W3.cell? ⟨w.heap.size + 1 + 1, 0, none⟩ = some (.int .i64 0) := br.cell 0
    have r1 : W3.cell? ⟨w.heap.size + 1 + 1, 1, none⟩ = some (.int .i64 0) := br.cell 1
    have fr0 := br.frozen 0
    have fr1 := br.frozen 1
    clear hW3 ha3 b3 br
    cases o with
    | none =>
      have HV : Hid (O = none) := by show _ = _; rw [← hO2.out]; exact nx_none hM.out HBE.out
      have hz : isE none = 6 := rfl
      go_wp2_with fail
      simp only [Exit.jump]
      have bz := box2 S3.out.br (.int .i64 0) (.int .i64 0)
      have z0 := bz.cell 0
      have z1 := bz.cell 1
      simp only [List.getElem?_toArray, List.getElem?_cons_zero, List.getElem?_cons_succ] at z0 z1
      refine bodyPost_ret (v := .tuple #[.agg #[.int .i64 0, .int .i64 0], .int .i64 6]) (by simp [results, Tryz.results15, go_sem, z0, z1, isE_none]) rfl ?_
      exact ⟨by rw [HV.out, HXZ.out]; rfl, below2 S3.out.bel (by omega) _ _⟩
    | some x' =>
    obtain rfl : x' = x := hx
    have hz : isE (some x') = 0 := rfl
    obtain ⟨z, hz1, hz2⟩ : ∃ z, newest (lvs Rs) x'.key = some z ∧ z.key = x'.key := by
      obtain ⟨l, hl, hxl⟩ := (HBE.out.mem x' rfl).2
      exact newest_of hl hxl
    have HZ1 := Lib.hid hz1
    have HZ2 := Lib.hid hz2
    have hfd := findL_any B Rs k x'.key W3 (HB.out.below S3.out.bel) hM.out (tab_below2 HT.out S3.out.bel) hz1
    have HFD := Lib.hid hfd
    have x0 : W3.cell? ⟨w2.heap.size, 0, none⟩ = some (.int .i64 x'.key) := HX3.out.cell 0
    have m9 : W3.cell? ⟨w.heap.size, 9, none⟩ = some (.slice B Rs.length k) := S3.out.bm.cell 9
    clear hfd hz1 hz2 r0 r1 fr0 fr1
    go_wp2_with fail
    refine HFD.out.mono ?_
    rintro e w4 ⟨rfl, hb4⟩
    have HB4 := Lib.hid (bext HA3.out hb4)
    have b4 := HX3.out.below hb4 HX3.out.lt
    have HX4 := Lib.hid b4
    have x0' : w4.cell? ⟨w2.heap.size, 0, none⟩ = some (.int .i64 x'.key) := b4.cell 0
    have x1' : w4.cell? ⟨w2.heap.size, 1, none⟩ = some (.int .i64 x'.val) := b4.cell 1
    have x2' : w4.cell? ⟨w2.heap.size, 2, none⟩ = some (.bool x'.dead) := b4.cell 2
    have fx0 := b4.frozen 0
    have fx1 := b4.frozen 1
    have fx2 := b4.frozen 2
    clear b4 hb4 x0 m9 hz
    go_upto_region 9 with fail
    obtain ⟨W5, hW5⟩ : ∃ W, ((w4.setCell ⟨w2.heap.size, 0, none⟩ (.int .i64 z.key)).setCell ⟨w2.heap.size, 1, none⟩ (.int .i64 z.val)).setCell ⟨w2.heap.size, 2, none⟩ (.bool z.dead) = W := ⟨_, rfl⟩
    rw [hW5]
    have b5 : Blk W5 w2.heap.size 71 #[.int .i64 z.key, .int .i64 z.val, .bool z.dead] := by rw [← hW5]; exact put3 HX4.out _ _ _
    have hb5 : Below w2.heap.size w2 W5 := by rw [← hW5]; exact below3 HB4.out (Nat.le_refl _) _ _ _
    have S5 := Lib.hid (S2.out.below hb5)
    obtain ⟨g8, hg8⟩ : ∃ g, w2.heap.size = g := ⟨_, rfl⟩
    rw [hg8] at b5
    try rw [hg8]
    have c0 : W5.cell? ⟨g8, 0, none⟩ = some (.int .i64 z.key) := b5.cell 0
    have c1 : W5.cell? ⟨g8, 1, none⟩ = some (.int .i64 z.val) := b5.cell 1
    have c2 : W5.cell? ⟨g8, 2, none⟩ = some (.bool z.dead) := b5.cell 2
    have br := S5.out.br
    have r0 : W5.cell? ⟨w.heap.size + 1 + 1, 0, none⟩ = some (.int .i64 0) := br.cell 0
    have r1 : W5.cell? ⟨w.heap.size + 1 + 1, 1, none⟩ = some (.int .i64 0) := br.cell 1
    have fr0 := br.frozen 0
    have fr1 := br.frozen 1
    have bk := S5.out.bk
    have k0 : W5.cell? ⟨w.heap.size + 1, 0, none⟩ = some (.int .i64 cur) := bk.cell 0
    have fk0 := bk.frozen 0
    clear hW5 b5 hb5 hg8 br bk x0' x1' x2' fx0 fx1 fx2
    cases hd : z.dead with
    | false =>
      have HV : Hid (O = some z) := by show _ = _; rw [← hO2.out]; exact nx_some hM.out HBE.out HZ1.out hd
      go_wp2_with fail
      simp only [Exit.jump]
      have bz := box2 S5.out.br (.int .i64 z.key) (.int .i64 z.val)
      have z0 := bz.cell 0
      have z1 := bz.cell 1
      simp only [List.getElem?_toArray, List.getElem?_cons_zero, List.getElem?_cons_succ] at z0 z1
      refine bodyPost_ret (v := .tuple #[.agg #[.int .i64 z.key, .int .i64 z.val], .int .i64 0]) (by simp [results, Tryz.results15, go_sem, z0, z1, isE_some]) rfl ?_
      exact ⟨by rw [HV.out, HXZ.out]; rfl, below2 S5.out.bel (by omega) _ _⟩
    | true =>
      have hkb := HKB.out
      obtain ⟨l, hl, hxl⟩ := (HBE.out.mem x' rfl).2
      have hkx := hkb l hl x' hxl
      rw [← HZ2.out] at hkx
      have HSK : Hid (nxO (lvs Rs) (z.key + 1) = O) := by show _ = _; rw [← hO2.out, HZ2.out]; exact (nx_skip hM.out HBE.out HZ1.out hd).symm
      by_cases hmx : z.key = 9223372036854775807
      · have HV : Hid (O = none) := by
          show _ = _
          rw [← HSK.out]
          unfold nxO
          rw [List.find?_eq_none]
          intro e he
          obtain ⟨l2, hl2, he2⟩ := all_in hM.out he
          have h9 := hkb l2 hl2 e he2
          rw [hmx]
          simp
          omega
        have hm1 : (z.key == 9223372036854775807) = true := by simpa using hmx
        clear hkb hkx hl hxl hmx
        go_wp2_with fail
        simp only [Exit.jump]
        have bz := box2 S5.out.br (.int .i64 0) (.int .i64 0)
        have z0 := bz.cell 0
        have z1 := bz.cell 1
        simp only [List.getElem?_toArray, List.getElem?_cons_zero, List.getElem?_cons_succ] at z0 z1
        refine bodyPost_ret (v := .tuple #[.agg #[.int .i64 0, .int .i64 0], .int .i64 6]) (by simp [results, Tryz.results15, go_sem, z0, z1, isE_some]) rfl ?_
        exact ⟨by rw [HV.out, HXZ.out]; rfl, below2 S5.out.bel (by omega) _ _⟩
      · have hm1 : (z.key == 9223372036854775807) = false := by simpa using hmx
        have hw : IntKind.i64.wrap (z.key + 1) = z.key + 1 := IntWalk.i64_in _ (by omega)
        have HLT : Hid (sideN (lvs Rs) (fun q => decide (z.key + 1 ≤ q)) < g) := by
          show _ < _
          rw [hg.out]
          have h3 := of_decide_eq_true (HBE.out.mem x' rfl).1
          have h4 := HZ2.out
          exact side_lt (fun q hq => decide_eq_true (by have := of_decide_eq_true hq; omega)) hl hxl (decide_eq_true h3) (decide_eq_false (by omega))
        have S6 := Lib.hid (S5.out.key (z.key + 1))
        have HO6 : Hid (nxO (lvs Rs) (z.key + 1) = O) := HSK
        clear hkb hkx hl hxl hmx
        go_wp2_with fail
        go_step3
        refine ⟨rfl, HKK.out _ _ _ HLT.out ⟨gu, _, _, _, _, _, _, _, _, _, _, _, _, _, _, _, _, _, _, _, _, _, _, _, _, _, _, _, _, _, _, _, _, _, _, _, _, _, _, _, _, _, _, _, _, _, _, rfl, S6, HO6, rfl, hM, hX0⟩⟩
def LastI (w : World) (B : Option Addr) (Rs : List Rm) (k : Nat) (c : Cfg) (n key : Int) (O : Option Ent) (g : Nat) (a : Act) (wr : World) : Prop :=
  ∃ (gu : Nat) (cur : Int) (u6 u8 u9 u10 u11 u12 u13 u14 u15 u16 u17 u18 u19 u20 u21 u22 u23 u24 u25 u26 u27 u28 u29 u30 u31 u32 u33 u34 u35 u36 u37 u38 u39 u40 u41 u42 u43 u44 u45 u46 : Value), a = ⟨#[.agg (lrow c B Rs.length k n), .int .i64 key, .pointer (some ⟨w.heap.size, 0, none⟩), .pointer (some ⟨w.heap.size + 1, 0, none⟩), .pointer (some ⟨w.heap.size + 1 + 1, 0, none⟩), .int .i64 0, u6, .pointer (some ⟨gu, 0, none⟩), u8, u9, u10, u11, u12, u13, u14, u15, u16, u17, u18, u19, u20, u21, u22, u23, u24, u25, u26, u27, u28, u29, u30, u31, u32, u33, u34, u35, u36, u37, u38, u39, u40, u41, u42, u43, u44, u45, u46], []⟩ ∧ Hid (NearS w B Rs k c n gu cur wr) ∧ Hid (lsO (lvs Rs) cur = O) ∧ Hid (g = sideN (lvs Rs) (fun q => decide (q < cur))) ∧ Hid (May (lvs Rs)) ∧ Hid (errL c (lvs Rs) = 0)
set_option maxHeartbeats 16000000 in
theorem lastD_any (B : Option Addr) (Rs : List Rm) (k : Nat) (c : Cfg) (n : Int) (key : Int) (w : World) (hB : RunsAt w B Rs) (hT : tot (lvs Rs) ≤ 1000000) (hl : Rs.length ≤ 1000000) (hTb : TabAt 1 Lib.deBruijn64tab w) :
    Calls Tryz.prog 17 #[.agg (lrow c B Rs.length k n), .int .i64 key] w fun r w' => r = .returned (.tuple #[.agg #[.int .i64 (resP (errL c (lvs Rs)) (lsO (lvs Rs) key)).key, .int .i64 (resP (errL c (lvs Rs)) (lsO (lvs Rs) key)).val], .int .i64 (resE (errL c (lvs Rs)) (lsO (lvs Rs) key))]) ∧ Below w.heap.size w w' := by
  obtain ⟨W0, hW0⟩ : ∃ W0, ((w.alloc (.cells #[.int .u8 c.tag, .int .i64 c.most, .int .i64 c.seg, .int .i64 c.least, .int .i64 c.den, .int .i64 c.leafLow, .int .i64 c.rootLow, .int .i64 c.rootHigh, .int .i64 c.leafHigh, .slice B Rs.length k, .int .u64 n] 29)).alloc (.cells #[.int .i64 key] 2)).alloc (.cells #[.int .i64 0, .int .i64 0] 47) = W0 := ⟨_, rfl⟩
  have hb0 : Below w.heap.size w W0 := by rw [← hW0]; exact (((Below.refl _ _).alloc (Nat.le_refl _) _).alloc (by simp) _).alloc (by simp; omega) _
  have b0 : Blk W0 w.heap.size 29 #[.int .u8 c.tag, .int .i64 c.most, .int .i64 c.seg, .int .i64 c.least, .int .i64 c.den, .int .i64 c.leafLow, .int .i64 c.rootLow, .int .i64 c.rootHigh, .int .i64 c.leafHigh, .slice B Rs.length k, .int .u64 n] := by rw [← hW0]; exact ((Blk.new _ _ _).alloc _).alloc _
  have bk0 : Blk W0 (w.heap.size + 1) 2 #[.int .i64 key] := by
    rw [← hW0]
    have := Blk.new (w.alloc (.cells #[.int .u8 c.tag, .int .i64 c.most, .int .i64 c.seg, .int .i64 c.least, .int .i64 c.den, .int .i64 c.leafLow, .int .i64 c.rootLow, .int .i64 c.rootHigh, .int .i64 c.leafHigh, .slice B Rs.length k, .int .u64 n] 29)) 2 #[.int .i64 key]
    rw [World.size_alloc] at this
    exact this.alloc _
  have br0 : Blk W0 (w.heap.size + 1 + 1) 47 #[.int .i64 0, .int .i64 0] := by
    rw [← hW0]
    have := Blk.new ((w.alloc (.cells #[.int .u8 c.tag, .int .i64 c.most, .int .i64 c.seg, .int .i64 c.least, .int .i64 c.den, .int .i64 c.leafLow, .int .i64 c.rootLow, .int .i64 c.rootHigh, .int .i64 c.leafHigh, .slice B Rs.length k, .int .u64 n] 29)).alloc (.cells #[.int .i64 key] 2)) 47 #[.int .i64 0, .int .i64 0]
    rwa [World.size_alloc, World.size_alloc] at this
  have HW0 := Lib.hid hW0
  have HB0 := Lib.hid hb0
  have HC0 := Lib.hid b0
  have HK0 := Lib.hid bk0
  have HR0 := Lib.hid br0
  have HB := Lib.hid hB
  have HT := Lib.hid hTb
  have hck := fun W (hW : Below W0.heap.size W0 W) => checkD_any B Rs k c n W ((hB.below hb0).below hW) hT hl
  obtain ⟨X, hX⟩ : ∃ X, errL c (lvs Rs) = X := ⟨_, rfl⟩
  rw [hX] at hck ⊢
  have HMM := Lib.hid (show X = 0 → May (lvs Rs) from fun h => chkR_zero.1 (errL_zero (hX.trans h)).2.1)
  have HCK := Lib.hid hck
  obtain ⟨O, hO⟩ : ∃ O, lsO (lvs Rs) key = O := ⟨_, rfl⟩
  rw [hO]
  have HO := Lib.hid hO
  skip
  have HXE := Lib.hid hX
  clear hW0 hB hck hX hO hTb
  have q0 : W0.cell? ⟨w.heap.size, 0, none⟩ = some (.int .u8 c.tag) := b0.cell 0
  have q1 : W0.cell? ⟨w.heap.size, 1, none⟩ = some (.int .i64 c.most) := b0.cell 1
  have q2 : W0.cell? ⟨w.heap.size, 2, none⟩ = some (.int .i64 c.seg) := b0.cell 2
  have q3 : W0.cell? ⟨w.heap.size, 3, none⟩ = some (.int .i64 c.least) := b0.cell 3
  have q4 : W0.cell? ⟨w.heap.size, 4, none⟩ = some (.int .i64 c.den) := b0.cell 4
  have q5 : W0.cell? ⟨w.heap.size, 5, none⟩ = some (.int .i64 c.leafLow) := b0.cell 5
  have q6 : W0.cell? ⟨w.heap.size, 6, none⟩ = some (.int .i64 c.rootLow) := b0.cell 6
  have q7 : W0.cell? ⟨w.heap.size, 7, none⟩ = some (.int .i64 c.rootHigh) := b0.cell 7
  have q8 : W0.cell? ⟨w.heap.size, 8, none⟩ = some (.int .i64 c.leafHigh) := b0.cell 8
  have q9 : W0.cell? ⟨w.heap.size, 9, none⟩ = some (.slice B Rs.length k) := b0.cell 9
  have q10 : W0.cell? ⟨w.heap.size, 10, none⟩ = some (.int .u64 n) := b0.cell 10
  clear b0 bk0 br0 hb0
  go_enter Tryz.func17, Tryz.ntmps17
  go_upto_region 1 with fail
  rw [HW0.out]
  refine wp_scope_ghost 0 (LastI w B Rs k c n key O) rfl ?pass ?first
  case first =>
    rintro K hK
    have HKK := Lib.hid hK
    clear hK
    go_wp2_with fail
    refine (HCK.out _ (Below.refl _ _)).mono ?_
    rintro e w1 ⟨rfl, hb1⟩
    have HB1 := Lib.hid (bext HB0.out hb1)
    have HC1 := Lib.hid (HC0.out.below hb1 HC0.out.lt)
    have HK1 := Lib.hid (HK0.out.below hb1 HK0.out.lt)
    have br1 := HR0.out.below hb1 HR0.out.lt
    have HR1 := Lib.hid br1
    have r0 : w1.cell? ⟨w.heap.size + 1 + 1, 0, none⟩ = some (.int .i64 0) := br1.cell 0
    have r1 : w1.cell? ⟨w.heap.size + 1 + 1, 1, none⟩ = some (.int .i64 0) := br1.cell 1
    have fr0 := br1.frozen 0
    have fr1 := br1.frozen 1
    clear hb1 br1 q0 q1 q2 q3 q4 q5 q6 q7 q8 q9 q10
    by_cases h0 : X = 0
    case neg =>
      have h1 : (X != 0) = true := by simpa using h0
      have HV : Hid (resE X O = X ∧ resP X O = ⟨0, 0⟩) := ⟨by unfold resE; rw [if_neg h0], by unfold resP; rw [if_neg h0]⟩
      clear h0
      go_wp2_with fail
      simp only [Exit.jump]
      have bz := box2 HR1.out (.int .i64 0) (.int .i64 0)
      have z0 := bz.cell 0
      have z1 := bz.cell 1
      simp only [List.getElem?_toArray, List.getElem?_cons_zero, List.getElem?_cons_succ] at z0 z1
      refine bodyPost_ret (v := .tuple #[.agg #[.int .i64 0, .int .i64 0], .int .i64 X]) (by simp [results, Tryz.results17, go_sem, z0, z1]) rfl ?_
      exact ⟨by rw [HV.out.1, HV.out.2], below2 HB1.out (by omega) _ _⟩
    case pos =>
    have HM := Lib.hid (HMM.out h0)
    have HX0 : Hid (errL c (lvs Rs) = 0) := HXE.out.trans h0
    subst h0
    have bc1 := HC1.out
    have q0 : w1.cell? ⟨w.heap.size, 0, none⟩ = some (.int .u8 c.tag) := bc1.cell 0
    have q1 : w1.cell? ⟨w.heap.size, 1, none⟩ = some (.int .i64 c.most) := bc1.cell 1
    have q2 : w1.cell? ⟨w.heap.size, 2, none⟩ = some (.int .i64 c.seg) := bc1.cell 2
    have q3 : w1.cell? ⟨w.heap.size, 3, none⟩ = some (.int .i64 c.least) := bc1.cell 3
    have q4 : w1.cell? ⟨w.heap.size, 4, none⟩ = some (.int .i64 c.den) := bc1.cell 4
    have q5 : w1.cell? ⟨w.heap.size, 5, none⟩ = some (.int .i64 c.leafLow) := bc1.cell 5
    have q6 : w1.cell? ⟨w.heap.size, 6, none⟩ = some (.int .i64 c.rootLow) := bc1.cell 6
    have q7 : w1.cell? ⟨w.heap.size, 7, none⟩ = some (.int .i64 c.rootHigh) := bc1.cell 7
    have q8 : w1.cell? ⟨w.heap.size, 8, none⟩ = some (.int .i64 c.leafHigh) := bc1.cell 8
    have q9 : w1.cell? ⟨w.heap.size, 9, none⟩ = some (.slice B Rs.length k) := bc1.cell 9
    have q10 : w1.cell? ⟨w.heap.size, 10, none⟩ = some (.int .u64 n) := bc1.cell 10
    have lq := bc1.lt
    clear bc1 r0 r1 fr0 fr1
    go_wp2_with fail
    obtain ⟨U, hU⟩ : ∃ U, w1.alloc (.cells (lrow c B Rs.length k n) 89) = U := ⟨_, rfl⟩
    have hau : Below w1.heap.size w1 U := by rw [← hU]; exact (Below.refl _ _).alloc (Nat.le_refl _) _
    have bu : Blk U w1.heap.size 89 (lrow c B Rs.length k n) := by rw [← hU]; exact Blk.new _ _ _
    have hU' : w1.alloc (.cells #[.int .u8 c.tag, .int .i64 c.most, .int .i64 c.seg, .int .i64 c.least, .int .i64 c.den, .int .i64 c.leafLow, .int .i64 c.rootLow, .int .i64 c.rootHigh, .int .i64 c.leafHigh, .slice B Rs.length k, .int .u64 n] 89) = U := hU
    try rw [hU']
    have HNS : Hid (NearS w B Rs k c n w1.heap.size key U) := ⟨bext HB1.out hau, HC1.out.below hau HC1.out.lt, HK1.out.below hau HK1.out.lt, HR1.out.below hau HR1.out.lt, bu⟩
    clear hU hU' hau bu q0 q1 q2 q3 q4 q5 q6 q7 q8 q9 q10 lq
    go_step3
    rename_i hk
    exact hk _ _ (HKK.out _ _ _ ⟨w1.heap.size, key, _, _, _, _, _, _, _, _, _, _, _, _, _, _, _, _, _, _, _, _, _, _, _, _, _, _, _, _, _, _, _, _, _, _, _, _, _, _, _, _, rfl, HNS, HO, rfl, HM, HX0⟩)
  case pass =>
    rintro g a' wr ⟨gu, cur, u6, u8, u9, u10, u11, u12, u13, u14, u15, u16, u17, u18, u19, u20, u21, u22, u23, u24, u25, u26, u27, u28, u29, u30, u31, u32, u33, u34, u35, u36, u37, u38, u39, u40, u41, u42, u43, u44, u45, u46, rfl, hS, hO2, hg, hM, hX0⟩ K hK
    have HKK := Lib.hid hK
    have HXZ : Hid (X = 0) := HXE.out.symm.trans hX0.out
    clear hK
    have hbs := fun (h : Blk wr (w.heap.size + 1) 2 #[.int .i64 cur]) => besideLast_any B Rs k gu (w.heap.size + 1) c n cur wr (HB.out.below hS.out.bel) hM.out hS.out.bu (h.cell 0) (tab_below2 HT.out hS.out.bel)
    have HBS := Lib.hid (hbs hS.out.bk)
    clear hbs HW0 HB0 HC0 HK0 HR0 HCK HMM q0 q1 q2 q3 q4 q5 q6 q7 q8 q9 q10 hT
    go_wp2_with fail
    refine HBS.out.mono ?_
    rintro e w2 ⟨o, rfl, hbest, hb2⟩
    have S2 := Lib.hid (hS.out.below hb2)
    have HBE := Lib.hid hbest
    clear hbest hb2 HBS
    go_upto_region 6 with fail
    obtain ⟨x, hx⟩ : ∃ x, o.getD zeroE = x := ⟨_, rfl⟩
    rw [hx]
    obtain ⟨W3, hW3⟩ : ∃ W, w2.alloc (.cells #[.int .i64 x.key, .int .i64 x.val, .bool x.dead] 71) = W := ⟨_, rfl⟩
    have ha3 : Below w2.heap.size w2 W3 := by rw [← hW3]; exact (Below.refl _ _).alloc (Nat.le_refl _) _
    have b3 : Blk W3 w2.heap.size 71 #[.int .i64 x.key, .int .i64 x.val, .bool x.dead] := by rw [← hW3]; exact Blk.new _ _ _
    try rw [hW3]
    have HA3 := Lib.hid ha3
    have HX3 := Lib.hid b3
    have S3 := Lib.hid (S2.out.below ha3)
    have br := S3.out.br
    have r0 : W3.cell? ⟨w.heap.size + 1 + 1, 0, none⟩ = some (.int .i64 0) := br.cell 0
    have r1 : W3.cell? ⟨w.heap.size + 1 + 1, 1, none⟩ = some (.int .i64 0) := br.cell 1
    have fr0 := br.frozen 0
    have fr1 := br.frozen 1
    clear hW3 ha3 b3 br
    cases o with
    | none =>
      have HV : Hid (O = none) := by show _ = _; rw [← hO2.out]; exact ls_none hM.out HBE.out
      have hz : isE none = 6 := rfl
      go_wp2_with fail
      simp only [Exit.jump]
      have bz := box2 S3.out.br (.int .i64 0) (.int .i64 0)
      have z0 := bz.cell 0
      have z1 := bz.cell 1
      simp only [List.getElem?_toArray, List.getElem?_cons_zero, List.getElem?_cons_succ] at z0 z1
      refine bodyPost_ret (v := .tuple #[.agg #[.int .i64 0, .int .i64 0], .int .i64 6]) (by simp [results, Tryz.results17, go_sem, z0, z1, isE_none]) rfl ?_
      exact ⟨by rw [HV.out, HXZ.out]; rfl, below2 S3.out.bel (by omega) _ _⟩
    | some x' =>
    obtain rfl : x' = x := hx
    have hz : isE (some x') = 0 := rfl
    obtain ⟨z, hz1, hz2⟩ : ∃ z, newest (lvs Rs) x'.key = some z ∧ z.key = x'.key := by
      obtain ⟨l, hl, hxl⟩ := (HBE.out.mem x' rfl).2
      exact newest_of hl hxl
    have HZ1 := Lib.hid hz1
    have HZ2 := Lib.hid hz2
    have hfd := findL_any B Rs k x'.key W3 (HB.out.below S3.out.bel) hM.out (tab_below2 HT.out S3.out.bel) hz1
    have HFD := Lib.hid hfd
    have x0 : W3.cell? ⟨w2.heap.size, 0, none⟩ = some (.int .i64 x'.key) := HX3.out.cell 0
    have m9 : W3.cell? ⟨w.heap.size, 9, none⟩ = some (.slice B Rs.length k) := S3.out.bm.cell 9
    clear hfd hz1 hz2 r0 r1 fr0 fr1
    go_wp2_with fail
    refine HFD.out.mono ?_
    rintro e w4 ⟨rfl, hb4⟩
    have HB4 := Lib.hid (bext HA3.out hb4)
    have b4 := HX3.out.below hb4 HX3.out.lt
    have HX4 := Lib.hid b4
    have x0' : w4.cell? ⟨w2.heap.size, 0, none⟩ = some (.int .i64 x'.key) := b4.cell 0
    have x1' : w4.cell? ⟨w2.heap.size, 1, none⟩ = some (.int .i64 x'.val) := b4.cell 1
    have x2' : w4.cell? ⟨w2.heap.size, 2, none⟩ = some (.bool x'.dead) := b4.cell 2
    have fx0 := b4.frozen 0
    have fx1 := b4.frozen 1
    have fx2 := b4.frozen 2
    clear b4 hb4 x0 m9 hz
    go_upto_region 9 with fail
    obtain ⟨W5, hW5⟩ : ∃ W, ((w4.setCell ⟨w2.heap.size, 0, none⟩ (.int .i64 z.key)).setCell ⟨w2.heap.size, 1, none⟩ (.int .i64 z.val)).setCell ⟨w2.heap.size, 2, none⟩ (.bool z.dead) = W := ⟨_, rfl⟩
    rw [hW5]
    have b5 : Blk W5 w2.heap.size 71 #[.int .i64 z.key, .int .i64 z.val, .bool z.dead] := by rw [← hW5]; exact put3 HX4.out _ _ _
    have hb5 : Below w2.heap.size w2 W5 := by rw [← hW5]; exact below3 HB4.out (Nat.le_refl _) _ _ _
    have S5 := Lib.hid (S2.out.below hb5)
    obtain ⟨g8, hg8⟩ : ∃ g, w2.heap.size = g := ⟨_, rfl⟩
    rw [hg8] at b5
    try rw [hg8]
    have c0 : W5.cell? ⟨g8, 0, none⟩ = some (.int .i64 z.key) := b5.cell 0
    have c1 : W5.cell? ⟨g8, 1, none⟩ = some (.int .i64 z.val) := b5.cell 1
    have c2 : W5.cell? ⟨g8, 2, none⟩ = some (.bool z.dead) := b5.cell 2
    have br := S5.out.br
    have r0 : W5.cell? ⟨w.heap.size + 1 + 1, 0, none⟩ = some (.int .i64 0) := br.cell 0
    have r1 : W5.cell? ⟨w.heap.size + 1 + 1, 1, none⟩ = some (.int .i64 0) := br.cell 1
    have fr0 := br.frozen 0
    have fr1 := br.frozen 1
    have bk := S5.out.bk
    have k0 : W5.cell? ⟨w.heap.size + 1, 0, none⟩ = some (.int .i64 cur) := bk.cell 0
    have fk0 := bk.frozen 0
    clear hW5 b5 hb5 hg8 br bk x0' x1' x2' fx0 fx1 fx2
    cases hd : z.dead with
    | false =>
      have HV : Hid (O = some z) := by show _ = _; rw [← hO2.out]; exact ls_some hM.out HBE.out HZ1.out hd
      go_wp2_with fail
      simp only [Exit.jump]
      have bz := box2 S5.out.br (.int .i64 z.key) (.int .i64 z.val)
      have z0 := bz.cell 0
      have z1 := bz.cell 1
      simp only [List.getElem?_toArray, List.getElem?_cons_zero, List.getElem?_cons_succ] at z0 z1
      refine bodyPost_ret (v := .tuple #[.agg #[.int .i64 z.key, .int .i64 z.val], .int .i64 0]) (by simp [results, Tryz.results17, go_sem, z0, z1, isE_some]) rfl ?_
      exact ⟨by rw [HV.out, HXZ.out]; rfl, below2 S5.out.bel (by omega) _ _⟩
    | true =>
      obtain ⟨l, hl, hxl⟩ := (HBE.out.mem x' rfl).2
      have HO6 : Hid (lsO (lvs Rs) z.key = O) := by show _ = _; rw [← hO2.out, HZ2.out]; exact (ls_skip hM.out HBE.out HZ1.out hd).symm
      have HLT : Hid (sideN (lvs Rs) (fun q => decide (q < z.key)) < g) := by
        show _ < _
        rw [hg.out]
        have h3 := of_decide_eq_true (HBE.out.mem x' rfl).1
        have h4 := HZ2.out
        exact side_lt (fun q hq => decide_eq_true (by have := of_decide_eq_true hq; omega)) hl hxl (decide_eq_true h3) (decide_eq_false (by omega))
      have S6 := Lib.hid (S5.out.key z.key)
      clear hl hxl
      go_wp2_with fail
      go_step3
      refine ⟨rfl, HKK.out _ _ _ HLT.out ⟨gu, _, _, _, _, _, _, _, _, _, _, _, _, _, _, _, _, _, _, _, _, _, _, _, _, _, _, _, _, _, _, _, _, _, _, _, _, _, _, _, _, _, rfl, S6, HO6, rfl, hM, hX0⟩⟩
end Go.Proofs.YthbppblmecdekaaGreatDoor

/- Plain: whether a key is among pairs. No program in sight. -/
namespace Go.Proofs.YthbppblmecdekaaGreatDoor
open Go
theorem len_sub : ∀ {a b : List Int}, a.Nodup → (∀ x ∈ a, x ∈ b) → a.length ≤ b.length
  | [], _, _, _ => Nat.zero_le _
  | x :: a, b, hn, h => by
    have hx := h x List.mem_cons_self
    have h2 := List.nodup_cons.1 hn
    have h3 := len_sub (a := a) (b := b.erase x) h2.2 fun y hy => (List.mem_erase_of_ne (fun e => h2.1 (by rw [← e]; exact hy))).2 (h y (List.mem_cons_of_mem _ hy))
    rw [List.length_erase_of_mem hx] at h3
    have h4 := List.length_pos_of_mem hx
    simp only [List.length_cons]
    omega
theorem key_in {L : Lv} (hM : May L) (k : Int) : k ∈ (allL L).map Ent.key ↔ isB L k = true := by
  have hl := allL_look hM.mE k
  rw [lv_is (chkR_zero.2 hM)] at hl
  constructor
  · intro hm
    obtain ⟨e, he, hk⟩ := List.mem_map.1 hm
    have h5 := look_mem (allL_ris hM) he
    rw [hk, hl] at h5
    by_cases hb : isB L k = true
    · exact hb
    · rw [if_neg hb] at h5; cases h5
  · intro hb
    rw [if_pos hb] at hl
    obtain ⟨h5, h6⟩ := look_key hl
    exact List.mem_map.2 ⟨_, h6, h5⟩
end Go.Proofs.YthbppblmecdekaaGreatDoor

/- Plain facts for the law LadderNear. No program in sight. -/
namespace Go.Proofs.YthbppblmecdekaaGreatDoor
open Go
def toP (e : Ent) : Pr := ⟨e.key, e.val⟩
theorem prR_map {L : Lv} (h : chkR L = 0) : prR L = (allL L).map toP := by
  unfold prR plainE
  rw [if_pos h]
  have : liveE (allL L) = allL L := by unfold allL; exact live_live _
  rw [this]
  rfl
theorem nx_at {L : Lv} (hM : May L) {key : Int} {n : Nat} (hn : n ≤ (allL L).length) (h1 : ∀ j (h : j < (allL L).length), j < n → ((allL L)[j]'h).key < key) (h2 : ∀ h : n < (allL L).length, ¬ ((allL L)[n]'h).key < key) :
    nxO L key = (allL L)[n]? ∧ lsO L key = if n = 0 then none else (allL L)[n - 1]? := by
  have hr := allL_ris hM
  unfold nxO lsO
  generalize allL L = Q at *
  have hlt : ∀ e ∈ Q.take n, e.key < key := fun e he => by
    obtain ⟨i, hi, rfl⟩ := List.getElem_of_mem he
    rw [List.length_take] at hi
    rw [List.getElem_take]
    exact h1 i (by omega) (by omega)
  have hge : ∀ e ∈ Q.drop n, ¬ e.key < key := fun e he => by
    obtain ⟨i, hi, rfl⟩ := List.getElem_of_mem he
    rw [List.length_drop] at hi
    rw [List.getElem_drop]
    have h0 := h2 (by omega)
    by_cases h9 : i = 0
    · subst h9; exact h0
    · have := List.pairwise_iff_getElem.1 hr n (n + i) (by omega) (by omega) (by omega)
      omega
  have hQ : Q = Q.take n ++ Q.drop n := (List.take_append_drop n Q).symm
  have hR : Q.reverse = (Q.drop n).reverse ++ (Q.take n).reverse := by rw [← List.reverse_append, List.take_append_drop]
  constructor
  · rw [show Q.find? (fun e => decide (key ≤ e.key)) = (Q.take n ++ Q.drop n).find? (fun e => decide (key ≤ e.key)) from by rw [← hQ], List.find?_append]
    rw [List.find?_eq_none.2 (fun e he => by have := hlt e he; simp; omega), Option.none_or]
    by_cases hl : n < Q.length
    · rw [List.drop_eq_getElem_cons hl, List.find?_cons_of_pos (by have := h2 hl; simp; omega), List.getElem?_eq_getElem hl]
    · rw [List.drop_eq_nil_of_le (by omega), List.getElem?_eq_none (by omega)]
      rfl
  · rw [hR, List.find?_append]
    rw [List.find?_eq_none.2 (fun e he => by have := hge e (List.mem_reverse.1 he); simp; omega), Option.none_or]
    by_cases hz : n = 0
    · subst hz; simp
    · rw [if_neg hz]
      have hl : n - 1 < Q.length := by omega
      have ht : Q.take n = Q.take (n - 1) ++ [Q[n - 1]'hl] := by
        have h7 := List.take_append_getElem hl
        rw [show n - 1 + 1 = n from by omega] at h7
        exact h7.symm
      rw [ht, List.reverse_append, List.reverse_singleton, List.singleton_append, List.find?_cons_of_pos (by have := h1 (n - 1) hl (by omega); simpa using this), List.getElem?_eq_getElem hl]
structure NearOk (P : List Pr) (n : Nat) (o l : Option Ent) : Prop where
  nx : ∀ h : n < P.length, isE o = 0 ∧ toP (o.getD zeroE) = P[n]'h
  nn : ¬ n < P.length → isE o = 6
  ls : ∀ (h : n - 1 < P.length), 0 < n → isE l = 0 ∧ toP (l.getD zeroE) = P[n - 1]'h
  ln : ¬ 0 < n → isE l = 6
theorem near_ok {c : Cfg} {L : Lv} (he : errL c L = 0) {key : Int} {n : Nat} (hn : n ≤ (prD c L).length) (h1 : ∀ j (h : j < (prD c L).length), j < n → ((prD c L)[j]'h).key < key) (h2 : ∀ h : n < (prD c L).length, ¬ ((prD c L)[n]'h).key < key) :
    NearOk (prD c L) n (nxO L key) (lsO L key) := by
  have hR := (errL_zero he).2.1
  have hP : prD c L = (allL L).map toP := by unfold prD; rw [if_pos he, prR_map hR]
  generalize prD c L = P at *
  subst hP
  rw [List.length_map] at hn
  obtain ⟨g1, g2⟩ := nx_at (chkR_zero.1 hR) (key := key) hn (fun j h hj => by have := h1 j (by simpa using h) hj; simpa [toP] using this) (fun h => by have := h2 (by simpa using h); simpa [toP] using this)
  rw [g1, g2]
  refine ⟨fun h => ?_, fun h => ?_, fun h h0 => ?_, fun h => ?_⟩
  · rw [List.length_map] at h
    rw [List.getElem?_eq_getElem h]
    exact ⟨rfl, by simp⟩
  · rw [List.length_map] at h
    rw [List.getElem?_eq_none (by omega)]
    rfl
  · rw [List.length_map] at h
    rw [if_neg (by omega), List.getElem?_eq_getElem h]
    exact ⟨rfl, by simp⟩
  · rw [if_pos (by omega)]
    rfl
end Go.Proofs.YthbppblmecdekaaGreatDoor
