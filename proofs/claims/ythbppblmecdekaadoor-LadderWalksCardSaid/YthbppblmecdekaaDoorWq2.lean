/- Dq: texts of the claim, in this order. -/
import Derived.Test.YthbppblmecdekaaDoorWb23
import Derived.Test.YthbppblmecdekaaDoorWq1
import Derived.BigQuiet
/- The law LadderWalks: for every config and keys it returns true; its arguments stay as they were. -/
namespace Go.Proofs.YthbppblmecdekaaDoor
open Go Go.RowKit
set_option maxRecDepth 100000
/-- what stands in memory behind j updates -/
structure WalkI (w : World) (g : Nat) (c : Cfg) (j M : Nat) (B : Option Addr) (k : Nat) (Rs : List Rm) (n : Int) (wr : World) : Prop where
  bel : Below w.heap.size w wr
  bm : Blk wr g 65 (lrow c B Rs.length k n)
  own : OwnRs wr w.heap.size B k Rs
  paid : Paid j M (lvs Rs) n
theorem paid_put {j M : Nat} {L : Lv} {n e0 : Int} {y : Ent} (h : Paid j M L n) (hj : j ≤ 1000) (h0 : upE e0 L y = 0) : Paid (j + 1) (max M (allL (upL e0 L n y)).length) (upL e0 L n y) (upN e0 L n y) := by
  obtain ⟨h1, h2, h3⟩ := upE_zero h0 n
  rw [h2, h3]
  exact h.add hj h1
theorem paid_count {j M : Nat} {L : Lv} {n : Int} (h : Paid j M L n) : chkR L = 0 ∧ (prR L).length = (allL L).length := by
  have h1 := chkR_zero.2 h.may
  exact ⟨h1, prR_len h1⟩
theorem ld_zero {c c1 : Cfg} {e : Int} (h : ldC c e = c1) (h0 : e = 0) : c1 = c := by rw [← h, h0]; rfl
theorem may_le {L : Lv} {Rs : List Rm} (hl : lvs Rs = L) (h : May L) : tot (lvs Rs) ≤ 1000000 ∧ Rs.length ≤ 1000000 := by
  subst hl
  have h1 := h.size
  have h2 := h.len
  rw [lvs_len] at h2
  exact ⟨by omega, by omega⟩
set_option maxHeartbeats 16000000 in
theorem ladderWalks_any (c : Cfg) (A : Option Addr) (l : List Int) (q : Nat) (w : World) (hA : Sl w A (l.map i8V)) (hTb : TabAt 1 Lib.deBruijn64tab w) :
    Calls Tryd.prog 9 #[.agg c.row, .slice A l.length q] w fun r w' => r = .returned (.bool true) ∧ Below w.heap.size w w' := by
  have HA0 := Lib.hid hA
  have HT0 := Lib.hid hTb
  clear hA hTb
  go_enter Tryd.func9, Tryd.ntmps9
  have HF := Lib.hid (Below.refl w.heap.size w)
  have HY1 := Lib.hid (HT0.out)
  go_upto_region 1 with fail
  obtain ⟨U2, h4⟩ : ∃ U, w.alloc (.cells #[.int .u8 c.tag, .int .i64 c.most, .int .i64 c.seg, .int .i64 c.least, .int .i64 c.den, .int .i64 c.leafLow, .int .i64 c.rootLow, .int .i64 c.rootHigh, .int .i64 c.leafHigh] 63) = U := ⟨_, rfl⟩
  have ba5 : Below w.heap.size w U2 := by rw [← h4]; exact (Below.refl _ _).alloc (Nat.le_refl _) _
  have bn6 : Blk U2 w.heap.size 63 #[.int .u8 c.tag, .int .i64 c.most, .int .i64 c.seg, .int .i64 c.least, .int .i64 c.den, .int .i64 c.leafLow, .int .i64 c.rootLow, .int .i64 c.rootHigh, .int .i64 c.leafHigh] := by rw [← h4]; exact Blk.new _ _ _
  try rw [h4]
  have HF7 := Lib.hid (bext HF.out ba5)
  have HY8 := Lib.hid (tab_below2 HY1.out ba5)
  clear HF HY1
  obtain ⟨g3, h9⟩ : ∃ g, w.heap.size = g := ⟨_, rfl⟩
  rw [h9] at bn6
  try rw [h9]
  have HX10 := Lib.hid bn6
  clear h4 ba5 bn6 h9
  go_wp2_with fail
  refine (alive27_any _ HY8.out).mono ?_
  rintro e w11 ⟨rfl, hb12⟩
  have HF13 := Lib.hid (bext HF7.out hb12)
  have HX14 := Lib.hid (HX10.out.below hb12 HX10.out.lt)
  have HY15 := Lib.hid (tab_below2 HY8.out hb12)
  clear HF7 HX10 HY8
  clear hb12
  have hce := newD_any c w11
  obtain ⟨e, he⟩ : ∃ e, errC c = e := ⟨_, rfl⟩
  obtain ⟨c0, hc0⟩ : ∃ x, ldC c e = x := ⟨_, rfl⟩
  rw [he, hc0] at hce
  have HCE := Lib.hid hce
  have HC0 := Lib.hid hc0
  clear hce he hc0
  have c16 : w11.cell? ⟨g3, 0, none⟩ = some (.int .u8 c.tag) := HX14.out.cell 0
  have c17 : w11.cell? ⟨g3, 1, none⟩ = some (.int .i64 c.most) := HX14.out.cell 1
  have c18 : w11.cell? ⟨g3, 2, none⟩ = some (.int .i64 c.seg) := HX14.out.cell 2
  have c19 : w11.cell? ⟨g3, 3, none⟩ = some (.int .i64 c.least) := HX14.out.cell 3
  have c20 : w11.cell? ⟨g3, 4, none⟩ = some (.int .i64 c.den) := HX14.out.cell 4
  have c21 : w11.cell? ⟨g3, 5, none⟩ = some (.int .i64 c.leafLow) := HX14.out.cell 5
  have c22 : w11.cell? ⟨g3, 6, none⟩ = some (.int .i64 c.rootLow) := HX14.out.cell 6
  have c23 : w11.cell? ⟨g3, 7, none⟩ = some (.int .i64 c.rootHigh) := HX14.out.cell 7
  have c24 : w11.cell? ⟨g3, 8, none⟩ = some (.int .i64 c.leafHigh) := HX14.out.cell 8
  have l25 : g3 < w11.heap.size := HX14.out.lt
  go_wp2_with fail
  clear c16 c17 c18 c19 c20 c21 c22 c23 c24 l25
  refine (HCE.out).mono ?_
  rintro e w26 ⟨B0, k0, R0, rfl, hl0, ho0, hb27⟩
  have hn0 : R0.length = 0 := by rw [rs_len hl0]; rfl
  rw [hn0]
  have HO0 := Lib.hid (ho0.mono HF13.out.size)
  have HL0 := Lib.hid hl0
  have HN0 := Lib.hid hn0
  clear ho0 hl0 hn0 HCE
  have HF28 := Lib.hid (bext HF13.out hb27)
  have HX29 := Lib.hid (HX14.out.below hb27 HX14.out.lt)
  have HY30 := Lib.hid (tab_below2 HY15.out hb27)
  clear HF13 HX14 HY15
  clear hb27
  have HY31 := Lib.hid (HO0.out)
  clear HO0
  have HSZ := Lib.hid HF28.out.size
  go_upto_region 3 with fail
  obtain ⟨U32, h34⟩ : ∃ U, w26.alloc (.cells #[.int .u8 c0.tag, .int .i64 c0.most, .int .i64 c0.seg, .int .i64 c0.least, .int .i64 c0.den, .int .i64 c0.leafLow, .int .i64 c0.rootLow, .int .i64 c0.rootHigh, .int .i64 c0.leafHigh, .slice B0 0 k0, .int .u64 0] 65) = U := ⟨_, rfl⟩
  have ba35 : Below w26.heap.size w26 U32 := by rw [← h34]; exact (Below.refl _ _).alloc (Nat.le_refl _) _
  have bn36 : Blk U32 w26.heap.size 65 #[.int .u8 c0.tag, .int .i64 c0.most, .int .i64 c0.seg, .int .i64 c0.least, .int .i64 c0.den, .int .i64 c0.leafLow, .int .i64 c0.rootLow, .int .i64 c0.rootHigh, .int .i64 c0.leafHigh, .slice B0 0 k0, .int .u64 0] := by rw [← h34]; exact Blk.new _ _ _
  try rw [h34]
  have HF37 := Lib.hid (bext HF28.out ba35)
  have HX38 := Lib.hid (HX29.out.below ba35 HX29.out.lt)
  have HY39 := Lib.hid (tab_below2 HY30.out ba35)
  have HY40 := Lib.hid (OwnRs.below HY31.out ba35)
  clear HF28 HX29 HY30 HY31
  obtain ⟨g33, h41⟩ : ∃ g, w26.heap.size = g := ⟨_, rfl⟩
  rw [h41] at bn36
  try rw [h41]
  have HX42 := Lib.hid bn36
  have HGS : Hid (w.heap.size ≤ g33) := by show _ ≤ _; rw [← h41]; exact HSZ.out
  clear h34 ba35 bn36 h41
  clear HSZ
  have HPZ := Lib.hid (paid_zero (chkR_zero.1 (show chkR [] = 0 by decide)))
  by_cases hE0 : e = 0
  case neg =>
    have h1 : (e != 0) = true := by simpa using hE0
    go_wp2_with fail
    go_ret
    exact ⟨rfl, HF37.out⟩
  case pos =>
  have hcc := ld_zero HC0.out hE0
  clear HC0
  subst hE0
  subst hcc
  by_cases hlen : l.length ≤ 150
  case neg =>
    have i1 : (150 : Int) < (l.length : Int) := by omega
    go_wp2_with fail
    go_ret
    exact ⟨rfl, HF37.out⟩
  case pos =>
  have i1 : ¬ (150 : Int) < (l.length : Int) := by omega
  go_wp2_with fail
  go_loopw [8, 9] (fun x i wr => ∃ (j M : Nat) (B1 : Option Addr) (k1 : Nat) (R1 : List Rm) (n1 : Int), j ≤ l.length ∧ i = .int .i64 j ∧ x = .int .i64 M ∧ Hid (WalkI w g33 c0 j M B1 k1 R1 n1 wr)) (fun _ i _ => l.length - (intOf i).toNat)
  case atStart => exact ⟨0, 0, B0, k0, R0, 0, Nat.zero_le _, rfl, rfl, HF37.out, by rw [HN0.out]; exact HX42.out, HY40.out, by rw [HL0.out]; exact HPZ.out⟩
  case round =>
  obtain ⟨j, M, B1, k1, R1, n1, hj, rfl, rfl, hI⟩ := hrel
  clear HPZ
  by_cases hlt : j < l.length
  case neg =>
    have hjl : j = l.length := by omega
    have i2 : ¬ (j : Int) < (l.length : Int) := by omega
    have HPE := Lib.hid hI.out.paid
    have hlim := hI.out.paid.lim
    have hpos := hI.out.paid.pos
    have bm := hI.out.bm
    have q0 : wr.cell? ⟨g33, 0, none⟩ = some (.int .u8 c0.tag) := bm.cell 0
    have q1 : wr.cell? ⟨g33, 1, none⟩ = some (.int .i64 c0.most) := bm.cell 1
    have q2 : wr.cell? ⟨g33, 2, none⟩ = some (.int .i64 c0.seg) := bm.cell 2
    have q3 : wr.cell? ⟨g33, 3, none⟩ = some (.int .i64 c0.least) := bm.cell 3
    have q4 : wr.cell? ⟨g33, 4, none⟩ = some (.int .i64 c0.den) := bm.cell 4
    have q5 : wr.cell? ⟨g33, 5, none⟩ = some (.int .i64 c0.leafLow) := bm.cell 5
    have q6 : wr.cell? ⟨g33, 6, none⟩ = some (.int .i64 c0.rootLow) := bm.cell 6
    have q7 : wr.cell? ⟨g33, 7, none⟩ = some (.int .i64 c0.rootHigh) := bm.cell 7
    have q8 : wr.cell? ⟨g33, 8, none⟩ = some (.int .i64 c0.leafHigh) := bm.cell 8
    have q9 : wr.cell? ⟨g33, 9, none⟩ = some (.slice B1 R1.length k1) := bm.cell 9
    have q10 : wr.cell? ⟨g33, 10, none⟩ = some (.int .u64 n1) := bm.cell 10
    have lg := bm.lt
    clear bm
    have wM : IntKind.i64.wrap ((M : Int) + 2) = (M : Int) + 2 := IntWalk.i64_in _ (by omega)
    go_wp2_with fail
    go_loopw [16] (fun b wq => ∃ z : Nat, z ≤ 20 ∧ b = .int .i64 z ∧ wq = wr) (fun b _ => 20 - (intOf b).toNat)
    case atStart => exact ⟨0, by omega, rfl, rfl⟩
    case round =>
    obtain ⟨z, hz, rfl, hwq⟩ := hrel
    have hwq2 := hwq.symm
    subst hwq2
    have HB9 := Lib.hid hI.out.bel
    have HEND : Hid (¬ (wrap64 ((2 : Int) ^ z) < (M : Int) + 2 ∧ (z : Int) < 20) → decide (n1 ≤ IntKind.u64.wrap (wrap64 (12 * ((z : Int) + 2) * ((l.length : Int) + 1)))) = true) := by
      show _ → _
      intro hno
      have h9 := HPE.out.walks (by omega) hz hno
      rw [hjl] at h9
      exact h9
    clear hlim hpos HPE
    obtain ⟨V, hV⟩ : ∃ V, (decide (2 ^ z < M + 2) && decide (z < 20)) = V := ⟨_, rfl⟩
    have HEV : Hid (V = false → decide (n1 ≤ IntKind.u64.wrap (wrap64 (12 * ((z : Int) + 2) * ((l.length : Int) + 1)))) = true) := by
      show _ → _
      intro hv
      rw [hv] at hV
      exact HEND.out (bits_no hz hV)
    have HVZ : Hid (V = true → z < 20) := by
      show _ → _
      intro hv
      rw [hv, Bool.and_eq_true] at hV
      exact of_decide_eq_true hV.2
    clear HEND
    go_upto_region 20 with fail
    go_cut [85] from 77 to 85 (fun v wx => v = .bool V ∧ wx = wr)
    case first =>
      obtain ⟨Z, hZ⟩ : ∃ Z : Int, (z : Int) = Z := ⟨_, rfl⟩
      rw [hZ]
      have hZ2 : Z = 0 ∨ Z = 1 ∨ Z = 2 ∨ Z = 3 ∨ Z = 4 ∨ Z = 5 ∨ Z = 6 ∨ Z = 7 ∨ Z = 8 ∨ Z = 9 ∨ Z = 10 ∨ Z = 11 ∨ Z = 12 ∨ Z = 13 ∨ Z = 14 ∨ Z = 15 ∨ Z = 16 ∨ Z = 17 ∨ Z = 18 ∨ Z = 19 ∨ Z = 20 := by omega
      rcases hZ2 with rfl | rfl | rfl | rfl | rfl | rfl | rfl | rfl | rfl | rfl | rfl | rfl | rfl | rfl | rfl | rfl | rfl | rfl | rfl | rfl | rfl
      · have h2 : z = 0 := by omega
        by_cases hp : 1 < M + 2
        · have hv : V = true := by rw [← hV, h2]; first | (simp; done) | (simp; omega)
          have i4 : (1 : Int) < (M : Int) + 2 := by omega
          have HVH := Lib.hid hv
          have HZH := Lib.hid hZ
          clear hV h2 hZ hp hz hv
          go_wp2_with fail
          refine Met.intro ?_
          go_step
          repeat apply Exists.intro
          refine ⟨?rel, by rw [HZH.out]⟩
          case rel => first | exact ⟨by rw [HVH.out], rfl⟩ | rw [HVH.out] | exact ⟨by rw [HVH.out], trivial⟩
        · have hv : V = false := by rw [← hV, h2]; first | (simp; done) | (simp; omega)
          have i4 : ¬ (1 : Int) < (M : Int) + 2 := by omega
          have HVH := Lib.hid hv
          have HZH := Lib.hid hZ
          clear hV h2 hZ hp hz hv
          go_wp2_with fail
          refine Met.intro ?_
          go_step
          repeat apply Exists.intro
          refine ⟨?rel, by rw [HZH.out]⟩
          case rel => first | exact ⟨by rw [HVH.out], rfl⟩ | rw [HVH.out] | exact ⟨by rw [HVH.out], trivial⟩
      · have h2 : z = 1 := by omega
        by_cases hp : 2 < M + 2
        · have hv : V = true := by rw [← hV, h2]; first | (simp; done) | (simp; omega)
          have i4 : (2 : Int) < (M : Int) + 2 := by omega
          have HVH := Lib.hid hv
          have HZH := Lib.hid hZ
          clear hV h2 hZ hp hz hv
          go_wp2_with fail
          refine Met.intro ?_
          go_step
          repeat apply Exists.intro
          refine ⟨?rel, by rw [HZH.out]⟩
          case rel => first | exact ⟨by rw [HVH.out], rfl⟩ | rw [HVH.out] | exact ⟨by rw [HVH.out], trivial⟩
        · have hv : V = false := by rw [← hV, h2]; first | (simp; done) | (simp; omega)
          have i4 : ¬ (2 : Int) < (M : Int) + 2 := by omega
          have HVH := Lib.hid hv
          have HZH := Lib.hid hZ
          clear hV h2 hZ hp hz hv
          go_wp2_with fail
          refine Met.intro ?_
          go_step
          repeat apply Exists.intro
          refine ⟨?rel, by rw [HZH.out]⟩
          case rel => first | exact ⟨by rw [HVH.out], rfl⟩ | rw [HVH.out] | exact ⟨by rw [HVH.out], trivial⟩
      · have h2 : z = 2 := by omega
        by_cases hp : 4 < M + 2
        · have hv : V = true := by rw [← hV, h2]; first | (simp; done) | (simp; omega)
          have i4 : (4 : Int) < (M : Int) + 2 := by omega
          have HVH := Lib.hid hv
          have HZH := Lib.hid hZ
          clear hV h2 hZ hp hz hv
          go_wp2_with fail
          refine Met.intro ?_
          go_step
          repeat apply Exists.intro
          refine ⟨?rel, by rw [HZH.out]⟩
          case rel => first | exact ⟨by rw [HVH.out], rfl⟩ | rw [HVH.out] | exact ⟨by rw [HVH.out], trivial⟩
        · have hv : V = false := by rw [← hV, h2]; first | (simp; done) | (simp; omega)
          have i4 : ¬ (4 : Int) < (M : Int) + 2 := by omega
          have HVH := Lib.hid hv
          have HZH := Lib.hid hZ
          clear hV h2 hZ hp hz hv
          go_wp2_with fail
          refine Met.intro ?_
          go_step
          repeat apply Exists.intro
          refine ⟨?rel, by rw [HZH.out]⟩
          case rel => first | exact ⟨by rw [HVH.out], rfl⟩ | rw [HVH.out] | exact ⟨by rw [HVH.out], trivial⟩
      · have h2 : z = 3 := by omega
        by_cases hp : 8 < M + 2
        · have hv : V = true := by rw [← hV, h2]; first | (simp; done) | (simp; omega)
          have i4 : (8 : Int) < (M : Int) + 2 := by omega
          have HVH := Lib.hid hv
          have HZH := Lib.hid hZ
          clear hV h2 hZ hp hz hv
          go_wp2_with fail
          refine Met.intro ?_
          go_step
          repeat apply Exists.intro
          refine ⟨?rel, by rw [HZH.out]⟩
          case rel => first | exact ⟨by rw [HVH.out], rfl⟩ | rw [HVH.out] | exact ⟨by rw [HVH.out], trivial⟩
        · have hv : V = false := by rw [← hV, h2]; first | (simp; done) | (simp; omega)
          have i4 : ¬ (8 : Int) < (M : Int) + 2 := by omega
          have HVH := Lib.hid hv
          have HZH := Lib.hid hZ
          clear hV h2 hZ hp hz hv
          go_wp2_with fail
          refine Met.intro ?_
          go_step
          repeat apply Exists.intro
          refine ⟨?rel, by rw [HZH.out]⟩
          case rel => first | exact ⟨by rw [HVH.out], rfl⟩ | rw [HVH.out] | exact ⟨by rw [HVH.out], trivial⟩
      · have h2 : z = 4 := by omega
        by_cases hp : 16 < M + 2
        · have hv : V = true := by rw [← hV, h2]; first | (simp; done) | (simp; omega)
          have i4 : (16 : Int) < (M : Int) + 2 := by omega
          have HVH := Lib.hid hv
          have HZH := Lib.hid hZ
          clear hV h2 hZ hp hz hv
          go_wp2_with fail
          refine Met.intro ?_
          go_step
          repeat apply Exists.intro
          refine ⟨?rel, by rw [HZH.out]⟩
          case rel => first | exact ⟨by rw [HVH.out], rfl⟩ | rw [HVH.out] | exact ⟨by rw [HVH.out], trivial⟩
        · have hv : V = false := by rw [← hV, h2]; first | (simp; done) | (simp; omega)
          have i4 : ¬ (16 : Int) < (M : Int) + 2 := by omega
          have HVH := Lib.hid hv
          have HZH := Lib.hid hZ
          clear hV h2 hZ hp hz hv
          go_wp2_with fail
          refine Met.intro ?_
          go_step
          repeat apply Exists.intro
          refine ⟨?rel, by rw [HZH.out]⟩
          case rel => first | exact ⟨by rw [HVH.out], rfl⟩ | rw [HVH.out] | exact ⟨by rw [HVH.out], trivial⟩
      · have h2 : z = 5 := by omega
        by_cases hp : 32 < M + 2
        · have hv : V = true := by rw [← hV, h2]; first | (simp; done) | (simp; omega)
          have i4 : (32 : Int) < (M : Int) + 2 := by omega
          have HVH := Lib.hid hv
          have HZH := Lib.hid hZ
          clear hV h2 hZ hp hz hv
          go_wp2_with fail
          refine Met.intro ?_
          go_step
          repeat apply Exists.intro
          refine ⟨?rel, by rw [HZH.out]⟩
          case rel => first | exact ⟨by rw [HVH.out], rfl⟩ | rw [HVH.out] | exact ⟨by rw [HVH.out], trivial⟩
        · have hv : V = false := by rw [← hV, h2]; first | (simp; done) | (simp; omega)
          have i4 : ¬ (32 : Int) < (M : Int) + 2 := by omega
          have HVH := Lib.hid hv
          have HZH := Lib.hid hZ
          clear hV h2 hZ hp hz hv
          go_wp2_with fail
          refine Met.intro ?_
          go_step
          repeat apply Exists.intro
          refine ⟨?rel, by rw [HZH.out]⟩
          case rel => first | exact ⟨by rw [HVH.out], rfl⟩ | rw [HVH.out] | exact ⟨by rw [HVH.out], trivial⟩
      · have h2 : z = 6 := by omega
        by_cases hp : 64 < M + 2
        · have hv : V = true := by rw [← hV, h2]; first | (simp; done) | (simp; omega)
          have i4 : (64 : Int) < (M : Int) + 2 := by omega
          have HVH := Lib.hid hv
          have HZH := Lib.hid hZ
          clear hV h2 hZ hp hz hv
          go_wp2_with fail
          refine Met.intro ?_
          go_step
          repeat apply Exists.intro
          refine ⟨?rel, by rw [HZH.out]⟩
          case rel => first | exact ⟨by rw [HVH.out], rfl⟩ | rw [HVH.out] | exact ⟨by rw [HVH.out], trivial⟩
        · have hv : V = false := by rw [← hV, h2]; first | (simp; done) | (simp; omega)
          have i4 : ¬ (64 : Int) < (M : Int) + 2 := by omega
          have HVH := Lib.hid hv
          have HZH := Lib.hid hZ
          clear hV h2 hZ hp hz hv
          go_wp2_with fail
          refine Met.intro ?_
          go_step
          repeat apply Exists.intro
          refine ⟨?rel, by rw [HZH.out]⟩
          case rel => first | exact ⟨by rw [HVH.out], rfl⟩ | rw [HVH.out] | exact ⟨by rw [HVH.out], trivial⟩
      · have h2 : z = 7 := by omega
        by_cases hp : 128 < M + 2
        · have hv : V = true := by rw [← hV, h2]; first | (simp; done) | (simp; omega)
          have i4 : (128 : Int) < (M : Int) + 2 := by omega
          have HVH := Lib.hid hv
          have HZH := Lib.hid hZ
          clear hV h2 hZ hp hz hv
          go_wp2_with fail
          refine Met.intro ?_
          go_step
          repeat apply Exists.intro
          refine ⟨?rel, by rw [HZH.out]⟩
          case rel => first | exact ⟨by rw [HVH.out], rfl⟩ | rw [HVH.out] | exact ⟨by rw [HVH.out], trivial⟩
        · have hv : V = false := by rw [← hV, h2]; first | (simp; done) | (simp; omega)
          have i4 : ¬ (128 : Int) < (M : Int) + 2 := by omega
          have HVH := Lib.hid hv
          have HZH := Lib.hid hZ
          clear hV h2 hZ hp hz hv
          go_wp2_with fail
          refine Met.intro ?_
          go_step
          repeat apply Exists.intro
          refine ⟨?rel, by rw [HZH.out]⟩
          case rel => first | exact ⟨by rw [HVH.out], rfl⟩ | rw [HVH.out] | exact ⟨by rw [HVH.out], trivial⟩
      · have h2 : z = 8 := by omega
        by_cases hp : 256 < M + 2
        · have hv : V = true := by rw [← hV, h2]; first | (simp; done) | (simp; omega)
          have i4 : (256 : Int) < (M : Int) + 2 := by omega
          have HVH := Lib.hid hv
          have HZH := Lib.hid hZ
          clear hV h2 hZ hp hz hv
          go_wp2_with fail
          refine Met.intro ?_
          go_step
          repeat apply Exists.intro
          refine ⟨?rel, by rw [HZH.out]⟩
          case rel => first | exact ⟨by rw [HVH.out], rfl⟩ | rw [HVH.out] | exact ⟨by rw [HVH.out], trivial⟩
        · have hv : V = false := by rw [← hV, h2]; first | (simp; done) | (simp; omega)
          have i4 : ¬ (256 : Int) < (M : Int) + 2 := by omega
          have HVH := Lib.hid hv
          have HZH := Lib.hid hZ
          clear hV h2 hZ hp hz hv
          go_wp2_with fail
          refine Met.intro ?_
          go_step
          repeat apply Exists.intro
          refine ⟨?rel, by rw [HZH.out]⟩
          case rel => first | exact ⟨by rw [HVH.out], rfl⟩ | rw [HVH.out] | exact ⟨by rw [HVH.out], trivial⟩
      · have h2 : z = 9 := by omega
        by_cases hp : 512 < M + 2
        · have hv : V = true := by rw [← hV, h2]; first | (simp; done) | (simp; omega)
          have i4 : (512 : Int) < (M : Int) + 2 := by omega
          have HVH := Lib.hid hv
          have HZH := Lib.hid hZ
          clear hV h2 hZ hp hz hv
          go_wp2_with fail
          refine Met.intro ?_
          go_step
          repeat apply Exists.intro
          refine ⟨?rel, by rw [HZH.out]⟩
          case rel => first | exact ⟨by rw [HVH.out], rfl⟩ | rw [HVH.out] | exact ⟨by rw [HVH.out], trivial⟩
        · have hv : V = false := by rw [← hV, h2]; first | (simp; done) | (simp; omega)
          have i4 : ¬ (512 : Int) < (M : Int) + 2 := by omega
          have HVH := Lib.hid hv
          have HZH := Lib.hid hZ
          clear hV h2 hZ hp hz hv
          go_wp2_with fail
          refine Met.intro ?_
          go_step
          repeat apply Exists.intro
          refine ⟨?rel, by rw [HZH.out]⟩
          case rel => first | exact ⟨by rw [HVH.out], rfl⟩ | rw [HVH.out] | exact ⟨by rw [HVH.out], trivial⟩
      · have h2 : z = 10 := by omega
        by_cases hp : 1024 < M + 2
        · have hv : V = true := by rw [← hV, h2]; first | (simp; done) | (simp; omega)
          have i4 : (1024 : Int) < (M : Int) + 2 := by omega
          have HVH := Lib.hid hv
          have HZH := Lib.hid hZ
          clear hV h2 hZ hp hz hv
          go_wp2_with fail
          refine Met.intro ?_
          go_step
          repeat apply Exists.intro
          refine ⟨?rel, by rw [HZH.out]⟩
          case rel => first | exact ⟨by rw [HVH.out], rfl⟩ | rw [HVH.out] | exact ⟨by rw [HVH.out], trivial⟩
        · have hv : V = false := by rw [← hV, h2]; first | (simp; done) | (simp; omega)
          have i4 : ¬ (1024 : Int) < (M : Int) + 2 := by omega
          have HVH := Lib.hid hv
          have HZH := Lib.hid hZ
          clear hV h2 hZ hp hz hv
          go_wp2_with fail
          refine Met.intro ?_
          go_step
          repeat apply Exists.intro
          refine ⟨?rel, by rw [HZH.out]⟩
          case rel => first | exact ⟨by rw [HVH.out], rfl⟩ | rw [HVH.out] | exact ⟨by rw [HVH.out], trivial⟩
      · have h2 : z = 11 := by omega
        by_cases hp : 2048 < M + 2
        · have hv : V = true := by rw [← hV, h2]; first | (simp; done) | (simp; omega)
          have i4 : (2048 : Int) < (M : Int) + 2 := by omega
          have HVH := Lib.hid hv
          have HZH := Lib.hid hZ
          clear hV h2 hZ hp hz hv
          go_wp2_with fail
          refine Met.intro ?_
          go_step
          repeat apply Exists.intro
          refine ⟨?rel, by rw [HZH.out]⟩
          case rel => first | exact ⟨by rw [HVH.out], rfl⟩ | rw [HVH.out] | exact ⟨by rw [HVH.out], trivial⟩
        · have hv : V = false := by rw [← hV, h2]; first | (simp; done) | (simp; omega)
          have i4 : ¬ (2048 : Int) < (M : Int) + 2 := by omega
          have HVH := Lib.hid hv
          have HZH := Lib.hid hZ
          clear hV h2 hZ hp hz hv
          go_wp2_with fail
          refine Met.intro ?_
          go_step
          repeat apply Exists.intro
          refine ⟨?rel, by rw [HZH.out]⟩
          case rel => first | exact ⟨by rw [HVH.out], rfl⟩ | rw [HVH.out] | exact ⟨by rw [HVH.out], trivial⟩
      · have h2 : z = 12 := by omega
        by_cases hp : 4096 < M + 2
        · have hv : V = true := by rw [← hV, h2]; first | (simp; done) | (simp; omega)
          have i4 : (4096 : Int) < (M : Int) + 2 := by omega
          have HVH := Lib.hid hv
          have HZH := Lib.hid hZ
          clear hV h2 hZ hp hz hv
          go_wp2_with fail
          refine Met.intro ?_
          go_step
          repeat apply Exists.intro
          refine ⟨?rel, by rw [HZH.out]⟩
          case rel => first | exact ⟨by rw [HVH.out], rfl⟩ | rw [HVH.out] | exact ⟨by rw [HVH.out], trivial⟩
        · have hv : V = false := by rw [← hV, h2]; first | (simp; done) | (simp; omega)
          have i4 : ¬ (4096 : Int) < (M : Int) + 2 := by omega
          have HVH := Lib.hid hv
          have HZH := Lib.hid hZ
          clear hV h2 hZ hp hz hv
          go_wp2_with fail
          refine Met.intro ?_
          go_step
          repeat apply Exists.intro
          refine ⟨?rel, by rw [HZH.out]⟩
          case rel => first | exact ⟨by rw [HVH.out], rfl⟩ | rw [HVH.out] | exact ⟨by rw [HVH.out], trivial⟩
      · have h2 : z = 13 := by omega
        by_cases hp : 8192 < M + 2
        · have hv : V = true := by rw [← hV, h2]; first | (simp; done) | (simp; omega)
          have i4 : (8192 : Int) < (M : Int) + 2 := by omega
          have HVH := Lib.hid hv
          have HZH := Lib.hid hZ
          clear hV h2 hZ hp hz hv
          go_wp2_with fail
          refine Met.intro ?_
          go_step
          repeat apply Exists.intro
          refine ⟨?rel, by rw [HZH.out]⟩
          case rel => first | exact ⟨by rw [HVH.out], rfl⟩ | rw [HVH.out] | exact ⟨by rw [HVH.out], trivial⟩
        · have hv : V = false := by rw [← hV, h2]; first | (simp; done) | (simp; omega)
          have i4 : ¬ (8192 : Int) < (M : Int) + 2 := by omega
          have HVH := Lib.hid hv
          have HZH := Lib.hid hZ
          clear hV h2 hZ hp hz hv
          go_wp2_with fail
          refine Met.intro ?_
          go_step
          repeat apply Exists.intro
          refine ⟨?rel, by rw [HZH.out]⟩
          case rel => first | exact ⟨by rw [HVH.out], rfl⟩ | rw [HVH.out] | exact ⟨by rw [HVH.out], trivial⟩
      · have h2 : z = 14 := by omega
        by_cases hp : 16384 < M + 2
        · have hv : V = true := by rw [← hV, h2]; first | (simp; done) | (simp; omega)
          have i4 : (16384 : Int) < (M : Int) + 2 := by omega
          have HVH := Lib.hid hv
          have HZH := Lib.hid hZ
          clear hV h2 hZ hp hz hv
          go_wp2_with fail
          refine Met.intro ?_
          go_step
          repeat apply Exists.intro
          refine ⟨?rel, by rw [HZH.out]⟩
          case rel => first | exact ⟨by rw [HVH.out], rfl⟩ | rw [HVH.out] | exact ⟨by rw [HVH.out], trivial⟩
        · have hv : V = false := by rw [← hV, h2]; first | (simp; done) | (simp; omega)
          have i4 : ¬ (16384 : Int) < (M : Int) + 2 := by omega
          have HVH := Lib.hid hv
          have HZH := Lib.hid hZ
          clear hV h2 hZ hp hz hv
          go_wp2_with fail
          refine Met.intro ?_
          go_step
          repeat apply Exists.intro
          refine ⟨?rel, by rw [HZH.out]⟩
          case rel => first | exact ⟨by rw [HVH.out], rfl⟩ | rw [HVH.out] | exact ⟨by rw [HVH.out], trivial⟩
      · have h2 : z = 15 := by omega
        by_cases hp : 32768 < M + 2
        · have hv : V = true := by rw [← hV, h2]; first | (simp; done) | (simp; omega)
          have i4 : (32768 : Int) < (M : Int) + 2 := by omega
          have HVH := Lib.hid hv
          have HZH := Lib.hid hZ
          clear hV h2 hZ hp hz hv
          go_wp2_with fail
          refine Met.intro ?_
          go_step
          repeat apply Exists.intro
          refine ⟨?rel, by rw [HZH.out]⟩
          case rel => first | exact ⟨by rw [HVH.out], rfl⟩ | rw [HVH.out] | exact ⟨by rw [HVH.out], trivial⟩
        · have hv : V = false := by rw [← hV, h2]; first | (simp; done) | (simp; omega)
          have i4 : ¬ (32768 : Int) < (M : Int) + 2 := by omega
          have HVH := Lib.hid hv
          have HZH := Lib.hid hZ
          clear hV h2 hZ hp hz hv
          go_wp2_with fail
          refine Met.intro ?_
          go_step
          repeat apply Exists.intro
          refine ⟨?rel, by rw [HZH.out]⟩
          case rel => first | exact ⟨by rw [HVH.out], rfl⟩ | rw [HVH.out] | exact ⟨by rw [HVH.out], trivial⟩
      · have h2 : z = 16 := by omega
        by_cases hp : 65536 < M + 2
        · have hv : V = true := by rw [← hV, h2]; first | (simp; done) | (simp; omega)
          have i4 : (65536 : Int) < (M : Int) + 2 := by omega
          have HVH := Lib.hid hv
          have HZH := Lib.hid hZ
          clear hV h2 hZ hp hz hv
          go_wp2_with fail
          refine Met.intro ?_
          go_step
          repeat apply Exists.intro
          refine ⟨?rel, by rw [HZH.out]⟩
          case rel => first | exact ⟨by rw [HVH.out], rfl⟩ | rw [HVH.out] | exact ⟨by rw [HVH.out], trivial⟩
        · have hv : V = false := by rw [← hV, h2]; first | (simp; done) | (simp; omega)
          have i4 : ¬ (65536 : Int) < (M : Int) + 2 := by omega
          have HVH := Lib.hid hv
          have HZH := Lib.hid hZ
          clear hV h2 hZ hp hz hv
          go_wp2_with fail
          refine Met.intro ?_
          go_step
          repeat apply Exists.intro
          refine ⟨?rel, by rw [HZH.out]⟩
          case rel => first | exact ⟨by rw [HVH.out], rfl⟩ | rw [HVH.out] | exact ⟨by rw [HVH.out], trivial⟩
      · have h2 : z = 17 := by omega
        by_cases hp : 131072 < M + 2
        · have hv : V = true := by rw [← hV, h2]; first | (simp; done) | (simp; omega)
          have i4 : (131072 : Int) < (M : Int) + 2 := by omega
          have HVH := Lib.hid hv
          have HZH := Lib.hid hZ
          clear hV h2 hZ hp hz hv
          go_wp2_with fail
          refine Met.intro ?_
          go_step
          repeat apply Exists.intro
          refine ⟨?rel, by rw [HZH.out]⟩
          case rel => first | exact ⟨by rw [HVH.out], rfl⟩ | rw [HVH.out] | exact ⟨by rw [HVH.out], trivial⟩
        · have hv : V = false := by rw [← hV, h2]; first | (simp; done) | (simp; omega)
          have i4 : ¬ (131072 : Int) < (M : Int) + 2 := by omega
          have HVH := Lib.hid hv
          have HZH := Lib.hid hZ
          clear hV h2 hZ hp hz hv
          go_wp2_with fail
          refine Met.intro ?_
          go_step
          repeat apply Exists.intro
          refine ⟨?rel, by rw [HZH.out]⟩
          case rel => first | exact ⟨by rw [HVH.out], rfl⟩ | rw [HVH.out] | exact ⟨by rw [HVH.out], trivial⟩
      · have h2 : z = 18 := by omega
        by_cases hp : 262144 < M + 2
        · have hv : V = true := by rw [← hV, h2]; first | (simp; done) | (simp; omega)
          have i4 : (262144 : Int) < (M : Int) + 2 := by omega
          have HVH := Lib.hid hv
          have HZH := Lib.hid hZ
          clear hV h2 hZ hp hz hv
          go_wp2_with fail
          refine Met.intro ?_
          go_step
          repeat apply Exists.intro
          refine ⟨?rel, by rw [HZH.out]⟩
          case rel => first | exact ⟨by rw [HVH.out], rfl⟩ | rw [HVH.out] | exact ⟨by rw [HVH.out], trivial⟩
        · have hv : V = false := by rw [← hV, h2]; first | (simp; done) | (simp; omega)
          have i4 : ¬ (262144 : Int) < (M : Int) + 2 := by omega
          have HVH := Lib.hid hv
          have HZH := Lib.hid hZ
          clear hV h2 hZ hp hz hv
          go_wp2_with fail
          refine Met.intro ?_
          go_step
          repeat apply Exists.intro
          refine ⟨?rel, by rw [HZH.out]⟩
          case rel => first | exact ⟨by rw [HVH.out], rfl⟩ | rw [HVH.out] | exact ⟨by rw [HVH.out], trivial⟩
      · have h2 : z = 19 := by omega
        by_cases hp : 524288 < M + 2
        · have hv : V = true := by rw [← hV, h2]; first | (simp; done) | (simp; omega)
          have i4 : (524288 : Int) < (M : Int) + 2 := by omega
          have HVH := Lib.hid hv
          have HZH := Lib.hid hZ
          clear hV h2 hZ hp hz hv
          go_wp2_with fail
          refine Met.intro ?_
          go_step
          repeat apply Exists.intro
          refine ⟨?rel, by rw [HZH.out]⟩
          case rel => first | exact ⟨by rw [HVH.out], rfl⟩ | rw [HVH.out] | exact ⟨by rw [HVH.out], trivial⟩
        · have hv : V = false := by rw [← hV, h2]; first | (simp; done) | (simp; omega)
          have i4 : ¬ (524288 : Int) < (M : Int) + 2 := by omega
          have HVH := Lib.hid hv
          have HZH := Lib.hid hZ
          clear hV h2 hZ hp hz hv
          go_wp2_with fail
          refine Met.intro ?_
          go_step
          repeat apply Exists.intro
          refine ⟨?rel, by rw [HZH.out]⟩
          case rel => first | exact ⟨by rw [HVH.out], rfl⟩ | rw [HVH.out] | exact ⟨by rw [HVH.out], trivial⟩
      · have h2 : z = 20 := by omega
        by_cases hp : 1048576 < M + 2
        · have hv : V = false := by rw [← hV, h2]; simp
          have i4 : (1048576 : Int) < (M : Int) + 2 := by omega
          have HVH := Lib.hid hv
          have HZH := Lib.hid hZ
          clear hV h2 hZ hp hz hv
          go_wp2_with fail
          refine Met.intro ?_
          go_step
          repeat apply Exists.intro
          refine ⟨?rel, by rw [HZH.out]⟩
          case rel => first | exact ⟨by rw [HVH.out], rfl⟩ | rw [HVH.out] | exact ⟨by rw [HVH.out], trivial⟩
        · have hv : V = false := by rw [← hV, h2]; first | (simp; done) | (simp; omega)
          have i4 : ¬ (1048576 : Int) < (M : Int) + 2 := by omega
          have HVH := Lib.hid hv
          have HZH := Lib.hid hZ
          clear hV h2 hZ hp hz hv
          go_wp2_with fail
          refine Met.intro ?_
          go_step
          repeat apply Exists.intro
          refine ⟨?rel, by rw [HZH.out]⟩
          case rel => first | exact ⟨by rw [HVH.out], rfl⟩ | rw [HVH.out] | exact ⟨by rw [HVH.out], trivial⟩
    case rest =>
    obtain ⟨rfl, hwc⟩ := hcut
    have hwc2 := hwc.symm
    subst hwc2
    clear hV
    cases V with
    | true =>
      have hz20 := HVZ.out rfl
      go_wp2_with fail
      go_roundw
      case rel => exact ⟨z + 1, by omega, by go_num, by first | trivial | rfl⟩
      case measure => simp [intOf]; omega
    | false =>
      have HDE := Lib.hid (HEV.out rfl)
      go_wp2_with fail
      go_ret
      refine ⟨?_, HB9.out⟩
      rw [HDE.out]
      rfl
  case pos =>
  obtain ⟨b, off, rfl, hbl, cp⟩ := HA0.out.oneB hI.out.bel j hlt
  obtain ⟨x, hx⟩ : ∃ x, l[j]'hlt = x := ⟨_, rfl⟩
  rw [hx] at cp
  have cp1 : wr.cell? ⟨b, off + j, none⟩ = some (.int .i8 x) := cp
  obtain ⟨K, hK⟩ : ∃ K, wrap64 x = K := ⟨_, rfl⟩
  obtain ⟨K2, hK2⟩ : ∃ K2, wrap64 (-K) = K2 := ⟨_, rfl⟩
  have hml := may_le rfl hI.out.paid.may
  have hput := fun W (hW : RunsAt W B1 R1) hq => putD_any B1 R1 k1 c0 n1 K j W hW hml.1 hml.2 hq
  have hdel := fun W (hW : RunsAt W B1 R1) hq => delD_any B1 R1 k1 c0 n1 K2 W hW hml.1 hml.2 hq
  have hpp := fun h0 => paid_put (e0 := putE0 c0 (lvs R1) K) (y := putY K j) hI.out.paid (by omega) h0
  have hpd := fun h0 => paid_put (e0 := veD c0 (lvs R1) K2) (y := delY K2) hI.out.paid (by omega) h0
  obtain ⟨f2, hf2⟩ : ∃ x, upE (putE0 c0 (lvs R1) K) (lvs R1) (putY K j) = x := ⟨_, rfl⟩
  obtain ⟨L2, hL2⟩ : ∃ x, upL (putE0 c0 (lvs R1) K) (lvs R1) n1 (putY K j) = x := ⟨_, rfl⟩
  obtain ⟨N2, hN2⟩ : ∃ x, upN (putE0 c0 (lvs R1) K) (lvs R1) n1 (putY K j) = x := ⟨_, rfl⟩
  obtain ⟨f3, hf3⟩ : ∃ x, upE (veD c0 (lvs R1) K2) (lvs R1) (delY K2) = x := ⟨_, rfl⟩
  obtain ⟨L3, hL3⟩ : ∃ x, upL (veD c0 (lvs R1) K2) (lvs R1) n1 (delY K2) = x := ⟨_, rfl⟩
  obtain ⟨N3, hN3⟩ : ∃ x, upN (veD c0 (lvs R1) K2) (lvs R1) n1 (delY K2) = x := ⟨_, rfl⟩
  rw [hf2, hL2, hN2] at hput hpp
  rw [hf3, hL3, hN3] at hdel hpd
  obtain ⟨c2, hc2⟩ : ∃ x, ldC c0 f2 = x := ⟨_, rfl⟩
  obtain ⟨c3, hc3⟩ : ∃ x, ldC c0 f3 = x := ⟨_, rfl⟩
  rw [hc2] at hput
  rw [hc3] at hdel
  have HPUT := Lib.hid hput
  have HDEL := Lib.hid hdel
  have HPP := Lib.hid hpp
  have HPD := Lib.hid hpd
  have HC2 := Lib.hid hc2
  have HC3 := Lib.hid hc3
  have HK2 := Lib.hid hK2
  have HK := Lib.hid hK
  have HFR := Lib.hid (Below.refl wr.heap.size wr)
  have HTW := Lib.hid (tab_below2 HT0.out hI.out.bel)
  have HRW := Lib.hid hI.out.own.runsAt
  have HMW := Lib.hid hI.out.bm
  have i2 : (j : Int) < (l.length : Int) := by omega
  have i3 : (0 : Int) ≤ (j : Int) := by omega
  have hbl' : b < wr.heap.size := Nat.lt_of_lt_of_le hbl hI.out.bel.size
  clear hx cp hput hdel hpp hpd hf2 hL2 hN2 hf3 hL3 hN3 hc2 hc3 hml hK hK2
  go_upto_region 10 with fail
  rw [HK.out]
  have c1 : wr.cell? ⟨g33, 0, none⟩ = some (.int .u8 c0.tag) := HMW.out.cell 0
  have c2 : wr.cell? ⟨g33, 1, none⟩ = some (.int .i64 c0.most) := HMW.out.cell 1
  have c3 : wr.cell? ⟨g33, 2, none⟩ = some (.int .i64 c0.seg) := HMW.out.cell 2
  have c4 : wr.cell? ⟨g33, 3, none⟩ = some (.int .i64 c0.least) := HMW.out.cell 3
  have c5 : wr.cell? ⟨g33, 4, none⟩ = some (.int .i64 c0.den) := HMW.out.cell 4
  have c6 : wr.cell? ⟨g33, 5, none⟩ = some (.int .i64 c0.leafLow) := HMW.out.cell 5
  have c7 : wr.cell? ⟨g33, 6, none⟩ = some (.int .i64 c0.rootLow) := HMW.out.cell 6
  have c8 : wr.cell? ⟨g33, 7, none⟩ = some (.int .i64 c0.rootHigh) := HMW.out.cell 7
  have c9 : wr.cell? ⟨g33, 8, none⟩ = some (.int .i64 c0.leafHigh) := HMW.out.cell 8
  have c10 : wr.cell? ⟨g33, 9, none⟩ = some (.slice B1 R1.length k1) := HMW.out.cell 9
  have c11 : wr.cell? ⟨g33, 10, none⟩ = some (.int .u64 n1) := HMW.out.cell 10
  have l12 : g33 < wr.heap.size := HMW.out.lt
  go_wp2_with fail
  clear c1 c2 c3 c4 c5 c6 c7 c8 c9 c10 c11 l12
  refine (HPUT.out _ HRW.out HTW.out).mono ?_
  rintro e w13 ⟨B2, k2, R2, rfl, hl2, ho2, hb14⟩
  have HL2 := Lib.hid hl2
  obtain ⟨M2, hM2⟩ : ∃ N, R2.length = N := ⟨_, rfl⟩
  rw [hM2]
  have HM2 := Lib.hid hM2
  have HOX2 := Lib.hid (ho2.mono HFR.out.size)
  clear hl2 ho2 hM2
  have HF15 := Lib.hid (bext HFR.out hb14)
  have HX16 := Lib.hid (HMW.out.below hb14 HMW.out.lt)
  have HY17 := Lib.hid (tab_below2 HTW.out hb14)
  have HY18 := Lib.hid (RunsAt.below HRW.out hb14)
  clear HFR HMW HTW HRW
  clear hb14
  have HY19 := Lib.hid (HOX2.out)
  clear HOX2
  have HSZ := Lib.hid HF15.out.size
  go_upto_region 11 with fail
  obtain ⟨U20, h22⟩ : ∃ U, w13.alloc (.cells #[.int .u8 c2.tag, .int .i64 c2.most, .int .i64 c2.seg, .int .i64 c2.least, .int .i64 c2.den, .int .i64 c2.leafLow, .int .i64 c2.rootLow, .int .i64 c2.rootHigh, .int .i64 c2.leafHigh, .slice B2 M2 k2, .int .u64 N2] 65) = U := ⟨_, rfl⟩
  have ba23 : Below w13.heap.size w13 U20 := by rw [← h22]; exact (Below.refl _ _).alloc (Nat.le_refl _) _
  have bn24 : Blk U20 w13.heap.size 65 #[.int .u8 c2.tag, .int .i64 c2.most, .int .i64 c2.seg, .int .i64 c2.least, .int .i64 c2.den, .int .i64 c2.leafLow, .int .i64 c2.rootLow, .int .i64 c2.rootHigh, .int .i64 c2.leafHigh, .slice B2 M2 k2, .int .u64 N2] := by rw [← h22]; exact Blk.new _ _ _
  try rw [h22]
  have HF25 := Lib.hid (bext HF15.out ba23)
  have HX26 := Lib.hid (HX16.out.below ba23 HX16.out.lt)
  have HY27 := Lib.hid (tab_below2 HY17.out ba23)
  have HY28 := Lib.hid (RunsAt.below HY18.out ba23)
  have HY29 := Lib.hid (OwnRs.below HY19.out ba23)
  clear HF15 HX16 HY17 HY18 HY19
  obtain ⟨g21, h30⟩ : ∃ g, w13.heap.size = g := ⟨_, rfl⟩
  rw [h30] at bn24
  try rw [h30]
  have HX31 := Lib.hid bn24
  have HGX : Hid (wr.heap.size ≤ g21) := by show _ ≤ _; rw [← h30]; exact HSZ.out
  clear h22 ba23 bn24 h30
  clear HSZ
  by_cases hk : K < 0
  · have c32 : U20.cell? ⟨g33, 0, none⟩ = some (.int .u8 c0.tag) := HX26.out.cell 0
    have c33 : U20.cell? ⟨g33, 1, none⟩ = some (.int .i64 c0.most) := HX26.out.cell 1
    have c34 : U20.cell? ⟨g33, 2, none⟩ = some (.int .i64 c0.seg) := HX26.out.cell 2
    have c35 : U20.cell? ⟨g33, 3, none⟩ = some (.int .i64 c0.least) := HX26.out.cell 3
    have c36 : U20.cell? ⟨g33, 4, none⟩ = some (.int .i64 c0.den) := HX26.out.cell 4
    have c37 : U20.cell? ⟨g33, 5, none⟩ = some (.int .i64 c0.leafLow) := HX26.out.cell 5
    have c38 : U20.cell? ⟨g33, 6, none⟩ = some (.int .i64 c0.rootLow) := HX26.out.cell 6
    have c39 : U20.cell? ⟨g33, 7, none⟩ = some (.int .i64 c0.rootHigh) := HX26.out.cell 7
    have c40 : U20.cell? ⟨g33, 8, none⟩ = some (.int .i64 c0.leafHigh) := HX26.out.cell 8
    have c41 : U20.cell? ⟨g33, 9, none⟩ = some (.slice B1 R1.length k1) := HX26.out.cell 9
    have c42 : U20.cell? ⟨g33, 10, none⟩ = some (.int .u64 n1) := HX26.out.cell 10
    have l43 : g33 < U20.heap.size := HX26.out.lt
    go_wp2_with fail
    rw [HK2.out]
    clear c32 c33 c34 c35 c36 c37 c38 c39 c40 c41 c42 l43
    refine (HDEL.out _ HY28.out HY27.out).mono ?_
    rintro e w44 ⟨B3, k3, R3, rfl, hl3, ho3, hb45⟩
    have HL3 := Lib.hid hl3
    obtain ⟨M3, hM3⟩ : ∃ N, R3.length = N := ⟨_, rfl⟩
    rw [hM3]
    have HM3 := Lib.hid hM3
    have HOX3 := Lib.hid (ho3.mono HF25.out.size)
    clear hl3 ho3 hM3
    have HF46 := Lib.hid (bext HF25.out hb45)
    have HX47 := Lib.hid (HX26.out.below hb45 HX26.out.lt)
    have HX48 := Lib.hid (HX31.out.below hb45 HX31.out.lt)
    have HY49 := Lib.hid (tab_below2 HY27.out hb45)
    have HY50 := Lib.hid (RunsAt.below HY28.out hb45)
    have HY51 := Lib.hid (OwnRs.below HY29.out hb45)
    clear HF25 HX26 HX31 HY27 HY28 HY29
    clear hb45
    have c52 : w44.cell? ⟨g21, 0, none⟩ = some (.int .u8 c2.tag) := HX48.out.cell 0
    have c53 : w44.cell? ⟨g21, 1, none⟩ = some (.int .i64 c2.most) := HX48.out.cell 1
    have c54 : w44.cell? ⟨g21, 2, none⟩ = some (.int .i64 c2.seg) := HX48.out.cell 2
    have c55 : w44.cell? ⟨g21, 3, none⟩ = some (.int .i64 c2.least) := HX48.out.cell 3
    have c56 : w44.cell? ⟨g21, 4, none⟩ = some (.int .i64 c2.den) := HX48.out.cell 4
    have c57 : w44.cell? ⟨g21, 5, none⟩ = some (.int .i64 c2.leafLow) := HX48.out.cell 5
    have c58 : w44.cell? ⟨g21, 6, none⟩ = some (.int .i64 c2.rootLow) := HX48.out.cell 6
    have c59 : w44.cell? ⟨g21, 7, none⟩ = some (.int .i64 c2.rootHigh) := HX48.out.cell 7
    have c60 : w44.cell? ⟨g21, 8, none⟩ = some (.int .i64 c2.leafHigh) := HX48.out.cell 8
    have c61 : w44.cell? ⟨g21, 9, none⟩ = some (.slice B2 M2 k2) := HX48.out.cell 9
    have c62 : w44.cell? ⟨g21, 10, none⟩ = some (.int .u64 N2) := HX48.out.cell 10
    have l63 : g21 < w44.heap.size := HX48.out.lt
    have fr0 := HX48.out.frozen 0
    have fr1 := HX48.out.frozen 1
    have fr2 := HX48.out.frozen 2
    have fr3 := HX48.out.frozen 3
    have fr4 := HX48.out.frozen 4
    have fr5 := HX48.out.frozen 5
    have fr6 := HX48.out.frozen 6
    have fr7 := HX48.out.frozen 7
    have fr8 := HX48.out.frozen 8
    have fr9 := HX48.out.frozen 9
    have fr10 := HX48.out.frozen 10
    go_upto_region 13 with fail
    clear c52 c53 c54 c55 c56 c57 c58 c59 c60 c61 c62 l63
    clear fr0 fr1 fr2 fr3 fr4 fr5 fr6 fr7 fr8 fr9 fr10
    obtain ⟨UX, hUX⟩ : ∃ U, (((((((((((w44.setCell ⟨g21, 0, none⟩ (.int .u8 c3.tag)).setCell ⟨g21, 1, none⟩ (.int .i64 c3.most)).setCell ⟨g21, 2, none⟩ (.int .i64 c3.seg)).setCell ⟨g21, 3, none⟩ (.int .i64 c3.least)).setCell ⟨g21, 4, none⟩ (.int .i64 c3.den)).setCell ⟨g21, 5, none⟩ (.int .i64 c3.leafLow)).setCell ⟨g21, 6, none⟩ (.int .i64 c3.rootLow)).setCell ⟨g21, 7, none⟩ (.int .i64 c3.rootHigh)).setCell ⟨g21, 8, none⟩ (.int .i64 c3.leafHigh)).setCell ⟨g21, 9, none⟩ (.slice B3 M3 k3)).setCell ⟨g21, 10, none⟩ (.int .u64 N3)) = U := ⟨_, rfl⟩
    rw [hUX]
    have HXN : Hid (Blk UX g21 65 (lrow c3 B3 M3 k3 N3)) := by show Blk _ _ _ _; rw [← hUX]; exact put11 HX48.out _ _ _ _ _ _ _ _ _ _ _
    have HOX : Hid (OwnRs UX wr.heap.size B3 k3 R3) := by show OwnRs _ _ _ _ _; rw [← hUX]; exact HOX3.out.set11 HX48.out (by decide) (by decide) _ _ _ _ _ _ _ _ _ _ _
    have HFX : Hid (Below wr.heap.size wr UX) := by show Below _ _ _; rw [← hUX]; exact below11 HF46.out HGX.out _ _ _ _ _ _ _ _ _ _ _
    have HMX := Lib.hid (hI.out.bm.below HFX.out hI.out.bm.lt)
    clear hUX HOX3
    by_cases hf : f3 = 0
    · have hcq := (ld_zero HC3.out hf).symm
      have hpq := HPD.out hf
      have HPQ := Lib.hid hpq
      clear HC3 hpq
      subst hf
      subst hcq
      have c264 : UX.cell? ⟨g21, 0, none⟩ = some (.int .u8 c0.tag) := HXN.out.cell 0
      have c265 : UX.cell? ⟨g21, 1, none⟩ = some (.int .i64 c0.most) := HXN.out.cell 1
      have c266 : UX.cell? ⟨g21, 2, none⟩ = some (.int .i64 c0.seg) := HXN.out.cell 2
      have c267 : UX.cell? ⟨g21, 3, none⟩ = some (.int .i64 c0.least) := HXN.out.cell 3
      have c268 : UX.cell? ⟨g21, 4, none⟩ = some (.int .i64 c0.den) := HXN.out.cell 4
      have c269 : UX.cell? ⟨g21, 5, none⟩ = some (.int .i64 c0.leafLow) := HXN.out.cell 5
      have c270 : UX.cell? ⟨g21, 6, none⟩ = some (.int .i64 c0.rootLow) := HXN.out.cell 6
      have c271 : UX.cell? ⟨g21, 7, none⟩ = some (.int .i64 c0.rootHigh) := HXN.out.cell 7
      have c272 : UX.cell? ⟨g21, 8, none⟩ = some (.int .i64 c0.leafHigh) := HXN.out.cell 8
      have c273 : UX.cell? ⟨g21, 9, none⟩ = some (.slice B3 M3 k3) := HXN.out.cell 9
      have c274 : UX.cell? ⟨g21, 10, none⟩ = some (.int .u64 N3) := HXN.out.cell 10
      have l275 : g21 < UX.heap.size := HXN.out.lt
      have c276 : UX.cell? ⟨g33, 0, none⟩ = some (.int .u8 c0.tag) := HMX.out.cell 0
      have c277 : UX.cell? ⟨g33, 1, none⟩ = some (.int .i64 c0.most) := HMX.out.cell 1
      have c278 : UX.cell? ⟨g33, 2, none⟩ = some (.int .i64 c0.seg) := HMX.out.cell 2
      have c279 : UX.cell? ⟨g33, 3, none⟩ = some (.int .i64 c0.least) := HMX.out.cell 3
      have c280 : UX.cell? ⟨g33, 4, none⟩ = some (.int .i64 c0.den) := HMX.out.cell 4
      have c281 : UX.cell? ⟨g33, 5, none⟩ = some (.int .i64 c0.leafLow) := HMX.out.cell 5
      have c282 : UX.cell? ⟨g33, 6, none⟩ = some (.int .i64 c0.rootLow) := HMX.out.cell 6
      have c283 : UX.cell? ⟨g33, 7, none⟩ = some (.int .i64 c0.rootHigh) := HMX.out.cell 7
      have c284 : UX.cell? ⟨g33, 8, none⟩ = some (.int .i64 c0.leafHigh) := HMX.out.cell 8
      have c285 : UX.cell? ⟨g33, 9, none⟩ = some (.slice B1 R1.length k1) := HMX.out.cell 9
      have c286 : UX.cell? ⟨g33, 10, none⟩ = some (.int .u64 n1) := HMX.out.cell 10
      have l287 : g33 < UX.heap.size := HMX.out.lt
      have fr0 := HMX.out.frozen 0
      have fr1 := HMX.out.frozen 1
      have fr2 := HMX.out.frozen 2
      have fr3 := HMX.out.frozen 3
      have fr4 := HMX.out.frozen 4
      have fr5 := HMX.out.frozen 5
      have fr6 := HMX.out.frozen 6
      have fr7 := HMX.out.frozen 7
      have fr8 := HMX.out.frozen 8
      have fr9 := HMX.out.frozen 9
      have fr10 := HMX.out.frozen 10
      go_upto_region 15 with fail
      clear c264 c265 c266 c267 c268 c269 c270 c271 c272 c273 c274 l275 c276 c277 c278 c279 c280 c281 c282 c283 c284 c285 c286 l287
      clear fr0 fr1 fr2 fr3 fr4 fr5 fr6 fr7 fr8 fr9 fr10
      obtain ⟨UM, hUM⟩ : ∃ U, (((((((((((UX.setCell ⟨g33, 0, none⟩ (.int .u8 c0.tag)).setCell ⟨g33, 1, none⟩ (.int .i64 c0.most)).setCell ⟨g33, 2, none⟩ (.int .i64 c0.seg)).setCell ⟨g33, 3, none⟩ (.int .i64 c0.least)).setCell ⟨g33, 4, none⟩ (.int .i64 c0.den)).setCell ⟨g33, 5, none⟩ (.int .i64 c0.leafLow)).setCell ⟨g33, 6, none⟩ (.int .i64 c0.rootLow)).setCell ⟨g33, 7, none⟩ (.int .i64 c0.rootHigh)).setCell ⟨g33, 8, none⟩ (.int .i64 c0.leafHigh)).setCell ⟨g33, 9, none⟩ (.slice B3 M3 k3)).setCell ⟨g33, 10, none⟩ (.int .u64 N3)) = U := ⟨_, rfl⟩
      rw [hUM]
      have HMN : Hid (Blk UM g33 65 (lrow c0 B3 M3 k3 N3)) := by show Blk _ _ _ _; rw [← hUM]; exact put11 HMX.out _ _ _ _ _ _ _ _ _ _ _
      have HON : Hid (OwnRs UM w.heap.size B3 k3 R3) := by show OwnRs _ _ _ _ _; rw [← hUM]; exact (HOX.out.mono hI.out.bel.size).set11 HMX.out (by decide) (by decide) _ _ _ _ _ _ _ _ _ _ _
      have HFN : Hid (Below w.heap.size w UM) := by show Below _ _ _; rw [← hUM]; exact below11 (bext hI.out.bel HFX.out) HGS.out _ _ _ _ _ _ _ _ _ _ _
      clear hUM
      have hpaid := HPQ.out
      have hpc := paid_count hpaid
      have hml := may_le HL3.out hpaid.may
      have hcn := fun W (hW : RunsAt W B3 R3) => countR_any B3 R3 k3 N3 W hW hml.1 hml.2
      rw [HM3.out, HL3.out] at hcn
      rw [hpc.1, hpc.2, if_pos rfl] at hcn
      obtain ⟨v, hv⟩ : ∃ v, (allL L3).length = v := ⟨_, rfl⟩
      obtain ⟨tt, htt⟩ : ∃ v, tot L3 = v := ⟨_, rfl⟩
      rw [hv, htt] at hcn
      rw [hv] at hpaid
      have HCN := Lib.hid hcn
      have HPAID := Lib.hid hpaid
      clear hcn hpaid hpc hml hv htt
      have c788 : UM.cell? ⟨g33, 0, none⟩ = some (.int .u8 c0.tag) := HMN.out.cell 0
      have c789 : UM.cell? ⟨g33, 1, none⟩ = some (.int .i64 c0.most) := HMN.out.cell 1
      have c790 : UM.cell? ⟨g33, 2, none⟩ = some (.int .i64 c0.seg) := HMN.out.cell 2
      have c791 : UM.cell? ⟨g33, 3, none⟩ = some (.int .i64 c0.least) := HMN.out.cell 3
      have c792 : UM.cell? ⟨g33, 4, none⟩ = some (.int .i64 c0.den) := HMN.out.cell 4
      have c793 : UM.cell? ⟨g33, 5, none⟩ = some (.int .i64 c0.leafLow) := HMN.out.cell 5
      have c794 : UM.cell? ⟨g33, 6, none⟩ = some (.int .i64 c0.rootLow) := HMN.out.cell 6
      have c795 : UM.cell? ⟨g33, 7, none⟩ = some (.int .i64 c0.rootHigh) := HMN.out.cell 7
      have c796 : UM.cell? ⟨g33, 8, none⟩ = some (.int .i64 c0.leafHigh) := HMN.out.cell 8
      have c797 : UM.cell? ⟨g33, 9, none⟩ = some (.slice B3 M3 k3) := HMN.out.cell 9
      have c798 : UM.cell? ⟨g33, 10, none⟩ = some (.int .u64 N3) := HMN.out.cell 10
      have l799 : g33 < UM.heap.size := HMN.out.lt
      go_wp2_with fail
      clear c788 c789 c790 c791 c792 c793 c794 c795 c796 c797 c798 l799
      refine (HCN.out _ HON.out.runsAt).mono ?_
      rintro e w800 ⟨rfl, hb801⟩
      have HF802 := Lib.hid (bext HFN.out hb801)
      have HX803 := Lib.hid (HMN.out.below hb801 HMN.out.lt)
      have HY804 := Lib.hid (OwnRs.below HON.out hb801)
      clear HFN HMN HON
      clear hb801
      go_wp2_with fail
      go_roundw
      case rel => exact ⟨j + 1, max M v, B3, k3, R3, N3, by omega, by go_num, by first | rfl | (congr 1; split <;> omega), HF802.out, (by rw [HM3.out]; exact HX803.out), HY804.out, (by rw [HL3.out]; exact HPAID.out)⟩
      case measure => simp [intOf]; omega
    · have h1 : (f3 == 0) = false := by simpa using hf
      have HFN := Lib.hid (bext hI.out.bel HFX.out)
      have HON := Lib.hid (hI.out.own.below HFX.out)
      have hpaid := hI.out.paid.same
      have hpc := paid_count hpaid
      have hml := may_le rfl hpaid.may
      have hcn := fun W (hW : RunsAt W B1 R1) => countR_any B1 R1 k1 n1 W hW hml.1 hml.2
      rw [hpc.1, hpc.2, if_pos rfl] at hcn
      obtain ⟨v, hv⟩ : ∃ v, (allL (lvs R1)).length = v := ⟨_, rfl⟩
      obtain ⟨tt, htt⟩ : ∃ v, tot (lvs R1) = v := ⟨_, rfl⟩
      rw [hv, htt] at hcn
      rw [hv] at hpaid
      have HCN := Lib.hid hcn
      have HPAID := Lib.hid hpaid
      clear hcn hpaid hpc hml hv htt
      have c764 : UX.cell? ⟨g33, 0, none⟩ = some (.int .u8 c0.tag) := HMX.out.cell 0
      have c765 : UX.cell? ⟨g33, 1, none⟩ = some (.int .i64 c0.most) := HMX.out.cell 1
      have c766 : UX.cell? ⟨g33, 2, none⟩ = some (.int .i64 c0.seg) := HMX.out.cell 2
      have c767 : UX.cell? ⟨g33, 3, none⟩ = some (.int .i64 c0.least) := HMX.out.cell 3
      have c768 : UX.cell? ⟨g33, 4, none⟩ = some (.int .i64 c0.den) := HMX.out.cell 4
      have c769 : UX.cell? ⟨g33, 5, none⟩ = some (.int .i64 c0.leafLow) := HMX.out.cell 5
      have c770 : UX.cell? ⟨g33, 6, none⟩ = some (.int .i64 c0.rootLow) := HMX.out.cell 6
      have c771 : UX.cell? ⟨g33, 7, none⟩ = some (.int .i64 c0.rootHigh) := HMX.out.cell 7
      have c772 : UX.cell? ⟨g33, 8, none⟩ = some (.int .i64 c0.leafHigh) := HMX.out.cell 8
      have c773 : UX.cell? ⟨g33, 9, none⟩ = some (.slice B1 R1.length k1) := HMX.out.cell 9
      have c774 : UX.cell? ⟨g33, 10, none⟩ = some (.int .u64 n1) := HMX.out.cell 10
      have l775 : g33 < UX.heap.size := HMX.out.lt
      go_wp2_with fail
      clear c764 c765 c766 c767 c768 c769 c770 c771 c772 c773 c774 l775
      refine (HCN.out _ HON.out.runsAt).mono ?_
      rintro e w776 ⟨rfl, hb777⟩
      have HF778 := Lib.hid (bext HFN.out hb777)
      have HX779 := Lib.hid (HMX.out.below hb777 HMX.out.lt)
      have HY780 := Lib.hid (OwnRs.below HON.out hb777)
      clear HFN HMX HON
      clear hb777
      go_wp2_with fail
      go_roundw
      case rel => exact ⟨j + 1, max M v, B1, k1, R1, n1, by omega, by go_num, by first | rfl | (congr 1; split <;> omega), HF778.out, HX779.out, HY780.out, HPAID.out⟩
      case measure => simp [intOf]; omega
  · skip
    by_cases hf : f2 = 0
    · have hcq := (ld_zero HC2.out hf).symm
      have hpq := HPP.out hf
      have HPQ := Lib.hid hpq
      clear HC2 hpq
      subst hf
      subst hcq
      have c32 : U20.cell? ⟨g21, 0, none⟩ = some (.int .u8 c0.tag) := HX31.out.cell 0
      have c33 : U20.cell? ⟨g21, 1, none⟩ = some (.int .i64 c0.most) := HX31.out.cell 1
      have c34 : U20.cell? ⟨g21, 2, none⟩ = some (.int .i64 c0.seg) := HX31.out.cell 2
      have c35 : U20.cell? ⟨g21, 3, none⟩ = some (.int .i64 c0.least) := HX31.out.cell 3
      have c36 : U20.cell? ⟨g21, 4, none⟩ = some (.int .i64 c0.den) := HX31.out.cell 4
      have c37 : U20.cell? ⟨g21, 5, none⟩ = some (.int .i64 c0.leafLow) := HX31.out.cell 5
      have c38 : U20.cell? ⟨g21, 6, none⟩ = some (.int .i64 c0.rootLow) := HX31.out.cell 6
      have c39 : U20.cell? ⟨g21, 7, none⟩ = some (.int .i64 c0.rootHigh) := HX31.out.cell 7
      have c40 : U20.cell? ⟨g21, 8, none⟩ = some (.int .i64 c0.leafHigh) := HX31.out.cell 8
      have c41 : U20.cell? ⟨g21, 9, none⟩ = some (.slice B2 M2 k2) := HX31.out.cell 9
      have c42 : U20.cell? ⟨g21, 10, none⟩ = some (.int .u64 N2) := HX31.out.cell 10
      have l43 : g21 < U20.heap.size := HX31.out.lt
      have c44 : U20.cell? ⟨g33, 0, none⟩ = some (.int .u8 c0.tag) := HX26.out.cell 0
      have c45 : U20.cell? ⟨g33, 1, none⟩ = some (.int .i64 c0.most) := HX26.out.cell 1
      have c46 : U20.cell? ⟨g33, 2, none⟩ = some (.int .i64 c0.seg) := HX26.out.cell 2
      have c47 : U20.cell? ⟨g33, 3, none⟩ = some (.int .i64 c0.least) := HX26.out.cell 3
      have c48 : U20.cell? ⟨g33, 4, none⟩ = some (.int .i64 c0.den) := HX26.out.cell 4
      have c49 : U20.cell? ⟨g33, 5, none⟩ = some (.int .i64 c0.leafLow) := HX26.out.cell 5
      have c50 : U20.cell? ⟨g33, 6, none⟩ = some (.int .i64 c0.rootLow) := HX26.out.cell 6
      have c51 : U20.cell? ⟨g33, 7, none⟩ = some (.int .i64 c0.rootHigh) := HX26.out.cell 7
      have c52 : U20.cell? ⟨g33, 8, none⟩ = some (.int .i64 c0.leafHigh) := HX26.out.cell 8
      have c53 : U20.cell? ⟨g33, 9, none⟩ = some (.slice B1 R1.length k1) := HX26.out.cell 9
      have c54 : U20.cell? ⟨g33, 10, none⟩ = some (.int .u64 n1) := HX26.out.cell 10
      have l55 : g33 < U20.heap.size := HX26.out.lt
      have fr0 := HX26.out.frozen 0
      have fr1 := HX26.out.frozen 1
      have fr2 := HX26.out.frozen 2
      have fr3 := HX26.out.frozen 3
      have fr4 := HX26.out.frozen 4
      have fr5 := HX26.out.frozen 5
      have fr6 := HX26.out.frozen 6
      have fr7 := HX26.out.frozen 7
      have fr8 := HX26.out.frozen 8
      have fr9 := HX26.out.frozen 9
      have fr10 := HX26.out.frozen 10
      go_upto_region 15 with fail
      clear c32 c33 c34 c35 c36 c37 c38 c39 c40 c41 c42 l43 c44 c45 c46 c47 c48 c49 c50 c51 c52 c53 c54 l55
      clear fr0 fr1 fr2 fr3 fr4 fr5 fr6 fr7 fr8 fr9 fr10
      obtain ⟨UM, hUM⟩ : ∃ U, (((((((((((U20.setCell ⟨g33, 0, none⟩ (.int .u8 c0.tag)).setCell ⟨g33, 1, none⟩ (.int .i64 c0.most)).setCell ⟨g33, 2, none⟩ (.int .i64 c0.seg)).setCell ⟨g33, 3, none⟩ (.int .i64 c0.least)).setCell ⟨g33, 4, none⟩ (.int .i64 c0.den)).setCell ⟨g33, 5, none⟩ (.int .i64 c0.leafLow)).setCell ⟨g33, 6, none⟩ (.int .i64 c0.rootLow)).setCell ⟨g33, 7, none⟩ (.int .i64 c0.rootHigh)).setCell ⟨g33, 8, none⟩ (.int .i64 c0.leafHigh)).setCell ⟨g33, 9, none⟩ (.slice B2 M2 k2)).setCell ⟨g33, 10, none⟩ (.int .u64 N2)) = U := ⟨_, rfl⟩
      rw [hUM]
      have HMN : Hid (Blk UM g33 65 (lrow c0 B2 M2 k2 N2)) := by show Blk _ _ _ _; rw [← hUM]; exact put11 HX26.out _ _ _ _ _ _ _ _ _ _ _
      have HON : Hid (OwnRs UM w.heap.size B2 k2 R2) := by show OwnRs _ _ _ _ _; rw [← hUM]; exact (HY29.out.mono hI.out.bel.size).set11 HX26.out (by decide) (by decide) _ _ _ _ _ _ _ _ _ _ _
      have HFN : Hid (Below w.heap.size w UM) := by show Below _ _ _; rw [← hUM]; exact below11 (bext hI.out.bel HF25.out) HGS.out _ _ _ _ _ _ _ _ _ _ _
      clear hUM
      have hpaid := HPQ.out
      have hpc := paid_count hpaid
      have hml := may_le HL2.out hpaid.may
      have hcn := fun W (hW : RunsAt W B2 R2) => countR_any B2 R2 k2 N2 W hW hml.1 hml.2
      rw [HM2.out, HL2.out] at hcn
      rw [hpc.1, hpc.2, if_pos rfl] at hcn
      obtain ⟨v, hv⟩ : ∃ v, (allL L2).length = v := ⟨_, rfl⟩
      obtain ⟨tt, htt⟩ : ∃ v, tot L2 = v := ⟨_, rfl⟩
      rw [hv, htt] at hcn
      rw [hv] at hpaid
      have HCN := Lib.hid hcn
      have HPAID := Lib.hid hpaid
      clear hcn hpaid hpc hml hv htt
      have c556 : UM.cell? ⟨g33, 0, none⟩ = some (.int .u8 c0.tag) := HMN.out.cell 0
      have c557 : UM.cell? ⟨g33, 1, none⟩ = some (.int .i64 c0.most) := HMN.out.cell 1
      have c558 : UM.cell? ⟨g33, 2, none⟩ = some (.int .i64 c0.seg) := HMN.out.cell 2
      have c559 : UM.cell? ⟨g33, 3, none⟩ = some (.int .i64 c0.least) := HMN.out.cell 3
      have c560 : UM.cell? ⟨g33, 4, none⟩ = some (.int .i64 c0.den) := HMN.out.cell 4
      have c561 : UM.cell? ⟨g33, 5, none⟩ = some (.int .i64 c0.leafLow) := HMN.out.cell 5
      have c562 : UM.cell? ⟨g33, 6, none⟩ = some (.int .i64 c0.rootLow) := HMN.out.cell 6
      have c563 : UM.cell? ⟨g33, 7, none⟩ = some (.int .i64 c0.rootHigh) := HMN.out.cell 7
      have c564 : UM.cell? ⟨g33, 8, none⟩ = some (.int .i64 c0.leafHigh) := HMN.out.cell 8
      have c565 : UM.cell? ⟨g33, 9, none⟩ = some (.slice B2 M2 k2) := HMN.out.cell 9
      have c566 : UM.cell? ⟨g33, 10, none⟩ = some (.int .u64 N2) := HMN.out.cell 10
      have l567 : g33 < UM.heap.size := HMN.out.lt
      go_wp2_with fail
      clear c556 c557 c558 c559 c560 c561 c562 c563 c564 c565 c566 l567
      refine (HCN.out _ HON.out.runsAt).mono ?_
      rintro e w568 ⟨rfl, hb569⟩
      have HF570 := Lib.hid (bext HFN.out hb569)
      have HX571 := Lib.hid (HMN.out.below hb569 HMN.out.lt)
      have HY572 := Lib.hid (OwnRs.below HON.out hb569)
      clear HFN HMN HON
      clear hb569
      go_wp2_with fail
      go_roundw
      case rel => exact ⟨j + 1, max M v, B2, k2, R2, N2, by omega, by go_num, by first | rfl | (congr 1; split <;> omega), HF570.out, (by rw [HM2.out]; exact HX571.out), HY572.out, (by rw [HL2.out]; exact HPAID.out)⟩
      case measure => simp [intOf]; omega
    · have h1 : (f2 == 0) = false := by simpa using hf
      have HFN := Lib.hid (bext hI.out.bel HF25.out)
      have HON := Lib.hid (hI.out.own.below HF25.out)
      have hpaid := hI.out.paid.same
      have hpc := paid_count hpaid
      have hml := may_le rfl hpaid.may
      have hcn := fun W (hW : RunsAt W B1 R1) => countR_any B1 R1 k1 n1 W hW hml.1 hml.2
      rw [hpc.1, hpc.2, if_pos rfl] at hcn
      obtain ⟨v, hv⟩ : ∃ v, (allL (lvs R1)).length = v := ⟨_, rfl⟩
      obtain ⟨tt, htt⟩ : ∃ v, tot (lvs R1) = v := ⟨_, rfl⟩
      rw [hv, htt] at hcn
      rw [hv] at hpaid
      have HCN := Lib.hid hcn
      have HPAID := Lib.hid hpaid
      clear hcn hpaid hpc hml hv htt
      have c532 : U20.cell? ⟨g33, 0, none⟩ = some (.int .u8 c0.tag) := HX26.out.cell 0
      have c533 : U20.cell? ⟨g33, 1, none⟩ = some (.int .i64 c0.most) := HX26.out.cell 1
      have c534 : U20.cell? ⟨g33, 2, none⟩ = some (.int .i64 c0.seg) := HX26.out.cell 2
      have c535 : U20.cell? ⟨g33, 3, none⟩ = some (.int .i64 c0.least) := HX26.out.cell 3
      have c536 : U20.cell? ⟨g33, 4, none⟩ = some (.int .i64 c0.den) := HX26.out.cell 4
      have c537 : U20.cell? ⟨g33, 5, none⟩ = some (.int .i64 c0.leafLow) := HX26.out.cell 5
      have c538 : U20.cell? ⟨g33, 6, none⟩ = some (.int .i64 c0.rootLow) := HX26.out.cell 6
      have c539 : U20.cell? ⟨g33, 7, none⟩ = some (.int .i64 c0.rootHigh) := HX26.out.cell 7
      have c540 : U20.cell? ⟨g33, 8, none⟩ = some (.int .i64 c0.leafHigh) := HX26.out.cell 8
      have c541 : U20.cell? ⟨g33, 9, none⟩ = some (.slice B1 R1.length k1) := HX26.out.cell 9
      have c542 : U20.cell? ⟨g33, 10, none⟩ = some (.int .u64 n1) := HX26.out.cell 10
      have l543 : g33 < U20.heap.size := HX26.out.lt
      go_wp2_with fail
      clear c532 c533 c534 c535 c536 c537 c538 c539 c540 c541 c542 l543
      refine (HCN.out _ HON.out.runsAt).mono ?_
      rintro e w544 ⟨rfl, hb545⟩
      have HF546 := Lib.hid (bext HFN.out hb545)
      have HX547 := Lib.hid (HX26.out.below hb545 HX26.out.lt)
      have HY548 := Lib.hid (OwnRs.below HON.out hb545)
      clear HFN HX26 HON
      clear hb545
      go_wp2_with fail
      go_roundw
      case rel => exact ⟨j + 1, max M v, B1, k1, R1, n1, by omega, by go_num, by first | rfl | (congr 1; split <;> omega), HF546.out, HX547.out, HY548.out, HPAID.out⟩
      case measure => simp [intOf]; omega
end Go.Proofs.YthbppblmecdekaaDoor
