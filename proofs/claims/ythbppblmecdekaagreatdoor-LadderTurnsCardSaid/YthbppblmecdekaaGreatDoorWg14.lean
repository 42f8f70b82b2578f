/- Hm: texts of the claim, in this order. -/
import Derived.Test.YthbppblmecdekaaGreatDoorWg13
/- Contract: which levels may be, by the reference (May). -/
namespace Go.Proofs.YthbppblmecdekaaGreatDoor
open Go Go.RowKit
set_option maxRecDepth 100000
theorem mayB_bad {rs : Lv} {k : Nat} (h : k < rs.length) (hb : okLv rs.length k (lev rs k) = false) : mayB rs = false := by
  cases hm : mayB rs with
  | false => rfl
  | true =>
    unfold mayB allOk at hm
    simp only [Bool.and_eq_true, decide_eq_true_eq] at hm
    rw [hm.1.2 k h] at hb
    cases hb
theorem mayB_end {rs : Lv} (h : endOk rs = false) : mayB rs = false := by unfold mayB; rw [h]; rfl
theorem mayB_all {rs : Lv} (h : endOk rs = true) (h2 : allOk rs rs.length = true) : mayB rs = decide (tot rs ≤ 65536) := by unfold mayB; rw [h, h2]; rfl
set_option maxHeartbeats 16000000 in
theorem may26_any (B : Option Addr) (Rs : List Rm) (c : Nat) (n : Int) (w : World) (hB : RunsAt w B Rs) (hT : tot (lvs Rs) ≤ 1000000) (hl : Rs.length ≤ 1000000) :
    Calls Tryz.prog 56 #[.agg #[.slice B Rs.length c, .int .u64 n]] w fun r w' => r = .returned (.bool (mayB (lvs Rs))) ∧ Below w.heap.size w w' := by
  obtain ⟨W0, hW0⟩ : ∃ W0, w.alloc (.cells #[.slice B Rs.length c, .int .u64 n] 27) = W0 := ⟨_, rfl⟩
  have hb0 : Below w.heap.size w W0 := by rw [← hW0]; exact (Below.refl _ _).alloc (Nat.le_refl _) _
  have b1 : Blk W0 w.heap.size 27 #[.slice B Rs.length c, .int .u64 n] := by rw [← hW0]; exact Blk.new _ _ _
  have HW0 := Lib.hid hW0
  have HB := Lib.hid hB
  have HB0 := Lib.hid hb0
  clear hW0 hB
  have c10 : W0.cell? ⟨w.heap.size, 0, none⟩ = some (.slice B Rs.length c) := b1.cell 0
  have c11 : W0.cell? ⟨w.heap.size, 1, none⟩ = some (.int .u64 n) := b1.cell 1
  by_cases hend : endOk (lvs Rs) = true
  · have hEnd := Lib.hid hend
    have hl17 : Rs.length ≤ 17 := by
      unfold endOk at hend
      simp at hend
      exact hend.1
    go_enter Tryz.func56, Tryz.ntmps56
    go_upto_region 2 with fail
    rw [HW0.out]
    go_cut [25] from 9 to 25 (fun v wx => v = .bool false ∧ wx = W0)
    case first =>
      have g1 : ¬ (17 : Int) < (Rs.length : Int) := by omega
      by_cases h0 : Rs.length = 0
      · have g2 : ¬ (0 : Int) < (Rs.length : Int) := by omega
        clear hend h0
        go_wp2
        go_meet
        exact ⟨by simp, by first | trivial | rfl⟩
      · have g2 : (0 : Int) < (Rs.length : Int) := by omega
        obtain ⟨j, hj⟩ : ∃ j, Rs.length = j + 1 := ⟨Rs.length - 1, by omega⟩
        obtain ⟨b, off, rfl, hbl, cp⟩ := HB.out.sl.oneB hb0 j (by omega)
        have hne : (Rs[j]'(by omega)).l ≠ [] := by
          unfold endOk at hend
          rw [lvs_len, hj] at hend
          simp at hend
          have h2 := hend.2
          rw [lvs_lev (by omega)] at h2
          exact h2
        obtain ⟨r, hr⟩ : ∃ r, Rs[j]'(by omega) = r := ⟨_, rfl⟩
        rw [hr] at cp hne
        obtain ⟨l, A, cl⟩ := r
        have cp1 : W0.cell? ⟨b, off + j, none⟩ = some (.slice A l.length cl) := cp
        have hne2 : ¬ l = [] := hne
        have hl0 : ¬ ((l.length : Int) = 0) := by have := List.length_pos_iff.2 hne; dsimp only at this; omega
        have g4 : IntKind.i64.wrap ((Rs.length : Int) - 1) = (j : Int) := (IntWalk.i64_in _ (by omega)).trans (by omega)
        have g5 : (0 : Int) ≤ (j : Int) := by omega
        have g6 : (j : Int) < (Rs.length : Int) := by omega
        clear cp hr hne hj hend h0
        go_wp2
        go_meet
        exact ⟨by simp [hne2], by first | trivial | rfl⟩
    case rest =>
    obtain ⟨rfl, rfl⟩ := hcut
    clear hend c10 c11
    go_wp2
    go_loopw [4] (fun i wr => ∃ k : Nat, k ≤ Rs.length ∧ i = .int .i64 k ∧ Below w.heap.size w wr ∧ Blk wr w.heap.size 27 #[.slice B Rs.length c, .int .u64 n] ∧ Hid (allOk (lvs Rs) k = true)) (fun i _ => Rs.length - (intOf i).toNat)
    case atStart => exact ⟨0, Nat.zero_le _, rfl, hb0, b1, by show _ = _; unfold allOk; simp⟩
    case round =>
      obtain ⟨k, hk, rfl, hb, bX, hA⟩ := hrel
      have x10 : wr.cell? ⟨w.heap.size, 0, none⟩ = some (.slice B Rs.length c) := bX.cell 0
      have x11 : wr.cell? ⟨w.heap.size, 1, none⟩ = some (.int .u64 n) := bX.cell 1
      by_cases hlt : k < Rs.length
      · obtain ⟨b, off, rfl, hbl, cp⟩ := HB.out.sl.oneB hb k hlt
        have hok := (HB.out.ok _ (List.getElem_mem hlt)).below hb
        have ha := allOk_succ (lvs Rs) k
        have hbad := mayB_bad (rs := lvs Rs) (k := k) (by simpa using hlt)
        have hle := tot_lev (lvs Rs) k
        rw [lvs_lev hlt, lvs_len] at ha hbad
        rw [lvs_lev hlt] at hle
        obtain ⟨r, hr⟩ : ∃ r, Rs[k]'hlt = r := ⟨_, rfl⟩
        rw [hr] at cp hok ha hbad hle
        obtain ⟨l, A, cl⟩ := r
        have cp1 : wr.cell? ⟨b, off + k, none⟩ = some (.slice A l.length cl) := cp
        dsimp only at ha hbad hle
        have hbl2 : b < wr.heap.size := Nat.lt_of_lt_of_le hbl hb.size
        have hki : (0 : Int) ≤ (k : Int) := by omega
        have hki2 : (k : Int) < (Rs.length : Int) := by omega
        have hw2 : IntKind.i64.wrap ((Rs.length : Int) - 1) = ((Rs.length - 1 : Nat) : Int) := (IntWalk.i64_in _ (by omega)).trans (by omega)
        obtain ⟨E, hE⟩ : ∃ E, chkE l = E := ⟨_, rfl⟩
        have hOK : okLv Rs.length k l = (decide (E = 0) && (decide (l = []) || decide (up l.length = k)) && (decide (k + 1 ≠ Rs.length) || !deadE l)) := by unfold okLv; rw [hE]
        have hE16 : E = 0 → l.length ≤ 65536 := by rw [← hE]; exact fun h => (chk_ok h).2.2
        have hll : l.length ≤ 1000000 := by omega
        have HOKS := Lib.hid hok.sl
        have HA := Lib.hid ha
        have HBAD := Lib.hid hbad
        have HE := Lib.hid hE
        have HE16 := Lib.hid hE16
        have HBB := Lib.hid hb
        have hbs := hb.size
        have lX := bX.lt
        clear cp hr hok ha hbad hE hE16 hle
        obtain ⟨U, hU⟩ : ∃ U, up l.length = U := ⟨_, rfl⟩
        rw [hU] at hOK
        have HU := Lib.hid hU
        obtain ⟨DD, hDD⟩ : ∃ DD, deadE l = DD := ⟨_, rfl⟩
        rw [hDD] at hOK
        have HDD := Lib.hid hDD
        have HOK := Lib.hid hOK
        clear hU hOK hDD
        obtain ⟨J, hJ⟩ : ∃ J : Nat, Rs.length - 1 = J := ⟨_, rfl⟩
        rw [hJ] at hw2
        by_cases hE0 : E = 0
        · have hl6 := HE16.out hE0
          have HL6 := Lib.hid hl6
          clear hl6
          by_cases hl0' : l.length = 0
          · have hnil : l = [] := List.eq_nil_of_length_eq_zero hl0'
            have hl00 : ¬ (0 : Int) < (l.length : Int) := by omega
            have hDF : DD = false := by rw [← HDD.out, hnil]; rfl
            clear hl0'
            have hK : okLv Rs.length k l = true := by rw [HOK.out]; rw [hE0, hnil, hDF]; simp
            have HK := Lib.hid hK
            clear hK
            clear hnil
            subst hDF
            subst hE0
            by_cases hkn : k = J
            · subst hkn
              go_wp2_with fail
              refine (refCheck_any A l cl _ HOKS.out (by omega)).mono ?_
              rw [HE.out]
              rintro e w1 ⟨rfl, hb1⟩
              have y10 : w1.cell? ⟨w.heap.size, 0, none⟩ = some (.slice (some ⟨b, off, none⟩) Rs.length c) := (bX.below hb1 lX).cell 0
              have y11 : w1.cell? ⟨w.heap.size, 1, none⟩ = some (.int .u64 n) := (bX.below hb1 lX).cell 1
              have yp1 : w1.cell? ⟨b, off + k, none⟩ = some (.slice A l.length cl) := ((bcell hb1).1 _ _ hbl2).trans cp1
              have bY := bX.below hb1 lX
              have HB1 := Lib.hid (bext HBB.out hb1)
              go_wp2_with fail
              refine (dead26_any A l cl _ (HOKS.out.below hb1) (by omega)).mono ?_
              rw [HDD.out]
              rintro e w3 ⟨rfl, hb3⟩
              have bZ := bY.below hb3 bY.lt
              have HB3 := Lib.hid (bext HB1.out hb3)
              go_wp2
              go_roundw
              case rel => exact ⟨k + 1, by omega, by go_num, HB3.out, bZ, by show _ = _; rw [HA.out, hA.out, HK.out]; rfl⟩
              case measure => simp [intOf]; omega
              
            · go_wp2_with fail
              refine (refCheck_any A l cl _ HOKS.out (by omega)).mono ?_
              rw [HE.out]
              rintro e w1 ⟨rfl, hb1⟩
              have y10 : w1.cell? ⟨w.heap.size, 0, none⟩ = some (.slice (some ⟨b, off, none⟩) Rs.length c) := (bX.below hb1 lX).cell 0
              have y11 : w1.cell? ⟨w.heap.size, 1, none⟩ = some (.int .u64 n) := (bX.below hb1 lX).cell 1
              have yp1 : w1.cell? ⟨b, off + k, none⟩ = some (.slice A l.length cl) := ((bcell hb1).1 _ _ hbl2).trans cp1
              have bY := bX.below hb1 lX
              have HB1 := Lib.hid (bext HBB.out hb1)
              go_wp2
              go_roundw
              case rel => exact ⟨k + 1, by omega, by go_num, HB1.out, bY, by show _ = _; rw [HA.out, hA.out, HK.out]; rfl⟩
              case measure => simp [intOf]; omega
              
          · have hl0 : 0 < l.length := by omega
            have hne : ¬ l = [] := List.length_pos_iff.1 hl0
            have hl00 : (0 : Int) < (l.length : Int) := by omega
            have HL0 := Lib.hid hl0
            clear hl0 hl0'
            by_cases hu : U = k
            · by_cases hkn : k = J
              · cases DD
                · have hK : okLv Rs.length k l = true := by rw [HOK.out]; rw [hE0]; simp [hu]
                  have HK := Lib.hid hK
                  clear hK
                  subst hkn
                  subst hu
                  subst hE0
                  go_wp2_with fail
                  refine (refCheck_any A l cl _ HOKS.out (by omega)).mono ?_
                  rw [HE.out]
                  rintro e w1 ⟨rfl, hb1⟩
                  have y10 : w1.cell? ⟨w.heap.size, 0, none⟩ = some (.slice (some ⟨b, off, none⟩) Rs.length c) := (bX.below hb1 lX).cell 0
                  have y11 : w1.cell? ⟨w.heap.size, 1, none⟩ = some (.int .u64 n) := (bX.below hb1 lX).cell 1
                  have yp1 : w1.cell? ⟨b, off + U, none⟩ = some (.slice A l.length cl) := ((bcell hb1).1 _ _ hbl2).trans cp1
                  have bY := bX.below hb1 lX
                  have HB1 := Lib.hid (bext HBB.out hb1)
                  go_wp2_with fail
                  refine (ceil_any l.length _ HL0.out HL6.out).mono ?_
                  rw [HU.out]
                  rintro e w2 ⟨rfl, rfl⟩
                  go_wp2_with fail
                  refine (dead26_any A l cl _ (HOKS.out.below hb1) (by omega)).mono ?_
                  rw [HDD.out]
                  rintro e w3 ⟨rfl, hb3⟩
                  have bZ := bY.below hb3 bY.lt
                  have HB3 := Lib.hid (bext HB1.out hb3)
                  go_wp2
                  go_roundw
                  case rel => exact ⟨U + 1, by omega, by go_num, HB3.out, bZ, by show _ = _; rw [HA.out, hA.out, HK.out]; rfl⟩
                  case measure => simp [intOf]; omega
                  
                · have hK : okLv Rs.length k l = false := by rw [HOK.out]; rw [hE0]; simp; omega
                  have HK := Lib.hid hK
                  clear hK
                  subst hkn
                  subst hu
                  subst hE0
                  go_wp2_with fail
                  refine (refCheck_any A l cl _ HOKS.out (by omega)).mono ?_
                  rw [HE.out]
                  rintro e w1 ⟨rfl, hb1⟩
                  have y10 : w1.cell? ⟨w.heap.size, 0, none⟩ = some (.slice (some ⟨b, off, none⟩) Rs.length c) := (bX.below hb1 lX).cell 0
                  have y11 : w1.cell? ⟨w.heap.size, 1, none⟩ = some (.int .u64 n) := (bX.below hb1 lX).cell 1
                  have yp1 : w1.cell? ⟨b, off + U, none⟩ = some (.slice A l.length cl) := ((bcell hb1).1 _ _ hbl2).trans cp1
                  have bY := bX.below hb1 lX
                  have HB1 := Lib.hid (bext HBB.out hb1)
                  go_wp2_with fail
                  refine (ceil_any l.length _ HL0.out HL6.out).mono ?_
                  rw [HU.out]
                  rintro e w2 ⟨rfl, rfl⟩
                  go_wp2_with fail
                  refine (dead26_any A l cl _ (HOKS.out.below hb1) (by omega)).mono ?_
                  rw [HDD.out]
                  rintro e w3 ⟨rfl, hb3⟩
                  have bZ := bY.below hb3 bY.lt
                  have HB3 := Lib.hid (bext HB1.out hb3)
                  go_wp2
                  go_ret
                  exact ⟨ret_bool (HBAD.out HK.out).symm, HB3.out⟩
                  
              · have hK : okLv Rs.length k l = true := by rw [HOK.out]; rw [hE0]; simp [hu]; omega
                have HK := Lib.hid hK
                clear hK
                subst hu
                subst hE0
                go_wp2_with fail
                refine (refCheck_any A l cl _ HOKS.out (by omega)).mono ?_
                rw [HE.out]
                rintro e w1 ⟨rfl, hb1⟩
                have y10 : w1.cell? ⟨w.heap.size, 0, none⟩ = some (.slice (some ⟨b, off, none⟩) Rs.length c) := (bX.below hb1 lX).cell 0
                have y11 : w1.cell? ⟨w.heap.size, 1, none⟩ = some (.int .u64 n) := (bX.below hb1 lX).cell 1
                have yp1 : w1.cell? ⟨b, off + U, none⟩ = some (.slice A l.length cl) := ((bcell hb1).1 _ _ hbl2).trans cp1
                have bY := bX.below hb1 lX
                have HB1 := Lib.hid (bext HBB.out hb1)
                go_wp2_with fail
                refine (ceil_any l.length _ HL0.out HL6.out).mono ?_
                rw [HU.out]
                rintro e w2 ⟨rfl, rfl⟩
                go_wp2
                go_roundw
                case rel => exact ⟨U + 1, by omega, by go_num, HB1.out, bY, by show _ = _; rw [HA.out, hA.out, HK.out]; rfl⟩
                case measure => simp [intOf]; omega
                
            · have hK : okLv Rs.length k l = false := by rw [HOK.out]; rw [hE0]; simp [hu, hne]
              have HK := Lib.hid hK
              clear hK
              subst hE0
              go_wp2_with fail
              refine (refCheck_any A l cl _ HOKS.out (by omega)).mono ?_
              rw [HE.out]
              rintro e w1 ⟨rfl, hb1⟩
              have y10 : w1.cell? ⟨w.heap.size, 0, none⟩ = some (.slice (some ⟨b, off, none⟩) Rs.length c) := (bX.below hb1 lX).cell 0
              have y11 : w1.cell? ⟨w.heap.size, 1, none⟩ = some (.int .u64 n) := (bX.below hb1 lX).cell 1
              have yp1 : w1.cell? ⟨b, off + k, none⟩ = some (.slice A l.length cl) := ((bcell hb1).1 _ _ hbl2).trans cp1
              have bY := bX.below hb1 lX
              have HB1 := Lib.hid (bext HBB.out hb1)
              go_wp2_with fail
              refine (ceil_any l.length _ HL0.out HL6.out).mono ?_
              rw [HU.out]
              rintro e w2 ⟨rfl, rfl⟩
              go_wp2
              go_ret
              exact ⟨ret_bool (HBAD.out HK.out).symm, HB1.out⟩
              
        · have hK : okLv Rs.length k l = false := by rw [HOK.out]; simp [hE0]
          have HK := Lib.hid hK
          clear hK
          go_wp2_with fail
          refine (refCheck_any A l cl _ HOKS.out (by omega)).mono ?_
          rw [HE.out]
          rintro e w1 ⟨rfl, hb1⟩
          have y10 : w1.cell? ⟨w.heap.size, 0, none⟩ = some (.slice (some ⟨b, off, none⟩) Rs.length c) := (bX.below hb1 lX).cell 0
          have y11 : w1.cell? ⟨w.heap.size, 1, none⟩ = some (.int .u64 n) := (bX.below hb1 lX).cell 1
          have yp1 : w1.cell? ⟨b, off + k, none⟩ = some (.slice A l.length cl) := ((bcell hb1).1 _ _ hbl2).trans cp1
          have bY := bX.below hb1 lX
          have HB1 := Lib.hid (bext HBB.out hb1)
          go_wp2
          go_ret
          exact ⟨ret_bool (HBAD.out HK.out).symm, HB1.out⟩
          
      · have hkn : k = Rs.length := by omega
        have hall : allOk (lvs Rs) (lvs Rs).length = true := by rw [lvs_len, ← hkn]; exact hA.out
        have hfin := mayB_all hEnd.out hall
        have HF := Lib.hid hfin
        have hkf : ¬ (k : Int) < (Rs.length : Int) := by omega
        have HBB := Lib.hid hb
        clear hfin hall hkn hb
        go_wp2_with fail
        refine (entries26_any B Rs c n _ (HB.out.below HBB.out) hT hl).mono ?_
        rintro e w4 ⟨rfl, hb4⟩
        go_wp2
        go_ret
        exact ⟨ret_bool (by rw [HF.out]; first | rfl | (simp; omega) | (rw [decide_eq_decide]; omega)), bext HBB.out hb4⟩
  · have hE8 : mayB (lvs Rs) = false := mayB_end (by simpa using hend)
    have HE8 := Lib.hid hE8
    clear hE8
    by_cases h17 : 17 < Rs.length
    · have g1 : (17 : Int) < (Rs.length : Int) := by omega
      clear hend
      go_enter Tryz.func56, Tryz.ntmps56
      go_wp2
      go_ret
      exact ⟨ret_bool HE8.out.symm, by first | exact HB0.out | (have := HB0.out; rw [← HW0.out] at this; exact this)⟩
    · have g1 : ¬ (17 : Int) < (Rs.length : Int) := by omega
      have h0 : Rs.length ≠ 0 := by
        intro h0
        apply hend
        unfold endOk
        rw [lvs_len, h0]; rfl
      have g2 : (0 : Int) < (Rs.length : Int) := by omega
      obtain ⟨j, hj⟩ : ∃ j, Rs.length = j + 1 := ⟨Rs.length - 1, by omega⟩
      obtain ⟨b, off, rfl, hbl, cp⟩ := HB.out.sl.oneB (Below.refl _ _) j (by omega)
      have hne : (Rs[j]'(by omega)).l = [] := by
        refine Classical.byContradiction fun hx => hend ?_
        unfold endOk
        rw [lvs_len, hj, Nat.add_sub_cancel, lvs_lev (by omega)]
        simp [hx]
        omega
      obtain ⟨r, hr⟩ : ∃ r, Rs[j]'(by omega) = r := ⟨_, rfl⟩
      rw [hr] at cp hne
      obtain ⟨l, A, cl⟩ := r
      have hnl : l = [] := hne
      subst hnl
      have cp1 : w.cell? ⟨b, off + j, none⟩ = some (.slice A 0 cl) := cp
      have g4 : IntKind.i64.wrap ((Rs.length : Int) - 1) = (j : Int) := (IntWalk.i64_in _ (by omega)).trans (by omega)
      have g5 : (0 : Int) ≤ (j : Int) := by omega
      have g6 : (j : Int) < (Rs.length : Int) := by omega
      clear cp hr hne hj hend
      go_enter Tryz.func56, Tryz.ntmps56
      go_wp2
      go_ret
      exact ⟨ret_bool HE8.out.symm, by first | exact HB0.out | (have := HB0.out; rw [← HW0.out] at this; exact this)⟩
end Go.Proofs.YthbppblmecdekaaGreatDoor
