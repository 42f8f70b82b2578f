/- Gc Hd Ho Iq: texts of the claim, in this order. -/
import Derived.Test.YtolclahkfmplfaaGreatDoorWg11
import Derived.Test.YtolclahkfmplfaaGreatDoorWg13
import Derived.Test.YtolclahkfmplfaaGreatDoorWg12
import Derived.Test.YtolclahkfmplfaaGreatDoorWg8
/- Contract: which levels may be (rungs.Check). -/
namespace Go.Proofs.YtolclahkfmplfaaGreatDoor
open Go Go.RowKit
set_option maxRecDepth 100000
set_option maxHeartbeats 16000000 in
theorem checkR_any (B : Option Addr) (Rs : List Rm) (c : Nat) (n : Int) (w : World) (hB : RunsAt w B Rs) (hT : tot (lvs Rs) ≤ 1000000) (hl : Rs.length ≤ 1000000) :
    Calls Tryz.prog 46 #[.agg #[.slice B Rs.length c, .int .u64 n]] w fun r w' => r = .returned (.int .i64 (chkR (lvs Rs))) ∧ Below w.heap.size w w' := by
  have hb0 : Below w.heap.size w (w.alloc (.cells #[.slice B Rs.length c, .int .u64 n] 27)) := (Below.refl _ _).alloc (Nat.le_refl _) _
  by_cases hend : endOk (lvs Rs) = true
  · have hEnd := Lib.hid hend
    have hl17 : Rs.length ≤ 17 := by
      unfold endOk at hend
      simp at hend
      exact hend.1
    go_enter Tryz.func46, Tryz.ntmps46
    go_upto_region 2 with fail
    go_cut [29] from 13 to 29 (fun v wx => v = .bool false ∧ wx = w.alloc (.cells #[.slice B Rs.length c, .int .u64 n] 27))
    case first =>
      have g1 : ¬ (17 : Int) < (Rs.length : Int) := by omega
      by_cases h0 : Rs.length = 0
      · have g2 : ¬ (0 : Int) < (Rs.length : Int) := by omega
        clear hend h0
        go_wp2
        go_meet
        exact ⟨by simp, rfl⟩
      · have g2 : (0 : Int) < (Rs.length : Int) := by omega
        obtain ⟨j, hj⟩ : ∃ j, Rs.length = j + 1 := ⟨Rs.length - 1, by omega⟩
        obtain ⟨b, off, rfl, hbl, cp⟩ := hB.sl.oneB hb0 j (by omega)
        have hne : (Rs[j]'(by omega)).l ≠ [] := by
          unfold endOk at hend
          rw [lvs_len, hj] at hend
          simp at hend
          have h2 := hend.2
          rw [lvs_lev (by omega)] at h2
          exact h2
        obtain ⟨r, hr⟩ : ∃ r, Rs[j]'(by omega) = r := ⟨_, rfl⟩
        rw [hr] at cp hne
        obtain ⟨l, A, cl⟩ := r
        have cp1 : (w.alloc (.cells #[.slice (some ⟨b, off, none⟩) Rs.length c, .int .u64 n] 27)).cell? ⟨b, off + j, none⟩ = some (.slice A l.length cl) := cp
        have hl0 : 0 < l.length := List.length_pos_iff.2 hne
        have hne2 : ¬ l = [] := hne
        have g4 : IntKind.i64.wrap ((Rs.length : Int) - 1) = (j : Int) := (IntWalk.i64_in _ (by omega)).trans (by omega)
        have g5 : (0 : Int) ≤ (j : Int) := by omega
        have g6 : (j : Int) < (Rs.length : Int) := by omega
        clear cp hr hne hj hend h0
        go_wp2
        go_meet
        exact ⟨by simp [hne2], rfl⟩
    case rest =>
    obtain ⟨rfl, rfl⟩ := hcut
    have HB := Lib.hid hB
    clear hB hend
    go_wp2
    go_loopw [4, 33] (fun a i wr => ∃ k m : Nat, k ≤ Rs.length ∧ i = .int .i64 k ∧ a = .int .i64 m ∧ Below w.heap.size w wr ∧ m ≤ 1000000 ∧ Hid (m = tot ((lvs Rs).take k)) ∧ Hid (allOk (lvs Rs) k = true)) (fun _ i _ => Rs.length - (intOf i).toNat)
    case atStart => exact ⟨0, 0, Nat.zero_le _, rfl, rfl, hb0, by omega, rfl, by show _ = _; unfold allOk; simp⟩
    case round =>
      obtain ⟨k, m, hk, rfl, rfl, hb, hm, hd, hA⟩ := hrel
      by_cases hlt : k < Rs.length
      · obtain ⟨b, off, rfl, hbl, cp⟩ := HB.out.sl.oneB hb k hlt
        have hok := (HB.out.ok _ (List.getElem_mem hlt)).below hb
        have hs := tot_take_succ (rs := lvs Rs) (k := k) (by simpa using hlt)
        have ha := allOk_succ (lvs Rs) k
        have hbad := chkR_bad (rs := lvs Rs) (k := k) (by simpa using hlt)
        rw [lvs_lev hlt, lvs_len] at ha hbad
        rw [lvs_lev hlt] at hs
        have hle := tot_take_le (lvs Rs) (k + 1)
        obtain ⟨r, hr⟩ : ∃ r, Rs[k]'hlt = r := ⟨_, rfl⟩
        rw [hr] at cp hs hok ha hbad
        obtain ⟨l, A, cl⟩ := r
        have cp1 : wr.cell? ⟨b, off + k, none⟩ = some (.slice A l.length cl) := cp
        dsimp only at hs ha hbad
        have hki : (0 : Int) ≤ (k : Int) := by omega
        have hki2 : (k : Int) < (Rs.length : Int) := by omega
        have hsum : m + l.length ≤ 1000000 := by have := hd.out; omega
        have hw : IntKind.i64.wrap ((m : Int) + (l.length : Int)) = ((m + l.length : Nat) : Int) := (IntWalk.i64_in _ (by omega)).trans (by omega)
        have hw2 : IntKind.i64.wrap ((Rs.length : Int) - 1) = ((Rs.length - 1 : Nat) : Int) := (IntWalk.i64_in _ (by omega)).trans (by omega)
        obtain ⟨E, hE⟩ : ∃ E, chkE l = E := ⟨_, rfl⟩
        obtain ⟨N, hN⟩ : ∃ N, lvN l = N := ⟨_, rfl⟩
        have hNl : N ≤ l.length := by
          rw [← hN]; unfold lvN
          split
          · exact live_le l
          · exact Nat.zero_le _
        have hOK : okLv Rs.length k l = (decide (E = 0) && (decide (l = []) || decide (up l.length = k)) && (decide (k + 1 ≠ Rs.length) || !deadE l)) := by unfold okLv; rw [hE]
        have hDead : E = 0 → (N = l.length ↔ deadE l = false) := by rw [← hE, ← hN]; exact live_dead
        have hE16 : E = 0 → l.length ≤ 65536 := by rw [← hE]; exact fun h => (chk_ok h).2.2
        have HOKS := Lib.hid hok.sl
        have HS := Lib.hid hs
        have HA := Lib.hid ha
        have HBAD := Lib.hid hbad
        have HE := Lib.hid hE
        have HN := Lib.hid hN
        have HD := Lib.hid hDead
        have HE16 := Lib.hid hE16
        have hbs := hb.size
        have hll : l.length ≤ 4611686018427387903 := by omega
        have hbX : Below wr.heap.size wr (wr.alloc (.cells #[.slice A l.length cl] 49)) := (Below.refl _ _).alloc (Nat.le_refl _) _
        have hnb : wr.heap.size < (wr.alloc (.cells #[.slice A l.length cl] 49)).heap.size := by simp
        have bX := Blk.new wr 49 #[.slice A l.length cl]
        clear cp hr hs hle hok ha hbad hE hN hDead hE16
        obtain ⟨U, hU⟩ : ∃ U, up l.length = U := ⟨_, rfl⟩
        rw [hU] at hOK
        have HU := Lib.hid hU
        have HOK := Lib.hid hOK
        clear hU hOK
        obtain ⟨J, hJ⟩ : ∃ J : Nat, Rs.length - 1 = J := ⟨_, rfl⟩
        rw [hJ] at hw2
        by_cases hE0 : E = 0
        · have hl6 := HE16.out hE0
          have HL6 := Lib.hid hl6
          clear hl6
          by_cases hl0' : l.length = 0
          · have hnil : l = [] := List.eq_nil_of_length_eq_zero hl0'
            have hNN : N = l.length := by omega
            have hl00 : ¬ (0 : Int) < (l.length : Int) := by omega
            clear hl0'
            have hK : okLv Rs.length k l = true := by rw [HOK.out]; rw [hE0, hnil]; simp [deadE]
            have HK := Lib.hid hK
            clear hK
            clear hnil
            subst hE0
            subst hNN
            by_cases hkn : k = J
            · subst hkn
              go_wp2_with fail
              refine (live_any A l cl _ (HOKS.out.below hbX) hll).mono ?_
              unfold GivesII
              rw [HE.out, HN.out]
              rintro e w1 ⟨rfl, hb1⟩
              have hb2 := bext hbX hb1
              have c1 : w1.cell? ⟨wr.heap.size, 0, none⟩ = some (.slice A l.length cl) := (bX.below hb1 bX.lt).cell 0
              go_wp2
              go_roundw
              case rel => exact ⟨k + 1, m + l.length, by omega, by go_num, by go_num, bext hb hb2, hsum, by show _ = _; rw [HS.out, hd.out], by show _ = _; rw [HA.out, hA.out, HK.out]; rfl⟩
              case measure => simp [intOf]; omega
              
            · go_wp2_with fail
              refine (live_any A l cl _ (HOKS.out.below hbX) hll).mono ?_
              unfold GivesII
              rw [HE.out, HN.out]
              rintro e w1 ⟨rfl, hb1⟩
              have hb2 := bext hbX hb1
              have c1 : w1.cell? ⟨wr.heap.size, 0, none⟩ = some (.slice A l.length cl) := (bX.below hb1 bX.lt).cell 0
              go_wp2
              go_roundw
              case rel => exact ⟨k + 1, m + l.length, by omega, by go_num, by go_num, bext hb hb2, hsum, by show _ = _; rw [HS.out, hd.out], by show _ = _; rw [HA.out, hA.out, HK.out]; rfl⟩
              case measure => simp [intOf]; omega
              
          · have hl0 : 0 < l.length := by omega
            have hne : ¬ l = [] := List.length_pos_iff.1 hl0
            have HL0 := Lib.hid hl0
            clear hl0 hl0'
            by_cases hu : U = k
            · by_cases hkn : k = J
              · by_cases hNN : N = l.length
                · have hK : okLv Rs.length k l = true := by rw [HOK.out]; rw [hE0, (HD.out hE0).1 hNN]; simp [hu]
                  have HK := Lib.hid hK
                  clear hK
                  subst hkn
                  subst hu
                  subst hNN
                  subst hE0
                  go_wp2_with fail
                  refine (live_any A l cl _ (HOKS.out.below hbX) hll).mono ?_
                  unfold GivesII
                  rw [HE.out, HN.out]
                  rintro e w1 ⟨rfl, hb1⟩
                  have hb2 := bext hbX hb1
                  have c1 : w1.cell? ⟨wr.heap.size, 0, none⟩ = some (.slice A l.length cl) := (bX.below hb1 bX.lt).cell 0
                  go_wp2_with fail
                  refine (level_any A l.length cl _ HL0.out HL6.out).mono ?_
                  rw [HU.out]
                  rintro e w2 ⟨rfl, hb3⟩
                  have hb4 := bext hb2 hb3
                  go_wp2
                  go_roundw
                  case rel => exact ⟨U + 1, m + l.length, by omega, by go_num, by go_num, bext hb hb4, hsum, by show _ = _; rw [HS.out, hd.out], by show _ = _; rw [HA.out, hA.out, HK.out]; rfl⟩
                  case measure => simp [intOf]; omega
                  
                · have hdd : deadE l = true := by
                    cases hx : deadE l with
                    | true => rfl
                    | false => exact absurd ((HD.out hE0).2 hx) hNN
                  have hK : okLv Rs.length k l = false := by rw [HOK.out]; rw [hdd]; simp; omega
                  have HK := Lib.hid hK
                  clear hK
                  clear hdd
                  subst hkn
                  subst hu
                  subst hE0
                  go_wp2_with fail
                  refine (live_any A l cl _ (HOKS.out.below hbX) hll).mono ?_
                  unfold GivesII
                  rw [HE.out, HN.out]
                  rintro e w1 ⟨rfl, hb1⟩
                  have hb2 := bext hbX hb1
                  have c1 : w1.cell? ⟨wr.heap.size, 0, none⟩ = some (.slice A l.length cl) := (bX.below hb1 bX.lt).cell 0
                  go_wp2_with fail
                  refine (level_any A l.length cl _ HL0.out HL6.out).mono ?_
                  rw [HU.out]
                  rintro e w2 ⟨rfl, hb3⟩
                  have hb4 := bext hb2 hb3
                  go_wp2
                  go_ret
                  exact ⟨ret_int (HBAD.out HK.out).symm, bext hb hb4⟩
                  
              · have hK : okLv Rs.length k l = true := by rw [HOK.out]; rw [hE0]; simp [hu]; omega
                have HK := Lib.hid hK
                clear hK
                subst hu
                subst hE0
                go_wp2_with fail
                refine (live_any A l cl _ (HOKS.out.below hbX) hll).mono ?_
                unfold GivesII
                rw [HE.out, HN.out]
                rintro e w1 ⟨rfl, hb1⟩
                have hb2 := bext hbX hb1
                have c1 : w1.cell? ⟨wr.heap.size, 0, none⟩ = some (.slice A l.length cl) := (bX.below hb1 bX.lt).cell 0
                go_wp2_with fail
                refine (level_any A l.length cl _ HL0.out HL6.out).mono ?_
                rw [HU.out]
                rintro e w2 ⟨rfl, hb3⟩
                have hb4 := bext hb2 hb3
                go_wp2
                go_roundw
                case rel => exact ⟨U + 1, m + l.length, by omega, by go_num, by go_num, bext hb hb4, hsum, by show _ = _; rw [HS.out, hd.out], by show _ = _; rw [HA.out, hA.out, HK.out]; rfl⟩
                case measure => simp [intOf]; omega
                
            · have hK : okLv Rs.length k l = false := by rw [HOK.out]; rw [hE0]; simp [hu, hne]
              have HK := Lib.hid hK
              clear hK
              subst hE0
              go_wp2_with fail
              refine (live_any A l cl _ (HOKS.out.below hbX) hll).mono ?_
              unfold GivesII
              rw [HE.out, HN.out]
              rintro e w1 ⟨rfl, hb1⟩
              have hb2 := bext hbX hb1
              have c1 : w1.cell? ⟨wr.heap.size, 0, none⟩ = some (.slice A l.length cl) := (bX.below hb1 bX.lt).cell 0
              go_wp2_with fail
              refine (level_any A l.length cl _ HL0.out HL6.out).mono ?_
              rw [HU.out]
              rintro e w2 ⟨rfl, hb3⟩
              have hb4 := bext hb2 hb3
              go_wp2
              go_ret
              exact ⟨ret_int (HBAD.out HK.out).symm, bext hb hb4⟩
              
        · have hK : okLv Rs.length k l = false := by rw [HOK.out]; simp [hE0]
          have HK := Lib.hid hK
          clear hK
          go_wp2_with fail
          refine (live_any A l cl _ (HOKS.out.below hbX) hll).mono ?_
          unfold GivesII
          rw [HE.out, HN.out]
          rintro e w1 ⟨rfl, hb1⟩
          have hb2 := bext hbX hb1
          have c1 : w1.cell? ⟨wr.heap.size, 0, none⟩ = some (.slice A l.length cl) := (bX.below hb1 bX.lt).cell 0
          go_wp2
          go_ret
          exact ⟨ret_int (HBAD.out HK.out).symm, bext hb hb2⟩
          
      · have hkn : k = Rs.length := by omega
        have hf : m = tot (lvs Rs) := by rw [hd.out, List.take_of_length_le (by simp; omega)]
        have hall : allOk (lvs Rs) (lvs Rs).length = true := by rw [lvs_len, ← hkn]; exact hA.out
        have hfin := chkR_all hEnd.out hall
        rw [← hf] at hfin
        have HF := Lib.hid hfin
        clear hfin hall hf hkn
        by_cases hbig : 65536 < m
        · have g1 : (65536 : Int) < (m : Int) := by omega
          go_wp2
          go_ret
          exact ⟨ret_int (by rw [HF.out, if_pos hbig]), hb⟩
        · have g1 : ¬ (65536 : Int) < (m : Int) := by omega
          go_wp2
          go_ret
          exact ⟨ret_int (by rw [HF.out, if_neg hbig]), hb⟩
  · have hE8 : chkR (lvs Rs) = 8 := chkR_end (by simpa using hend)
    have HE8 := Lib.hid hE8
    clear hE8
    by_cases h17 : 17 < Rs.length
    · have g1 : (17 : Int) < (Rs.length : Int) := by omega
      clear hend
      go_enter Tryz.func46, Tryz.ntmps46
      go_wp2
      go_ret
      exact ⟨ret_int HE8.out.symm, hb0⟩
    · have g1 : ¬ (17 : Int) < (Rs.length : Int) := by omega
      have h0 : Rs.length ≠ 0 := by
        intro h0
        apply hend
        unfold endOk
        rw [lvs_len, h0]; rfl
      have g2 : (0 : Int) < (Rs.length : Int) := by omega
      obtain ⟨j, hj⟩ : ∃ j, Rs.length = j + 1 := ⟨Rs.length - 1, by omega⟩
      obtain ⟨b, off, rfl, hbl, cp⟩ := hB.sl.oneB hb0 j (by omega)
      have hne : (Rs[j]'(by omega)).l = [] := by
        refine Classical.byContradiction fun hx => hend ?_
        unfold endOk
        rw [lvs_len, hj, Nat.add_sub_cancel, lvs_lev (by omega)]
        simp [hx]
        omega
      obtain ⟨r, hr⟩ : ∃ r, Rs[j]'(by omega) = r := ⟨_, rfl⟩
      rw [hr] at cp hne
      obtain ⟨l, A, cl⟩ := r
      have hnl : l = [] := hne
      subst hnl
      have cp1 : (w.alloc (.cells #[.slice (some ⟨b, off, none⟩) Rs.length c, .int .u64 n] 27)).cell? ⟨b, off + j, none⟩ = some (.slice A 0 cl) := cp
      have g4 : IntKind.i64.wrap ((Rs.length : Int) - 1) = (j : Int) := (IntWalk.i64_in _ (by omega)).trans (by omega)
      have g5 : (0 : Int) ≤ (j : Int) := by omega
      have g6 : (j : Int) < (Rs.length : Int) := by omega
      clear cp hr hne hj hend
      go_enter Tryz.func46, Tryz.ntmps46
      go_wp2
      go_ret
      exact ⟨ret_int HE8.out.symm, hb0⟩
end Go.Proofs.YtolclahkfmplfaaGreatDoor

/- Contracts: rungs.Add, rungs.Of. -/
namespace Go.Proofs.YtolclahkfmplfaaGreatDoor
open Go Go.RowKit
set_option maxRecDepth 100000
theorem add_no {rs : Lv} {n : Int} {y : Ent} {e : Int} (h : addE rs y = e) (he : e ≠ 0) : addN rs n y = 0 ∧ addE rs y = e ∧ addL rs n y = [] := by
  unfold addN addL
  rw [if_neg (by rw [h]; exact he), if_neg (by rw [h]; exact he)]
  exact ⟨rfl, h, rfl⟩
theorem buildE_one (y : Ent) : buildE [y] = if badEnt y = true then 8 else 0 := by
  unfold buildE
  rw [if_neg (by simp)]
  by_cases h : badEnt y = true
  · rw [if_pos (by simp [h]), if_pos h]
  · rw [if_neg (by simp [h]), if_neg h, if_pos (by simp [rises])]
theorem chkR_cases (rs : Lv) : chkR rs = 0 ∨ chkR rs = 8 := by unfold chkR; split <;> simp
set_option maxHeartbeats 16000000 in
theorem addR_any (B : Option Addr) (Rs : List Rm) (c : Nat) (n : Int) (y : Ent) (w : World) (hB : RunsAt w B Rs) (hT : tot (lvs Rs) ≤ 1000000) (hl : Rs.length ≤ 1000000) :
    Calls Tryz.prog 20 #[.agg #[.slice B Rs.length c, .int .u64 n], .agg #[.int .i64 y.key, .int .i64 y.val, .bool y.dead]] w (GivesRgE (addL (lvs Rs) n y) (addN (lvs Rs) n y) (addE (lvs Rs) y) w) := by
  obtain ⟨W0, hW0⟩ : ∃ W0, ((w.alloc (.cells #[.slice B Rs.length c, .int .u64 n] 27)).alloc (.cells #[.int .i64 y.key, .int .i64 y.val, .bool y.dead] 46)).alloc (.cells #[.slice none 0 0, .int .u64 0] 27) = W0 := ⟨_, rfl⟩
  have hb0 : Below w.heap.size w W0 := by rw [← hW0]; exact (((Below.refl _ _).alloc (Nat.le_refl _) _).alloc (by simp) _).alloc (by simp; omega) _
  have hs0 : W0.heap.size = w.heap.size + 3 := by rw [← hW0]; simp
  have b20 : Blk W0 w.heap.size 27 #[.slice B Rs.length c, .int .u64 n] := by rw [← hW0]; exact ((Blk.new _ _ _).alloc _).alloc _
  have b30 : Blk W0 (w.heap.size + 1) 46 #[.int .i64 y.key, .int .i64 y.val, .bool y.dead] := by
    rw [← hW0]
    have := Blk.new (w.alloc (.cells #[.slice B Rs.length c, .int .u64 n] 27)) 46 #[.int .i64 y.key, .int .i64 y.val, .bool y.dead]
    rw [World.size_alloc] at this
    exact this.alloc _
  have b40 : Blk W0 (w.heap.size + 1 + 1) 27 #[.slice none 0 0, .int .u64 0] := by
    rw [← hW0]
    have := Blk.new ((w.alloc (.cells #[.slice B Rs.length c, .int .u64 n] 27)).alloc (.cells #[.int .i64 y.key, .int .i64 y.val, .bool y.dead] 46)) 27 #[.slice none 0 0, .int .u64 0]
    rwa [World.size_alloc, World.size_alloc] at this
  have HW0 := Lib.hid hW0
  have HB := Lib.hid (hB.below hb0)
  clear hW0 hB
  go_enter Tryz.func20, Tryz.ntmps20
  go_wp2_with fail
  rw [HW0.out]
  refine (checkR_any B Rs c n _ HB.out hT hl).mono ?_
  rintro e w1 ⟨rfl, hb1⟩
  have hb01 := bext hb0 hb1
  have b21 := b20.below hb1 b20.lt
  have b31 := b30.below hb1 b30.lt
  have b41 := b40.below hb1 b40.lt
  obtain ⟨E, hE⟩ : ∃ E, chkR (lvs Rs) = E := ⟨_, rfl⟩
  rw [hE]
  by_cases hE0 : E = 0
  case neg =>
    have hadd : addE (lvs Rs) y = E := by unfold addE; rw [if_pos (by rw [hE]; exact hE0), hE]
    have HADD := Lib.hid (add_no (n := n) hadd hE0)
    have c40 : w1.cell? ⟨w.heap.size + 1 + 1, 0, none⟩ = some (.slice none 0 0) := b41.cell 0
    have c41 : w1.cell? ⟨w.heap.size + 1 + 1, 1, none⟩ = some (.int .u64 0) := b41.cell 1
    have f40 := b41.frozen 0
    have f41 := b41.frozen 1
    clear hadd hE
    go_wp2
    have hbz := box2 b41 (.slice none 0 0) (.int .u64 0)
    have z0 : ((w1.setCell ⟨w.heap.size + 1 + 1, 0, none⟩ (.slice none 0 0)).setCell ⟨w.heap.size + 1 + 1, 1, none⟩ (.int .u64 0)).cell? ⟨w.heap.size + 1 + 1, 0, none⟩ = some (.slice none 0 0) := hbz.cell 0
    have z1 : ((w1.setCell ⟨w.heap.size + 1 + 1, 0, none⟩ (.slice none 0 0)).setCell ⟨w.heap.size + 1 + 1, 1, none⟩ (.int .u64 0)).cell? ⟨w.heap.size + 1 + 1, 1, none⟩ = some (.int .u64 0) := hbz.cell 1
    refine bodyPost_ret (v := .tuple #[.agg #[.slice none 0 0, .int .u64 0], .int .i64 E]) (by simp [results, Tryz.results20, go_sem, z0, z1]) rfl ?_
    exact ⟨none, 0, [], by rw [HADD.out.1, HADD.out.2.1]; rfl, by rw [HADD.out.2.2]; rfl, OwnRs.nil _ _, below2 hb01 (by omega) _ _⟩
  case pos =>
  have hM : May (lvs Rs) := chkR_zero.1 (by rw [hE, hE0])
  have HM := Lib.hid hM
  have hEz := Lib.hid hE
  have HE0 := Lib.hid hE0
  subst hE0
  clear hM hE
  have c20 : w1.cell? ⟨w.heap.size, 0, none⟩ = some (.slice B Rs.length c) := b21.cell 0
  have c21 : w1.cell? ⟨w.heap.size, 1, none⟩ = some (.int .u64 n) := b21.cell 1
  go_wp2_with fail
  refine (entries_any B Rs c n _ (HB.out.below hb1) hT hl).mono ?_
  rintro e w2 ⟨rfl, hb2⟩
  have hb02 := bext hb01 hb2
  have hb12 := bext hb1 hb2
  have b22 := b21.below hb2 b21.lt
  have b32 := b31.below hb2 b31.lt
  have b42 := b41.below hb2 b41.lt
  obtain ⟨T, hTe⟩ : ∃ T, tot (lvs Rs) = T := ⟨_, rfl⟩
  rw [hTe]
  clear c20 c21
  by_cases hT6 : T = 65536
  case pos =>
    have hadd : addE (lvs Rs) y = 4 := by unfold addE; rw [if_neg (by rw [hEz.out]; simp), if_pos (by rw [hTe, hT6])]
    have HADD := Lib.hid (add_no (n := n) hadd (by decide))
    have g1 : ((T : Int) = 65536) := by omega
    have c40 : w2.cell? ⟨w.heap.size + 1 + 1, 0, none⟩ = some (.slice none 0 0) := b42.cell 0
    have c41 : w2.cell? ⟨w.heap.size + 1 + 1, 1, none⟩ = some (.int .u64 0) := b42.cell 1
    have f40 := b42.frozen 0
    have f41 := b42.frozen 1
    clear hadd hTe hT
    subst hT6
    clear g1
    go_wp2
    have hbz := box2 b42 (.slice none 0 0) (.int .u64 0)
    have z0 : ((w2.setCell ⟨w.heap.size + 1 + 1, 0, none⟩ (.slice none 0 0)).setCell ⟨w.heap.size + 1 + 1, 1, none⟩ (.int .u64 0)).cell? ⟨w.heap.size + 1 + 1, 0, none⟩ = some (.slice none 0 0) := hbz.cell 0
    have z1 : ((w2.setCell ⟨w.heap.size + 1 + 1, 0, none⟩ (.slice none 0 0)).setCell ⟨w.heap.size + 1 + 1, 1, none⟩ (.int .u64 0)).cell? ⟨w.heap.size + 1 + 1, 1, none⟩ = some (.int .u64 0) := hbz.cell 1
    refine bodyPost_ret (v := .tuple #[.agg #[.slice none 0 0, .int .u64 0], .int .i64 4]) (by simp [results, Tryz.results20, go_sem, z0, z1]) rfl ?_
    exact ⟨none, 0, [], by rw [HADD.out.1, HADD.out.2.1]; rfl, by rw [HADD.out.2.2]; rfl, OwnRs.nil _ _, below2 hb02 (by omega) _ _⟩
  case neg =>
  have g1 : ¬ ((T : Int) = 65536) := by omega
  have HT6 : Hid (tot (lvs Rs) ≠ 65536) := by show _ ≠ _; rw [hTe]; exact hT6
  clear hTe hT hT6
  have c30 : w2.cell? ⟨w.heap.size + 1, 0, none⟩ = some (.int .i64 y.key) := b32.cell 0
  have c31 : w2.cell? ⟨w.heap.size + 1, 1, none⟩ = some (.int .i64 y.val) := b32.cell 1
  have c32 : w2.cell? ⟨w.heap.size + 1, 2, none⟩ = some (.bool y.dead) := b32.cell 2
  go_wp2_with fail
  refine (runOne_any y _).mono ?_
  rintro e w3 ⟨A3, c3, rfl, ho3, hb3⟩
  have hb03 := bext hb02 hb3
  have hb13 := bext hb12 hb3
  have b23 := b22.below hb3 b22.lt
  have b33 := b32.below hb3 b32.lt
  have b43 := b42.below hb3 b42.lt
  obtain ⟨K1, hK1⟩ : ∃ K1, (buildL [y]).length = K1 := ⟨_, rfl⟩
  rw [hK1]
  clear c30 c31 c32 ho3 hK1
  by_cases hbad : badEnt y = true
  case pos =>
    have hadd : addE (lvs Rs) y = 8 := by unfold addE; rw [if_neg (by rw [hEz.out]; simp), if_neg HT6.out, if_pos hbad]
    have HADD := Lib.hid (add_no (n := n) hadd (by decide))
    have he : buildE [y] = 8 := by rw [buildE_one, if_pos hbad]
    rw [he]
    obtain ⟨W4, hW4⟩ : ∃ W4, w3.alloc (.cells #[.slice A3 K1 c3] 49) = W4 := ⟨_, rfl⟩
    have b44 : Blk W4 (w.heap.size + 1 + 1) 27 #[.slice none 0 0, .int .u64 0] := by rw [← hW4]; exact b43.alloc _
    have hb04 : Below w.heap.size w W4 := by rw [← hW4]; exact hb03.alloc (by have := hb03.size; omega) _
    have c40 : w3.cell? ⟨w.heap.size + 1 + 1, 0, none⟩ = some (.slice none 0 0) := b43.cell 0
    have c41 : w3.cell? ⟨w.heap.size + 1 + 1, 1, none⟩ = some (.int .u64 0) := b43.cell 1
    have d40 : W4.cell? ⟨w.heap.size + 1 + 1, 0, none⟩ = some (.slice none 0 0) := b44.cell 0
    have d41 : W4.cell? ⟨w.heap.size + 1 + 1, 1, none⟩ = some (.int .u64 0) := b44.cell 1
    have f40 := b44.frozen 0
    have f41 := b44.frozen 1
    have HW4 := Lib.hid hW4
    have l43 := b43.lt
    clear hadd he hbad hW4
    go_upto_region 8 with fail
    rw [HW4.out]
    clear c40 c41
    go_wp2
    have hbz := box2 b44 (.slice none 0 0) (.int .u64 0)
    have z0 : ((W4.setCell ⟨w.heap.size + 1 + 1, 0, none⟩ (.slice none 0 0)).setCell ⟨w.heap.size + 1 + 1, 1, none⟩ (.int .u64 0)).cell? ⟨w.heap.size + 1 + 1, 0, none⟩ = some (.slice none 0 0) := hbz.cell 0
    have z1 : ((W4.setCell ⟨w.heap.size + 1 + 1, 0, none⟩ (.slice none 0 0)).setCell ⟨w.heap.size + 1 + 1, 1, none⟩ (.int .u64 0)).cell? ⟨w.heap.size + 1 + 1, 1, none⟩ = some (.int .u64 0) := hbz.cell 1
    refine bodyPost_ret (v := .tuple #[.agg #[.slice none 0 0, .int .u64 0], .int .i64 8]) (by simp [results, Tryz.results20, go_sem, z0, z1]) rfl ?_
    exact ⟨none, 0, [], by rw [HADD.out.1, HADD.out.2.1]; rfl, by rw [HADD.out.2.2]; rfl, OwnRs.nil _ _, below2 hb04 (by omega) _ _⟩
  case neg =>
  have hbf : badEnt y = false := by simpa using hbad
  have HBF := Lib.hid hbf
  have he : buildE [y] = 0 := by rw [buildE_one, if_neg hbad]
  have hadd0 : addE (lvs Rs) y = 0 := addE_zero.2 ⟨HM.out, HT6.out, hbf⟩
  rw [he]
  have HADD0 := Lib.hid hadd0
  have b34c : ∀ i, (w3.alloc (.cells #[.slice A3 K1 c3] 49)).cell? ⟨w.heap.size + 1, i, none⟩ = #[Value.int .i64 y.key, .int .i64 y.val, .bool y.dead][i]? := fun i => (b33.alloc _).cell i
  obtain ⟨W4, hW4⟩ : ∃ W4, w3.alloc (.cells #[.slice A3 K1 c3] 49) = W4 := ⟨_, rfl⟩
  have hb34 : Below w3.heap.size w3 W4 := by rw [← hW4]; exact (Below.refl _ _).alloc (Nat.le_refl _) _
  have hb04 := bext hb03 hb34
  have hb14 := bext hb13 hb34
  have b24 := b23.below hb34 b23.lt
  have b34 := b33.below hb34 b33.lt
  have b44 := b43.below hb34 b43.lt
  have HW4 := Lib.hid hW4
  clear hbad hbf he hadd0 hW4 b34c
  go_upto_region 9 with fail
  rw [HW4.out]
  have c20 : W4.cell? ⟨w.heap.size, 0, none⟩ = some (.slice B Rs.length c) := b24.cell 0
  have c21 : W4.cell? ⟨w.heap.size, 1, none⟩ = some (.int .u64 n) := b24.cell 1
  have c30 : W4.cell? ⟨w.heap.size + 1, 0, none⟩ = some (.int .i64 y.key) := b34.cell 0
  have c31 : W4.cell? ⟨w.heap.size + 1, 1, none⟩ = some (.int .i64 y.val) := b34.cell 1
  have c32 : W4.cell? ⟨w.heap.size + 1, 2, none⟩ = some (.bool y.dead) := b34.cell 2
  go_wp2_with fail
  refine (inR_any B Rs c n y _ (HB.out.below hb14) HM.out HBF.out HT6.out).mono ?_
  rintro e w5 ⟨B5, c5, Rs5, rfl, hl5, ho5, hb5⟩
  have hb05 := bext hb04 hb5
  have b45 := b44.below hb5 b44.lt
  have hs5 := hb5.size
  have hs4 := hb04.size
  obtain ⟨N5, hN5⟩ : ∃ N5, Rs5.length = N5 := ⟨_, rfl⟩
  obtain ⟨n5, hn5⟩ : ∃ n5, letN (lvs Rs) n y = n5 := ⟨_, rfl⟩
  rw [hN5, hn5]
  have htot := letL_tot HM.out HBF.out HT6.out n
  rw [← hl5] at htot
  have hmE := letL_mE HM.out HBF.out HT6.out n
  rw [← hl5] at hmE
  have hst5 := letL_stood HM.out HBF.out HT6.out n
  rw [← hl5] at hst5
  have hlen5 : N5 ≤ 1000000 := by
    rw [← hN5, rs_len hl5]
    unfold letL
    have h1 := cut_len (standL (climbE (lvs Rs) n y).1 (climbE (lvs Rs) n y).2.1)
    have h2 := stand_len (climbE (lvs Rs) n y).1 (climbE (lvs Rs) n y).2.1
    obtain ⟨k1, k2, k3, k4⟩ := climbE_ok HM.out HBF.out HT6.out n
    have h3 := up_16 (chk_len k1.run)
    have h4 := HM.out.len
    split at h2 <;> omega
  have HL5 := Lib.hid hl5
  have HN5 := Lib.hid hN5
  have HNN5 := Lib.hid hn5
  have HO5 := Lib.hid (ho5.mono (B1 := w.heap.size) (by omega))
  have HTOT := Lib.hid htot
  have HME := Lib.hid hmE
  have HST5 := Lib.hid hst5
  clear c20 c21 c30 c31 c32 hl5 ho5 hN5 hn5 htot hmE hst5 b21 b22 b23 b24 b31 b32 b33 b34 b41 b42 b43 b20 b30 b40
  obtain ⟨W6, hW6⟩ : ∃ W6, w5.alloc (.cells #[.slice B5 N5 c5, .int .u64 n5] 27) = W6 := ⟨_, rfl⟩
  have hb56 : Below w5.heap.size w5 W6 := by rw [← hW6]; exact (Below.refl _ _).alloc (Nat.le_refl _) _
  have b96 : Blk W6 w5.heap.size 27 #[.slice B5 N5 c5, .int .u64 n5] := by rw [← hW6]; exact Blk.new _ _ _
  have hb06 := bext hb05 hb56
  have b46 := b45.below hb56 b45.lt
  have HO6 := Lib.hid (HO5.out.below hb56)
  have HW6 := Lib.hid hW6
  clear hW6
  go_upto_region 10 with fail
  rw [HW6.out]
  have c90 : W6.cell? ⟨w5.heap.size, 0, none⟩ = some (.slice B5 N5 c5) := b96.cell 0
  have c91 : W6.cell? ⟨w5.heap.size, 1, none⟩ = some (.int .u64 n5) := b96.cell 1
  go_wp2_with fail
  have hmg := merge_any B5 Rs5 c5 65536 true W6 HO6.out.runsAt (by rw [HN5.out]; omega) (fun r hr => by
    have h1 := le_sum (List.mem_map.2 ⟨r.l, List.mem_map.2 ⟨r, hr, rfl⟩, rfl⟩ : r.l.length ∈ ((lvs Rs5).map List.length))
    have h2 := HTOT.out.2
    unfold tot at h2
    omega) (by rw [← tot_rs]; exact HTOT.out.2) (by omega)
  obtain ⟨ME, hME⟩ : ∃ ME, mrgE Rs5 = ME := ⟨_, rfl⟩
  obtain ⟨LB, hLB⟩ : ∃ LB, laid (allL (lvs Rs5)) = LB := ⟨_, rfl⟩
  have hmL : mrgL Rs5 true = LB := by rw [mrgL_m, ← hLB]; exact (all_live HME.out).2.symm
  rw [hME, hmL, HN5.out] at hmg
  have HLB := Lib.hid hLB
  have hLBn : LB.length = (allL (lvs Rs5)).length := by rw [← hLB, laid_length]
  have HLBN := Lib.hid hLBn
  have hLB6 : LB.length ≤ 65536 := by rw [hLBn]; exact Nat.le_trans allL_le HTOT.out.2
  refine hmg.mono ?_
  clear hmg hME hmL hLB hLBn
  rintro e w7 ⟨A7, c7, rfl, ho7, hb7⟩
  have hb07 := bext hb06 hb7
  have b97 := b96.below hb7 b96.lt
  have b47 := b46.below hb7 b46.lt
  have hs7 := hb7.size
  have hs6 := hb06.size
  have HO7 := Lib.hid (HO6.out.below hb7)
  have HA7 := Lib.hid (own_mono (B' := w.heap.size) ho7 (by omega))
  clear ho7 c90 c91
  obtain ⟨M, hM⟩ : ∃ M, LB.length = M := ⟨_, rfl⟩
  rw [hM] at HA7 hLB6 ⊢
  have HMM := Lib.hid hM
  clear hM
  obtain ⟨W8, hW8⟩ : ∃ W8, w7.alloc (.cells #[.slice A7 M c7] 49) = W8 := ⟨_, rfl⟩
  have hb78 : Below w7.heap.size w7 W8 := by rw [← hW8]; exact (Below.refl _ _).alloc (Nat.le_refl _) _
  have b108 : Blk W8 w7.heap.size 49 #[.slice A7 M c7] := by rw [← hW8]; exact Blk.new _ _ _
  have hb08 := bext hb07 hb78
  have b98 := b97.below hb78 b97.lt
  have b48 := b47.below hb78 b47.lt
  have HO8 := Lib.hid (HO7.out.below hb78)
  have HA8 := Lib.hid (own_below HA7.out hb78)
  have HW8 := Lib.hid hW8
  clear hW8
  go_upto_region 12 with fail
  rw [HW8.out]
  have c90 : W8.cell? ⟨w5.heap.size, 0, none⟩ = some (.slice B5 N5 c5) := b98.cell 0
  have c91 : W8.cell? ⟨w5.heap.size, 1, none⟩ = some (.int .u64 n5) := b98.cell 1
  go_wp2_with fail
  have hen := entries_any B5 Rs5 c5 n5 W8 HO8.out.runsAt (by have := HTOT.out.2; omega) (by rw [HN5.out]; exact hlen5)
  rw [HN5.out] at hen
  obtain ⟨T5, hT5⟩ : ∃ T5, tot (lvs Rs5) = T5 := ⟨_, rfl⟩
  rw [hT5] at hen
  have hT56 : T5 ≤ 65536 := by rw [← hT5]; exact HTOT.out.2
  have HT5 := Lib.hid hT5
  refine hen.mono ?_
  clear hen hT5
  rintro e w9 ⟨rfl, hb9⟩
  have hb09 := bext hb08 hb9
  have b99 := b98.below hb9 b98.lt
  have b49 := b48.below hb9 b48.lt
  have b109 := b108.below hb9 b108.lt
  have hs9 := hb09.size
  have HO9 := Lib.hid (HO8.out.below hb9)
  have HA9 := Lib.hid (own_below HA8.out hb9)
  have d90 : w9.cell? ⟨w5.heap.size, 0, none⟩ = some (.slice B5 N5 c5) := b99.cell 0
  have d91 : w9.cell? ⟨w5.heap.size, 1, none⟩ = some (.int .u64 n5) := b99.cell 1
  have d100 : w9.cell? ⟨w7.heap.size, 0, none⟩ = some (.slice A7 M c7) := b109.cell 0
  have c40 : w9.cell? ⟨w.heap.size + 1 + 1, 0, none⟩ = some (.slice none 0 0) := b49.cell 0
  have c41 : w9.cell? ⟨w.heap.size + 1 + 1, 1, none⟩ = some (.int .u64 0) := b49.cell 1
  have f40 := b49.frozen 0
  have f41 := b49.frozen 1
  have l99 := b99.lt
  have l49 := b49.lt
  have l109 := b109.lt
  have g2 : IntKind.i64.wrap (2 * (M : Int)) = 2 * (M : Int) := IntWalk.i64_in _ (by omega)
  have g3 : IntKind.i64.wrap (2 * (M : Int) + 2) = 2 * (M : Int) + 2 := IntWalk.i64_in _ (by omega)
  have hcv : IntKind.u64.wrap (M : Int) = (M : Int) := IntWalk.u64_in _ (by omega)
  clear c90 c91 hb9
  by_cases hfat : 2 * M + 2 < T5
  · have g4 : 2 * (M : Int) + 2 < (T5 : Int) := by omega
    have hfB : fat (lvs Rs5) = true := by unfold fat; rw [HT5.out, ← HLBN.out, HMM.out]; exact decide_eq_true hfat
    have HFB := Lib.hid hfB
    clear hfB hfat
    go_wp2_with fail
    obtain ⟨W10, hW10⟩ : ∃ W10, w9.alloc (.cells #[.slice A7 M c7] 49) = W10 := ⟨_, rfl⟩
    rw [hW10]
    have hb910 : Below w9.heap.size w9 W10 := by rw [← hW10]; exact (Below.refl _ _).alloc (Nat.le_refl _) _
    have hs10 := hb910.size
    have bS : Blk W10 w9.heap.size 49 #[.slice A7 M c7] := by rw [← hW10]; exact Blk.new _ _ _
    have b410 := b49.below hb910 b49.lt
    have hO1 : OwnRs W10 w.heap.size (some ⟨w9.heap.size, 0, none⟩) 1 [⟨LB, A7, c7⟩] := by
      refine ⟨⟨rfl, .inr ⟨w9.heap.size, 1, _, rfl, by omega, bS, Nat.le_refl _, by unfold maxLen; omega, rfl, ?_⟩⟩, ?_⟩
      · simp [Rm.v, HMM.out]
      · intro r hr
        obtain rfl : r = ⟨LB, A7, c7⟩ := by simpa using hr
        show W10.ownsRow _ _ _ (.slice A7 LB.length c7) LB.length _
        rw [HMM.out]
        exact own_below HA9.out hb910
    have hof := of_any (IntKind.u64.wrap (n5 + M)) (some ⟨w9.heap.size, 0, none⟩) [⟨LB, A7, c7⟩] 1 W10 hO1.runsAt (by simp) (by
      intro r hr
      obtain rfl : r = ⟨LB, A7, c7⟩ := by simpa using hr
      show LB.length ≤ 65536
      rw [HMM.out]; exact hLB6)
    have HO1 := Lib.hid hO1
    clear hO1 hW10
    refine hof.mono ?_
    clear hof
    rintro e w11 ⟨A11, d11, Ts, rfl, ht1, ht2, ht3, hb11⟩
    have b411 := b410.below hb11 b410.lt
    have hOx : OwnRs w11 w.heap.size A11 d11 Ts := OwnRs.sub (HO1.out.below hb11) (own_mono ht2 (by omega)) ht3
    have HOX := Lib.hid hOx
    have HT1 := Lib.hid ht1
    have HB11 := Lib.hid (bext (bext hb09 hb910) hb11)
    have e40 : w11.cell? ⟨w.heap.size + 1 + 1, 0, none⟩ = some (.slice none 0 0) := b411.cell 0
    have e41 : w11.cell? ⟨w.heap.size + 1 + 1, 1, none⟩ = some (.int .u64 0) := b411.cell 1
    have h40 := b411.frozen 0
    have h41 := b411.frozen 1
    clear hOx ht1 ht2 ht3 hb11 d90 d91 d100 c40 c41 f40 f41
    go_wp2
    have hbx := box2 b411 (.slice A11 Ts.length d11) (.int .u64 (IntKind.u64.wrap (n5 + M)))
    have e0 : ((w11.setCell ⟨w.heap.size + 1 + 1, 0, none⟩ (.slice A11 Ts.length d11)).setCell ⟨w.heap.size + 1 + 1, 1, none⟩ (.int .u64 (IntKind.u64.wrap (n5 + M)))).cell? ⟨w.heap.size + 1 + 1, 0, none⟩ = some (.slice A11 Ts.length d11) := hbx.cell 0
    have e1 : ((w11.setCell ⟨w.heap.size + 1 + 1, 0, none⟩ (.slice A11 Ts.length d11)).setCell ⟨w.heap.size + 1 + 1, 1, none⟩ (.int .u64 (IntKind.u64.wrap (n5 + M)))).cell? ⟨w.heap.size + 1 + 1, 1, none⟩ = some (.int .u64 (IntKind.u64.wrap (n5 + M))) := hbx.cell 1
    refine bodyPost_ret (v := .tuple #[.agg #[.slice A11 Ts.length d11, .int .u64 (IntKind.u64.wrap (n5 + M))], .int .i64 0]) (by simp [results, Tryz.results20, go_sem, e0, e1]) rfl ?_
    have hN : addN (lvs Rs) n y = IntKind.u64.wrap (n5 + M) := by
      unfold addN slimN
      rw [if_pos HADD0.out, ← HL5.out, if_pos HFB.out, HNN5.out, ← HLBN.out, HMM.out]
    have hL : addL (lvs Rs) n y = lvs Ts := by
      unfold addL slimL
      rw [if_pos HADD0.out, ← HL5.out, if_pos HFB.out, HT1.out, HLB.out]
      rfl
    exact ⟨A11, d11, Ts, by rw [hN, HADD0.out], hL.symm, HOX.out.set2 b411 (by decide) (by decide) _ _, below2 HB11.out (by omega) _ _⟩
  · have g4 : ¬ 2 * (M : Int) + 2 < (T5 : Int) := by omega
    have hfB : ¬ fat (lvs Rs5) = true := by unfold fat; rw [HT5.out, ← HLBN.out, HMM.out]; simpa using hfat
    have HFB := Lib.hid hfB
    clear hfB hfat
    go_wp2
    have hbx := box2 b49 (.slice B5 N5 c5) (.int .u64 n5)
    have e0 : ((w9.setCell ⟨w.heap.size + 1 + 1, 0, none⟩ (.slice B5 N5 c5)).setCell ⟨w.heap.size + 1 + 1, 1, none⟩ (.int .u64 n5)).cell? ⟨w.heap.size + 1 + 1, 0, none⟩ = some (.slice B5 N5 c5) := hbx.cell 0
    have e1 : ((w9.setCell ⟨w.heap.size + 1 + 1, 0, none⟩ (.slice B5 N5 c5)).setCell ⟨w.heap.size + 1 + 1, 1, none⟩ (.int .u64 n5)).cell? ⟨w.heap.size + 1 + 1, 1, none⟩ = some (.int .u64 n5) := hbx.cell 1
    refine bodyPost_ret (v := .tuple #[.agg #[.slice B5 N5 c5, .int .u64 n5], .int .i64 0]) (by simp [results, Tryz.results20, go_sem, e0, e1]) rfl ?_
    have hN : addN (lvs Rs) n y = n5 := by
      unfold addN slimN
      rw [if_pos HADD0.out, ← HL5.out, if_neg HFB.out, HNN5.out]
    have hL : addL (lvs Rs) n y = lvs Rs5 := by
      unfold addL slimL
      rw [if_pos HADD0.out, ← HL5.out, if_neg HFB.out]
    exact ⟨B5, c5, Rs5, by rw [hN, HADD0.out, HN5.out], hL.symm, HO9.out.set2 b49 (by decide) (by decide) _ _, below2 hb09 (by omega) _ _⟩
end Go.Proofs.YtolclahkfmplfaaGreatDoor

/- Contracts: rungs.Of; the reference's Of, Add, Same. -/
namespace Go.Proofs.YtolclahkfmplfaaGreatDoor
open Go Go.RowKit
set_option maxRecDepth 100000
def ofEr (rs : Lv) (l : List Pr) : Int := if chkR rs ≠ 0 then chkR rs else buildE (l.map aliveE)
def ofLr (rs : Lv) (l : List Pr) : Lv := if ofEr rs l = 0 then standL [] (laid (l.map aliveE)) else []
def ofNr (rs : Lv) (n : Int) (l : List Pr) : Int := if ofEr rs l = 0 then IntKind.u64.wrap (n + l.length) else 0
theorem of_no {rs : Lv} {n : Int} {l : List Pr} {e : Int} (h : ofEr rs l = e) (he : e ≠ 0) : ofNr rs n l = 0 ∧ ofEr rs l = e ∧ ofLr rs l = [] := by
  unfold ofNr ofLr
  rw [if_neg (by rw [h]; exact he), if_neg (by rw [h]; exact he)]
  exact ⟨rfl, h, rfl⟩
theorem chkR_may (rs : Lv) : chkR rs = if mayB rs = true then 0 else 8 := rfl
set_option maxHeartbeats 8000000 in
theorem ofR_any (B A : Option Addr) (Rs : List Rm) (l : List Pr) (c ca : Nat) (n : Int) (w : World) (hB : RunsAt w B Rs) (hT : tot (lvs Rs) ≤ 1000000) (hl : Rs.length ≤ 1000000) (hA : Sl w A (l.flatMap Pr.cells)) (hl6 : l.length ≤ 65536) :
    Calls Tryz.prog 52 #[.agg #[.slice B Rs.length c, .int .u64 n], .slice A l.length ca] w (GivesRgE (ofLr (lvs Rs) l) (ofNr (lvs Rs) n l) (ofEr (lvs Rs) l) w) := by
  obtain ⟨W0, hW0⟩ : ∃ W0, (w.alloc (.cells #[.slice B Rs.length c, .int .u64 n] 27)).alloc (.cells #[.slice none 0 0, .int .u64 0] 27) = W0 := ⟨_, rfl⟩
  have hb0 : Below w.heap.size w W0 := by rw [← hW0]; exact ((Below.refl _ _).alloc (Nat.le_refl _) _).alloc (by simp) _
  have hs0 : W0.heap.size = w.heap.size + 2 := by rw [← hW0]; simp
  have b20 : Blk W0 w.heap.size 27 #[.slice B Rs.length c, .int .u64 n] := by rw [← hW0]; exact (Blk.new _ _ _).alloc _
  have b40 : Blk W0 (w.heap.size + 1) 27 #[.slice none 0 0, .int .u64 0] := by
    rw [← hW0]
    have := Blk.new (w.alloc (.cells #[.slice B Rs.length c, .int .u64 n] 27)) 27 #[.slice none 0 0, .int .u64 0]
    rwa [World.size_alloc] at this
  have HW0 := Lib.hid hW0
  have HS0 := Lib.hid hs0
  have HB := Lib.hid (hB.below hb0)
  have HA := Lib.hid (hA.below hb0)
  clear hW0 hB hA hs0
  go_enter Tryz.func52, Tryz.ntmps52
  go_wp2_with fail
  rw [HW0.out]
  refine (checkR_any B Rs c n _ HB.out hT hl).mono ?_
  rintro e w1 ⟨rfl, hb1⟩
  have hb01 := bext hb0 hb1
  have b21 := b20.below hb1 b20.lt
  have b41 := b40.below hb1 b40.lt
  obtain ⟨E, hE⟩ : ∃ E, chkR (lvs Rs) = E := ⟨_, rfl⟩
  rw [hE]
  by_cases hE0 : E = 0
  case neg =>
    have hadd : ofEr (lvs Rs) l = E := by unfold ofEr; rw [if_pos (by rw [hE]; exact hE0), hE]
    have HADD := Lib.hid (of_no (n := n) hadd hE0)
    have c40 : w1.cell? ⟨w.heap.size + 1, 0, none⟩ = some (.slice none 0 0) := b41.cell 0
    have c41 : w1.cell? ⟨w.heap.size + 1, 1, none⟩ = some (.int .u64 0) := b41.cell 1
    have f40 := b41.frozen 0
    have f41 := b41.frozen 1
    have l4 := b41.lt
    clear hadd hE
    go_wp2
    have hbz := box2 b41 (.slice none 0 0) (.int .u64 0)
    have z0 : ((w1.setCell ⟨w.heap.size + 1, 0, none⟩ (.slice none 0 0)).setCell ⟨w.heap.size + 1, 1, none⟩ (.int .u64 0)).cell? ⟨w.heap.size + 1, 0, none⟩ = some (.slice none 0 0) := hbz.cell 0
    have z1 : ((w1.setCell ⟨w.heap.size + 1, 0, none⟩ (.slice none 0 0)).setCell ⟨w.heap.size + 1, 1, none⟩ (.int .u64 0)).cell? ⟨w.heap.size + 1, 1, none⟩ = some (.int .u64 0) := hbz.cell 1
    refine bodyPost_ret (v := .tuple #[.agg #[.slice none 0 0, .int .u64 0], .int .i64 E]) (by simp [results, Tryz.results52, go_sem, z0, z1]) rfl ?_
    exact ⟨none, 0, [], by rw [HADD.out.1, HADD.out.2.1]; rfl, by rw [HADD.out.2.2]; rfl, OwnRs.nil _ _, below2 hb01 (by omega) _ _⟩
  case pos =>
  have HE := Lib.hid hE
  have HE0 := Lib.hid hE0
  subst hE0
  clear hE
  go_wp2_with fail
  refine (runOf_any A l ca _ (HA.out.below hb1) (by omega)).mono ?_
  rintro e w2 ⟨A2, c2, rfl, ho2, hb2⟩
  have hb02 := bext hb01 hb2
  have b22 := b21.below hb2 b21.lt
  have b42 := b41.below hb2 b41.lt
  have hs2 := hb2.size
  have hs1 := hb01.size
  obtain ⟨E2, hE2⟩ : ∃ E2, buildE (l.map aliveE) = E2 := ⟨_, rfl⟩
  obtain ⟨LB, hLB⟩ : ∃ LB, buildL (l.map aliveE) = LB := ⟨_, rfl⟩
  rw [hLB] at ho2 ⊢
  rw [hE2]
  have HO2 := Lib.hid (own_mono (B' := w.heap.size) ho2 (by omega))
  have hLBn : LB.length ≤ 65536 := by rw [← hLB]; have := buildL_le (l.map aliveE); rw [List.length_map] at this; omega
  obtain ⟨M, hM⟩ : ∃ M, LB.length = M := ⟨_, rfl⟩
  rw [hM] at HO2 hLBn ⊢
  have HMM := Lib.hid hM
  have HLB := Lib.hid hLB
  clear ho2 hM hLB
  obtain ⟨W3, hW3⟩ : ∃ W3, w2.alloc (.cells #[.slice A2 M c2] 49) = W3 := ⟨_, rfl⟩
  have hb3 : Below w2.heap.size w2 W3 := by rw [← hW3]; exact (Below.refl _ _).alloc (Nat.le_refl _) _
  have b73 : Blk W3 w2.heap.size 49 #[.slice A2 M c2] := by rw [← hW3]; exact Blk.new _ _ _
  have b23 := b22.below hb3 b22.lt
  have b43 := b42.below hb3 b42.lt
  have hb03 := bext hb02 hb3
  have HO3 := Lib.hid (own_below HO2.out hb3)
  have HW3 := Lib.hid hW3
  clear hW3
  go_upto_region 5 with fail
  rw [HW3.out]
  by_cases hE20 : E2 = 0
  case neg =>
    have hadd : ofEr (lvs Rs) l = E2 := by unfold ofEr; rw [if_neg (by rw [HE.out]; simp), hE2]
    have HADD := Lib.hid (of_no (n := n) hadd hE20)
    have c40 : W3.cell? ⟨w.heap.size + 1, 0, none⟩ = some (.slice none 0 0) := b43.cell 0
    have c41 : W3.cell? ⟨w.heap.size + 1, 1, none⟩ = some (.int .u64 0) := b43.cell 1
    have f40 := b43.frozen 0
    have f41 := b43.frozen 1
    have l4 := b43.lt
    clear hadd hE2
    go_wp2
    have hbz := box2 b43 (.slice none 0 0) (.int .u64 0)
    have z0 : ((W3.setCell ⟨w.heap.size + 1, 0, none⟩ (.slice none 0 0)).setCell ⟨w.heap.size + 1, 1, none⟩ (.int .u64 0)).cell? ⟨w.heap.size + 1, 0, none⟩ = some (.slice none 0 0) := hbz.cell 0
    have z1 : ((W3.setCell ⟨w.heap.size + 1, 0, none⟩ (.slice none 0 0)).setCell ⟨w.heap.size + 1, 1, none⟩ (.int .u64 0)).cell? ⟨w.heap.size + 1, 1, none⟩ = some (.int .u64 0) := hbz.cell 1
    refine bodyPost_ret (v := .tuple #[.agg #[.slice none 0 0, .int .u64 0], .int .i64 E2]) (by simp [results, Tryz.results52, go_sem, z0, z1]) rfl ?_
    exact ⟨none, 0, [], by rw [HADD.out.1, HADD.out.2.1]; rfl, by rw [HADD.out.2.2]; rfl, OwnRs.nil _ _, below2 hb03 (by omega) _ _⟩
  case pos =>
  have hof0 : ofEr (lvs Rs) l = 0 := by unfold ofEr; rw [if_neg (by rw [HE.out]; simp), hE2, hE20]
  have hLBe : LB = laid (l.map aliveE) := by rw [← HLB.out]; unfold buildL; rw [if_pos (by rw [hE2, hE20])]
  have HOF0 := Lib.hid hof0
  have HLBE := Lib.hid hLBe
  subst hE20
  clear hE2 hof0 hLBe
  have c21 : W3.cell? ⟨w.heap.size, 1, none⟩ = some (.int .u64 n) := b23.cell 1
  have c70 : W3.cell? ⟨w2.heap.size, 0, none⟩ = some (.slice A2 M c2) := b73.cell 0
  have hcv : IntKind.u64.wrap (l.length : Int) = (l.length : Int) := IntWalk.u64_in _ (by omega)
  have l73 := b73.lt
  go_wp2_with fail
  obtain ⟨W4, hW4⟩ : ∃ W4, W3.alloc (.cells #[.slice A2 M c2] 49) = W4 := ⟨_, rfl⟩
  rw [hW4]
  have hb34 : Below W3.heap.size W3 W4 := by rw [← hW4]; exact (Below.refl _ _).alloc (Nat.le_refl _) _
  have hs3 := hb03.size
  have bS : Blk W4 W3.heap.size 49 #[.slice A2 M c2] := by rw [← hW4]; exact Blk.new _ _ _
  have b44 := b43.below hb34 b43.lt
  have hO1 : OwnRs W4 w.heap.size (some ⟨W3.heap.size, 0, none⟩) 1 [⟨LB, A2, c2⟩] := by
    refine ⟨⟨rfl, .inr ⟨W3.heap.size, 1, _, rfl, by omega, bS, Nat.le_refl _, by unfold maxLen; omega, rfl, ?_⟩⟩, ?_⟩
    · simp [Rm.v, HMM.out]
    · intro r hr
      obtain rfl : r = ⟨LB, A2, c2⟩ := by simpa using hr
      show W4.ownsRow _ _ _ (.slice A2 LB.length c2) LB.length _
      rw [HMM.out]
      exact own_below HO3.out hb34
  have hof := of_any (IntKind.u64.wrap (n + l.length)) (some ⟨W3.heap.size, 0, none⟩) [⟨LB, A2, c2⟩] 1 W4 hO1.runsAt (by simp) (by
    intro r hr
    obtain rfl : r = ⟨LB, A2, c2⟩ := by simpa using hr
    show LB.length ≤ 65536
    rw [HMM.out]; exact hLBn)
  have HO1 := Lib.hid hO1
  have hs4 := hb34.size
  clear hO1 hW4
  refine hof.mono ?_
  clear hof
  rintro e w5 ⟨A5, d5, Ts, rfl, ht1, ht2, ht3, hb5⟩
  have b45 := b44.below hb5 b44.lt
  have HOX := Lib.hid (OwnRs.sub (HO1.out.below hb5) (own_mono ht2 (by omega)) ht3 : OwnRs w5 w.heap.size A5 d5 Ts)
  have HT1 := Lib.hid ht1
  have HB5 := Lib.hid (bext (bext hb03 hb34) hb5)
  have c40 : w5.cell? ⟨w.heap.size + 1, 0, none⟩ = some (.slice none 0 0) := b45.cell 0
  have c41 : w5.cell? ⟨w.heap.size + 1, 1, none⟩ = some (.int .u64 0) := b45.cell 1
  have f40 := b45.frozen 0
  have f41 := b45.frozen 1
  have l4 := b45.lt
  clear ht1 ht2 ht3 hb5 c21 c70 hcv
  go_wp2
  have hbx := box2 b45 (.slice A5 Ts.length d5) (.int .u64 (IntKind.u64.wrap (n + l.length)))
  have e0 : ((w5.setCell ⟨w.heap.size + 1, 0, none⟩ (.slice A5 Ts.length d5)).setCell ⟨w.heap.size + 1, 1, none⟩ (.int .u64 (IntKind.u64.wrap (n + l.length)))).cell? ⟨w.heap.size + 1, 0, none⟩ = some (.slice A5 Ts.length d5) := hbx.cell 0
  have e1 : ((w5.setCell ⟨w.heap.size + 1, 0, none⟩ (.slice A5 Ts.length d5)).setCell ⟨w.heap.size + 1, 1, none⟩ (.int .u64 (IntKind.u64.wrap (n + l.length)))).cell? ⟨w.heap.size + 1, 1, none⟩ = some (.int .u64 (IntKind.u64.wrap (n + l.length))) := hbx.cell 1
  refine bodyPost_ret (v := .tuple #[.agg #[.slice A5 Ts.length d5, .int .u64 (IntKind.u64.wrap (n + l.length))], .int .i64 0]) (by simp [results, Tryz.results52, go_sem, e0, e1]) rfl ?_
  have hN : ofNr (lvs Rs) n l = IntKind.u64.wrap (n + l.length) := by unfold ofNr; rw [if_pos HOF0.out]
  have hL : ofLr (lvs Rs) l = lvs Ts := by
    unfold ofLr
    rw [if_pos HOF0.out, HT1.out, ← HLBE.out]
    rfl
  exact ⟨A5, d5, Ts, by rw [hN, HOF0.out], hL.symm, HOX.out.set2 b45 (by decide) (by decide) _ _, below2 HB5.out (by omega) _ _⟩
end Go.Proofs.YtolclahkfmplfaaGreatDoor

/- Plain facts: what levels have of a key; pairs of levels; behind an entry was let in. No program in sight. -/
namespace Go.Proofs.YtolclahkfmplfaaGreatDoor
open Go
def gxR (rs : Lv) (key : Int) : Ent := if chkR rs = 0 then (newest rs key).getD zeroE else zeroE
def geR (rs : Lv) (key : Int) : Int := if chkR rs = 0 then (if (newest rs key).isSome then 0 else 6) else chkR rs
theorem gR_kf {rs : Lv} (key : Int) (h : chkR rs = 0) : kfX rs key = gxR rs key ∧ kfE rs key = geR rs key := by
  have h1 := (chkR_zero.1 h).chkAll
  unfold kfX kfE gxR geR
  rw [if_pos h1, if_pos h1, if_pos h, if_pos h]
  exact ⟨rfl, rfl⟩
theorem gR_bad {rs : Lv} (key : Int) (h : ¬ chkR rs = 0) : gxR rs key = zeroE ∧ geR rs key = chkR rs := by
  unfold gxR geR
  rw [if_neg h, if_neg h]
  exact ⟨rfl, rfl⟩
/-- is a key live? -/
def isB (rs : Lv) (key : Int) : Bool := decide (geR rs key = 0) && !(gxR rs key).dead
theorem lv_is {rs : Lv} (h : chkR rs = 0) (key : Int) : lvO (newest rs key) = if isB rs key = true then some (gxR rs key) else none := by
  unfold isB geR gxR lvO
  rw [if_pos h, if_pos h]
  cases newest rs key with
  | none => simp
  | some e => cases hd : e.dead <;> simp [hd]
theorem lv_some {o : Option Ent} {y : Ent} (h : lvO o = some y) : o = some y ∧ y.dead = false := by
  cases o with
  | none => exact absurd h (by simp [lvO])
  | some e =>
    unfold lvO at h
    cases hd : e.dead with
    | true => simp [hd] at h
    | false =>
      have : e = y := by simpa [hd] using h
      exact ⟨by rw [this], by rw [← this]; exact hd⟩
structure AddsOk (rs : Lv) (n : Int) (y : Ent) (key : Int) : Prop where
  may : chkR (addL rs n y) = 0
  had : y.dead = false → geR (addL rs n y) y.key = 0 ∧ gxR (addL rs n y) y.key = y
  went : y.dead = true → geR (addL rs n y) y.key = 0 → (gxR (addL rs n y) y.key).dead = true
  alike : key ≠ y.key → isB rs key = isB (addL rs n y) key
  same : key ≠ y.key → isB rs key = true → gxR rs key = gxR (addL rs n y) key
theorem adds_ok {rs : Lv} {y : Ent} (h : addE rs y = 0) (n key : Int) : AddsOk rs n y key := by
  obtain ⟨h1, _, h3⟩ := add_may h n
  have h0 : chkR rs = 0 := chkR_zero.2 (addE_zero.1 h).1
  have hc : chkR (addL rs n y) = 0 := chkR_zero.2 h1
  have hk := h3 y.key
  rw [if_pos rfl] at hk
  have hq : key ≠ y.key → (if isB (addL rs n y) key = true then some (gxR (addL rs n y) key) else none) = if isB rs key = true then some (gxR rs key) else none := fun hne => by
    have := h3 key
    rw [if_neg (fun e => hne e.symm), lv_is hc, lv_is h0] at this
    exact this
  refine ⟨hc, fun hd => ?_, fun hd hg => ?_, fun hne => ?_, fun hne hi => ?_⟩
  · have h5 : lvO (some y) = some y := by unfold lvO; simp [hd]
    rw [h5] at hk
    have h6 := (lv_some hk).1
    unfold geR gxR
    rw [if_pos hc, if_pos hc, h6]
    exact ⟨rfl, rfl⟩
  · have h5 : lvO (some y) = none := by unfold lvO; simp [hd]
    rw [h5, lv_is hc] at hk
    by_cases hb : isB (addL rs n y) y.key = true
    · rw [if_pos hb] at hk; cases hk
    · unfold isB at hb
      simpa [hg] using hb
  · have := hq hne
    cases ha : isB (addL rs n y) key <;> cases hb : isB rs key <;> simp [ha, hb] at this ⊢
  · have h7 := hq hne
    rw [if_pos hi] at h7
    by_cases ha : isB (addL rs n y) key = true
    · rw [if_pos ha] at h7
      exact (Option.some.inj h7).symm
    · rw [if_neg ha] at h7; cases h7
theorem allL_ris {rs : Lv} (h : May rs) : RisE (allL rs) := live_ris (all_ris fun x hx => by
  obtain ⟨l, hl, rfl⟩ := List.mem_map.1 hx
  obtain ⟨j, _, e⟩ := lev_of_mem hl
  rw [← e]
  exact chk_ris (h.chk j))
theorem prR_mem {rs : Lv} (h : chkR rs = 0) (key : Int) : decide ((⟨key, (gxR rs key).val⟩ : Pr) ∈ prR rs) = isB rs key := by
  have hM := chkR_zero.1 h
  have hl := allL_look hM.mE key
  rw [lv_is h] at hl
  unfold prR
  rw [if_pos h]
  rw [Bool.eq_iff_iff, decide_eq_true_iff]
  constructor
  · intro hm
    obtain ⟨e, he, hp⟩ := List.mem_map.1 hm
    have he2 := (List.mem_filter.1 he).1
    have hkey : e.key = key := congrArg Pr.key hp
    have h5 := look_mem (allL_ris hM) he2
    rw [hkey, hl] at h5
    by_cases hb : isB rs key = true
    · exact hb
    · rw [if_neg hb] at h5; cases h5
  · intro hb
    rw [if_pos hb] at hl
    obtain ⟨h5, h6⟩ := look_key hl
    have hd : (gxR rs key).dead = false := by
      unfold isB at hb
      simp at hb
      exact hb.2
    exact List.mem_map.2 ⟨gxR rs key, List.mem_filter.2 ⟨h6, by rw [hd]; rfl⟩, by rw [h5]⟩
theorem prR_bad {rs : Lv} (h : ¬ chkR rs = 0) : prR rs = [] := by unfold prR; rw [if_neg h]
theorem plain_alive' (l : List Pr) : plainE (l.map aliveE) = l := by
  unfold plainE liveE
  rw [List.filter_eq_self.2 (fun e he => by obtain ⟨p, _, rfl⟩ := List.mem_map.1 he; rfl), List.map_map]
  exact List.map_id'' (fun _ => rfl) l
theorem of_pairs {rs : Lv} {l : List Pr} (h : ofEr rs l = 0) : chkR (ofLr rs l) = 0 ∧ prR (ofLr rs l) = l := by
  have hb : buildE (l.map aliveE) = 0 := by
    unfold ofEr at h
    split at h
    · rename_i h2; exact absurd h h2
    · exact h
  have hc := build_chk hb
  have hd : deadE (laid (l.map aliveE)) = false := by
    unfold deadE
    rw [List.any_eq_false]
    intro e he
    obtain ⟨p, _, rfl⟩ := List.mem_map.1 (laid_mem he)
    simp [aliveE]
  have hm := alone_may hc hd
  have hz : chkR (standL [] (laid (l.map aliveE))) = 0 := chkR_zero.2 hm
  unfold ofLr
  rw [if_pos h]
  refine ⟨hz, ?_⟩
  unfold prR
  rw [if_pos hz, alone_all hc hd, in_laid, plain_alive']
theorem of_err {rs : Lv} {l : List Pr} (h : ¬ chkR rs = 0) : ofEr rs l = chkR rs := by unfold ofEr; rw [if_pos h]
end Go.Proofs.YtolclahkfmplfaaGreatDoor
