/- Hd Hn Ho Ip Iq Ix Ia: texts of the claim, in this order. -/
import Derived.Test.YthbppblmecdekaaDoorWb15
import Derived.Test.YthbppblmecdekaaDoorWb12
import Derived.Test.YthbppblmecdekaaDoorWb14
import Derived.Test.YthbppblmecdekaaDoorWb9
import Derived.Test.YthbppblmecdekaaDoorWb7
import Derived.Deep.LoopGhost
import Derived.Deep.CutBlock
import Derived.Deep.RegionWith
import Derived.Test.YthbppblmecdekaaDoorWb8
/- Contracts: rungs.Add, rungs.Of. -/
namespace Go.Proofs.YthbppblmecdekaaDoor
open Go Go.RowKit
set_option maxRecDepth 100000
theorem add_no {rs : Lv} {n : Int} {y : Ent} {e : Int} (h : addE rs y = e) (he : e ≠ 0) : addN rs n y = 0 ∧ addE rs y = e ∧ addL rs n y = [] := by
  unfold addN addL
  rw [if_neg (by rw [h]; exact he), if_neg (by rw [h]; exact he)]
  exact ⟨rfl, h, rfl⟩
theorem buildE_one (y : Ent) : buildE [y] = if badEnt y = true then 8 else 0 := by
  unfold buildE
  rw [if_neg (by simp)]
  by_cases h : badEnt y = true
  · rw [if_pos (by simp [h]), if_pos h]
  · rw [if_neg (by simp [h]), if_neg h, if_pos (by simp [rises])]
theorem chkR_cases (rs : Lv) : chkR rs = 0 ∨ chkR rs = 8 := by unfold chkR; split <;> simp
set_option maxHeartbeats 16000000 in
theorem addR_any (B : Option Addr) (Rs : List Rm) (c : Nat) (n : Int) (y : Ent) (w : World) (hB : RunsAt w B Rs) (hT : tot (lvs Rs) ≤ 1000000) (hl : Rs.length ≤ 1000000) :
    Calls Tryd.prog 13 #[.agg #[.slice B Rs.length c, .int .u64 n], .agg #[.int .i64 y.key, .int .i64 y.val, .bool y.dead]] w (GivesRgE (addL (lvs Rs) n y) (addN (lvs Rs) n y) (addE (lvs Rs) y) w) := by
  obtain ⟨W0, hW0⟩ : ∃ W0, ((w.alloc (.cells #[.slice B Rs.length c, .int .u64 n] 25)).alloc (.cells #[.int .i64 y.key, .int .i64 y.val, .bool y.dead] 27)).alloc (.cells #[.slice none 0 0, .int .u64 0] 25) = W0 := ⟨_, rfl⟩
  have hb0 : Below w.heap.size w W0 := by rw [← hW0]; exact (((Below.refl _ _).alloc (Nat.le_refl _) _).alloc (by simp) _).alloc (by simp; omega) _
  have hs0 : W0.heap.size = w.heap.size + 3 := by rw [← hW0]; simp
  have b20 : Blk W0 w.heap.size 25 #[.slice B Rs.length c, .int .u64 n] := by rw [← hW0]; exact ((Blk.new _ _ _).alloc _).alloc _
  have b30 : Blk W0 (w.heap.size + 1) 27 #[.int .i64 y.key, .int .i64 y.val, .bool y.dead] := by
    rw [← hW0]
    have := Blk.new (w.alloc (.cells #[.slice B Rs.length c, .int .u64 n] 25)) 27 #[.int .i64 y.key, .int .i64 y.val, .bool y.dead]
    rw [World.size_alloc] at this
    exact this.alloc _
  have b40 : Blk W0 (w.heap.size + 1 + 1) 25 #[.slice none 0 0, .int .u64 0] := by
    rw [← hW0]
    have := Blk.new ((w.alloc (.cells #[.slice B Rs.length c, .int .u64 n] 25)).alloc (.cells #[.int .i64 y.key, .int .i64 y.val, .bool y.dead] 27)) 25 #[.slice none 0 0, .int .u64 0]
    rwa [World.size_alloc, World.size_alloc] at this
  have HW0 := Lib.hid hW0
  have HB := Lib.hid (hB.below hb0)
  clear hW0 hB
  go_enter Tryd.func13, Tryd.ntmps13
  go_wp2_with fail
  rw [HW0.out]
  refine (checkR_any B Rs c n _ HB.out hT hl).mono ?_
  rintro e w1 ⟨rfl, hb1⟩
  have hb01 := bext hb0 hb1
  have b21 := b20.below hb1 b20.lt
  have b31 := b30.below hb1 b30.lt
  have b41 := b40.below hb1 b40.lt
  obtain ⟨E, hE⟩ : ∃ E, chkR (lvs Rs) = E := ⟨_, rfl⟩
  rw [hE]
  by_cases hE0 : E = 0
  case neg =>
    have hadd : addE (lvs Rs) y = E := by unfold addE; rw [if_pos (by rw [hE]; exact hE0), hE]
    have HADD := Lib.hid (add_no (n := n) hadd hE0)
    have c40 : w1.cell? ⟨w.heap.size + 1 + 1, 0, none⟩ = some (.slice none 0 0) := b41.cell 0
    have c41 : w1.cell? ⟨w.heap.size + 1 + 1, 1, none⟩ = some (.int .u64 0) := b41.cell 1
    have f40 := b41.frozen 0
    have f41 := b41.frozen 1
    clear hadd hE
    go_wp2
    have hbz := box2 b41 (.slice none 0 0) (.int .u64 0)
    have z0 : ((w1.setCell ⟨w.heap.size + 1 + 1, 0, none⟩ (.slice none 0 0)).setCell ⟨w.heap.size + 1 + 1, 1, none⟩ (.int .u64 0)).cell? ⟨w.heap.size + 1 + 1, 0, none⟩ = some (.slice none 0 0) := hbz.cell 0
    have z1 : ((w1.setCell ⟨w.heap.size + 1 + 1, 0, none⟩ (.slice none 0 0)).setCell ⟨w.heap.size + 1 + 1, 1, none⟩ (.int .u64 0)).cell? ⟨w.heap.size + 1 + 1, 1, none⟩ = some (.int .u64 0) := hbz.cell 1
    refine bodyPost_ret (v := .tuple #[.agg #[.slice none 0 0, .int .u64 0], .int .i64 E]) (by simp [results, Tryd.results13, go_sem, z0, z1]) rfl ?_
    exact ⟨none, 0, [], by rw [HADD.out.1, HADD.out.2.1]; rfl, by rw [HADD.out.2.2]; rfl, OwnRs.nil _ _, below2 hb01 (by omega) _ _⟩
  case pos =>
  have hM : May (lvs Rs) := chkR_zero.1 (by rw [hE, hE0])
  have HM := Lib.hid hM
  have hEz := Lib.hid hE
  have HE0 := Lib.hid hE0
  subst hE0
  clear hM hE
  have c20 : w1.cell? ⟨w.heap.size, 0, none⟩ = some (.slice B Rs.length c) := b21.cell 0
  have c21 : w1.cell? ⟨w.heap.size, 1, none⟩ = some (.int .u64 n) := b21.cell 1
  go_wp2_with fail
  refine (entries_any B Rs c n _ (HB.out.below hb1) hT hl).mono ?_
  rintro e w2 ⟨rfl, hb2⟩
  have hb02 := bext hb01 hb2
  have hb12 := bext hb1 hb2
  have b22 := b21.below hb2 b21.lt
  have b32 := b31.below hb2 b31.lt
  have b42 := b41.below hb2 b41.lt
  obtain ⟨T, hTe⟩ : ∃ T, tot (lvs Rs) = T := ⟨_, rfl⟩
  rw [hTe]
  clear c20 c21
  by_cases hT6 : T = 65536
  case pos =>
    have hadd : addE (lvs Rs) y = 4 := by unfold addE; rw [if_neg (by rw [hEz.out]; simp), if_pos (by rw [hTe, hT6])]
    have HADD := Lib.hid (add_no (n := n) hadd (by decide))
    have g1 : ((T : Int) = 65536) := by omega
    have c40 : w2.cell? ⟨w.heap.size + 1 + 1, 0, none⟩ = some (.slice none 0 0) := b42.cell 0
    have c41 : w2.cell? ⟨w.heap.size + 1 + 1, 1, none⟩ = some (.int .u64 0) := b42.cell 1
    have f40 := b42.frozen 0
    have f41 := b42.frozen 1
    clear hadd hTe hT
    subst hT6
    clear g1
    go_wp2
    have hbz := box2 b42 (.slice none 0 0) (.int .u64 0)
    have z0 : ((w2.setCell ⟨w.heap.size + 1 + 1, 0, none⟩ (.slice none 0 0)).setCell ⟨w.heap.size + 1 + 1, 1, none⟩ (.int .u64 0)).cell? ⟨w.heap.size + 1 + 1, 0, none⟩ = some (.slice none 0 0) := hbz.cell 0
    have z1 : ((w2.setCell ⟨w.heap.size + 1 + 1, 0, none⟩ (.slice none 0 0)).setCell ⟨w.heap.size + 1 + 1, 1, none⟩ (.int .u64 0)).cell? ⟨w.heap.size + 1 + 1, 1, none⟩ = some (.int .u64 0) := hbz.cell 1
    refine bodyPost_ret (v := .tuple #[.agg #[.slice none 0 0, .int .u64 0], .int .i64 4]) (by simp [results, Tryd.results13, go_sem, z0, z1]) rfl ?_
    exact ⟨none, 0, [], by rw [HADD.out.1, HADD.out.2.1]; rfl, by rw [HADD.out.2.2]; rfl, OwnRs.nil _ _, below2 hb02 (by omega) _ _⟩
  case neg =>
  have g1 : ¬ ((T : Int) = 65536) := by omega
  have HT6 : Hid (tot (lvs Rs) ≠ 65536) := by show _ ≠ _; rw [hTe]; exact hT6
  clear hTe hT hT6
  have c30 : w2.cell? ⟨w.heap.size + 1, 0, none⟩ = some (.int .i64 y.key) := b32.cell 0
  have c31 : w2.cell? ⟨w.heap.size + 1, 1, none⟩ = some (.int .i64 y.val) := b32.cell 1
  have c32 : w2.cell? ⟨w.heap.size + 1, 2, none⟩ = some (.bool y.dead) := b32.cell 2
  go_wp2_with fail
  refine (runOne_any y _).mono ?_
  rintro e w3 ⟨A3, c3, rfl, ho3, hb3⟩
  have hb03 := bext hb02 hb3
  have hb13 := bext hb12 hb3
  have b23 := b22.below hb3 b22.lt
  have b33 := b32.below hb3 b32.lt
  have b43 := b42.below hb3 b42.lt
  obtain ⟨K1, hK1⟩ : ∃ K1, (buildL [y]).length = K1 := ⟨_, rfl⟩
  rw [hK1]
  clear c30 c31 c32 ho3 hK1
  by_cases hbad : badEnt y = true
  case pos =>
    have hadd : addE (lvs Rs) y = 8 := by unfold addE; rw [if_neg (by rw [hEz.out]; simp), if_neg HT6.out, if_pos hbad]
    have HADD := Lib.hid (add_no (n := n) hadd (by decide))
    have he : buildE [y] = 8 := by rw [buildE_one, if_pos hbad]
    rw [he]
    obtain ⟨W4, hW4⟩ : ∃ W4, w3.alloc (.cells #[.slice A3 K1 c3] 61) = W4 := ⟨_, rfl⟩
    have b44 : Blk W4 (w.heap.size + 1 + 1) 25 #[.slice none 0 0, .int .u64 0] := by rw [← hW4]; exact b43.alloc _
    have hb04 : Below w.heap.size w W4 := by rw [← hW4]; exact hb03.alloc (by have := hb03.size; omega) _
    have c40 : w3.cell? ⟨w.heap.size + 1 + 1, 0, none⟩ = some (.slice none 0 0) := b43.cell 0
    have c41 : w3.cell? ⟨w.heap.size + 1 + 1, 1, none⟩ = some (.int .u64 0) := b43.cell 1
    have d40 : W4.cell? ⟨w.heap.size + 1 + 1, 0, none⟩ = some (.slice none 0 0) := b44.cell 0
    have d41 : W4.cell? ⟨w.heap.size + 1 + 1, 1, none⟩ = some (.int .u64 0) := b44.cell 1
    have f40 := b44.frozen 0
    have f41 := b44.frozen 1
    have HW4 := Lib.hid hW4
    have l43 := b43.lt
    clear hadd he hbad hW4
    go_upto_region 8 with fail
    rw [HW4.out]
    clear c40 c41
    go_wp2
    have hbz := box2 b44 (.slice none 0 0) (.int .u64 0)
    have z0 : ((W4.setCell ⟨w.heap.size + 1 + 1, 0, none⟩ (.slice none 0 0)).setCell ⟨w.heap.size + 1 + 1, 1, none⟩ (.int .u64 0)).cell? ⟨w.heap.size + 1 + 1, 0, none⟩ = some (.slice none 0 0) := hbz.cell 0
    have z1 : ((W4.setCell ⟨w.heap.size + 1 + 1, 0, none⟩ (.slice none 0 0)).setCell ⟨w.heap.size + 1 + 1, 1, none⟩ (.int .u64 0)).cell? ⟨w.heap.size + 1 + 1, 1, none⟩ = some (.int .u64 0) := hbz.cell 1
    refine bodyPost_ret (v := .tuple #[.agg #[.slice none 0 0, .int .u64 0], .int .i64 8]) (by simp [results, Tryd.results13, go_sem, z0, z1]) rfl ?_
    exact ⟨none, 0, [], by rw [HADD.out.1, HADD.out.2.1]; rfl, by rw [HADD.out.2.2]; rfl, OwnRs.nil _ _, below2 hb04 (by omega) _ _⟩
  case neg =>
  have hbf : badEnt y = false := by simpa using hbad
  have HBF := Lib.hid hbf
  have he : buildE [y] = 0 := by rw [buildE_one, if_neg hbad]
  have hadd0 : addE (lvs Rs) y = 0 := addE_zero.2 ⟨HM.out, HT6.out, hbf⟩
  rw [he]
  have HADD0 := Lib.hid hadd0
  have b34c : ∀ i, (w3.alloc (.cells #[.slice A3 K1 c3] 61)).cell? ⟨w.heap.size + 1, i, none⟩ = #[Value.int .i64 y.key, .int .i64 y.val, .bool y.dead][i]? := fun i => (b33.alloc _).cell i
  obtain ⟨W4, hW4⟩ : ∃ W4, w3.alloc (.cells #[.slice A3 K1 c3] 61) = W4 := ⟨_, rfl⟩
  have hb34 : Below w3.heap.size w3 W4 := by rw [← hW4]; exact (Below.refl _ _).alloc (Nat.le_refl _) _
  have hb04 := bext hb03 hb34
  have hb14 := bext hb13 hb34
  have b24 := b23.below hb34 b23.lt
  have b34 := b33.below hb34 b33.lt
  have b44 := b43.below hb34 b43.lt
  have HW4 := Lib.hid hW4
  clear hbad hbf he hadd0 hW4 b34c
  go_upto_region 9 with fail
  rw [HW4.out]
  have c20 : W4.cell? ⟨w.heap.size, 0, none⟩ = some (.slice B Rs.length c) := b24.cell 0
  have c21 : W4.cell? ⟨w.heap.size, 1, none⟩ = some (.int .u64 n) := b24.cell 1
  have c30 : W4.cell? ⟨w.heap.size + 1, 0, none⟩ = some (.int .i64 y.key) := b34.cell 0
  have c31 : W4.cell? ⟨w.heap.size + 1, 1, none⟩ = some (.int .i64 y.val) := b34.cell 1
  have c32 : W4.cell? ⟨w.heap.size + 1, 2, none⟩ = some (.bool y.dead) := b34.cell 2
  go_wp2_with fail
  refine (inR_any B Rs c n y _ (HB.out.below hb14) HM.out HBF.out HT6.out).mono ?_
  rintro e w5 ⟨B5, c5, Rs5, rfl, hl5, ho5, hb5⟩
  have hb05 := bext hb04 hb5
  have b45 := b44.below hb5 b44.lt
  have hs5 := hb5.size
  have hs4 := hb04.size
  obtain ⟨N5, hN5⟩ : ∃ N5, Rs5.length = N5 := ⟨_, rfl⟩
  obtain ⟨n5, hn5⟩ : ∃ n5, letN (lvs Rs) n y = n5 := ⟨_, rfl⟩
  rw [hN5, hn5]
  have htot := letL_tot HM.out HBF.out HT6.out n
  rw [← hl5] at htot
  have hmE := letL_mE HM.out HBF.out HT6.out n
  rw [← hl5] at hmE
  have hst5 := letL_stood HM.out HBF.out HT6.out n
  rw [← hl5] at hst5
  have hlen5 : N5 ≤ 1000000 := by
    rw [← hN5, rs_len hl5]
    unfold letL
    have h1 := cut_len (standL (climbE (lvs Rs) n y).1 (climbE (lvs Rs) n y).2.1)
    have h2 := stand_len (climbE (lvs Rs) n y).1 (climbE (lvs Rs) n y).2.1
    obtain ⟨k1, k2, k3, k4⟩ := climbE_ok HM.out HBF.out HT6.out n
    have h3 := up_16 (chk_len k1.run)
    have h4 := HM.out.len
    split at h2 <;> omega
  have HL5 := Lib.hid hl5
  have HN5 := Lib.hid hN5
  have HNN5 := Lib.hid hn5
  have HO5 := Lib.hid (ho5.mono (B1 := w.heap.size) (by omega))
  have HTOT := Lib.hid htot
  have HME := Lib.hid hmE
  have HST5 := Lib.hid hst5
  clear c20 c21 c30 c31 c32 hl5 ho5 hN5 hn5 htot hmE hst5 b21 b22 b23 b24 b31 b32 b33 b34 b41 b42 b43 b20 b30 b40
  obtain ⟨W6, hW6⟩ : ∃ W6, w5.alloc (.cells #[.slice B5 N5 c5, .int .u64 n5] 25) = W6 := ⟨_, rfl⟩
  have hb56 : Below w5.heap.size w5 W6 := by rw [← hW6]; exact (Below.refl _ _).alloc (Nat.le_refl _) _
  have b96 : Blk W6 w5.heap.size 25 #[.slice B5 N5 c5, .int .u64 n5] := by rw [← hW6]; exact Blk.new _ _ _
  have hb06 := bext hb05 hb56
  have b46 := b45.below hb56 b45.lt
  have HO6 := Lib.hid (HO5.out.below hb56)
  have HW6 := Lib.hid hW6
  clear hW6
  go_upto_region 10 with fail
  rw [HW6.out]
  have c90 : W6.cell? ⟨w5.heap.size, 0, none⟩ = some (.slice B5 N5 c5) := b96.cell 0
  have c91 : W6.cell? ⟨w5.heap.size, 1, none⟩ = some (.int .u64 n5) := b96.cell 1
  go_wp2_with fail
  have hmg := merge_any B5 Rs5 c5 65536 true W6 HO6.out.runsAt (by rw [HN5.out]; omega) (fun r hr => by
    have h1 := le_sum (List.mem_map.2 ⟨r.l, List.mem_map.2 ⟨r, hr, rfl⟩, rfl⟩ : r.l.length ∈ ((lvs Rs5).map List.length))
    have h2 := HTOT.out.2
    unfold tot at h2
    omega) (by rw [← tot_rs]; exact HTOT.out.2) (by omega)
  obtain ⟨ME, hME⟩ : ∃ ME, mrgE Rs5 = ME := ⟨_, rfl⟩
  obtain ⟨LB, hLB⟩ : ∃ LB, laid (allL (lvs Rs5)) = LB := ⟨_, rfl⟩
  have hmL : mrgL Rs5 true = LB := by rw [mrgL_m, ← hLB]; exact (all_live HME.out).2.symm
  rw [hME, hmL, HN5.out] at hmg
  have HLB := Lib.hid hLB
  have hLBn : LB.length = (allL (lvs Rs5)).length := by rw [← hLB, laid_length]
  have HLBN := Lib.hid hLBn
  have hLB6 : LB.length ≤ 65536 := by rw [hLBn]; exact Nat.le_trans allL_le HTOT.out.2
  refine hmg.mono ?_
  clear hmg hME hmL hLB hLBn
  rintro e w7 ⟨A7, c7, rfl, ho7, hb7⟩
  have hb07 := bext hb06 hb7
  have b97 := b96.below hb7 b96.lt
  have b47 := b46.below hb7 b46.lt
  have hs7 := hb7.size
  have hs6 := hb06.size
  have HO7 := Lib.hid (HO6.out.below hb7)
  have HA7 := Lib.hid (own_mono (B' := w.heap.size) ho7 (by omega))
  clear ho7 c90 c91
  obtain ⟨M, hM⟩ : ∃ M, LB.length = M := ⟨_, rfl⟩
  rw [hM] at HA7 hLB6 ⊢
  have HMM := Lib.hid hM
  clear hM
  obtain ⟨W8, hW8⟩ : ∃ W8, w7.alloc (.cells #[.slice A7 M c7] 61) = W8 := ⟨_, rfl⟩
  have hb78 : Below w7.heap.size w7 W8 := by rw [← hW8]; exact (Below.refl _ _).alloc (Nat.le_refl _) _
  have b108 : Blk W8 w7.heap.size 61 #[.slice A7 M c7] := by rw [← hW8]; exact Blk.new _ _ _
  have hb08 := bext hb07 hb78
  have b98 := b97.below hb78 b97.lt
  have b48 := b47.below hb78 b47.lt
  have HO8 := Lib.hid (HO7.out.below hb78)
  have HA8 := Lib.hid (own_below HA7.out hb78)
  have HW8 := Lib.hid hW8
  clear hW8
  go_upto_region 12 with fail
  rw [HW8.out]
  have c90 : W8.cell? ⟨w5.heap.size, 0, none⟩ = some (.slice B5 N5 c5) := b98.cell 0
  have c91 : W8.cell? ⟨w5.heap.size, 1, none⟩ = some (.int .u64 n5) := b98.cell 1
  go_wp2_with fail
  have hen := entries_any B5 Rs5 c5 n5 W8 HO8.out.runsAt (by have := HTOT.out.2; omega) (by rw [HN5.out]; exact hlen5)
  rw [HN5.out] at hen
  obtain ⟨T5, hT5⟩ : ∃ T5, tot (lvs Rs5) = T5 := ⟨_, rfl⟩
  rw [hT5] at hen
  have hT56 : T5 ≤ 65536 := by rw [← hT5]; exact HTOT.out.2
  have HT5 := Lib.hid hT5
  refine hen.mono ?_
  clear hen hT5
  rintro e w9 ⟨rfl, hb9⟩
  have hb09 := bext hb08 hb9
  have b99 := b98.below hb9 b98.lt
  have b49 := b48.below hb9 b48.lt
  have b109 := b108.below hb9 b108.lt
  have hs9 := hb09.size
  have HO9 := Lib.hid (HO8.out.below hb9)
  have HA9 := Lib.hid (own_below HA8.out hb9)
  have d90 : w9.cell? ⟨w5.heap.size, 0, none⟩ = some (.slice B5 N5 c5) := b99.cell 0
  have d91 : w9.cell? ⟨w5.heap.size, 1, none⟩ = some (.int .u64 n5) := b99.cell 1
  have d100 : w9.cell? ⟨w7.heap.size, 0, none⟩ = some (.slice A7 M c7) := b109.cell 0
  have c40 : w9.cell? ⟨w.heap.size + 1 + 1, 0, none⟩ = some (.slice none 0 0) := b49.cell 0
  have c41 : w9.cell? ⟨w.heap.size + 1 + 1, 1, none⟩ = some (.int .u64 0) := b49.cell 1
  have f40 := b49.frozen 0
  have f41 := b49.frozen 1
  have l99 := b99.lt
  have l49 := b49.lt
  have l109 := b109.lt
  have g2 : IntKind.i64.wrap (2 * (M : Int)) = 2 * (M : Int) := IntWalk.i64_in _ (by omega)
  have g3 : IntKind.i64.wrap (2 * (M : Int) + 2) = 2 * (M : Int) + 2 := IntWalk.i64_in _ (by omega)
  have hcv : IntKind.u64.wrap (M : Int) = (M : Int) := IntWalk.u64_in _ (by omega)
  clear c90 c91 hb9
  by_cases hfat : 2 * M + 2 < T5
  · have g4 : 2 * (M : Int) + 2 < (T5 : Int) := by omega
    have hfB : fat (lvs Rs5) = true := by unfold fat; rw [HT5.out, ← HLBN.out, HMM.out]; exact decide_eq_true hfat
    have HFB := Lib.hid hfB
    clear hfB hfat
    go_wp2_with fail
    obtain ⟨W10, hW10⟩ : ∃ W10, w9.alloc (.cells #[.slice A7 M c7] 61) = W10 := ⟨_, rfl⟩
    rw [hW10]
    have hb910 : Below w9.heap.size w9 W10 := by rw [← hW10]; exact (Below.refl _ _).alloc (Nat.le_refl _) _
    have hs10 := hb910.size
    have bS : Blk W10 w9.heap.size 61 #[.slice A7 M c7] := by rw [← hW10]; exact Blk.new _ _ _
    have b410 := b49.below hb910 b49.lt
    have hO1 : OwnRs W10 w.heap.size (some ⟨w9.heap.size, 0, none⟩) 1 [⟨LB, A7, c7⟩] := by
      refine ⟨⟨rfl, .inr ⟨w9.heap.size, 1, _, rfl, by omega, bS, Nat.le_refl _, by unfold maxLen; omega, rfl, ?_⟩⟩, ?_⟩
      · simp [Rm.v, HMM.out]
      · intro r hr
        obtain rfl : r = ⟨LB, A7, c7⟩ := by simpa using hr
        show W10.ownsRow _ _ _ (.slice A7 LB.length c7) LB.length _
        rw [HMM.out]
        exact own_below HA9.out hb910
    have hof := of_any (IntKind.u64.wrap (n5 + M)) (some ⟨w9.heap.size, 0, none⟩) [⟨LB, A7, c7⟩] 1 W10 hO1.runsAt (by simp) (by
      intro r hr
      obtain rfl : r = ⟨LB, A7, c7⟩ := by simpa using hr
      show LB.length ≤ 65536
      rw [HMM.out]; exact hLB6)
    have HO1 := Lib.hid hO1
    clear hO1 hW10
    refine hof.mono ?_
    clear hof
    rintro e w11 ⟨A11, d11, Ts, rfl, ht1, ht2, ht3, hb11⟩
    have b411 := b410.below hb11 b410.lt
    have hOx : OwnRs w11 w.heap.size A11 d11 Ts := OwnRs.sub (HO1.out.below hb11) (own_mono ht2 (by omega)) ht3
    have HOX := Lib.hid hOx
    have HT1 := Lib.hid ht1
    have HB11 := Lib.hid (bext (bext hb09 hb910) hb11)
    have e40 : w11.cell? ⟨w.heap.size + 1 + 1, 0, none⟩ = some (.slice none 0 0) := b411.cell 0
    have e41 : w11.cell? ⟨w.heap.size + 1 + 1, 1, none⟩ = some (.int .u64 0) := b411.cell 1
    have h40 := b411.frozen 0
    have h41 := b411.frozen 1
    clear hOx ht1 ht2 ht3 hb11 d90 d91 d100 c40 c41 f40 f41
    go_wp2
    have hbx := box2 b411 (.slice A11 Ts.length d11) (.int .u64 (IntKind.u64.wrap (n5 + M)))
    have e0 : ((w11.setCell ⟨w.heap.size + 1 + 1, 0, none⟩ (.slice A11 Ts.length d11)).setCell ⟨w.heap.size + 1 + 1, 1, none⟩ (.int .u64 (IntKind.u64.wrap (n5 + M)))).cell? ⟨w.heap.size + 1 + 1, 0, none⟩ = some (.slice A11 Ts.length d11) := hbx.cell 0
    have e1 : ((w11.setCell ⟨w.heap.size + 1 + 1, 0, none⟩ (.slice A11 Ts.length d11)).setCell ⟨w.heap.size + 1 + 1, 1, none⟩ (.int .u64 (IntKind.u64.wrap (n5 + M)))).cell? ⟨w.heap.size + 1 + 1, 1, none⟩ = some (.int .u64 (IntKind.u64.wrap (n5 + M))) := hbx.cell 1
    refine bodyPost_ret (v := .tuple #[.agg #[.slice A11 Ts.length d11, .int .u64 (IntKind.u64.wrap (n5 + M))], .int .i64 0]) (by simp [results, Tryd.results13, go_sem, e0, e1]) rfl ?_
    have hN : addN (lvs Rs) n y = IntKind.u64.wrap (n5 + M) := by
      unfold addN slimN
      rw [if_pos HADD0.out, ← HL5.out, if_pos HFB.out, HNN5.out, ← HLBN.out, HMM.out]
    have hL : addL (lvs Rs) n y = lvs Ts := by
      unfold addL slimL
      rw [if_pos HADD0.out, ← HL5.out, if_pos HFB.out, HT1.out, HLB.out]
      rfl
    exact ⟨A11, d11, Ts, by rw [hN, HADD0.out], hL.symm, HOX.out.set2 b411 (by decide) (by decide) _ _, below2 HB11.out (by omega) _ _⟩
  · have g4 : ¬ 2 * (M : Int) + 2 < (T5 : Int) := by omega
    have hfB : ¬ fat (lvs Rs5) = true := by unfold fat; rw [HT5.out, ← HLBN.out, HMM.out]; simpa using hfat
    have HFB := Lib.hid hfB
    clear hfB hfat
    go_wp2
    have hbx := box2 b49 (.slice B5 N5 c5) (.int .u64 n5)
    have e0 : ((w9.setCell ⟨w.heap.size + 1 + 1, 0, none⟩ (.slice B5 N5 c5)).setCell ⟨w.heap.size + 1 + 1, 1, none⟩ (.int .u64 n5)).cell? ⟨w.heap.size + 1 + 1, 0, none⟩ = some (.slice B5 N5 c5) := hbx.cell 0
    have e1 : ((w9.setCell ⟨w.heap.size + 1 + 1, 0, none⟩ (.slice B5 N5 c5)).setCell ⟨w.heap.size + 1 + 1, 1, none⟩ (.int .u64 n5)).cell? ⟨w.heap.size + 1 + 1, 1, none⟩ = some (.int .u64 n5) := hbx.cell 1
    refine bodyPost_ret (v := .tuple #[.agg #[.slice B5 N5 c5, .int .u64 n5], .int .i64 0]) (by simp [results, Tryd.results13, go_sem, e0, e1]) rfl ?_
    have hN : addN (lvs Rs) n y = n5 := by
      unfold addN slimN
      rw [if_pos HADD0.out, ← HL5.out, if_neg HFB.out, HNN5.out]
    have hL : addL (lvs Rs) n y = lvs Rs5 := by
      unfold addL slimL
      rw [if_pos HADD0.out, ← HL5.out, if_neg HFB.out]
    exact ⟨B5, c5, Rs5, by rw [hN, HADD0.out, HN5.out], hL.symm, HO9.out.set2 b49 (by decide) (by decide) _ _, below2 hb09 (by omega) _ _⟩
end Go.Proofs.YthbppblmecdekaaDoor

/- Contract: an entry is let in, by the reference (In). -/
namespace Go.Proofs.YthbppblmecdekaaDoor
open Go Go.RowKit
set_option maxRecDepth 100000
theorem OwnRs.setFar' {w : World} {B0 g : Nat} {B : Option Addr} {c : Nat} {Rs : List Rm} {cs : Array Value} (h : OwnRs w B0 B c Rs) (hB : Blk w g 61 cs) (hne : ∀ q, B = some q → q.block ≠ g) (i : Nat) (u : Value) : OwnRs (w.setCell ⟨g, i, none⟩ u) B0 B c Rs :=
  ⟨own_far (p := ⟨g, i, none⟩) h.row (by
    cases B with
    | none => simp [Value.ownBlock]
    | some q => have := hne q rfl; simp [Value.ownBlock]; exact this) u, fun r hr => own_setT hB (h.ent r hr) (by decide) i u⟩
theorem own_form2d {w : World} {B n c s : Nat} {e : TypeId} {A : Option Addr} {xs : List Value} (h : w.ownsRow B e s (.slice A n c) n xs) : n ≤ c ∧ c ≤ maxLen := by
  obtain ⟨A', c', h4, h5, h6⟩ := own_form h
  obtain ⟨rfl, rfl⟩ : A = A' ∧ c = c' := by simpa using h4
  exact ⟨h5, h6⟩
end Go.Proofs.YthbppblmecdekaaDoor

/- Contracts: rungs.Of; the reference's Of, Add, Same. -/
namespace Go.Proofs.YthbppblmecdekaaDoor
open Go Go.RowKit
set_option maxRecDepth 100000
def ofEr (rs : Lv) (l : List Pr) : Int := if chkR rs ≠ 0 then chkR rs else buildE (l.map aliveE)
def ofLr (rs : Lv) (l : List Pr) : Lv := if ofEr rs l = 0 then standL [] (laid (l.map aliveE)) else []
def ofNr (rs : Lv) (n : Int) (l : List Pr) : Int := if ofEr rs l = 0 then IntKind.u64.wrap (n + l.length) else 0
theorem of_no {rs : Lv} {n : Int} {l : List Pr} {e : Int} (h : ofEr rs l = e) (he : e ≠ 0) : ofNr rs n l = 0 ∧ ofEr rs l = e ∧ ofLr rs l = [] := by
  unfold ofNr ofLr
  rw [if_neg (by rw [h]; exact he), if_neg (by rw [h]; exact he)]
  exact ⟨rfl, h, rfl⟩
theorem chkR_may (rs : Lv) : chkR rs = if mayB rs = true then 0 else 8 := rfl
set_option maxHeartbeats 8000000 in
theorem ofR_any (B A : Option Addr) (Rs : List Rm) (l : List Pr) (c ca : Nat) (n : Int) (w : World) (hB : RunsAt w B Rs) (hT : tot (lvs Rs) ≤ 1000000) (hl : Rs.length ≤ 1000000) (hA : Sl w A (l.flatMap Pr.cells)) (hl6 : l.length ≤ 65536) :
    Calls Tryd.prog 28 #[.agg #[.slice B Rs.length c, .int .u64 n], .slice A l.length ca] w (GivesRgE (ofLr (lvs Rs) l) (ofNr (lvs Rs) n l) (ofEr (lvs Rs) l) w) := by
  obtain ⟨W0, hW0⟩ : ∃ W0, (w.alloc (.cells #[.slice B Rs.length c, .int .u64 n] 25)).alloc (.cells #[.slice none 0 0, .int .u64 0] 25) = W0 := ⟨_, rfl⟩
  have hb0 : Below w.heap.size w W0 := by rw [← hW0]; exact ((Below.refl _ _).alloc (Nat.le_refl _) _).alloc (by simp) _
  have hs0 : W0.heap.size = w.heap.size + 2 := by rw [← hW0]; simp
  have b20 : Blk W0 w.heap.size 25 #[.slice B Rs.length c, .int .u64 n] := by rw [← hW0]; exact (Blk.new _ _ _).alloc _
  have b40 : Blk W0 (w.heap.size + 1) 25 #[.slice none 0 0, .int .u64 0] := by
    rw [← hW0]
    have := Blk.new (w.alloc (.cells #[.slice B Rs.length c, .int .u64 n] 25)) 25 #[.slice none 0 0, .int .u64 0]
    rwa [World.size_alloc] at this
  have HW0 := Lib.hid hW0
  have HS0 := Lib.hid hs0
  have HB := Lib.hid (hB.below hb0)
  have HA := Lib.hid (hA.below hb0)
  clear hW0 hB hA hs0
  go_enter Tryd.func28, Tryd.ntmps28
  go_wp2_with fail
  rw [HW0.out]
  refine (checkR_any B Rs c n _ HB.out hT hl).mono ?_
  rintro e w1 ⟨rfl, hb1⟩
  have hb01 := bext hb0 hb1
  have b21 := b20.below hb1 b20.lt
  have b41 := b40.below hb1 b40.lt
  obtain ⟨E, hE⟩ : ∃ E, chkR (lvs Rs) = E := ⟨_, rfl⟩
  rw [hE]
  by_cases hE0 : E = 0
  case neg =>
    have hadd : ofEr (lvs Rs) l = E := by unfold ofEr; rw [if_pos (by rw [hE]; exact hE0), hE]
    have HADD := Lib.hid (of_no (n := n) hadd hE0)
    have c40 : w1.cell? ⟨w.heap.size + 1, 0, none⟩ = some (.slice none 0 0) := b41.cell 0
    have c41 : w1.cell? ⟨w.heap.size + 1, 1, none⟩ = some (.int .u64 0) := b41.cell 1
    have f40 := b41.frozen 0
    have f41 := b41.frozen 1
    have l4 := b41.lt
    clear hadd hE
    go_wp2
    have hbz := box2 b41 (.slice none 0 0) (.int .u64 0)
    have z0 : ((w1.setCell ⟨w.heap.size + 1, 0, none⟩ (.slice none 0 0)).setCell ⟨w.heap.size + 1, 1, none⟩ (.int .u64 0)).cell? ⟨w.heap.size + 1, 0, none⟩ = some (.slice none 0 0) := hbz.cell 0
    have z1 : ((w1.setCell ⟨w.heap.size + 1, 0, none⟩ (.slice none 0 0)).setCell ⟨w.heap.size + 1, 1, none⟩ (.int .u64 0)).cell? ⟨w.heap.size + 1, 1, none⟩ = some (.int .u64 0) := hbz.cell 1
    refine bodyPost_ret (v := .tuple #[.agg #[.slice none 0 0, .int .u64 0], .int .i64 E]) (by simp [results, Tryd.results28, go_sem, z0, z1]) rfl ?_
    exact ⟨none, 0, [], by rw [HADD.out.1, HADD.out.2.1]; rfl, by rw [HADD.out.2.2]; rfl, OwnRs.nil _ _, below2 hb01 (by omega) _ _⟩
  case pos =>
  have HE := Lib.hid hE
  have HE0 := Lib.hid hE0
  subst hE0
  clear hE
  go_wp2_with fail
  refine (runOf_any A l ca _ (HA.out.below hb1) (by omega)).mono ?_
  rintro e w2 ⟨A2, c2, rfl, ho2, hb2⟩
  have hb02 := bext hb01 hb2
  have b22 := b21.below hb2 b21.lt
  have b42 := b41.below hb2 b41.lt
  have hs2 := hb2.size
  have hs1 := hb01.size
  obtain ⟨E2, hE2⟩ : ∃ E2, buildE (l.map aliveE) = E2 := ⟨_, rfl⟩
  obtain ⟨LB, hLB⟩ : ∃ LB, buildL (l.map aliveE) = LB := ⟨_, rfl⟩
  rw [hLB] at ho2 ⊢
  rw [hE2]
  have HO2 := Lib.hid (own_mono (B' := w.heap.size) ho2 (by omega))
  have hLBn : LB.length ≤ 65536 := by rw [← hLB]; have := buildL_le (l.map aliveE); rw [List.length_map] at this; omega
  obtain ⟨M, hM⟩ : ∃ M, LB.length = M := ⟨_, rfl⟩
  rw [hM] at HO2 hLBn ⊢
  have HMM := Lib.hid hM
  have HLB := Lib.hid hLB
  clear ho2 hM hLB
  obtain ⟨W3, hW3⟩ : ∃ W3, w2.alloc (.cells #[.slice A2 M c2] 61) = W3 := ⟨_, rfl⟩
  have hb3 : Below w2.heap.size w2 W3 := by rw [← hW3]; exact (Below.refl _ _).alloc (Nat.le_refl _) _
  have b73 : Blk W3 w2.heap.size 61 #[.slice A2 M c2] := by rw [← hW3]; exact Blk.new _ _ _
  have b23 := b22.below hb3 b22.lt
  have b43 := b42.below hb3 b42.lt
  have hb03 := bext hb02 hb3
  have HO3 := Lib.hid (own_below HO2.out hb3)
  have HW3 := Lib.hid hW3
  clear hW3
  go_upto_region 5 with fail
  rw [HW3.out]
  by_cases hE20 : E2 = 0
  case neg =>
    have hadd : ofEr (lvs Rs) l = E2 := by unfold ofEr; rw [if_neg (by rw [HE.out]; simp), hE2]
    have HADD := Lib.hid (of_no (n := n) hadd hE20)
    have c40 : W3.cell? ⟨w.heap.size + 1, 0, none⟩ = some (.slice none 0 0) := b43.cell 0
    have c41 : W3.cell? ⟨w.heap.size + 1, 1, none⟩ = some (.int .u64 0) := b43.cell 1
    have f40 := b43.frozen 0
    have f41 := b43.frozen 1
    have l4 := b43.lt
    clear hadd hE2
    go_wp2
    have hbz := box2 b43 (.slice none 0 0) (.int .u64 0)
    have z0 : ((W3.setCell ⟨w.heap.size + 1, 0, none⟩ (.slice none 0 0)).setCell ⟨w.heap.size + 1, 1, none⟩ (.int .u64 0)).cell? ⟨w.heap.size + 1, 0, none⟩ = some (.slice none 0 0) := hbz.cell 0
    have z1 : ((W3.setCell ⟨w.heap.size + 1, 0, none⟩ (.slice none 0 0)).setCell ⟨w.heap.size + 1, 1, none⟩ (.int .u64 0)).cell? ⟨w.heap.size + 1, 1, none⟩ = some (.int .u64 0) := hbz.cell 1
    refine bodyPost_ret (v := .tuple #[.agg #[.slice none 0 0, .int .u64 0], .int .i64 E2]) (by simp [results, Tryd.results28, go_sem, z0, z1]) rfl ?_
    exact ⟨none, 0, [], by rw [HADD.out.1, HADD.out.2.1]; rfl, by rw [HADD.out.2.2]; rfl, OwnRs.nil _ _, below2 hb03 (by omega) _ _⟩
  case pos =>
  have hof0 : ofEr (lvs Rs) l = 0 := by unfold ofEr; rw [if_neg (by rw [HE.out]; simp), hE2, hE20]
  have hLBe : LB = laid (l.map aliveE) := by rw [← HLB.out]; unfold buildL; rw [if_pos (by rw [hE2, hE20])]
  have HOF0 := Lib.hid hof0
  have HLBE := Lib.hid hLBe
  subst hE20
  clear hE2 hof0 hLBe
  have c21 : W3.cell? ⟨w.heap.size, 1, none⟩ = some (.int .u64 n) := b23.cell 1
  have c70 : W3.cell? ⟨w2.heap.size, 0, none⟩ = some (.slice A2 M c2) := b73.cell 0
  have hcv : IntKind.u64.wrap (l.length : Int) = (l.length : Int) := IntWalk.u64_in _ (by omega)
  have l73 := b73.lt
  go_wp2_with fail
  obtain ⟨W4, hW4⟩ : ∃ W4, W3.alloc (.cells #[.slice A2 M c2] 61) = W4 := ⟨_, rfl⟩
  rw [hW4]
  have hb34 : Below W3.heap.size W3 W4 := by rw [← hW4]; exact (Below.refl _ _).alloc (Nat.le_refl _) _
  have hs3 := hb03.size
  have bS : Blk W4 W3.heap.size 61 #[.slice A2 M c2] := by rw [← hW4]; exact Blk.new _ _ _
  have b44 := b43.below hb34 b43.lt
  have hO1 : OwnRs W4 w.heap.size (some ⟨W3.heap.size, 0, none⟩) 1 [⟨LB, A2, c2⟩] := by
    refine ⟨⟨rfl, .inr ⟨W3.heap.size, 1, _, rfl, by omega, bS, Nat.le_refl _, by unfold maxLen; omega, rfl, ?_⟩⟩, ?_⟩
    · simp [Rm.v, HMM.out]
    · intro r hr
      obtain rfl : r = ⟨LB, A2, c2⟩ := by simpa using hr
      show W4.ownsRow _ _ _ (.slice A2 LB.length c2) LB.length _
      rw [HMM.out]
      exact own_below HO3.out hb34
  have hof := of_any (IntKind.u64.wrap (n + l.length)) (some ⟨W3.heap.size, 0, none⟩) [⟨LB, A2, c2⟩] 1 W4 hO1.runsAt (by simp) (by
    intro r hr
    obtain rfl : r = ⟨LB, A2, c2⟩ := by simpa using hr
    show LB.length ≤ 65536
    rw [HMM.out]; exact hLBn)
  have HO1 := Lib.hid hO1
  have hs4 := hb34.size
  clear hO1 hW4
  refine hof.mono ?_
  clear hof
  rintro e w5 ⟨A5, d5, Ts, rfl, ht1, ht2, ht3, hb5⟩
  have b45 := b44.below hb5 b44.lt
  have HOX := Lib.hid (OwnRs.sub (HO1.out.below hb5) (own_mono ht2 (by omega)) ht3 : OwnRs w5 w.heap.size A5 d5 Ts)
  have HT1 := Lib.hid ht1
  have HB5 := Lib.hid (bext (bext hb03 hb34) hb5)
  have c40 : w5.cell? ⟨w.heap.size + 1, 0, none⟩ = some (.slice none 0 0) := b45.cell 0
  have c41 : w5.cell? ⟨w.heap.size + 1, 1, none⟩ = some (.int .u64 0) := b45.cell 1
  have f40 := b45.frozen 0
  have f41 := b45.frozen 1
  have l4 := b45.lt
  clear ht1 ht2 ht3 hb5 c21 c70 hcv
  go_wp2
  have hbx := box2 b45 (.slice A5 Ts.length d5) (.int .u64 (IntKind.u64.wrap (n + l.length)))
  have e0 : ((w5.setCell ⟨w.heap.size + 1, 0, none⟩ (.slice A5 Ts.length d5)).setCell ⟨w.heap.size + 1, 1, none⟩ (.int .u64 (IntKind.u64.wrap (n + l.length)))).cell? ⟨w.heap.size + 1, 0, none⟩ = some (.slice A5 Ts.length d5) := hbx.cell 0
  have e1 : ((w5.setCell ⟨w.heap.size + 1, 0, none⟩ (.slice A5 Ts.length d5)).setCell ⟨w.heap.size + 1, 1, none⟩ (.int .u64 (IntKind.u64.wrap (n + l.length)))).cell? ⟨w.heap.size + 1, 1, none⟩ = some (.int .u64 (IntKind.u64.wrap (n + l.length))) := hbx.cell 1
  refine bodyPost_ret (v := .tuple #[.agg #[.slice A5 Ts.length d5, .int .u64 (IntKind.u64.wrap (n + l.length))], .int .i64 0]) (by simp [results, Tryd.results28, go_sem, e0, e1]) rfl ?_
  have hN : ofNr (lvs Rs) n l = IntKind.u64.wrap (n + l.length) := by unfold ofNr; rw [if_pos HOF0.out]
  have hL : ofLr (lvs Rs) l = lvs Ts := by
    unfold ofLr
    rw [if_pos HOF0.out, HT1.out, ← HLBE.out]
    rfl
  exact ⟨A5, d5, Ts, by rw [hN, HOF0.out], hL.symm, HOX.out.set2 b45 (by decide) (by decide) _ _, below2 HB5.out (by omega) _ _⟩
set_option maxHeartbeats 1000000 in
theorem same26_yes (B D : Option Addr) (Rs Ts : List Rm) (nr nt c d : Nat) (n : Int) (w : World) (hnr : Rs.length = nr) (hnt : Ts.length = nt) (hB : RunsAt w B Rs) (hD : RunsAt w D Ts) (he : lvs Ts = lvs Rs) (hl : Rs.length ≤ 1000000) (hrs : ∀ r ∈ Rs, r.l.length ≤ 1000000) :
    Calls Tryd.prog 25 #[.agg #[.slice D nt d, .int .u64 n], .agg #[.slice B nr c, .int .u64 n]] w fun r w' => r = .returned (.bool true) ∧ Below w.heap.size w w' := by
  have hb0 : Below w.heap.size w ((w.alloc (.cells #[.slice D nt d, .int .u64 n] 25)).alloc (.cells #[.slice B nr c, .int .u64 n] 25)) := ((Below.refl _ _).alloc (Nat.le_refl _) _).alloc (by simp) _
  have hsa := fun W (hW : Below w.heap.size w W) => sameAll_yes B D Rs Ts nt c d W hnt (hB.below hW) (hD.below hW) he hl hrs
  rw [hnr] at hsa
  have HSA := Lib.hid hsa
  clear hsa hB hD he hrs
  go_enter Tryd.func25, Tryd.ntmps25
  go_wp2_with fail
  refine (HSA.out _ hb0).mono ?_
  rintro e w1 ⟨rfl, hb1⟩
  go_wp2
  go_ret
  exact ⟨rfl, bext hb0 hb1⟩
end Go.Proofs.YthbppblmecdekaaDoor

/- Plain facts: how many entries and levels there are behind an entry was let in; the pairs of levels. No program in sight. -/
namespace Go.Proofs.YthbppblmecdekaaDoor
open Go
/-- the live pairs of levels -/
def prR (rs : Lv) : List Pr := if chkR rs = 0 then plainE (allL rs) else []
theorem live_live (l : List Ent) : liveE (liveE l) = liveE l := by unfold liveE; rw [List.filter_filter]; simp
theorem plain_live_len {rs : Lv} : (plainE (allL rs)).length = (allL rs).length := by
  unfold plainE allL
  rw [List.length_map, live_live]
theorem prR_mL {rs : Lv} (h : chkR rs = 0) : prL (mL rs true) = prR rs ∧ chkE (mL rs true) = 0 := by
  have hm := chkR_zero.1 h
  have h1 := mL_chk true hm.mE
  refine ⟨?_, h1⟩
  unfold prL prR
  rw [if_pos h1, if_pos h, mL_in true hm.mE]
  rfl
theorem prR_len {rs : Lv} (h : chkR rs = 0) : (prR rs).length = (allL rs).length := by unfold prR; rw [if_pos h, plain_live_len]
theorem short_level {rs : Lv} (h : May rs) {i : Nat} (hi : i < rs.length) : i ≤ 16 ∧ (lev rs i).length ≤ 2 ^ i ∧ ((lev rs i).length = 0 ∨ i = 0 ∨ 2 ^ i < 2 * (lev rs i).length) := by
  have h1 := h.len
  refine ⟨by omega, ?_⟩
  rcases h.stood i with h2 | h2
  · rw [h2]
    exact ⟨Nat.zero_le _, .inl rfl⟩
  · by_cases h0 : (lev rs i).length = 0
    · exact ⟨by rw [h0]; exact Nat.zero_le _, .inl h0⟩
    have h3 := up_spec (n := (lev rs i).length) (by omega)
    rw [h2] at h3
    refine ⟨h3.1, ?_⟩
    by_cases hz : i = 0
    · exact .inr (.inl hz)
    have h4 := h3.2 (by omega)
    refine .inr (.inr ?_)
    have h5 : 2 ^ i = 2 * 2 ^ (i - 1) := by
      rw [← Nat.pow_succ']
      congr 1
      omega
    omega
theorem short_len {rs : Lv} (h : May rs) (_h0 : tot rs ≠ 0) : rs.length ≤ up (tot rs) + 1 := by
  rcases h.top with h1 | h1
  · rw [h1]; exact Nat.zero_le _
  rcases h.stood (rs.length - 1) with h2 | h2
  · exact absurd h2 h1
  have h3 := up_mono (tot_lev rs (rs.length - 1))
  rw [h2] at h3
  omega
theorem short_none {rs : Lv} (h : May rs) (h0 : tot rs = 0) : rs.length = 0 := by
  rcases h.top with h1 | h1
  · rw [h1]; rfl
  have h2 := tot_lev rs (rs.length - 1)
  exact absurd (List.eq_nil_of_length_eq_zero (by omega)) h1
end Go.Proofs.YthbppblmecdekaaDoor

/- Plain facts: what levels have of a key; pairs of levels; behind an entry was let in. No program in sight. -/
namespace Go.Proofs.YthbppblmecdekaaDoor
open Go
def gxR (rs : Lv) (key : Int) : Ent := if chkR rs = 0 then (newest rs key).getD zeroE else zeroE
def geR (rs : Lv) (key : Int) : Int := if chkR rs = 0 then (if (newest rs key).isSome then 0 else 6) else chkR rs
theorem gR_kf {rs : Lv} (key : Int) (h : chkR rs = 0) : kfX rs key = gxR rs key ∧ kfE rs key = geR rs key := by
  have h1 := (chkR_zero.1 h).chkAll
  unfold kfX kfE gxR geR
  rw [if_pos h1, if_pos h1, if_pos h, if_pos h]
  exact ⟨rfl, rfl⟩
theorem gR_bad {rs : Lv} (key : Int) (h : ¬ chkR rs = 0) : gxR rs key = zeroE ∧ geR rs key = chkR rs := by
  unfold gxR geR
  rw [if_neg h, if_neg h]
  exact ⟨rfl, rfl⟩
/-- is a key live? -/
def isB (rs : Lv) (key : Int) : Bool := decide (geR rs key = 0) && !(gxR rs key).dead
theorem lv_is {rs : Lv} (h : chkR rs = 0) (key : Int) : lvO (newest rs key) = if isB rs key = true then some (gxR rs key) else none := by
  unfold isB geR gxR lvO
  rw [if_pos h, if_pos h]
  cases newest rs key with
  | none => simp
  | some e => cases hd : e.dead <;> simp [hd]
theorem lv_some {o : Option Ent} {y : Ent} (h : lvO o = some y) : o = some y ∧ y.dead = false := by
  cases o with
  | none => exact absurd h (by simp [lvO])
  | some e =>
    unfold lvO at h
    cases hd : e.dead with
    | true => simp [hd] at h
    | false =>
      have : e = y := by simpa [hd] using h
      exact ⟨by rw [this], by rw [← this]; exact hd⟩
structure AddsOk (rs : Lv) (n : Int) (y : Ent) (key : Int) : Prop where
  may : chkR (addL rs n y) = 0
  had : y.dead = false → geR (addL rs n y) y.key = 0 ∧ gxR (addL rs n y) y.key = y
  went : y.dead = true → geR (addL rs n y) y.key = 0 → (gxR (addL rs n y) y.key).dead = true
  alike : key ≠ y.key → isB rs key = isB (addL rs n y) key
  same : key ≠ y.key → isB rs key = true → gxR rs key = gxR (addL rs n y) key
theorem adds_ok {rs : Lv} {y : Ent} (h : addE rs y = 0) (n key : Int) : AddsOk rs n y key := by
  obtain ⟨h1, _, h3⟩ := add_may h n
  have h0 : chkR rs = 0 := chkR_zero.2 (addE_zero.1 h).1
  have hc : chkR (addL rs n y) = 0 := chkR_zero.2 h1
  have hk := h3 y.key
  rw [if_pos rfl] at hk
  have hq : key ≠ y.key → (if isB (addL rs n y) key = true then some (gxR (addL rs n y) key) else none) = if isB rs key = true then some (gxR rs key) else none := fun hne => by
    have := h3 key
    rw [if_neg (fun e => hne e.symm), lv_is hc, lv_is h0] at this
    exact this
  refine ⟨hc, fun hd => ?_, fun hd hg => ?_, fun hne => ?_, fun hne hi => ?_⟩
  · have h5 : lvO (some y) = some y := by unfold lvO; simp [hd]
    rw [h5] at hk
    have h6 := (lv_some hk).1
    unfold geR gxR
    rw [if_pos hc, if_pos hc, h6]
    exact ⟨rfl, rfl⟩
  · have h5 : lvO (some y) = none := by unfold lvO; simp [hd]
    rw [h5, lv_is hc] at hk
    by_cases hb : isB (addL rs n y) y.key = true
    · rw [if_pos hb] at hk; cases hk
    · unfold isB at hb
      simpa [hg] using hb
  · have := hq hne
    cases ha : isB (addL rs n y) key <;> cases hb : isB rs key <;> simp [ha, hb] at this ⊢
  · have h7 := hq hne
    rw [if_pos hi] at h7
    by_cases ha : isB (addL rs n y) key = true
    · rw [if_pos ha] at h7
      exact (Option.some.inj h7).symm
    · rw [if_neg ha] at h7; cases h7
theorem allL_ris {rs : Lv} (h : May rs) : RisE (allL rs) := live_ris (all_ris fun x hx => by
  obtain ⟨l, hl, rfl⟩ := List.mem_map.1 hx
  obtain ⟨j, _, e⟩ := lev_of_mem hl
  rw [← e]
  exact chk_ris (h.chk j))
theorem prR_mem {rs : Lv} (h : chkR rs = 0) (key : Int) : decide ((⟨key, (gxR rs key).val⟩ : Pr) ∈ prR rs) = isB rs key := by
  have hM := chkR_zero.1 h
  have hl := allL_look hM.mE key
  rw [lv_is h] at hl
  unfold prR
  rw [if_pos h]
  rw [Bool.eq_iff_iff, decide_eq_true_iff]
  constructor
  · intro hm
    obtain ⟨e, he, hp⟩ := List.mem_map.1 hm
    have he2 := (List.mem_filter.1 he).1
    have hkey : e.key = key := congrArg Pr.key hp
    have h5 := look_mem (allL_ris hM) he2
    rw [hkey, hl] at h5
    by_cases hb : isB rs key = true
    · exact hb
    · rw [if_neg hb] at h5; cases h5
  · intro hb
    rw [if_pos hb] at hl
    obtain ⟨h5, h6⟩ := look_key hl
    have hd : (gxR rs key).dead = false := by
      unfold isB at hb
      simp at hb
      exact hb.2
    exact List.mem_map.2 ⟨gxR rs key, List.mem_filter.2 ⟨h6, by rw [hd]; rfl⟩, by rw [h5]⟩
theorem prR_bad {rs : Lv} (h : ¬ chkR rs = 0) : prR rs = [] := by unfold prR; rw [if_neg h]
theorem plain_alive' (l : List Pr) : plainE (l.map aliveE) = l := by
  unfold plainE liveE
  rw [List.filter_eq_self.2 (fun e he => by obtain ⟨p, _, rfl⟩ := List.mem_map.1 he; rfl), List.map_map]
  exact List.map_id'' (fun _ => rfl) l
theorem of_pairs {rs : Lv} {l : List Pr} (h : ofEr rs l = 0) : chkR (ofLr rs l) = 0 ∧ prR (ofLr rs l) = l := by
  have hb : buildE (l.map aliveE) = 0 := by
    unfold ofEr at h
    split at h
    · rename_i h2; exact absurd h h2
    · exact h
  have hc := build_chk hb
  have hd : deadE (laid (l.map aliveE)) = false := by
    unfold deadE
    rw [List.any_eq_false]
    intro e he
    obtain ⟨p, _, rfl⟩ := List.mem_map.1 (laid_mem he)
    simp [aliveE]
  have hm := alone_may hc hd
  have hz : chkR (standL [] (laid (l.map aliveE))) = 0 := chkR_zero.2 hm
  unfold ofLr
  rw [if_pos h]
  refine ⟨hz, ?_⟩
  unfold prR
  rw [if_pos hz, alone_all hc hd, in_laid, plain_alive']
theorem of_err {rs : Lv} {l : List Pr} (h : ¬ chkR rs = 0) : ofEr rs l = chkR rs := by unfold ofEr; rw [if_pos h]
end Go.Proofs.YthbppblmecdekaaDoor

/- Plain facts: the chapter's examples of levels. No program in sight. -/
namespace Go.Proofs.YthbppblmecdekaaDoor
open Go
theorem lay_in {l m : List Ent} (h : laid l = m) : inL m = l := by rw [← h, in_laid]
theorem mrg2 {a b la lb m : List Ent} {bare : Bool} (ha : laid la = a) (hb : laid lb = b) (ca : buildE la = 0) (cb : buildE lb = 0) (hs : la.length + lb.length ≤ 100) (hm : bareE bare (allE [la, lb]) = m) : mL [a, b] bare = laid m := by
  have h : mE [a, b] = 0 := by
    refine mE_of (chkAll_zero ?_) ?_
    · intro r hr
      simp only [List.mem_cons, List.not_mem_nil, or_false] at hr
      rcases hr with rfl | rfl
      · rw [← ha]; exact build_chk ca
      · rw [← hb]; exact build_chk cb
    · rw [← ha, ← hb]
      simp [laid_length]
      omega
  rw [mL_is bare h]
  simp only [List.map, lay_in ha, lay_in hb]
  rw [hm]
theorem kranks1 : ranks 1 = [0] := by unfold ranks; rw [show inord 1 0 = [0] by simp [inord]]; decide
theorem kranks0 : ranks 0 = [] := by unfold ranks; rw [show inord 0 0 = [] by simp [inord]]; decide
theorem lay0 : laid [] = [] := by unfold laid; rw [show ([] : List Ent).length = 0 from rfl, kranks0]; rfl
theorem lay1 (a : Ent) : laid [a] = [a] := by unfold laid; rw [show [a].length = 1 from rfl, kranks1]; rfl
theorem lay2 (a b : Ent) : laid [a, b] = [b, a] := by unfold laid; rw [show [a, b].length = 2 from rfl, kranks2]; rfl
theorem up_1 : up 1 = 0 := by decide
theorem up_2 : up 2 = 1 := by decide +kernel
theorem in_0 : inL [] = [] := lay_in lay0
theorem in_1 (a : Ent) : inL [a] = [a] := lay_in (lay1 a)
theorem in_2 (a b : Ent) : inL [b, a] = [a, b] := lay_in (lay2 a b)
theorem may_nil : May [] := (may_iff []).1 (by decide +kernel)

theorem climb_1 {rs rs' : Lv} {y : Ent} {n n1 n2 : Int} {m : List Ent} (hd : y.dead = false ∨ rs ≠ []) (h : lev rs 0 ≠ []) (h1 : IntKind.u64.wrap (n + 1) = n1) (hm : mergeR rs [y] = m) (hn : IntKind.u64.wrap (n1 + m.length) = n2) (hr : rs.set 0 [] = rs') : climbE rs n y = climb rs' m n2 := by
  unfold climbE
  rw [if_neg (by rintro ⟨h1, h2⟩; rcases hd with h3 | h3 <;> first | exact h3 h2 | (rw [h3] at h1; cases h1)), h1]
  have hu : up [y].length = 0 := up_1
  rw [climb_up (by simp) (by rw [hu]; exact h), hm, hn, hu, hr]
theorem climb_0 {rs : Lv} {y : Ent} {n n1 : Int} (hd : y.dead = false ∨ rs ≠ []) (h : lev rs 0 = []) (h1 : IntKind.u64.wrap (n + 1) = n1) : climbE rs n y = (rs, [y], n1) := by
  unfold climbE
  rw [if_neg (by rintro ⟨h1, h2⟩; rcases hd with h3 | h3 <;> first | exact h3 h2 | (rw [h3] at h1; cases h1)), h1]
  exact climb_end (.inr (by rw [show up [y].length = 0 from up_1]; exact h))
theorem add_is {rs a L : Lv} {r : List Ent} {y : Ent} {n n' : Int} (h : addE rs y = 0) (hc : climbE rs n y = (a, r, n')) (hL : cutL (standL a r) = L) (hf : fat L = false) : addL rs n y = L ∧ addN rs n y = n' := by
  have h1 : letL rs n y = L := by unfold letL; rw [hc]; exact hL
  have h2 : letN rs n y = n' := by unfold letN; rw [hc]
  unfold addL addN slimL slimN
  rw [if_pos h, if_pos h, h1, h2, hf]
  exact ⟨rfl, rfl⟩
theorem fat_small {L : Lv} (h : tot L ≤ 2) : fat L = false := decide_eq_false (by omega)
def x5 : Ent := ⟨5, 1, false⟩
def x6 : Ent := ⟨6, 2, false⟩
def x7 : Ent := ⟨7, 3, false⟩
def k5 : Ent := ⟨5, 0, true⟩
theorem al1E : addE [] x5 = 0 := addE_zero.2 ⟨may_nil, by decide, by decide⟩
theorem al1 : addL [] 0 x5 = [[x5]] ∧ addN [] 0 x5 = 1 :=
  add_is al1E (climb_0 (.inl rfl) (lev_nil _) (by decide)) (by decide +kernel) (fat_small (by decide))
theorem al1M : May [[x5]] := by have h := (add_may al1E 0).1; rwa [al1.1] at h
theorem al2E : addE [[x5]] x7 = 0 := addE_zero.2 ⟨al1M, by decide, by decide⟩
theorem al2 : addL [[x5]] 1 x7 = [[], [x7, x5]] ∧ addN [[x5]] 1 x7 = 4 := by
  refine add_is al2E ?_ (a := [[]]) (r := [x7, x5]) (by decide +kernel) (fat_small (by decide))
  have hm : mergeR [[x5]] [x7] = [x7, x5] := by
    unfold mergeR
    rw [show up [x7].length = 0 from up_1]
    exact (mrg2 (lay1 x7) (lay1 x5) (by decide) (by decide) (by decide) (m := [x5, x7]) (by simp [allE, bothE, bareE, liveE, x5, x7, heldB])).trans (lay2 x5 x7)
  rw [climb_1 (.inl rfl) (by decide) (by decide : IntKind.u64.wrap ((1 : Int) + 1) = 2) hm (by decide : IntKind.u64.wrap ((2 : Int) + ([x7, x5] : List Ent).length) = 4) (rfl : [[x5]].set 0 [] = [[]])]
  exact climb_end (.inr (by rw [show up [x7, x5].length = 1 from up_2]; rfl))
theorem al2M : May [[], [x7, x5]] := by have h := (add_may al2E 1).1; rwa [al2.1] at h
theorem al3E : addE [[], [x7, x5]] x6 = 0 := addE_zero.2 ⟨al2M, by decide, by decide⟩
theorem al3 : addL [[], [x7, x5]] 4 x6 = [[x6], [x7, x5]] ∧ addN [[], [x7, x5]] 4 x6 = 5 := by
  refine add_is al3E (climb_0 (.inl rfl) rfl (by decide)) (by decide +kernel) ?_
  have h : allL [[x6], [x7, x5]] = [x5, x6, x7] := by
    unfold allL
    simp only [List.map, in_1, in_2]
    simp [allE, bothE, liveE, x5, x6, x7]
  unfold fat
  rw [h]
  decide
theorem al3M : May [[x6], [x7, x5]] := by have h := (add_may al3E 4).1; rwa [al3.1] at h
theorem al4E : addE [[x6], [x7, x5]] k5 = 0 := addE_zero.2 ⟨al3M, by decide, by decide⟩
theorem al4 : addL [[x6], [x7, x5]] 5 k5 = [[], [x7, x6]] ∧ addN [[x6], [x7, x5]] 5 k5 = 10 := by
  refine add_is al4E ?_ (a := [[], []]) (r := [x7, x6]) (by decide +kernel) (fat_small (by decide))
  have hm : mergeR [[x6], [x7, x5]] [k5] = [x6, k5] := by
    unfold mergeR
    rw [show up [k5].length = 0 from up_1]
    exact (mrg2 (lay1 k5) (lay1 x6) (by decide) (by decide) (by decide) (m := [k5, x6]) (by simp [allE, bothE, bareE, x5, x6, x7, k5, heldB])).trans (lay2 k5 x6)
  have hm2 : mergeR [[], [x7, x5]] [x6, k5] = [x7, x6] := by
    unfold mergeR
    rw [show up [x6, k5].length = 1 from up_2]
    exact (mrg2 (lay2 k5 x6) (lay2 x5 x7) (by decide) (by decide) (by decide) (m := [x6, x7]) (by simp [allE, bothE, bareE, liveE, x5, x6, x7, k5, heldB])).trans (lay2 x6 x7)
  rw [climb_1 (rs' := [[], [x7, x5]]) (.inr (by simp)) (by decide) (by decide : IntKind.u64.wrap ((5 : Int) + 1) = 6) hm (by decide : IntKind.u64.wrap ((6 : Int) + ([x6, k5] : List Ent).length) = 8) (rfl : [[x6], [x7, x5]].set 0 [] = [[], [x7, x5]])]
  have hu : up [x6, k5].length = 1 := up_2
  rw [climb_up (by simp) (by rw [hu]; decide), hm2, hu, show IntKind.u64.wrap ((8 : Int) + ([x7, x6] : List Ent).length) = 10 by decide]
  exact climb_end (.inr (by rw [show up [x7, x6].length = 1 from up_2]; rfl))
end Go.Proofs.YthbppblmecdekaaDoor

/- Contracts: rungs.Pairs, rungs.Count. -/
namespace Go.Proofs.YthbppblmecdekaaDoor
open Go Go.RowKit
set_option maxRecDepth 100000
theorem rm_le {Rs : List Rm} (h : May (lvs Rs)) : (∀ r ∈ Rs, r.l.length ≤ 65536) ∧ Rs.length ≤ 17 ∧ (Rs.map (fun r => r.l.length)).sum ≤ 65536 := by
  have h1 := h.size
  have h2 := h.len
  rw [lvs_len] at h2
  have h3 : (Rs.map (fun r => r.l.length)).sum = tot (lvs Rs) := by unfold tot lvs; rw [List.map_map]; rfl
  refine ⟨fun r hr => ?_, h2, by omega⟩
  have h4 := le_sum (List.mem_map.2 ⟨r, hr, rfl⟩ : r.l.length ∈ Rs.map (fun r => r.l.length))
  omega
set_option maxHeartbeats 8000000 in
theorem pairsR_any (B : Option Addr) (Rs : List Rm) (c : Nat) (n : Int) (w : World) (hB : RunsAt w B Rs) (hT : tot (lvs Rs) ≤ 1000000) (hl : Rs.length ≤ 1000000) :
    Calls Tryd.prog 18 #[.agg #[.slice B Rs.length c, .int .u64 n]] w (GivesPrs (prR (lvs Rs)) (chkR (lvs Rs)) w) := by
  obtain ⟨W0, hW0⟩ : ∃ W0, w.alloc (.cells #[.slice B Rs.length c, .int .u64 n] 25) = W0 := ⟨_, rfl⟩
  have hb0 : Below w.heap.size w W0 := by rw [← hW0]; exact (Below.refl _ _).alloc (Nat.le_refl _) _
  have b20 : Blk W0 w.heap.size 25 #[.slice B Rs.length c, .int .u64 n] := by rw [← hW0]; exact Blk.new _ _ _
  have HW0 := Lib.hid hW0
  have HB := Lib.hid (hB.below hb0)
  clear hW0 hB
  have hck := fun W (hW : Below W0.heap.size W0 W) => checkR_any B Rs c n W (HB.out.below hW) hT hl
  obtain ⟨E, hE⟩ : ∃ E, chkR (lvs Rs) = E := ⟨_, rfl⟩
  obtain ⟨P, hP⟩ : ∃ P, prR (lvs Rs) = P := ⟨_, rfl⟩
  have hp0 : E ≠ 0 → P = [] := fun h => by rw [← hP]; unfold prR; rw [if_neg (by rw [hE]; exact h)]
  rw [hE] at hck
  rw [hE, hP]
  have HCK := Lib.hid hck
  have HE := Lib.hid hE
  have HP := Lib.hid hP
  clear hck hE hP
  go_enter Tryd.func18, Tryd.ntmps18
  go_wp2_with fail
  rw [HW0.out]
  refine (HCK.out _ (Below.refl _ _)).mono ?_
  rintro e w1 ⟨rfl, hb1⟩
  have hb01 := bext hb0 hb1
  have b21 := b20.below hb1 b20.lt
  have HB1 := Lib.hid (HB.out.below hb1)
  by_cases hE0 : E = 0
  case neg =>
    have hp := hp0 hE0
    subst hp
    have h1 : (E != 0) = true := by simpa using hE0
    clear hE0 hp0
    go_wp2
    refine bodyPost_ret (v := .tuple #[.slice none 0 0, .int .i64 E]) (by simp [results, Tryd.results18, go_sem]) rfl ?_
    exact ⟨none, 0, rfl, World.ownsRow_nil _ _ _ _, hb01⟩
  case pos =>
  subst hE0
  clear hp0
  obtain ⟨hp1, hp2⟩ := prR_mL HE.out
  have hM := chkR_zero.1 HE.out
  have hq := rm_le hM
  have hmE := hM.mE
  obtain ⟨M, hMM⟩ : ∃ M, mL (lvs Rs) true = M := ⟨_, rfl⟩
  rw [HP.out] at hp1
  rw [hMM] at hp1 hp2
  have hml : M.length ≤ 65536 := by rw [← hMM]; exact mL_len true (by have := hM.size; unfold tot at this; exact this)
  have HQ := Lib.hid hq
  have HP1 := Lib.hid hp1
  have HP2 := Lib.hid hp2
  have hmg : ∀ W, Below w1.heap.size w1 W → Calls Tryd.prog 40 #[.slice B Rs.length c, .bool true] W (GivesRun 27 M 0 W) := by
    intro W hW
    have h8 := merge_any B Rs c 65536 true W (HB1.out.below hW) (by have := hq.2.1; omega) (fun r hr => Nat.le_trans (hq.1 r hr) (by omega)) hq.2.2 (by omega)
    rw [mrgL_m, mrgE_m] at h8
    have h9 : Rs.map Rm.l = lvs Rs := rfl
    rw [h9, hMM, hmE] at h8
    exact h8
  have HMG := Lib.hid hmg
  have c20 : w1.cell? ⟨w.heap.size, 0, none⟩ = some (.slice B Rs.length c) := b21.cell 0
  clear hp1 hp2 hM hq hmE hMM hmg
  go_wp2_with fail
  refine (HMG.out _ (Below.refl _ _)).mono ?_
  rintro e w2 ⟨A1, c1, rfl, ho1, hb2⟩
  have HO1 := Lib.hid (own_sl ho1)
  have HB02 := Lib.hid (bext hb01 hb2)
  clear ho1 c20
  go_upto_region 4 with fail
  obtain ⟨W3, hW3⟩ : ∃ W3, w2.alloc (.cells #[.slice A1 M.length c1] 61) = W3 := ⟨_, rfl⟩
  have hb3 : Below w2.heap.size w2 W3 := by rw [← hW3]; exact (Below.refl _ _).alloc (Nat.le_refl _) _
  have b3 : Blk W3 w2.heap.size 61 #[.slice A1 M.length c1] := by rw [← hW3]; exact Blk.new _ _ _
  try rw [hW3]
  have HB03 := Lib.hid (bext HB02.out hb3)
  have HO3 := Lib.hid (HO1.out.below hb3)
  have c30 : W3.cell? ⟨w2.heap.size, 0, none⟩ = some (.slice A1 M.length c1) := b3.cell 0
  clear hW3 hb3
  go_wp2_with fail
  refine (pairs_any A1 M c1 _ HO3.out (by omega)).mono ?_
  rw [HP1.out, HP2.out]
  rintro e w3 ⟨A2, c2, rfl, ho2, hb3⟩
  have HO := Lib.hid (own_mono ho2 HB03.out.size)
  clear ho2 c30
  go_wp2
  refine bodyPost_ret (v := .tuple #[.slice A2 P.length c2, .int .i64 0]) (by simp [results, Tryd.results18, go_sem]) rfl ?_
  exact ⟨A2, c2, rfl, HO.out, bext HB03.out hb3⟩
set_option maxHeartbeats 8000000 in
theorem countR_any (B : Option Addr) (Rs : List Rm) (c : Nat) (n : Int) (w : World) (hB : RunsAt w B Rs) (hT : tot (lvs Rs) ≤ 1000000) (hl : Rs.length ≤ 1000000) :
    Calls Tryd.prog 20 #[.agg #[.slice B Rs.length c, .int .u64 n]] w fun r w' => r = .returned (.tuple #[.int .i64 (if chkR (lvs Rs) = 0 then (tot (lvs Rs) : Int) else 0), .int .i64 ((prR (lvs Rs)).length : Nat), .int .i64 (chkR (lvs Rs))]) ∧ Below w.heap.size w w' := by
  obtain ⟨W0, hW0⟩ : ∃ W0, w.alloc (.cells #[.slice B Rs.length c, .int .u64 n] 25) = W0 := ⟨_, rfl⟩
  have hb0 : Below w.heap.size w W0 := by rw [← hW0]; exact (Below.refl _ _).alloc (Nat.le_refl _) _
  have b20 : Blk W0 w.heap.size 25 #[.slice B Rs.length c, .int .u64 n] := by rw [← hW0]; exact Blk.new _ _ _
  have HW0 := Lib.hid hW0
  have HB := Lib.hid (hB.below hb0)
  clear hW0 hB
  have hck := fun W (hW : Below W0.heap.size W0 W) => pairsR_any B Rs c n W (HB.out.below hW) hT hl
  have hen := fun W (hW : Below W0.heap.size W0 W) => entries_any B Rs c n W (HB.out.below hW) hT hl
  obtain ⟨E, hE⟩ : ∃ E, chkR (lvs Rs) = E := ⟨_, rfl⟩
  obtain ⟨P, hP⟩ : ∃ P, prR (lvs Rs) = P := ⟨_, rfl⟩
  obtain ⟨T, hTT⟩ : ∃ T, tot (lvs Rs) = T := ⟨_, rfl⟩
  have hp0 : E ≠ 0 → P = [] := fun h => by rw [← hP]; unfold prR; rw [if_neg (by rw [hE]; exact h)]
  rw [hE, hP] at hck
  rw [hTT] at hen hT
  rw [hE, hP, hTT]
  have HCK := Lib.hid hck
  have HEN := Lib.hid hen
  have hPE : E = 0 → P.length ≤ T := fun h => by
    rw [← hP, ← hTT, prR_len (by rw [hE]; exact h)]
    exact allL_le
  have HPE := Lib.hid hPE
  clear hck hen hE hP hTT hPE
  obtain ⟨V, hV⟩ : ∃ V : Int, (if E = 0 then (T : Int) else 0) = V := ⟨_, rfl⟩
  rw [hV]
  go_enter Tryd.func20, Tryd.ntmps20
  go_wp2_with fail
  rw [HW0.out]
  refine (HCK.out _ (Below.refl _ _)).mono ?_
  rintro e w1 ⟨A1, c1, rfl, ho1, hb1⟩
  have b21 := b20.below hb1 b20.lt
  have hb01 := bext hb0 hb1
  clear ho1
  by_cases hE0 : E = 0
  case neg =>
    have hp := hp0 hE0
    subst hp
    rw [if_neg hE0] at hV
    subst hV
    have h1 : (E != 0) = true := by simpa using hE0
    clear hp0
    go_wp2
    refine bodyPost_ret (v := .tuple #[.int .i64 0, .int .i64 0, .int .i64 E]) (by simp [results, Tryd.results20, go_sem]) rfl ?_
    exact ⟨by first | rfl | simp, hb01⟩
  case pos =>
  subst hE0
  clear hp0
  rw [if_pos rfl] at hV
  subst hV
  have c20 : w1.cell? ⟨w.heap.size, 0, none⟩ = some (.slice B Rs.length c) := b21.cell 0
  have c21 : w1.cell? ⟨w.heap.size, 1, none⟩ = some (.int .u64 n) := b21.cell 1
  go_wp2_with fail
  refine (HEN.out _ hb1).mono ?_
  rintro e w2 ⟨rfl, hb2⟩
  go_wp2
  refine bodyPost_ret (v := .tuple #[.int .i64 (T : Int), .int .i64 (P.length : Int), .int .i64 0]) (by simp [results, Tryd.results20, go_sem]) rfl ?_
  exact ⟨rfl, bext hb01 hb2⟩
end Go.Proofs.YthbppblmecdekaaDoor
