/- Gv Ia Ic Da Dg0 Db0 Id Fa Fb: texts of the claim, in this order. -/
import Derived.Test.YtolclahkfmplfaaGreatDoorWg11
import Derived.Test.YtolclahkfmplfaaGreatDoorWg14
import Derived.Test.YtolclahkfmplfaaGreatDoorWg1
import Derived.Test.YtolclahkfmplfaaGreatDoorWg8
import Derived.Test.YtolclahkfmplfaaGreatDoorWg12
import Derived.Test.YtolclahkfmplfaaGreatDoorWg6
import Derived.Deep.CutRange
import Derived.Deep.RegionHeld3
/- Contract: kway.Find. -/
namespace Go.Proofs.YtolclahkfmplfaaGreatDoor
open Go Go.RowKit
set_option maxRecDepth 100000

def isE (o : Option Ent) : Int := if o.isSome then 0 else 6
theorem isE_none : isE none = 6 := rfl
theorem isE_some (x : Ent) : isE (some x) = 0 := rfl
/-- what stands in memory while runs are looked through -/
structure Fst (w : World) (o : Option Ent) (wr : World) : Prop where
  bel : Below w.heap.size w wr
  br : Blk wr w.heap.size 46 #[.int .i64 0, .int .i64 0, .bool false]
  bf : Blk wr (w.heap.size + 1) 46 #[.int .i64 (o.getD zeroE).key, .int .i64 (o.getD zeroE).val, .bool (o.getD zeroE).dead]

set_option maxHeartbeats 4000000 in
theorem kfind_any (B : Option Addr) (Rs : List Rm) (c : Nat) (key : Int) (w : World) (hB : RunsAt w B Rs) (hl : Rs.length ≤ 4611686018427387903) (hrs : ∀ r ∈ Rs, r.l.length ≤ 4611686018427387903) (hT : TabAt 1 Lib.deBruijn64tab w) :
    Calls Tryz.prog 33 #[.slice B Rs.length c, .int .i64 key] w (GivesX (kfX (Rs.map Rm.l) key) (kfE (Rs.map Rm.l) key) w) := by
  obtain ⟨W0, hW0⟩ : ∃ W0, (w.alloc (.cells #[.int .i64 0, .int .i64 0, .bool false] 46)).alloc (.cells #[.int .i64 0, .int .i64 0, .bool false] 46) = W0 := ⟨_, rfl⟩
  have hb0 : Below w.heap.size w W0 := by rw [← hW0]; exact ((Below.refl _ _).alloc (Nat.le_refl _) _).alloc (by simp) _
  have bR0 : Blk W0 w.heap.size 46 #[.int .i64 0, .int .i64 0, .bool false] := by rw [← hW0]; exact (Blk.new _ _ _).alloc _
  have bF0 : Blk W0 (w.heap.size + 1) 46 #[.int .i64 0, .int .i64 0, .bool false] := by
    rw [← hW0]
    have := Blk.new (w.alloc (.cells #[.int .i64 0, .int .i64 0, .bool false] 46)) 46 #[.int .i64 0, .int .i64 0, .bool false]
    rwa [World.size_alloc] at this
  have hF0 : Fst w none W0 := ⟨hb0, bR0, bF0⟩
  obtain ⟨rs, hrs2⟩ : ∃ rs, Rs.map Rm.l = rs := ⟨_, rfl⟩
  rw [hrs2]
  have hln : rs.length = Rs.length := by rw [← hrs2]; simp
  obtain ⟨X1, hX1⟩ : ∃ X1, kfX rs key = X1 := ⟨_, rfl⟩
  obtain ⟨G1, hG1⟩ : ∃ G1, kfE rs key = G1 := ⟨_, rfl⟩
  rw [hX1, hG1]
  have HX1 := Lib.hid hX1
  have HG1 := Lib.hid hG1
  have HRS := Lib.hid hrs2
  have HB := Lib.hid hB
  have HLN := Lib.hid hln
  have HHR := Lib.hid hrs
  have HT := Lib.hid hT
  have HF0 := Lib.hid hF0
  have hTl := tab_lt hT
  have HW0 := Lib.hid hW0
  clear hB hrs2 hln hrs hX1 hG1 hT hF0 hb0 bR0 bF0 hW0
  go_enter Tryz.func33, Tryz.ntmps33
  go_wp2_with fail
  try rw [HW0.out]
  clear HW0
  go_loopw [7, 15] (fun v i wr => ∃ (k : Nat) (o : Option Ent) (E : Int), k ≤ Rs.length ∧ i = .int .i64 k ∧ v = .int .i64 E ∧ Hid (E = isE o) ∧ Hid (o = newest (rs.take k) key) ∧ Hid (chkAllE (rs.take k) = 0) ∧ Hid (Fst w o wr)) (fun _ i _ => Rs.length - (intOf i).toNat)
  case atStart => exact ⟨0, none, 6, Nat.zero_le _, rfl, rfl, rfl, rfl, rfl, HF0.out⟩
  case round =>
    obtain ⟨k, o, E, hk, rfl, rfl, hE, ho, hC, hF⟩ := hrel
    by_cases hlt : k < Rs.length
    · have hltr : k < rs.length := by rw [HLN.out]; exact hlt
      obtain ⟨hs1, hs2⟩ := chkAll_take hltr hC.out
      have hs3 := newest_succ hltr key
      have hg : rs[k]'hltr = (Rs[k]'hlt).l := by have := HRS.out; subst this; simp
      rw [hg] at hs1 hs2 hs3
      rw [← ho.out] at hs3
      have hbw := hF.out.bel
      obtain ⟨b, off, rfl, hbl, cp⟩ := HB.out.sl.oneB hbw k hlt
      have hok := (HB.out.ok _ (List.getElem_mem hlt)).below hbw
      have hrl := HHR.out _ (List.getElem_mem hlt)
      obtain ⟨r, hr⟩ : ∃ r, Rs[k]'hlt = r := ⟨_, rfl⟩
      rw [hr] at hs1 hs2 hs3 cp hok hrl
      obtain ⟨l, A, cl⟩ := r
      have cp1 : wr.cell? ⟨b, off + k, none⟩ = some (.slice A l.length cl) := cp
      dsimp only at hs1 hs2 hs3 hrl
      have i0 : (0 : Int) ≤ (k : Int) := by omega
      have i1 : (k : Int) < (Rs.length : Int) := by omega
      have ba0 : Below wr.heap.size wr (wr.alloc (.cells #[.slice A l.length cl] 49)) := (Below.refl _ _).alloc (Nat.le_refl _) _
      have HOK := Lib.hid (hok.sl.below ba0)
      have HTB := Lib.hid (tab_below hTl HT.out (bext hbw ba0))
      have HBA0 := Lib.hid ba0
      have lw : w.heap.size + 1 < wr.heap.size := hF.out.bf.lt
      obtain ⟨f, hf⟩ : ∃ f, gtE l key = f := ⟨_, rfl⟩
      obtain ⟨y, hy⟩ : ∃ y, gtX l key = y := ⟨_, rfl⟩
      have HFE := Lib.hid hf
      have HFX := Lib.hid hy
      have HS1 := Lib.hid hs1
      have HS2 := Lib.hid hs2
      have HS3 := Lib.hid hs3
      clear cp hg hr hok hf hy hs1 hs2 hs3 ba0 hbw
      go_wp2_with fail
      refine (runGet_any A l cl key _ HOK.out hrl HTB.out).mono ?_
      rw [HFE.out, HFX.out]
      rintro e w2 ⟨rfl, hb2⟩
      have hb02 := bext HBA0.out hb2
      have ba : Below w2.heap.size w2 (w2.alloc (.cells #[.int .i64 y.key, .int .i64 y.val, .bool y.dead] 46)) := (Below.refl _ _).alloc (Nat.le_refl _) _
      have bY : Blk (w2.alloc (.cells #[.int .i64 y.key, .int .i64 y.val, .bool y.dead] 46)) w2.heap.size 46 #[.int .i64 y.key, .int .i64 y.val, .bool y.dead] := Blk.new _ _ _
      have hb3 := bext hb02 ba
      clear cp1 hb2
      go_upto_region 6 with fail
      obtain ⟨W3, hW3⟩ : ∃ W3, w2.alloc (.cells #[.int .i64 y.key, .int .i64 y.val, .bool y.dead] 46) = W3 := ⟨_, rfl⟩
      rw [hW3] at ba bY hb3
      try rw [hW3]
      have bR1 := hF.out.br.below hb3 (by omega)
      have bF1 := hF.out.bf.below hb3 lw
      have hb4 := bext hF.out.bel hb3
      have d0y : W3.cell? ⟨w2.heap.size, 0, none⟩ = some (.int .i64 y.key) := bY.cell 0
      have d1y : W3.cell? ⟨w2.heap.size, 1, none⟩ = some (.int .i64 y.val) := bY.cell 1
      have d2y : W3.cell? ⟨w2.heap.size, 2, none⟩ = some (.bool y.dead) := bY.cell 2
      have f0y := bY.frozen 0
      have f1y := bY.frozen 1
      have f2y := bY.frozen 2
      clear hW3 ba f0y f1y f2y
      have hv := gt_vals l key
      rw [HFE.out] at hv
      by_cases hc : chkE l = 0
      · have hf06 : f = 0 ∨ f = 6 := by
          rcases hv with h | h | h
          · exact .inl h
          · exact .inr h
          · exact absurd hc h.1
        have HC2 : Hid (chkAllE (rs.take (k + 1)) = 0) := by show _ = _; rw [HS1.out]; exact hc
        clear hv
        rcases hf06 with rfl | rfl
        · have hsome : ∃ x, look l key = some x := by
            have h := HFE.out
            unfold gtE at h
            rw [if_pos hc] at h
            cases hl2 : look l key with
            | none => rw [hl2] at h; simp at h
            | some x => exact ⟨x, rfl⟩
          obtain ⟨x, hx⟩ := hsome
          have hyx : y = x := by have h := HFX.out; unfold gtX at h; rw [if_pos hc, hx] at h; exact h.symm
          have hnew : newest (rs.take (k + 1)) key = o.or (some x) := by rw [HS3.out, hx]
          have HYX := Lib.hid hyx
          have HNW := Lib.hid hnew
          clear hyx hnew hx hc
          cases o with
          | none =>
            have hE6 : E = 6 := hE.out
            subst hE6
            have d0 : W3.cell? ⟨w.heap.size + 1, 0, none⟩ = some (.int .i64 0) := bF1.cell 0
            have d1 : W3.cell? ⟨w.heap.size + 1, 1, none⟩ = some (.int .i64 0) := bF1.cell 1
            have d2 : W3.cell? ⟨w.heap.size + 1, 2, none⟩ = some (.bool false) := bF1.cell 2
            have f0 := bF1.frozen 0
            have f1 := bF1.frozen 1
            have f2 := bF1.frozen 2
            go_wp2_with fail
            have bF2 := put3 bF1 (.int .i64 y.key) (.int .i64 y.val) (.bool y.dead)
            go_roundw
            case rel =>
              refine ⟨k + 1, some y, 0, by omega, by go_num, rfl, rfl, ?_, HC2, ⟨below3 hb4 (Nat.le_succ _) _ _ _, ?_, bF2⟩⟩
              · show _ = _
                rw [HNW.out, HYX.out]; rfl
              · exact ((bR1.far (p := ⟨w.heap.size + 1, 0, none⟩) (Nat.ne_of_lt (Nat.lt_succ_self _)) _).far (p := ⟨w.heap.size + 1, 1, none⟩) (Nat.ne_of_lt (Nat.lt_succ_self _)) _).far (p := ⟨w.heap.size + 1, 2, none⟩) (Nat.ne_of_lt (Nat.lt_succ_self _)) _
            case measure => simp [intOf]; omega
          | some z =>
            have hE0 : E = 0 := hE.out
            subst hE0
            clear d0y d1y d2y
            go_wp2_with fail
            go_roundw
            case rel => exact ⟨k + 1, some z, 0, by omega, by go_num, rfl, rfl, by show _ = _; rw [HNW.out]; rfl, HC2, ⟨hb4, bR1, bF1⟩⟩
            case measure => simp [intOf]; omega
        · have hnone : look l key = none := by
            have h := HFE.out
            unfold gtE at h
            rw [if_pos hc] at h
            cases hl2 : look l key with
            | none => rfl
            | some x => rw [hl2] at h; simp at h
          have HNW : Hid (newest (rs.take (k + 1)) key = o) := by show _ = _; rw [HS3.out, hnone, Option.or_none]
          clear hnone hc d0y d1y d2y
          go_wp2_with fail
          go_roundw
          case rel => exact ⟨k + 1, o, E, by omega, by go_num, by first | rfl | simp, hE, by show _ = _; rw [HNW.out], HC2, ⟨hb4, bR1, bF1⟩⟩
          case measure => simp [intOf]; omega
      · have hfc : f = chkE l := by
          have h := HFE.out
          unfold gtE at h
          rw [if_neg hc] at h
          exact h.symm
        have hf0 : f ≠ 0 := by rw [hfc]; exact hc
        have hf6 : f ≠ 6 := by rcases chk_vals l with h | h | h | h <;> omega
        have h1 : (f != 0) = true := by simpa using hf0
        have h2 : (f != 6) = true := by simpa using hf6
        have HA1 : Hid (chkAllE rs = f) := by show _ = _; rw [hfc]; exact HS2.out hc
        have HXZ : Hid (X1 = zeroE) := by show _ = _; rw [← HX1.out]; unfold kfX; rw [HA1.out, if_neg hf0]
        have HGF : Hid (G1 = f) := by show _ = _; rw [← HG1.out]; unfold kfE; rw [HA1.out, if_neg hf0]
        have d0 : W3.cell? ⟨w.heap.size, 0, none⟩ = some (.int .i64 0) := bR1.cell 0
        have d1 : W3.cell? ⟨w.heap.size, 1, none⟩ = some (.int .i64 0) := bR1.cell 1
        have d2 : W3.cell? ⟨w.heap.size, 2, none⟩ = some (.bool false) := bR1.cell 2
        have f0 := bR1.frozen 0
        have f1 := bR1.frozen 1
        have f2 := bR1.frozen 2
        clear hfc hf0 hf6 hv hc d0y d1y d2y
        go_wp2_with fail
        have bFz := put3 bR1 (.int .i64 0) (.int .i64 0) (.bool false)
        have e0z := bFz.cell 0
        have e1z := bFz.cell 1
        have e2z := bFz.cell 2
        simp only [List.getElem?_toArray, List.getElem?_cons_zero, List.getElem?_cons_succ] at e0z e1z e2z
        refine bodyPost_ret (v := .tuple #[.agg #[.int .i64 0, .int .i64 0, .bool false], .int .i64 f]) (by simp [results, Tryz.results33, go_sem, e0z, e1z, e2z]) rfl ?_
        rw [HXZ.out, HGF.out]
        exact ⟨rfl, below3 hb4 (Nat.le_refl _) _ _ _⟩
    · have hkn : rs.take k = rs := List.take_of_length_le (by rw [HLN.out]; omega)
      have hC2 := hC.out
      have ho2 := ho.out
      rw [hkn] at hC2 ho2
      have HXZ : Hid (X1 = o.getD zeroE) := by show _ = _; rw [← HX1.out]; unfold kfX; rw [if_pos hC2, ho2]
      have HGF : Hid (G1 = E) := by
        show _ = _
        rw [← HG1.out, hE.out, ho2]
        unfold kfE
        rw [if_pos hC2]
        rfl
      obtain ⟨x, hx⟩ : ∃ x, o.getD zeroE = x := ⟨_, rfl⟩
      have bF1 := hF.out.bf
      rw [hx] at bF1
      have HXX := Lib.hid hx
      have bR1 := hF.out.br
      have d0 : wr.cell? ⟨w.heap.size, 0, none⟩ = some (.int .i64 0) := bR1.cell 0
      have d1 : wr.cell? ⟨w.heap.size, 1, none⟩ = some (.int .i64 0) := bR1.cell 1
      have d2 : wr.cell? ⟨w.heap.size, 2, none⟩ = some (.bool false) := bR1.cell 2
      have f0 := bR1.frozen 0
      have f1 := bR1.frozen 1
      have f2 := bR1.frozen 2
      have d0y : wr.cell? ⟨w.heap.size + 1, 0, none⟩ = some (.int .i64 x.key) := bF1.cell 0
      have d1y : wr.cell? ⟨w.heap.size + 1, 1, none⟩ = some (.int .i64 x.val) := bF1.cell 1
      have d2y : wr.cell? ⟨w.heap.size + 1, 2, none⟩ = some (.bool x.dead) := bF1.cell 2
      have f0y := bF1.frozen 0
      have f1y := bF1.frozen 1
      have f2y := bF1.frozen 2
      clear hkn hC2 ho2 hx f0y f1y f2y
      go_wp2_with fail
      have bFz := put3 bR1 (.int .i64 x.key) (.int .i64 x.val) (.bool x.dead)
      have e0z := bFz.cell 0
      have e1z := bFz.cell 1
      have e2z := bFz.cell 2
      simp only [List.getElem?_toArray, List.getElem?_cons_zero, List.getElem?_cons_succ] at e0z e1z e2z
      refine bodyPost_ret (v := .tuple #[.agg #[.int .i64 x.key, .int .i64 x.val, .bool x.dead], .int .i64 E]) (by simp [results, Tryz.results33, go_sem, e0z, e1z, e2z]) rfl ?_
      rw [HXZ.out, HGF.out, HXX.out]
      exact ⟨rfl, below3 hF.out.bel (Nat.le_refl _) _ _ _⟩
end Go.Proofs.YtolclahkfmplfaaGreatDoor

/- Contracts: rungs.Pairs, rungs.Count. -/
namespace Go.Proofs.YtolclahkfmplfaaGreatDoor
open Go Go.RowKit
set_option maxRecDepth 100000
theorem rm_le {Rs : List Rm} (h : May (lvs Rs)) : (∀ r ∈ Rs, r.l.length ≤ 65536) ∧ Rs.length ≤ 17 ∧ (Rs.map (fun r => r.l.length)).sum ≤ 65536 := by
  have h1 := h.size
  have h2 := h.len
  rw [lvs_len] at h2
  have h3 : (Rs.map (fun r => r.l.length)).sum = tot (lvs Rs) := by unfold tot lvs; rw [List.map_map]; rfl
  refine ⟨fun r hr => ?_, h2, by omega⟩
  have h4 := le_sum (List.mem_map.2 ⟨r, hr, rfl⟩ : r.l.length ∈ Rs.map (fun r => r.l.length))
  omega
set_option maxHeartbeats 8000000 in
theorem pairsR_any (B : Option Addr) (Rs : List Rm) (c : Nat) (n : Int) (w : World) (hB : RunsAt w B Rs) (hT : tot (lvs Rs) ≤ 1000000) (hl : Rs.length ≤ 1000000) :
    Calls Tryz.prog 44 #[.agg #[.slice B Rs.length c, .int .u64 n]] w (GivesPrs (prR (lvs Rs)) (chkR (lvs Rs)) w) := by
  obtain ⟨W0, hW0⟩ : ∃ W0, w.alloc (.cells #[.slice B Rs.length c, .int .u64 n] 27) = W0 := ⟨_, rfl⟩
  have hb0 : Below w.heap.size w W0 := by rw [← hW0]; exact (Below.refl _ _).alloc (Nat.le_refl _) _
  have b20 : Blk W0 w.heap.size 27 #[.slice B Rs.length c, .int .u64 n] := by rw [← hW0]; exact Blk.new _ _ _
  have HW0 := Lib.hid hW0
  have HB := Lib.hid (hB.below hb0)
  clear hW0 hB
  have hck := fun W (hW : Below W0.heap.size W0 W) => checkR_any B Rs c n W (HB.out.below hW) hT hl
  obtain ⟨E, hE⟩ : ∃ E, chkR (lvs Rs) = E := ⟨_, rfl⟩
  obtain ⟨P, hP⟩ : ∃ P, prR (lvs Rs) = P := ⟨_, rfl⟩
  have hp0 : E ≠ 0 → P = [] := fun h => by rw [← hP]; unfold prR; rw [if_neg (by rw [hE]; exact h)]
  rw [hE] at hck
  rw [hE, hP]
  have HCK := Lib.hid hck
  have HE := Lib.hid hE
  have HP := Lib.hid hP
  clear hck hE hP
  go_enter Tryz.func44, Tryz.ntmps44
  go_wp2_with fail
  rw [HW0.out]
  refine (HCK.out _ (Below.refl _ _)).mono ?_
  rintro e w1 ⟨rfl, hb1⟩
  have hb01 := bext hb0 hb1
  have b21 := b20.below hb1 b20.lt
  have HB1 := Lib.hid (HB.out.below hb1)
  by_cases hE0 : E = 0
  case neg =>
    have hp := hp0 hE0
    subst hp
    have h1 : (E != 0) = true := by simpa using hE0
    clear hE0 hp0
    go_wp2
    refine bodyPost_ret (v := .tuple #[.slice none 0 0, .int .i64 E]) (by simp [results, Tryz.results44, go_sem]) rfl ?_
    exact ⟨none, 0, rfl, World.ownsRow_nil _ _ _ _, hb01⟩
  case pos =>
  subst hE0
  clear hp0
  obtain ⟨hp1, hp2⟩ := prR_mL HE.out
  have hM := chkR_zero.1 HE.out
  have hq := rm_le hM
  have hmE := hM.mE
  obtain ⟨M, hMM⟩ : ∃ M, mL (lvs Rs) true = M := ⟨_, rfl⟩
  rw [HP.out] at hp1
  rw [hMM] at hp1 hp2
  have hml : M.length ≤ 65536 := by rw [← hMM]; exact mL_len true (by have := hM.size; unfold tot at this; exact this)
  have HQ := Lib.hid hq
  have HP1 := Lib.hid hp1
  have HP2 := Lib.hid hp2
  have hmg : ∀ W, Below w1.heap.size w1 W → Calls Tryz.prog 49 #[.slice B Rs.length c, .bool true] W (GivesRun 46 M 0 W) := by
    intro W hW
    have h8 := merge_any B Rs c 65536 true W (HB1.out.below hW) (by have := hq.2.1; omega) (fun r hr => Nat.le_trans (hq.1 r hr) (by omega)) hq.2.2 (by omega)
    rw [mrgL_m, mrgE_m] at h8
    have h9 : Rs.map Rm.l = lvs Rs := rfl
    rw [h9, hMM, hmE] at h8
    exact h8
  have HMG := Lib.hid hmg
  have c20 : w1.cell? ⟨w.heap.size, 0, none⟩ = some (.slice B Rs.length c) := b21.cell 0
  clear hp1 hp2 hM hq hmE hMM hmg
  go_wp2_with fail
  refine (HMG.out _ (Below.refl _ _)).mono ?_
  rintro e w2 ⟨A1, c1, rfl, ho1, hb2⟩
  have HO1 := Lib.hid (own_sl ho1)
  have HB02 := Lib.hid (bext hb01 hb2)
  clear ho1 c20
  go_upto_region 4 with fail
  obtain ⟨W3, hW3⟩ : ∃ W3, w2.alloc (.cells #[.slice A1 M.length c1] 49) = W3 := ⟨_, rfl⟩
  have hb3 : Below w2.heap.size w2 W3 := by rw [← hW3]; exact (Below.refl _ _).alloc (Nat.le_refl _) _
  have b3 : Blk W3 w2.heap.size 49 #[.slice A1 M.length c1] := by rw [← hW3]; exact Blk.new _ _ _
  try rw [hW3]
  have HB03 := Lib.hid (bext HB02.out hb3)
  have HO3 := Lib.hid (HO1.out.below hb3)
  have c30 : W3.cell? ⟨w2.heap.size, 0, none⟩ = some (.slice A1 M.length c1) := b3.cell 0
  clear hW3 hb3
  go_wp2_with fail
  refine (pairs_any A1 M c1 _ HO3.out (by omega)).mono ?_
  rw [HP1.out, HP2.out]
  rintro e w3 ⟨A2, c2, rfl, ho2, hb3⟩
  have HO := Lib.hid (own_mono ho2 HB03.out.size)
  clear ho2 c30
  go_wp2
  refine bodyPost_ret (v := .tuple #[.slice A2 P.length c2, .int .i64 0]) (by simp [results, Tryz.results44, go_sem]) rfl ?_
  exact ⟨A2, c2, rfl, HO.out, bext HB03.out hb3⟩
set_option maxHeartbeats 8000000 in
theorem countR_any (B : Option Addr) (Rs : List Rm) (c : Nat) (n : Int) (w : World) (hB : RunsAt w B Rs) (hT : tot (lvs Rs) ≤ 1000000) (hl : Rs.length ≤ 1000000) :
    Calls Tryz.prog 18 #[.agg #[.slice B Rs.length c, .int .u64 n]] w fun r w' => r = .returned (.tuple #[.int .i64 (if chkR (lvs Rs) = 0 then (tot (lvs Rs) : Int) else 0), .int .i64 ((prR (lvs Rs)).length : Nat), .int .i64 (chkR (lvs Rs))]) ∧ Below w.heap.size w w' := by
  obtain ⟨W0, hW0⟩ : ∃ W0, w.alloc (.cells #[.slice B Rs.length c, .int .u64 n] 27) = W0 := ⟨_, rfl⟩
  have hb0 : Below w.heap.size w W0 := by rw [← hW0]; exact (Below.refl _ _).alloc (Nat.le_refl _) _
  have b20 : Blk W0 w.heap.size 27 #[.slice B Rs.length c, .int .u64 n] := by rw [← hW0]; exact Blk.new _ _ _
  have HW0 := Lib.hid hW0
  have HB := Lib.hid (hB.below hb0)
  clear hW0 hB
  have hck := fun W (hW : Below W0.heap.size W0 W) => pairsR_any B Rs c n W (HB.out.below hW) hT hl
  have hen := fun W (hW : Below W0.heap.size W0 W) => entries_any B Rs c n W (HB.out.below hW) hT hl
  obtain ⟨E, hE⟩ : ∃ E, chkR (lvs Rs) = E := ⟨_, rfl⟩
  obtain ⟨P, hP⟩ : ∃ P, prR (lvs Rs) = P := ⟨_, rfl⟩
  obtain ⟨T, hTT⟩ : ∃ T, tot (lvs Rs) = T := ⟨_, rfl⟩
  have hp0 : E ≠ 0 → P = [] := fun h => by rw [← hP]; unfold prR; rw [if_neg (by rw [hE]; exact h)]
  rw [hE, hP] at hck
  rw [hTT] at hen hT
  rw [hE, hP, hTT]
  have HCK := Lib.hid hck
  have HEN := Lib.hid hen
  have hPE : E = 0 → P.length ≤ T := fun h => by
    rw [← hP, ← hTT, prR_len (by rw [hE]; exact h)]
    exact allL_le
  have HPE := Lib.hid hPE
  clear hck hen hE hP hTT hPE
  obtain ⟨V, hV⟩ : ∃ V : Int, (if E = 0 then (T : Int) else 0) = V := ⟨_, rfl⟩
  rw [hV]
  go_enter Tryz.func18, Tryz.ntmps18
  go_wp2_with fail
  rw [HW0.out]
  refine (HCK.out _ (Below.refl _ _)).mono ?_
  rintro e w1 ⟨A1, c1, rfl, ho1, hb1⟩
  have b21 := b20.below hb1 b20.lt
  have hb01 := bext hb0 hb1
  clear ho1
  by_cases hE0 : E = 0
  case neg =>
    have hp := hp0 hE0
    subst hp
    rw [if_neg hE0] at hV
    subst hV
    have h1 : (E != 0) = true := by simpa using hE0
    clear hp0
    go_wp2
    refine bodyPost_ret (v := .tuple #[.int .i64 0, .int .i64 0, .int .i64 E]) (by simp [results, Tryz.results18, go_sem]) rfl ?_
    exact ⟨by first | rfl | simp, hb01⟩
  case pos =>
  subst hE0
  clear hp0
  rw [if_pos rfl] at hV
  subst hV
  have c20 : w1.cell? ⟨w.heap.size, 0, none⟩ = some (.slice B Rs.length c) := b21.cell 0
  have c21 : w1.cell? ⟨w.heap.size, 1, none⟩ = some (.int .u64 n) := b21.cell 1
  go_wp2_with fail
  refine (HEN.out _ hb1).mono ?_
  rintro e w2 ⟨rfl, hb2⟩
  go_wp2
  refine bodyPost_ret (v := .tuple #[.int .i64 (T : Int), .int .i64 (P.length : Int), .int .i64 0]) (by simp [results, Tryz.results18, go_sem]) rfl ?_
  exact ⟨rfl, bext hb01 hb2⟩
end Go.Proofs.YtolclahkfmplfaaGreatDoor

/- Contracts: rungs.Get; the reference's Check, Pairs, Count, Get of levels. -/
namespace Go.Proofs.YtolclahkfmplfaaGreatDoor
open Go Go.RowKit
set_option maxRecDepth 100000
theorem rm_le' {Rs : List Rm} (h : chkR (lvs Rs) = 0) : Rs.length ≤ 4611686018427387903 ∧ ∀ r ∈ Rs, r.l.length ≤ 4611686018427387903 := by
  have h1 := rm_le (chkR_zero.1 h)
  exact ⟨by omega, fun r hr => by have := h1.1 r hr; omega⟩
theorem plain_all {Rs : List Rm} : plainE (allE (inS Rs)) = plainE (allL (lvs Rs)) := by
  unfold plainE allL
  rw [live_live, inS_of]
set_option maxHeartbeats 8000000 in
theorem getR_any (B : Option Addr) (Rs : List Rm) (c : Nat) (n : Int) (key : Int) (w : World) (hB : RunsAt w B Rs) (hT : tot (lvs Rs) ≤ 1000000) (hl : Rs.length ≤ 1000000) (hTb : TabAt 1 Lib.deBruijn64tab w) :
    Calls Tryz.prog 43 #[.agg #[.slice B Rs.length c, .int .u64 n], .int .i64 key] w (GivesX (gxR (lvs Rs) key) (geR (lvs Rs) key) w) := by
  obtain ⟨W0, hW0⟩ : ∃ W0, (w.alloc (.cells #[.slice B Rs.length c, .int .u64 n] 27)).alloc (.cells #[.int .i64 0, .int .i64 0, .bool false] 46) = W0 := ⟨_, rfl⟩
  have hb0 : Below w.heap.size w W0 := by rw [← hW0]; exact ((Below.refl _ _).alloc (Nat.le_refl _) _).alloc (by simp) _
  have b20 : Blk W0 w.heap.size 27 #[.slice B Rs.length c, .int .u64 n] := by rw [← hW0]; exact (Blk.new _ _ _).alloc _
  have bR0 : Blk W0 (w.heap.size + 1) 46 #[.int .i64 0, .int .i64 0, .bool false] := by
    rw [← hW0]
    have := Blk.new (w.alloc (.cells #[.slice B Rs.length c, .int .u64 n] 27)) 46 #[.int .i64 0, .int .i64 0, .bool false]
    rwa [World.size_alloc] at this
  have HW0 := Lib.hid hW0
  have HB := Lib.hid (hB.below hb0)
  clear hW0 hB
  have HTB := Lib.hid (tab_below (tab_lt hTb) hTb hb0)
  have hTl := tab_lt HTB.out
  clear hTb
  go_enter Tryz.func43, Tryz.ntmps43
  go_wp2_with fail
  rw [HW0.out]
  refine (checkR_any B Rs c n _ HB.out hT hl).mono ?_
  obtain ⟨E, hE⟩ : ∃ E, chkR (lvs Rs) = E := ⟨_, rfl⟩
  rw [hE]
  rintro e w1 ⟨rfl, hb1⟩
  have bR1 := bR0.below hb1 bR0.lt
  have b21 := b20.below hb1 b20.lt
  have hb01 := bext hb0 hb1
  by_cases h0 : E = 0
  case neg =>
    have HG := Lib.hid (gR_bad key (by rw [hE]; exact h0))
    have HE := Lib.hid hE
    have h1 : (E != 0) = true := by simpa using h0
    have d0 : w1.cell? ⟨w.heap.size + 1, 0, none⟩ = some (.int .i64 0) := bR1.cell 0
    have d1 : w1.cell? ⟨w.heap.size + 1, 1, none⟩ = some (.int .i64 0) := bR1.cell 1
    have d2 : w1.cell? ⟨w.heap.size + 1, 2, none⟩ = some (.bool false) := bR1.cell 2
    have f0 := bR1.frozen 0
    have f1 := bR1.frozen 1
    have f2 := bR1.frozen 2
    clear h0 hE
    go_wp2_with fail
    have bFz := put3 bR1 (.int .i64 0) (.int .i64 0) (.bool false)
    have e0z := bFz.cell 0
    have e1z := bFz.cell 1
    have e2z := bFz.cell 2
    simp only [List.getElem?_toArray, List.getElem?_cons_zero, List.getElem?_cons_succ] at e0z e1z e2z
    refine bodyPost_ret (v := .tuple #[.agg #[.int .i64 0, .int .i64 0, .bool false], .int .i64 E]) (by simp [results, Tryz.results43, go_sem, e0z, e1z, e2z]) rfl ?_
    unfold GivesX
    rw [HG.out.1, HG.out.2, HE.out]
    exact ⟨rfl, below3 hb01 (Nat.le_succ _) _ _ _⟩
  case pos =>
  subst h0
  have HQ := Lib.hid (rm_le' hE)
  have HK := Lib.hid (gR_kf key hE)
  clear hE
  have c20 : w1.cell? ⟨w.heap.size, 0, none⟩ = some (.slice B Rs.length c) := b21.cell 0
  go_wp2_with fail
  refine (kfind_any B Rs c key _ (HB.out.below hb1) HQ.out.1 HQ.out.2 (tab_below hTl HTB.out hb1)).mono ?_
  unfold GivesX
  have hlv : Rs.map Rm.l = lvs Rs := rfl
  rw [hlv, HK.out.1, HK.out.2]
  obtain ⟨x, hx⟩ : ∃ x, gxR (lvs Rs) key = x := ⟨_, rfl⟩
  obtain ⟨G, hG⟩ : ∃ x, geR (lvs Rs) key = x := ⟨_, rfl⟩
  rw [hx, hG]
  rintro e w2 ⟨rfl, hb2⟩
  have bR2 := bR1.below hb2 bR1.lt
  have hb02 := bext hb01 hb2
  have HXX := Lib.hid hx
  have HGG := Lib.hid hG
  have d0 : w2.cell? ⟨w.heap.size + 1, 0, none⟩ = some (.int .i64 0) := bR2.cell 0
  have d1 : w2.cell? ⟨w.heap.size + 1, 1, none⟩ = some (.int .i64 0) := bR2.cell 1
  have d2 : w2.cell? ⟨w.heap.size + 1, 2, none⟩ = some (.bool false) := bR2.cell 2
  have f0 := bR2.frozen 0
  have f1 := bR2.frozen 1
  have f2 := bR2.frozen 2
  clear hlv hx hG c20
  go_wp2_with fail
  have bFy := put3 bR2 (.int .i64 x.key) (.int .i64 x.val) (.bool x.dead)
  have e0y := bFy.cell 0
  have e1y := bFy.cell 1
  have e2y := bFy.cell 2
  simp only [List.getElem?_toArray, List.getElem?_cons_zero, List.getElem?_cons_succ] at e0y e1y e2y
  refine bodyPost_ret (v := .tuple #[.agg #[.int .i64 x.key, .int .i64 x.val, .bool x.dead], .int .i64 G]) (by simp [results, Tryz.results43, go_sem, e0y, e1y, e2y]) rfl ?_
  rw [HXX.out, HGG.out]
  exact ⟨rfl, below3 hb02 (Nat.le_succ _) _ _ _⟩
end Go.Proofs.YtolclahkfmplfaaGreatDoor

/- Contracts: ladder.Check, Pairs, Get. -/
namespace Go.Proofs.YtolclahkfmplfaaGreatDoor
open Go Go.RowKit
set_option maxRecDepth 100000
section
variable {w : World} {g : Nat} {t : TypeId} {x0 x1 x2 x3 x4 x5 x6 x7 x8 x9 x10 : Value}
theorem put11 (h : Blk w g t #[x0, x1, x2, x3, x4, x5, x6, x7, x8, x9, x10]) (y0 y1 y2 y3 y4 y5 y6 y7 y8 y9 y10 : Value) : Blk (((((((((((w.setCell ⟨g, 0, none⟩ y0).setCell ⟨g, 1, none⟩ y1).setCell ⟨g, 2, none⟩ y2).setCell ⟨g, 3, none⟩ y3).setCell ⟨g, 4, none⟩ y4).setCell ⟨g, 5, none⟩ y5).setCell ⟨g, 6, none⟩ y6).setCell ⟨g, 7, none⟩ y7).setCell ⟨g, 8, none⟩ y8).setCell ⟨g, 9, none⟩ y9).setCell ⟨g, 10, none⟩ y10) g t #[y0, y1, y2, y3, y4, y5, y6, y7, y8, y9, y10] := by
  simpa using ((((((((((h.set_ 0 y0).set_ 1 y1).set_ 2 y2).set_ 3 y3).set_ 4 y4).set_ 5 y5).set_ 6 y6).set_ 7 y7).set_ 8 y8).set_ 9 y9).set_ 10 y10
theorem below11 {B : Nat} {a : World} (h : Below B a w) (hg : B ≤ g) (y0 y1 y2 y3 y4 y5 y6 y7 y8 y9 y10 : Value) : Below B a (((((((((((w.setCell ⟨g, 0, none⟩ y0).setCell ⟨g, 1, none⟩ y1).setCell ⟨g, 2, none⟩ y2).setCell ⟨g, 3, none⟩ y3).setCell ⟨g, 4, none⟩ y4).setCell ⟨g, 5, none⟩ y5).setCell ⟨g, 6, none⟩ y6).setCell ⟨g, 7, none⟩ y7).setCell ⟨g, 8, none⟩ y8).setCell ⟨g, 9, none⟩ y9).setCell ⟨g, 10, none⟩ y10) :=
  ((((((((((h.setCell (p := ⟨g, 0, none⟩) hg y0).setCell (p := ⟨g, 1, none⟩) hg y1).setCell (p := ⟨g, 2, none⟩) hg y2).setCell (p := ⟨g, 3, none⟩) hg y3).setCell (p := ⟨g, 4, none⟩) hg y4).setCell (p := ⟨g, 5, none⟩) hg y5).setCell (p := ⟨g, 6, none⟩) hg y6).setCell (p := ⟨g, 7, none⟩) hg y7).setCell (p := ⟨g, 8, none⟩) hg y8).setCell (p := ⟨g, 9, none⟩) hg y9).setCell (p := ⟨g, 10, none⟩) hg y10
end
abbrev lrow (c : Cfg) (B : Option Addr) (m k : Nat) (n : Int) : Array Value := #[.int .u8 c.tag, .int .i64 c.most, .int .i64 c.seg, .int .i64 c.least, .int .i64 c.den, .int .i64 c.leafLow, .int .i64 c.rootLow, .int .i64 c.rootHigh, .int .i64 c.leafHigh, .slice B m k, .int .u64 n]
/-- the error of a map -/
def errL (c : Cfg) (L : Lv) : Int := if errC c = 0 then (if chkR L = 0 ∧ ((prR L).length : Int) ≤ c.most ∧ tot L ≤ 2 * (prR L).length + 2 then 0 else 8) else errC c
def prD (c : Cfg) (L : Lv) : List Pr := if errL c L = 0 then prR L else []
def vlD (c : Cfg) (L : Lv) (key : Int) : Int := if errL c L = 0 ∧ isB L key = true then (gxR L key).val else 0
def veD (c : Cfg) (L : Lv) (key : Int) : Int := if errL c L = 0 then (if isB L key = true then 0 else 6) else errL c L
theorem errC_vals (c : Cfg) : errC c = 0 ∨ errC c = 50 := by unfold errC; split <;> simp
theorem errL_zero {c : Cfg} {L : Lv} (h : errL c L = 0) : errC c = 0 ∧ chkR L = 0 ∧ ((prR L).length : Int) ≤ c.most ∧ tot L ≤ 2 * (prR L).length + 2 := by
  unfold errL at h
  by_cases h1 : errC c = 0
  · rw [if_pos h1] at h
    split at h
    · rename_i h2; exact ⟨h1, h2⟩
    · cases h
  · rw [if_neg h1] at h; exact absurd h h1
set_option maxHeartbeats 8000000 in
theorem checkD_any (B : Option Addr) (Rs : List Rm) (k : Nat) (c : Cfg) (n : Int) (w : World) (hB : RunsAt w B Rs) (hT : tot (lvs Rs) ≤ 1000000) (hl : Rs.length ≤ 1000000) :
    Calls Tryz.prog 15 #[.agg (lrow c B Rs.length k n)] w fun r w' => r = .returned (.int .i64 (errL c (lvs Rs))) ∧ Below w.heap.size w w' := by
  obtain ⟨W0, hW0⟩ : ∃ W0, w.alloc (.cells #[.int .u8 c.tag, .int .i64 c.most, .int .i64 c.seg, .int .i64 c.least, .int .i64 c.den, .int .i64 c.leafLow, .int .i64 c.rootLow, .int .i64 c.rootHigh, .int .i64 c.leafHigh, .slice B Rs.length k, .int .u64 n] 29) = W0 := ⟨_, rfl⟩
  have hb0 : Below w.heap.size w W0 := by rw [← hW0]; exact (Below.refl _ _).alloc (Nat.le_refl _) _
  have b0 : Blk W0 w.heap.size 29 #[.int .u8 c.tag, .int .i64 c.most, .int .i64 c.seg, .int .i64 c.least, .int .i64 c.den, .int .i64 c.leafLow, .int .i64 c.rootLow, .int .i64 c.rootHigh, .int .i64 c.leafHigh, .slice B Rs.length k, .int .u64 n] := by rw [← hW0]; exact Blk.new _ _ _
  have HW0 := Lib.hid hW0
  have HB := Lib.hid (hB.below hb0)
  have HB0 := Lib.hid hb0
  have HC0 := Lib.hid b0
  have hcn := fun W (hW : Below W0.heap.size W0 W) => countR_any B Rs k n W (HB.out.below hW) hT hl
  obtain ⟨V, hV⟩ : ∃ V, errL c (lvs Rs) = V := ⟨_, rfl⟩
  rw [hV]
  unfold errL at hV
  obtain ⟨E, hE⟩ : ∃ E, errC c = E := ⟨_, rfl⟩
  obtain ⟨F, hF⟩ : ∃ F, chkR (lvs Rs) = F := ⟨_, rfl⟩
  obtain ⟨P, hP⟩ : ∃ P, (prR (lvs Rs)).length = P := ⟨_, rfl⟩
  obtain ⟨T, hTT⟩ : ∃ T, tot (lvs Rs) = T := ⟨_, rfl⟩
  have hPT : P ≤ T := by
    rw [← hP, ← hTT]
    by_cases h : chkR (lvs Rs) = 0
    · rw [prR_len h]; exact allL_le
    · rw [prR_bad h]; simp
  rw [hF, hP, hTT] at hcn
  rw [hE, hF, hP, hTT] at hV
  rw [hTT] at hT
  have hce := fun W => checkC_any c W
  rw [hE] at hce
  have HCE := Lib.hid hce
  have HV := Lib.hid hV
  obtain ⟨Z, hZ⟩ : ∃ Z : Int, (if F = 0 then (T : Int) else 0) = Z := ⟨_, rfl⟩
  rw [hZ] at hcn
  have HCN := Lib.hid hcn
  have HZ := Lib.hid hZ
  clear hW0 hB hcn hV hce hE hF hP hTT hZ
  have q0 : W0.cell? ⟨w.heap.size, 0, none⟩ = some (.int .u8 c.tag) := b0.cell 0
  have q1 : W0.cell? ⟨w.heap.size, 1, none⟩ = some (.int .i64 c.most) := b0.cell 1
  have q2 : W0.cell? ⟨w.heap.size, 2, none⟩ = some (.int .i64 c.seg) := b0.cell 2
  have q3 : W0.cell? ⟨w.heap.size, 3, none⟩ = some (.int .i64 c.least) := b0.cell 3
  have q4 : W0.cell? ⟨w.heap.size, 4, none⟩ = some (.int .i64 c.den) := b0.cell 4
  have q5 : W0.cell? ⟨w.heap.size, 5, none⟩ = some (.int .i64 c.leafLow) := b0.cell 5
  have q6 : W0.cell? ⟨w.heap.size, 6, none⟩ = some (.int .i64 c.rootLow) := b0.cell 6
  have q7 : W0.cell? ⟨w.heap.size, 7, none⟩ = some (.int .i64 c.rootHigh) := b0.cell 7
  have q8 : W0.cell? ⟨w.heap.size, 8, none⟩ = some (.int .i64 c.leafHigh) := b0.cell 8
  have q9 : W0.cell? ⟨w.heap.size, 9, none⟩ = some (.slice B Rs.length k) := b0.cell 9
  have q10 : W0.cell? ⟨w.heap.size, 10, none⟩ = some (.int .u64 n) := b0.cell 10
  clear b0
  go_enter Tryz.func15, Tryz.ntmps15
  go_upto_region 1 with fail
  rw [HW0.out]
  go_wp2_with fail
  refine (HCE.out _).mono ?_
  rintro e w1 ⟨rfl, hb1⟩
  have HB1 := Lib.hid (bext HB0.out hb1)
  have b1 := HC0.out.below hb1 HC0.out.lt
  have HC1 := Lib.hid b1
  have HS1 := Lib.hid hb1
  clear hb1 hb0 q0 q1 q2 q3 q4 q5 q6 q7 q8 q9 q10
  by_cases h0 : E = 0
  case neg =>
    have h1 : (E != 0) = true := by simpa using h0
    have HVV : Hid (V = E) := by show _ = _; rw [← HV.out, if_neg h0]
    clear h0
    go_wp2_with fail
    go_ret
    exact ⟨by rw [HVV.out]; rfl, HB1.out⟩
  case pos =>
  have HV1 := Lib.hid (show (if F = 0 ∧ (P : Int) ≤ c.most ∧ T ≤ 2 * P + 2 then (0 : Int) else 8) = V by rw [← HV.out, if_pos h0])
  subst h0
  have q0 : w1.cell? ⟨w.heap.size, 0, none⟩ = some (.int .u8 c.tag) := b1.cell 0
  have q1 : w1.cell? ⟨w.heap.size, 1, none⟩ = some (.int .i64 c.most) := b1.cell 1
  have q2 : w1.cell? ⟨w.heap.size, 2, none⟩ = some (.int .i64 c.seg) := b1.cell 2
  have q3 : w1.cell? ⟨w.heap.size, 3, none⟩ = some (.int .i64 c.least) := b1.cell 3
  have q4 : w1.cell? ⟨w.heap.size, 4, none⟩ = some (.int .i64 c.den) := b1.cell 4
  have q5 : w1.cell? ⟨w.heap.size, 5, none⟩ = some (.int .i64 c.leafLow) := b1.cell 5
  have q6 : w1.cell? ⟨w.heap.size, 6, none⟩ = some (.int .i64 c.rootLow) := b1.cell 6
  have q7 : w1.cell? ⟨w.heap.size, 7, none⟩ = some (.int .i64 c.rootHigh) := b1.cell 7
  have q8 : w1.cell? ⟨w.heap.size, 8, none⟩ = some (.int .i64 c.leafHigh) := b1.cell 8
  have q9 : w1.cell? ⟨w.heap.size, 9, none⟩ = some (.slice B Rs.length k) := b1.cell 9
  have q10 : w1.cell? ⟨w.heap.size, 10, none⟩ = some (.int .u64 n) := b1.cell 10
  clear b1
  go_wp2_with fail
  refine (HCN.out _ HS1.out).mono ?_
  rintro e w2 ⟨rfl, hb2⟩
  have HB2 := Lib.hid (bext HB1.out hb2)
  have b2 := HC1.out.below hb2 HC1.out.lt
  have r1 : w2.cell? ⟨w.heap.size, 1, none⟩ = some (.int .i64 c.most) := b2.cell 1
  clear hb2 b2 q0 q1 q2 q3 q4 q5 q6 q7 q8 q9 q10
  have hw1 : IntKind.i64.wrap (2 * (P : Int)) = 2 * (P : Int) := IntWalk.i64_in _ (by omega)
  have hw2 : IntKind.i64.wrap (2 * (P : Int) + 2) = 2 * (P : Int) + 2 := IntWalk.i64_in _ (by omega)
  have hv := HV1.out
  by_cases hf : F = 0
  case neg =>
    have h1 : (F != 0) = true := by simpa using hf
    have HVV : Hid (V = 8) := by show _ = _; rw [← hv, if_neg (fun h => hf h.1)]
    clear hf hv hw1 hw2
    go_wp2_with fail
    go_ret
    exact ⟨by rw [HVV.out]; rfl, HB2.out⟩
  case pos =>
  subst hf
  have hz : Z = (T : Int) := by rw [← HZ.out, if_pos rfl]
  subst hz
  by_cases h1 : c.most < (P : Int)
  · have HVV : Hid (V = 8) := by show _ = _; rw [← hv, if_neg (fun h => by omega)]
    clear hv
    go_wp2_with fail
    go_ret
    exact ⟨by rw [HVV.out]; rfl, HB2.out⟩
  · by_cases h2 : 2 * (P : Int) + 2 < (T : Int)
    · have HVV : Hid (V = 8) := by show _ = _; rw [← hv, if_neg (fun h => by omega)]
      clear hv
      go_wp2_with fail
      go_ret
      exact ⟨by rw [HVV.out]; rfl, HB2.out⟩
    · have HVV : Hid (V = 0) := by show _ = _; rw [← hv, if_pos ⟨rfl, by omega, by omega⟩]
      clear hv
      go_wp2_with fail
      go_ret
      exact ⟨by rw [HVV.out]; rfl, HB2.out⟩
set_option maxHeartbeats 8000000 in
theorem pairsD_any (B : Option Addr) (Rs : List Rm) (k : Nat) (c : Cfg) (n : Int) (w : World) (hB : RunsAt w B Rs) (hT : tot (lvs Rs) ≤ 1000000) (hl : Rs.length ≤ 1000000) :
    Calls Tryz.prog 21 #[.agg (lrow c B Rs.length k n)] w (GivesPrs (prD c (lvs Rs)) (errL c (lvs Rs)) w) := by
  obtain ⟨W0, hW0⟩ : ∃ W0, w.alloc (.cells #[.int .u8 c.tag, .int .i64 c.most, .int .i64 c.seg, .int .i64 c.least, .int .i64 c.den, .int .i64 c.leafLow, .int .i64 c.rootLow, .int .i64 c.rootHigh, .int .i64 c.leafHigh, .slice B Rs.length k, .int .u64 n] 29) = W0 := ⟨_, rfl⟩
  have hb0 : Below w.heap.size w W0 := by rw [← hW0]; exact (Below.refl _ _).alloc (Nat.le_refl _) _
  have b0 : Blk W0 w.heap.size 29 #[.int .u8 c.tag, .int .i64 c.most, .int .i64 c.seg, .int .i64 c.least, .int .i64 c.den, .int .i64 c.leafLow, .int .i64 c.rootLow, .int .i64 c.rootHigh, .int .i64 c.leafHigh, .slice B Rs.length k, .int .u64 n] := by rw [← hW0]; exact Blk.new _ _ _
  have HW0 := Lib.hid hW0
  have HB := Lib.hid (hB.below hb0)
  have HB0 := Lib.hid hb0
  have HC0 := Lib.hid b0
  have hcn := fun W (hW : Below W0.heap.size W0 W) => pairsR_any B Rs k n W (HB.out.below hW) hT hl
  have hck := fun W (hW : Below W0.heap.size W0 W) => checkD_any B Rs k c n W (HB.out.below hW) hT hl
  obtain ⟨P, hP⟩ : ∃ V, prD c (lvs Rs) = V := ⟨_, rfl⟩
  obtain ⟨E, hE⟩ : ∃ E, errL c (lvs Rs) = E := ⟨_, rfl⟩
  have hP2 : E ≠ 0 → P = [] := fun h => by rw [← hP]; unfold prD; rw [if_neg (by rw [hE]; exact h)]
  have hP3 : E = 0 → prR (lvs Rs) = P ∧ chkR (lvs Rs) = 0 := fun h => by
    refine ⟨?_, (errL_zero (hE.trans h)).2.1⟩
    rw [← hP]; unfold prD; rw [if_pos (hE.trans h)]
  rw [hE] at hck
  rw [hP, hE]
  have HCN := Lib.hid hcn
  have HCK := Lib.hid hck
  have HP2 := Lib.hid hP2
  have HP3 := Lib.hid hP3
  clear hW0 hB hcn hck hP hE hP2 hP3
  have q0 : W0.cell? ⟨w.heap.size, 0, none⟩ = some (.int .u8 c.tag) := b0.cell 0
  have q1 : W0.cell? ⟨w.heap.size, 1, none⟩ = some (.int .i64 c.most) := b0.cell 1
  have q2 : W0.cell? ⟨w.heap.size, 2, none⟩ = some (.int .i64 c.seg) := b0.cell 2
  have q3 : W0.cell? ⟨w.heap.size, 3, none⟩ = some (.int .i64 c.least) := b0.cell 3
  have q4 : W0.cell? ⟨w.heap.size, 4, none⟩ = some (.int .i64 c.den) := b0.cell 4
  have q5 : W0.cell? ⟨w.heap.size, 5, none⟩ = some (.int .i64 c.leafLow) := b0.cell 5
  have q6 : W0.cell? ⟨w.heap.size, 6, none⟩ = some (.int .i64 c.rootLow) := b0.cell 6
  have q7 : W0.cell? ⟨w.heap.size, 7, none⟩ = some (.int .i64 c.rootHigh) := b0.cell 7
  have q8 : W0.cell? ⟨w.heap.size, 8, none⟩ = some (.int .i64 c.leafHigh) := b0.cell 8
  have q9 : W0.cell? ⟨w.heap.size, 9, none⟩ = some (.slice B Rs.length k) := b0.cell 9
  have q10 : W0.cell? ⟨w.heap.size, 10, none⟩ = some (.int .u64 n) := b0.cell 10
  clear b0
  go_enter Tryz.func21, Tryz.ntmps21
  go_upto_region 1 with fail
  rw [HW0.out]
  go_wp2_with fail
  refine (HCK.out _ (Below.refl _ _)).mono ?_
  rintro e w1 ⟨rfl, hb1⟩
  have HB1 := Lib.hid (bext HB0.out hb1)
  have b1 := HC0.out.below hb1 HC0.out.lt
  have HS1 := Lib.hid hb1
  clear hb1 hb0 q0 q1 q2 q3 q4 q5 q6 q7 q8 q9 q10
  by_cases h0 : E = 0
  case neg =>
    have h1 : (E != 0) = true := by simpa using h0
    have hp := HP2.out h0
    subst hp
    clear h0
    go_wp2_with fail
    refine bodyPost_ret (v := .tuple #[.slice none 0 0, .int .i64 E]) (by simp [results, Tryz.results21, go_sem]) rfl ?_
    exact ⟨none, 0, rfl, World.ownsRow_nil _ _ _ _, HB1.out⟩
  case pos =>
  subst h0
  have hcc := HCN.out _ HS1.out
  rw [(HP3.out rfl).1, (HP3.out rfl).2] at hcc
  have HCC := Lib.hid hcc
  have q0 : w1.cell? ⟨w.heap.size, 0, none⟩ = some (.int .u8 c.tag) := b1.cell 0
  have q1 : w1.cell? ⟨w.heap.size, 1, none⟩ = some (.int .i64 c.most) := b1.cell 1
  have q2 : w1.cell? ⟨w.heap.size, 2, none⟩ = some (.int .i64 c.seg) := b1.cell 2
  have q3 : w1.cell? ⟨w.heap.size, 3, none⟩ = some (.int .i64 c.least) := b1.cell 3
  have q4 : w1.cell? ⟨w.heap.size, 4, none⟩ = some (.int .i64 c.den) := b1.cell 4
  have q5 : w1.cell? ⟨w.heap.size, 5, none⟩ = some (.int .i64 c.leafLow) := b1.cell 5
  have q6 : w1.cell? ⟨w.heap.size, 6, none⟩ = some (.int .i64 c.rootLow) := b1.cell 6
  have q7 : w1.cell? ⟨w.heap.size, 7, none⟩ = some (.int .i64 c.rootHigh) := b1.cell 7
  have q8 : w1.cell? ⟨w.heap.size, 8, none⟩ = some (.int .i64 c.leafHigh) := b1.cell 8
  have q9 : w1.cell? ⟨w.heap.size, 9, none⟩ = some (.slice B Rs.length k) := b1.cell 9
  have q10 : w1.cell? ⟨w.heap.size, 10, none⟩ = some (.int .u64 n) := b1.cell 10
  clear b1 hcc
  go_wp2_with fail
  refine HCC.out.mono ?_
  rintro e w2 ⟨A2, c2, rfl, ho2, hb2⟩
  have HO := Lib.hid (own_mono (B' := w.heap.size) ho2 HB1.out.size)
  have HB2 := Lib.hid (bext HB1.out hb2)
  clear ho2 hb2 q0 q1 q2 q3 q4 q5 q6 q7 q8 q9 q10
  go_wp2_with fail
  refine bodyPost_ret (v := .tuple #[.slice A2 P.length c2, .int .i64 0]) (by simp [results, Tryz.results21, go_sem]) rfl ?_
  exact ⟨A2, c2, rfl, HO.out, HB2.out⟩
theorem ge_vals {L : Lv} {key : Int} (h : chkR L = 0) : geR L key = 0 ∨ geR L key = 6 := by unfold geR; rw [if_pos h]; split <;> simp
set_option maxHeartbeats 8000000 in
theorem getD_any (B : Option Addr) (Rs : List Rm) (k : Nat) (c : Cfg) (n : Int) (key : Int) (w : World) (hB : RunsAt w B Rs) (hT : tot (lvs Rs) ≤ 1000000) (hl : Rs.length ≤ 1000000) (hTb : TabAt 1 Lib.deBruijn64tab w) :
    Calls Tryz.prog 17 #[.agg (lrow c B Rs.length k n), .int .i64 key] w fun r w' => r = .returned (.tuple #[.int .i64 (vlD c (lvs Rs) key), .int .i64 (veD c (lvs Rs) key)]) ∧ Below w.heap.size w w' := by
  obtain ⟨W0, hW0⟩ : ∃ W0, w.alloc (.cells #[.int .u8 c.tag, .int .i64 c.most, .int .i64 c.seg, .int .i64 c.least, .int .i64 c.den, .int .i64 c.leafLow, .int .i64 c.rootLow, .int .i64 c.rootHigh, .int .i64 c.leafHigh, .slice B Rs.length k, .int .u64 n] 29) = W0 := ⟨_, rfl⟩
  have hb0 : Below w.heap.size w W0 := by rw [← hW0]; exact (Below.refl _ _).alloc (Nat.le_refl _) _
  have b0 : Blk W0 w.heap.size 29 #[.int .u8 c.tag, .int .i64 c.most, .int .i64 c.seg, .int .i64 c.least, .int .i64 c.den, .int .i64 c.leafLow, .int .i64 c.rootLow, .int .i64 c.rootHigh, .int .i64 c.leafHigh, .slice B Rs.length k, .int .u64 n] := by rw [← hW0]; exact Blk.new _ _ _
  have HW0 := Lib.hid hW0
  have HB := Lib.hid (hB.below hb0)
  have HB0 := Lib.hid hb0
  have HC0 := Lib.hid b0
  have HTB := Lib.hid (tab_below (tab_lt hTb) hTb hb0)
  have hTl := tab_lt HTB.out
  have hcn := fun W (hW : Below W0.heap.size W0 W) => getR_any B Rs k n key W (HB.out.below hW) hT hl (tab_below hTl HTB.out hW)
  have hck := fun W (hW : Below W0.heap.size W0 W) => checkD_any B Rs k c n W (HB.out.below hW) hT hl
  obtain ⟨V, hV⟩ : ∃ V, vlD c (lvs Rs) key = V := ⟨_, rfl⟩
  obtain ⟨X, hX⟩ : ∃ V, veD c (lvs Rs) key = V := ⟨_, rfl⟩
  rw [hV, hX]
  unfold vlD at hV
  unfold veD at hX
  unfold isB at hV hX
  have hg : errL c (lvs Rs) = 0 → geR (lvs Rs) key = 0 ∨ geR (lvs Rs) key = 6 := fun h => ge_vals (errL_zero h).2.1
  obtain ⟨E, hE⟩ : ∃ E, errL c (lvs Rs) = E := ⟨_, rfl⟩
  obtain ⟨x, hx⟩ : ∃ E, gxR (lvs Rs) key = E := ⟨_, rfl⟩
  obtain ⟨G, hG⟩ : ∃ E, geR (lvs Rs) key = E := ⟨_, rfl⟩
  rw [hE, hx, hG] at hV hX
  rw [hE, hG] at hg
  rw [hE] at hck
  rw [hx, hG] at hcn
  have HCN := Lib.hid hcn
  have HCK := Lib.hid hck
  have HV := Lib.hid hV
  have HX := Lib.hid hX
  have HG := Lib.hid hg
  clear hW0 hB hcn hck hE hx hG hV hX hg hTb
  have q0 : W0.cell? ⟨w.heap.size, 0, none⟩ = some (.int .u8 c.tag) := b0.cell 0
  have q1 : W0.cell? ⟨w.heap.size, 1, none⟩ = some (.int .i64 c.most) := b0.cell 1
  have q2 : W0.cell? ⟨w.heap.size, 2, none⟩ = some (.int .i64 c.seg) := b0.cell 2
  have q3 : W0.cell? ⟨w.heap.size, 3, none⟩ = some (.int .i64 c.least) := b0.cell 3
  have q4 : W0.cell? ⟨w.heap.size, 4, none⟩ = some (.int .i64 c.den) := b0.cell 4
  have q5 : W0.cell? ⟨w.heap.size, 5, none⟩ = some (.int .i64 c.leafLow) := b0.cell 5
  have q6 : W0.cell? ⟨w.heap.size, 6, none⟩ = some (.int .i64 c.rootLow) := b0.cell 6
  have q7 : W0.cell? ⟨w.heap.size, 7, none⟩ = some (.int .i64 c.rootHigh) := b0.cell 7
  have q8 : W0.cell? ⟨w.heap.size, 8, none⟩ = some (.int .i64 c.leafHigh) := b0.cell 8
  have q9 : W0.cell? ⟨w.heap.size, 9, none⟩ = some (.slice B Rs.length k) := b0.cell 9
  have q10 : W0.cell? ⟨w.heap.size, 10, none⟩ = some (.int .u64 n) := b0.cell 10
  clear b0
  go_enter Tryz.func17, Tryz.ntmps17
  go_upto_region 1 with fail
  rw [HW0.out]
  go_wp2_with fail
  refine (HCK.out _ (Below.refl _ _)).mono ?_
  rintro e w1 ⟨rfl, hb1⟩
  have HB1 := Lib.hid (bext HB0.out hb1)
  have b1 := HC0.out.below hb1 HC0.out.lt
  have HS1 := Lib.hid hb1
  clear hb1 hb0 q0 q1 q2 q3 q4 q5 q6 q7 q8 q9 q10
  by_cases h0 : E = 0
  case neg =>
    have h1 : (E != 0) = true := by simpa using h0
    have HVV : Hid (V = 0 ∧ X = E) := ⟨by rw [← HV.out, if_neg (fun h => h0 h.1)], by rw [← HX.out, if_neg h0]⟩
    clear h0
    go_wp2_with fail
    refine bodyPost_ret (v := .tuple #[.int .i64 0, .int .i64 E]) (by simp [results, Tryz.results17, go_sem]) rfl ?_
    exact ⟨by rw [HVV.out.1, HVV.out.2], HB1.out⟩
  case pos =>
  subst h0
  have q0 : w1.cell? ⟨w.heap.size, 0, none⟩ = some (.int .u8 c.tag) := b1.cell 0
  have q1 : w1.cell? ⟨w.heap.size, 1, none⟩ = some (.int .i64 c.most) := b1.cell 1
  have q2 : w1.cell? ⟨w.heap.size, 2, none⟩ = some (.int .i64 c.seg) := b1.cell 2
  have q3 : w1.cell? ⟨w.heap.size, 3, none⟩ = some (.int .i64 c.least) := b1.cell 3
  have q4 : w1.cell? ⟨w.heap.size, 4, none⟩ = some (.int .i64 c.den) := b1.cell 4
  have q5 : w1.cell? ⟨w.heap.size, 5, none⟩ = some (.int .i64 c.leafLow) := b1.cell 5
  have q6 : w1.cell? ⟨w.heap.size, 6, none⟩ = some (.int .i64 c.rootLow) := b1.cell 6
  have q7 : w1.cell? ⟨w.heap.size, 7, none⟩ = some (.int .i64 c.rootHigh) := b1.cell 7
  have q8 : w1.cell? ⟨w.heap.size, 8, none⟩ = some (.int .i64 c.leafHigh) := b1.cell 8
  have q9 : w1.cell? ⟨w.heap.size, 9, none⟩ = some (.slice B Rs.length k) := b1.cell 9
  have q10 : w1.cell? ⟨w.heap.size, 10, none⟩ = some (.int .u64 n) := b1.cell 10
  clear b1
  go_wp2_with fail
  refine (HCN.out _ HS1.out).mono ?_
  rintro e w2 ⟨rfl, hb2⟩
  have HB2 := Lib.hid (bext HB1.out hb2)
  clear hb2 q0 q1 q2 q3 q4 q5 q6 q7 q8 q9 q10
  go_upto_region 5 with fail
  obtain ⟨W3, hW3⟩ : ∃ W, w2.alloc (.cells #[.int .i64 x.key, .int .i64 x.val, .bool x.dead] 46) = W := ⟨_, rfl⟩
  have HB3 : Hid (Below w.heap.size w W3) := by show Below _ _ _; rw [← hW3]; exact bext HB2.out ((Below.refl _ _).alloc (Nat.le_refl _) _)
  have b3 : Blk W3 w2.heap.size 46 #[.int .i64 x.key, .int .i64 x.val, .bool x.dead] := by rw [← hW3]; exact Blk.new _ _ _
  try rw [hW3]
  have r0 : W3.cell? ⟨w2.heap.size, 0, none⟩ = some (.int .i64 x.key) := b3.cell 0
  have r1 : W3.cell? ⟨w2.heap.size, 1, none⟩ = some (.int .i64 x.val) := b3.cell 1
  have r2 : W3.cell? ⟨w2.heap.size, 2, none⟩ = some (.bool x.dead) := b3.cell 2
  clear hW3 b3
  rcases HG.out (by first | trivial | rfl) with hg | hg
  · subst hg
    cases hd : x.dead with
    | true =>
      have HVV : Hid (V = 0 ∧ X = 6) := ⟨by rw [← HV.out, hd]; rfl, by rw [← HX.out, hd]; rfl⟩
      go_wp2_with fail
      refine bodyPost_ret (v := .tuple #[.int .i64 0, .int .i64 6]) (by simp [results, Tryz.results17, go_sem]) rfl ?_
      exact ⟨by rw [HVV.out.1, HVV.out.2], HB3.out⟩
    | false =>
      have HVV : Hid (V = x.val ∧ X = 0) := ⟨by rw [← HV.out, hd]; rfl, by rw [← HX.out, hd]; rfl⟩
      go_wp2_with fail
      refine bodyPost_ret (v := .tuple #[.int .i64 x.val, .int .i64 0]) (by simp [results, Tryz.results17, go_sem]) rfl ?_
      exact ⟨by rw [HVV.out.1, HVV.out.2], HB3.out⟩
  · subst hg
    have HVV : Hid (V = 0 ∧ X = 6) := ⟨by rw [← HV.out]; rfl, by rw [← HX.out]; rfl⟩
    go_wp2_with fail
    refine bodyPost_ret (v := .tuple #[.int .i64 0, .int .i64 6]) (by simp [results, Tryz.results17, go_sem]) rfl ?_
    exact ⟨by rw [HVV.out.1, HVV.out.2], HB3.out⟩
end Go.Proofs.YtolclahkfmplfaaGreatDoor

/- Contract: shelfmarkref27.Great. -/
namespace Go.Proofs.YtolclahkfmplfaaGreatDoor
open Go Go.RowKit
set_option maxRecDepth 100000
end Go.Proofs.YtolclahkfmplfaaGreatDoor

/- Contract: ladder.New. -/
namespace Go.Proofs.YtolclahkfmplfaaGreatDoor
open Go Go.RowKit
set_option maxRecDepth 100000
def cz : Cfg := ⟨0, 0, 0, 0, 0, 0, 0, 0, 0⟩
def GivesLd (c : Cfg) (L : Lv) (n e : Int) (w : World) (r : Ending) (w' : World) : Prop := ∃ B k Rs, r = .returned (.tuple #[.agg (lrow c B Rs.length k n), .int .i64 e]) ∧ lvs Rs = L ∧ OwnRs w' w.heap.size B k Rs ∧ Below w.heap.size w w'
def ldC (c : Cfg) (e : Int) : Cfg := if e = 0 then c else cz
def upE (e0 : Int) (L : Lv) (y : Ent) : Int := if e0 = 0 then addE L y else e0
def upL (e0 : Int) (L : Lv) (n : Int) (y : Ent) : Lv := if e0 = 0 then addL L n y else []
def upN (e0 : Int) (L : Lv) (n : Int) (y : Ent) : Int := if e0 = 0 then addN L n y else 0
def putE0 (c : Cfg) (L : Lv) (key : Int) : Int := if veD c L key = 6 then (if ((prR L).length : Int) = c.most then 9 else 0) else veD c L key
def putY (key val : Int) : Ent := ⟨key, val, false⟩
def delY (key : Int) : Ent := ⟨key, 0, true⟩
theorem errL_ok {c : Cfg} {L : Lv} (h1 : errC c = 0) (h2 : May L) (h3 : ((allL L).length : Int) ≤ c.most) (h4 : tot L ≤ 2 * (allL L).length + 2) : errL c L = 0 := by
  have hc := chkR_zero.2 h2
  unfold errL
  rw [if_pos h1, if_pos ⟨hc, by rw [prR_len hc]; exact h3, by rw [prR_len hc]; exact h4⟩]
theorem OwnRs.set11 {w : World} {B0 g : Nat} {B : Option Addr} {c : Nat} {Rs : List Rm} {t : TypeId} {x0 x1 x2 x3 x4 x5 x6 x7 x8 x9 x10 : Value} (h : OwnRs w B0 B c Rs) (hB : Blk w g t #[x0, x1, x2, x3, x4, x5, x6, x7, x8, x9, x10]) (h1 : 49 ≠ t) (h2 : 46 ≠ t) (y0 y1 y2 y3 y4 y5 y6 y7 y8 y9 y10 : Value) : OwnRs (((((((((((w.setCell ⟨g, 0, none⟩ y0).setCell ⟨g, 1, none⟩ y1).setCell ⟨g, 2, none⟩ y2).setCell ⟨g, 3, none⟩ y3).setCell ⟨g, 4, none⟩ y4).setCell ⟨g, 5, none⟩ y5).setCell ⟨g, 6, none⟩ y6).setCell ⟨g, 7, none⟩ y7).setCell ⟨g, 8, none⟩ y8).setCell ⟨g, 9, none⟩ y9).setCell ⟨g, 10, none⟩ y10) B0 B c Rs := by
  have h10 := h.setT hB h1 h2 0 y0
  have b10 := hB.set_ 0 y0
  have h11 := h10.setT b10 h1 h2 1 y1
  have b11 := b10.set_ 1 y1
  have h12 := h11.setT b11 h1 h2 2 y2
  have b12 := b11.set_ 2 y2
  have h13 := h12.setT b12 h1 h2 3 y3
  have b13 := b12.set_ 3 y3
  have h14 := h13.setT b13 h1 h2 4 y4
  have b14 := b13.set_ 4 y4
  have h15 := h14.setT b14 h1 h2 5 y5
  have b15 := b14.set_ 5 y5
  have h16 := h15.setT b15 h1 h2 6 y6
  have b16 := b15.set_ 6 y6
  have h17 := h16.setT b16 h1 h2 7 y7
  have b17 := b16.set_ 7 y7
  have h18 := h17.setT b17 h1 h2 8 y8
  have b18 := b17.set_ 8 y8
  have h19 := h18.setT b18 h1 h2 9 y9
  have b19 := b18.set_ 9 y9
  have h20 := h19.setT b19 h1 h2 10 y10
  have b20 := b19.set_ 10 y10
  exact h20
set_option maxHeartbeats 4000000 in
theorem newD_any (c : Cfg) (w : World) : Calls Tryz.prog 4 #[.agg c.row] w (GivesLd (ldC c (errC c)) [] 0 (errC c) w) := by
  obtain ⟨W0, hW0⟩ : ∃ W0, (w.alloc (.cells c.row 23)).alloc (.cells #[.int .u8 0, .int .i64 0, .int .i64 0, .int .i64 0, .int .i64 0, .int .i64 0, .int .i64 0, .int .i64 0, .int .i64 0, .slice none 0 0, .int .u64 0] 29) = W0 := ⟨_, rfl⟩
  have hb0 : Below w.heap.size w W0 := by rw [← hW0]; exact ((Below.refl _ _).alloc (Nat.le_refl _) _).alloc (by simp) _
  have b0 : Blk W0 w.heap.size 23 c.row := by rw [← hW0]; exact (Blk.new _ _ _).alloc _
  have br0 : Blk W0 (w.heap.size + 1) 29 #[.int .u8 0, .int .i64 0, .int .i64 0, .int .i64 0, .int .i64 0, .int .i64 0, .int .i64 0, .int .i64 0, .int .i64 0, .slice none 0 0, .int .u64 0] := by
    rw [← hW0]
    have := Blk.new (w.alloc (.cells c.row 23)) 29 #[.int .u8 0, .int .i64 0, .int .i64 0, .int .i64 0, .int .i64 0, .int .i64 0, .int .i64 0, .int .i64 0, .int .i64 0, .slice none 0 0, .int .u64 0]
    rwa [World.size_alloc] at this
  have hce := fun W => checkC_any c W
  obtain ⟨E, hE⟩ : ∃ E, errC c = E := ⟨_, rfl⟩
  rw [hE] at hce ⊢
  have HCE := Lib.hid hce
  have HW0 := Lib.hid hW0
  have HB0 := Lib.hid hb0
  clear hce hE hW0
  have q0 : W0.cell? ⟨w.heap.size, 0, none⟩ = some (.int .u8 c.tag) := b0.cell 0
  have q1 : W0.cell? ⟨w.heap.size, 1, none⟩ = some (.int .i64 c.most) := b0.cell 1
  have q2 : W0.cell? ⟨w.heap.size, 2, none⟩ = some (.int .i64 c.seg) := b0.cell 2
  have q3 : W0.cell? ⟨w.heap.size, 3, none⟩ = some (.int .i64 c.least) := b0.cell 3
  have q4 : W0.cell? ⟨w.heap.size, 4, none⟩ = some (.int .i64 c.den) := b0.cell 4
  have q5 : W0.cell? ⟨w.heap.size, 5, none⟩ = some (.int .i64 c.leafLow) := b0.cell 5
  have q6 : W0.cell? ⟨w.heap.size, 6, none⟩ = some (.int .i64 c.rootLow) := b0.cell 6
  have q7 : W0.cell? ⟨w.heap.size, 7, none⟩ = some (.int .i64 c.rootHigh) := b0.cell 7
  have q8 : W0.cell? ⟨w.heap.size, 8, none⟩ = some (.int .i64 c.leafHigh) := b0.cell 8
  go_enter Tryz.func4, Tryz.ntmps4
  go_upto_region 1 with fail
  rw [HW0.out]
  go_wp2_with fail
  refine (HCE.out _).mono ?_
  rintro e w1 ⟨rfl, hb1⟩
  have HB1 := Lib.hid (bext HB0.out hb1)
  have b1 := b0.below hb1 b0.lt
  have br1 := br0.below hb1 br0.lt
  clear b0 br0 hb0 hb1 q0 q1 q2 q3 q4 q5 q6 q7 q8
  have q0 : w1.cell? ⟨w.heap.size, 0, none⟩ = some (.int .u8 c.tag) := b1.cell 0
  have q1 : w1.cell? ⟨w.heap.size, 1, none⟩ = some (.int .i64 c.most) := b1.cell 1
  have q2 : w1.cell? ⟨w.heap.size, 2, none⟩ = some (.int .i64 c.seg) := b1.cell 2
  have q3 : w1.cell? ⟨w.heap.size, 3, none⟩ = some (.int .i64 c.least) := b1.cell 3
  have q4 : w1.cell? ⟨w.heap.size, 4, none⟩ = some (.int .i64 c.den) := b1.cell 4
  have q5 : w1.cell? ⟨w.heap.size, 5, none⟩ = some (.int .i64 c.leafLow) := b1.cell 5
  have q6 : w1.cell? ⟨w.heap.size, 6, none⟩ = some (.int .i64 c.rootLow) := b1.cell 6
  have q7 : w1.cell? ⟨w.heap.size, 7, none⟩ = some (.int .i64 c.rootHigh) := b1.cell 7
  have q8 : w1.cell? ⟨w.heap.size, 8, none⟩ = some (.int .i64 c.leafHigh) := b1.cell 8
  have r0 : w1.cell? ⟨w.heap.size + 1, 0, none⟩ = some (.int .u8 0) := br1.cell 0
  have r1 : w1.cell? ⟨w.heap.size + 1, 1, none⟩ = some (.int .i64 0) := br1.cell 1
  have r2 : w1.cell? ⟨w.heap.size + 1, 2, none⟩ = some (.int .i64 0) := br1.cell 2
  have r3 : w1.cell? ⟨w.heap.size + 1, 3, none⟩ = some (.int .i64 0) := br1.cell 3
  have r4 : w1.cell? ⟨w.heap.size + 1, 4, none⟩ = some (.int .i64 0) := br1.cell 4
  have r5 : w1.cell? ⟨w.heap.size + 1, 5, none⟩ = some (.int .i64 0) := br1.cell 5
  have r6 : w1.cell? ⟨w.heap.size + 1, 6, none⟩ = some (.int .i64 0) := br1.cell 6
  have r7 : w1.cell? ⟨w.heap.size + 1, 7, none⟩ = some (.int .i64 0) := br1.cell 7
  have r8 : w1.cell? ⟨w.heap.size + 1, 8, none⟩ = some (.int .i64 0) := br1.cell 8
  have r9 : w1.cell? ⟨w.heap.size + 1, 9, none⟩ = some (.slice none 0 0) := br1.cell 9
  have r10 : w1.cell? ⟨w.heap.size + 1, 10, none⟩ = some (.int .u64 0) := br1.cell 10
  have fr0 := br1.frozen 0
  have fr1 := br1.frozen 1
  have fr2 := br1.frozen 2
  have fr3 := br1.frozen 3
  have fr4 := br1.frozen 4
  have fr5 := br1.frozen 5
  have fr6 := br1.frozen 6
  have fr7 := br1.frozen 7
  have fr8 := br1.frozen 8
  have fr9 := br1.frozen 9
  have fr10 := br1.frozen 10
  have HR1 := Lib.hid br1
  clear b1 br1
  by_cases h0 : E = 0
  · subst h0
    go_wp2_with fail
    have bz := put11 HR1.out (.int .u8 c.tag) (.int .i64 c.most) (.int .i64 c.seg) (.int .i64 c.least) (.int .i64 c.den) (.int .i64 c.leafLow) (.int .i64 c.rootLow) (.int .i64 c.rootHigh) (.int .i64 c.leafHigh) (.slice none 0 0) (.int .u64 0)
    have z0 := bz.cell 0
    have z1 := bz.cell 1
    have z2 := bz.cell 2
    have z3 := bz.cell 3
    have z4 := bz.cell 4
    have z5 := bz.cell 5
    have z6 := bz.cell 6
    have z7 := bz.cell 7
    have z8 := bz.cell 8
    have z9 := bz.cell 9
    have z10 := bz.cell 10
    simp only [List.getElem?_toArray, List.getElem?_cons_zero, List.getElem?_cons_succ] at z0 z1 z2 z3 z4 z5 z6 z7 z8 z9 z10
    refine bodyPost_ret (v := .tuple #[.agg #[.int .u8 c.tag, .int .i64 c.most, .int .i64 c.seg, .int .i64 c.least, .int .i64 c.den, .int .i64 c.leafLow, .int .i64 c.rootLow, .int .i64 c.rootHigh, .int .i64 c.leafHigh, .slice none 0 0, .int .u64 0], .int .i64 0]) (by simp [results, Tryz.results4, go_sem, z0, z1, z2, z3, z4, z5, z6, z7, z8, z9, z10]) rfl ?_
    exact ⟨none, 0, [], rfl, rfl, OwnRs.nil _ _, below11 HB1.out (Nat.le_succ _) _ _ _ _ _ _ _ _ _ _ _⟩
  · have h1 : (E != 0) = true := by simpa using h0
    have HV : Hid (ldC c E = cz) := by show _ = _; unfold ldC; rw [if_neg h0]
    clear h0
    go_wp2_with fail
    have bz := put11 HR1.out (.int .u8 0) (.int .i64 0) (.int .i64 0) (.int .i64 0) (.int .i64 0) (.int .i64 0) (.int .i64 0) (.int .i64 0) (.int .i64 0) (.slice none 0 0) (.int .u64 0)
    have z0 := bz.cell 0
    have z1 := bz.cell 1
    have z2 := bz.cell 2
    have z3 := bz.cell 3
    have z4 := bz.cell 4
    have z5 := bz.cell 5
    have z6 := bz.cell 6
    have z7 := bz.cell 7
    have z8 := bz.cell 8
    have z9 := bz.cell 9
    have z10 := bz.cell 10
    simp only [List.getElem?_toArray, List.getElem?_cons_zero, List.getElem?_cons_succ] at z0 z1 z2 z3 z4 z5 z6 z7 z8 z9 z10
    refine bodyPost_ret (v := .tuple #[.agg #[.int .u8 0, .int .i64 0, .int .i64 0, .int .i64 0, .int .i64 0, .int .i64 0, .int .i64 0, .int .i64 0, .int .i64 0, .slice none 0 0, .int .u64 0], .int .i64 E]) (by simp [results, Tryz.results4, go_sem, z0, z1, z2, z3, z4, z5, z6, z7, z8, z9, z10]) rfl ?_
    rw [HV.out]
    exact ⟨none, 0, [], rfl, rfl, OwnRs.nil _ _, below11 HB1.out (Nat.le_succ _) _ _ _ _ _ _ _ _ _ _ _⟩
end Go.Proofs.YtolclahkfmplfaaGreatDoor

/- Contracts: rungs.Same; the reference's Same of levels, in general. -/
namespace Go.Proofs.YtolclahkfmplfaaGreatDoor
open Go Go.RowKit
set_option maxRecDepth 100000
def Pre (Rs Ts : List Rm) (k : Nat) : Prop := ∀ j (h1 : j < Rs.length) (h2 : j < Ts.length), j < k → (Rs[j]'h1).l = (Ts[j]'h2).l
theorem pre_up {Rs Ts : List Rm} {k : Nat} (h : Pre Rs Ts k) (h1 : k < Rs.length) (h2 : k < Ts.length) (he : (Rs[k]'h1).l = (Ts[k]'h2).l) : Pre Rs Ts (k + 1) := fun j h3 h4 h5 => by
  by_cases e : j = k
  · subst e; exact he
  · exact h j h3 h4 (by omega)
theorem lvs_at {Rs : List Rm} {j : Nat} (h : j < Rs.length) : (lvs Rs)[j]? = some (Rs[j]'h).l := by
  unfold lvs
  rw [List.getElem?_map, List.getElem?_eq_getElem h]
  rfl
theorem pre_no {Rs Ts : List Rm} {k : Nat} (h1 : k < Rs.length) (h2 : k < Ts.length) (he : (Rs[k]'h1).l ≠ (Ts[k]'h2).l) : decide (lvs Rs = lvs Ts) = false := by
  refine decide_eq_false fun h => he ?_
  have h3 := lvs_at h1
  rw [h, lvs_at h2] at h3
  exact (Option.some.inj h3).symm
theorem pre_end {Rs Ts : List Rm} {k : Nat} (h : Pre Rs Ts k) (h1 : Rs.length = Ts.length) (h2 : ¬ k < Rs.length) : decide (lvs Rs = lvs Ts) = true := by
  refine decide_eq_true (List.ext_getElem? fun j => ?_)
  by_cases hj : j < Rs.length
  · rw [lvs_at hj, lvs_at (h1 ▸ hj), h j hj (h1 ▸ hj) (by omega)]
  · rw [List.getElem?_eq_none (by rw [lvs_len]; omega), List.getElem?_eq_none (by rw [lvs_len]; omega)]
theorem len_no {Rs Ts : List Rm} (h : ¬ Rs.length = Ts.length) : decide (lvs Rs = lvs Ts) = false := decide_eq_false fun h2 => h (by have := congrArg List.length h2; rwa [lvs_len, lvs_len] at this)
end Go.Proofs.YtolclahkfmplfaaGreatDoor

/- Contracts: shelfmarkref05.May, and what it calls. -/
namespace Go.Proofs.YtolclahkfmplfaaGreatDoor
open Go Go.RowKit
set_option maxRecDepth 100000
end Go.Proofs.YtolclahkfmplfaaGreatDoor

/- Contract: shelfmarkref05.May. -/
namespace Go.Proofs.YtolclahkfmplfaaGreatDoor
open Go Go.RowKit
set_option maxRecDepth 100000
end Go.Proofs.YtolclahkfmplfaaGreatDoor
