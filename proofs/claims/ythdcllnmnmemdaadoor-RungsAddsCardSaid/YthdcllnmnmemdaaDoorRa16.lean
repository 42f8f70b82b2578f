/- Gv Ic Eq: texts of the claim, in this order. -/
import Derived.Test.YthdcllnmnmemdaaDoorRa11
import Derived.Test.YthdcllnmnmemdaaDoorRa15
import Derived.Test.YthdcllnmnmemdaaDoorRa14
import Derived.Test.YthdcllnmnmemdaaDoorRa1
import Derived.Test.YthdcllnmnmemdaaDoorRa9
/- Contract: kway.Find. -/
namespace Go.Proofs.YthdcllnmnmemdaaDoor
open Go Go.RowKit
set_option maxRecDepth 100000

def isE (o : Option Ent) : Int := if o.isSome then 0 else 6
theorem isE_none : isE none = 6 := rfl
theorem isE_some (x : Ent) : isE (some x) = 0 := rfl
/-- what stands in memory while runs are looked through -/
structure Fst (w : World) (o : Option Ent) (wr : World) : Prop where
  bel : Below w.heap.size w wr
  br : Blk wr w.heap.size 27 #[.int .i64 0, .int .i64 0, .bool false]
  bf : Blk wr (w.heap.size + 1) 27 #[.int .i64 (o.getD zeroE).key, .int .i64 (o.getD zeroE).val, .bool (o.getD zeroE).dead]

set_option maxHeartbeats 4000000 in
theorem kfind_any (B : Option Addr) (Rs : List Rm) (c : Nat) (key : Int) (w : World) (hB : RunsAt w B Rs) (hl : Rs.length ≤ 4611686018427387903) (hrs : ∀ r ∈ Rs, r.l.length ≤ 4611686018427387903) (hT : TabAt 1 Lib.deBruijn64tab w) :
    Calls Tryd.prog 46 #[.slice B Rs.length c, .int .i64 key] w (GivesX (kfX (Rs.map Rm.l) key) (kfE (Rs.map Rm.l) key) w) := by
  obtain ⟨W0, hW0⟩ : ∃ W0, (w.alloc (.cells #[.int .i64 0, .int .i64 0, .bool false] 27)).alloc (.cells #[.int .i64 0, .int .i64 0, .bool false] 27) = W0 := ⟨_, rfl⟩
  have hb0 : Below w.heap.size w W0 := by rw [← hW0]; exact ((Below.refl _ _).alloc (Nat.le_refl _) _).alloc (by simp) _
  have bR0 : Blk W0 w.heap.size 27 #[.int .i64 0, .int .i64 0, .bool false] := by rw [← hW0]; exact (Blk.new _ _ _).alloc _
  have bF0 : Blk W0 (w.heap.size + 1) 27 #[.int .i64 0, .int .i64 0, .bool false] := by
    rw [← hW0]
    have := Blk.new (w.alloc (.cells #[.int .i64 0, .int .i64 0, .bool false] 27)) 27 #[.int .i64 0, .int .i64 0, .bool false]
    rwa [World.size_alloc] at this
  have hF0 : Fst w none W0 := ⟨hb0, bR0, bF0⟩
  obtain ⟨rs, hrs2⟩ : ∃ rs, Rs.map Rm.l = rs := ⟨_, rfl⟩
  rw [hrs2]
  have hln : rs.length = Rs.length := by rw [← hrs2]; simp
  obtain ⟨X1, hX1⟩ : ∃ X1, kfX rs key = X1 := ⟨_, rfl⟩
  obtain ⟨G1, hG1⟩ : ∃ G1, kfE rs key = G1 := ⟨_, rfl⟩
  rw [hX1, hG1]
  have HX1 := Lib.hid hX1
  have HG1 := Lib.hid hG1
  have HRS := Lib.hid hrs2
  have HB := Lib.hid hB
  have HLN := Lib.hid hln
  have HHR := Lib.hid hrs
  have HT := Lib.hid hT
  have HF0 := Lib.hid hF0
  have hTl := tab_lt hT
  have HW0 := Lib.hid hW0
  clear hB hrs2 hln hrs hX1 hG1 hT hF0 hb0 bR0 bF0 hW0
  go_enter Tryd.func46, Tryd.ntmps46
  go_wp2_with fail
  try rw [HW0.out]
  clear HW0
  go_loopw [7, 15] (fun v i wr => ∃ (k : Nat) (o : Option Ent) (E : Int), k ≤ Rs.length ∧ i = .int .i64 k ∧ v = .int .i64 E ∧ Hid (E = isE o) ∧ Hid (o = newest (rs.take k) key) ∧ Hid (chkAllE (rs.take k) = 0) ∧ Hid (Fst w o wr)) (fun _ i _ => Rs.length - (intOf i).toNat)
  case atStart => exact ⟨0, none, 6, Nat.zero_le _, rfl, rfl, rfl, rfl, rfl, HF0.out⟩
  case round =>
    obtain ⟨k, o, E, hk, rfl, rfl, hE, ho, hC, hF⟩ := hrel
    by_cases hlt : k < Rs.length
    · have hltr : k < rs.length := by rw [HLN.out]; exact hlt
      obtain ⟨hs1, hs2⟩ := chkAll_take hltr hC.out
      have hs3 := newest_succ hltr key
      have hg : rs[k]'hltr = (Rs[k]'hlt).l := by have := HRS.out; subst this; simp
      rw [hg] at hs1 hs2 hs3
      rw [← ho.out] at hs3
      have hbw := hF.out.bel
      obtain ⟨b, off, rfl, hbl, cp⟩ := HB.out.sl.oneB hbw k hlt
      have hok := (HB.out.ok _ (List.getElem_mem hlt)).below hbw
      have hrl := HHR.out _ (List.getElem_mem hlt)
      obtain ⟨r, hr⟩ : ∃ r, Rs[k]'hlt = r := ⟨_, rfl⟩
      rw [hr] at hs1 hs2 hs3 cp hok hrl
      obtain ⟨l, A, cl⟩ := r
      have cp1 : wr.cell? ⟨b, off + k, none⟩ = some (.slice A l.length cl) := cp
      dsimp only at hs1 hs2 hs3 hrl
      have i0 : (0 : Int) ≤ (k : Int) := by omega
      have i1 : (k : Int) < (Rs.length : Int) := by omega
      have ba0 : Below wr.heap.size wr (wr.alloc (.cells #[.slice A l.length cl] 61)) := (Below.refl _ _).alloc (Nat.le_refl _) _
      have HOK := Lib.hid (hok.sl.below ba0)
      have HTB := Lib.hid (tab_below hTl HT.out (bext hbw ba0))
      have HBA0 := Lib.hid ba0
      have lw : w.heap.size + 1 < wr.heap.size := hF.out.bf.lt
      obtain ⟨f, hf⟩ : ∃ f, gtE l key = f := ⟨_, rfl⟩
      obtain ⟨y, hy⟩ : ∃ y, gtX l key = y := ⟨_, rfl⟩
      have HFE := Lib.hid hf
      have HFX := Lib.hid hy
      have HS1 := Lib.hid hs1
      have HS2 := Lib.hid hs2
      have HS3 := Lib.hid hs3
      clear cp hg hr hok hf hy hs1 hs2 hs3 ba0 hbw
      go_wp2_with fail
      refine (runGet_any A l cl key _ HOK.out hrl HTB.out).mono ?_
      rw [HFE.out, HFX.out]
      rintro e w2 ⟨rfl, hb2⟩
      have hb02 := bext HBA0.out hb2
      have ba : Below w2.heap.size w2 (w2.alloc (.cells #[.int .i64 y.key, .int .i64 y.val, .bool y.dead] 27)) := (Below.refl _ _).alloc (Nat.le_refl _) _
      have bY : Blk (w2.alloc (.cells #[.int .i64 y.key, .int .i64 y.val, .bool y.dead] 27)) w2.heap.size 27 #[.int .i64 y.key, .int .i64 y.val, .bool y.dead] := Blk.new _ _ _
      have hb3 := bext hb02 ba
      clear cp1 hb2
      go_upto_region 6 with fail
      obtain ⟨W3, hW3⟩ : ∃ W3, w2.alloc (.cells #[.int .i64 y.key, .int .i64 y.val, .bool y.dead] 27) = W3 := ⟨_, rfl⟩
      rw [hW3] at ba bY hb3
      try rw [hW3]
      have bR1 := hF.out.br.below hb3 (by omega)
      have bF1 := hF.out.bf.below hb3 lw
      have hb4 := bext hF.out.bel hb3
      have d0y : W3.cell? ⟨w2.heap.size, 0, none⟩ = some (.int .i64 y.key) := bY.cell 0
      have d1y : W3.cell? ⟨w2.heap.size, 1, none⟩ = some (.int .i64 y.val) := bY.cell 1
      have d2y : W3.cell? ⟨w2.heap.size, 2, none⟩ = some (.bool y.dead) := bY.cell 2
      have f0y := bY.frozen 0
      have f1y := bY.frozen 1
      have f2y := bY.frozen 2
      clear hW3 ba f0y f1y f2y
      have hv := gt_vals l key
      rw [HFE.out] at hv
      by_cases hc : chkE l = 0
      · have hf06 : f = 0 ∨ f = 6 := by
          rcases hv with h | h | h
          · exact .inl h
          · exact .inr h
          · exact absurd hc h.1
        have HC2 : Hid (chkAllE (rs.take (k + 1)) = 0) := by show _ = _; rw [HS1.out]; exact hc
        clear hv
        rcases hf06 with rfl | rfl
        · have hsome : ∃ x, look l key = some x := by
            have h := HFE.out
            unfold gtE at h
            rw [if_pos hc] at h
            cases hl2 : look l key with
            | none => rw [hl2] at h; simp at h
            | some x => exact ⟨x, rfl⟩
          obtain ⟨x, hx⟩ := hsome
          have hyx : y = x := by have h := HFX.out; unfold gtX at h; rw [if_pos hc, hx] at h; exact h.symm
          have hnew : newest (rs.take (k + 1)) key = o.or (some x) := by rw [HS3.out, hx]
          have HYX := Lib.hid hyx
          have HNW := Lib.hid hnew
          clear hyx hnew hx hc
          cases o with
          | none =>
            have hE6 : E = 6 := hE.out
            subst hE6
            have d0 : W3.cell? ⟨w.heap.size + 1, 0, none⟩ = some (.int .i64 0) := bF1.cell 0
            have d1 : W3.cell? ⟨w.heap.size + 1, 1, none⟩ = some (.int .i64 0) := bF1.cell 1
            have d2 : W3.cell? ⟨w.heap.size + 1, 2, none⟩ = some (.bool false) := bF1.cell 2
            have f0 := bF1.frozen 0
            have f1 := bF1.frozen 1
            have f2 := bF1.frozen 2
            go_wp2_with fail
            have bF2 := put3 bF1 (.int .i64 y.key) (.int .i64 y.val) (.bool y.dead)
            go_roundw
            case rel =>
              refine ⟨k + 1, some y, 0, by omega, by go_num, rfl, rfl, ?_, HC2, ⟨below3 hb4 (Nat.le_succ _) _ _ _, ?_, bF2⟩⟩
              · show _ = _
                rw [HNW.out, HYX.out]; rfl
              · exact ((bR1.far (p := ⟨w.heap.size + 1, 0, none⟩) (Nat.ne_of_lt (Nat.lt_succ_self _)) _).far (p := ⟨w.heap.size + 1, 1, none⟩) (Nat.ne_of_lt (Nat.lt_succ_self _)) _).far (p := ⟨w.heap.size + 1, 2, none⟩) (Nat.ne_of_lt (Nat.lt_succ_self _)) _
            case measure => simp [intOf]; omega
          | some z =>
            have hE0 : E = 0 := hE.out
            subst hE0
            clear d0y d1y d2y
            go_wp2_with fail
            go_roundw
            case rel => exact ⟨k + 1, some z, 0, by omega, by go_num, rfl, rfl, by show _ = _; rw [HNW.out]; rfl, HC2, ⟨hb4, bR1, bF1⟩⟩
            case measure => simp [intOf]; omega
        · have hnone : look l key = none := by
            have h := HFE.out
            unfold gtE at h
            rw [if_pos hc] at h
            cases hl2 : look l key with
            | none => rfl
            | some x => rw [hl2] at h; simp at h
          have HNW : Hid (newest (rs.take (k + 1)) key = o) := by show _ = _; rw [HS3.out, hnone, Option.or_none]
          clear hnone hc d0y d1y d2y
          go_wp2_with fail
          go_roundw
          case rel => exact ⟨k + 1, o, E, by omega, by go_num, by first | rfl | simp, hE, by show _ = _; rw [HNW.out], HC2, ⟨hb4, bR1, bF1⟩⟩
          case measure => simp [intOf]; omega
      · have hfc : f = chkE l := by
          have h := HFE.out
          unfold gtE at h
          rw [if_neg hc] at h
          exact h.symm
        have hf0 : f ≠ 0 := by rw [hfc]; exact hc
        have hf6 : f ≠ 6 := by rcases chk_vals l with h | h | h | h <;> omega
        have h1 : (f != 0) = true := by simpa using hf0
        have h2 : (f != 6) = true := by simpa using hf6
        have HA1 : Hid (chkAllE rs = f) := by show _ = _; rw [hfc]; exact HS2.out hc
        have HXZ : Hid (X1 = zeroE) := by show _ = _; rw [← HX1.out]; unfold kfX; rw [HA1.out, if_neg hf0]
        have HGF : Hid (G1 = f) := by show _ = _; rw [← HG1.out]; unfold kfE; rw [HA1.out, if_neg hf0]
        have d0 : W3.cell? ⟨w.heap.size, 0, none⟩ = some (.int .i64 0) := bR1.cell 0
        have d1 : W3.cell? ⟨w.heap.size, 1, none⟩ = some (.int .i64 0) := bR1.cell 1
        have d2 : W3.cell? ⟨w.heap.size, 2, none⟩ = some (.bool false) := bR1.cell 2
        have f0 := bR1.frozen 0
        have f1 := bR1.frozen 1
        have f2 := bR1.frozen 2
        clear hfc hf0 hf6 hv hc d0y d1y d2y
        go_wp2_with fail
        have bFz := put3 bR1 (.int .i64 0) (.int .i64 0) (.bool false)
        have e0z := bFz.cell 0
        have e1z := bFz.cell 1
        have e2z := bFz.cell 2
        simp only [List.getElem?_toArray, List.getElem?_cons_zero, List.getElem?_cons_succ] at e0z e1z e2z
        refine bodyPost_ret (v := .tuple #[.agg #[.int .i64 0, .int .i64 0, .bool false], .int .i64 f]) (by simp [results, Tryd.results46, go_sem, e0z, e1z, e2z]) rfl ?_
        rw [HXZ.out, HGF.out]
        exact ⟨rfl, below3 hb4 (Nat.le_refl _) _ _ _⟩
    · have hkn : rs.take k = rs := List.take_of_length_le (by rw [HLN.out]; omega)
      have hC2 := hC.out
      have ho2 := ho.out
      rw [hkn] at hC2 ho2
      have HXZ : Hid (X1 = o.getD zeroE) := by show _ = _; rw [← HX1.out]; unfold kfX; rw [if_pos hC2, ho2]
      have HGF : Hid (G1 = E) := by
        show _ = _
        rw [← HG1.out, hE.out, ho2]
        unfold kfE
        rw [if_pos hC2]
        rfl
      obtain ⟨x, hx⟩ : ∃ x, o.getD zeroE = x := ⟨_, rfl⟩
      have bF1 := hF.out.bf
      rw [hx] at bF1
      have HXX := Lib.hid hx
      have bR1 := hF.out.br
      have d0 : wr.cell? ⟨w.heap.size, 0, none⟩ = some (.int .i64 0) := bR1.cell 0
      have d1 : wr.cell? ⟨w.heap.size, 1, none⟩ = some (.int .i64 0) := bR1.cell 1
      have d2 : wr.cell? ⟨w.heap.size, 2, none⟩ = some (.bool false) := bR1.cell 2
      have f0 := bR1.frozen 0
      have f1 := bR1.frozen 1
      have f2 := bR1.frozen 2
      have d0y : wr.cell? ⟨w.heap.size + 1, 0, none⟩ = some (.int .i64 x.key) := bF1.cell 0
      have d1y : wr.cell? ⟨w.heap.size + 1, 1, none⟩ = some (.int .i64 x.val) := bF1.cell 1
      have d2y : wr.cell? ⟨w.heap.size + 1, 2, none⟩ = some (.bool x.dead) := bF1.cell 2
      have f0y := bF1.frozen 0
      have f1y := bF1.frozen 1
      have f2y := bF1.frozen 2
      clear hkn hC2 ho2 hx f0y f1y f2y
      go_wp2_with fail
      have bFz := put3 bR1 (.int .i64 x.key) (.int .i64 x.val) (.bool x.dead)
      have e0z := bFz.cell 0
      have e1z := bFz.cell 1
      have e2z := bFz.cell 2
      simp only [List.getElem?_toArray, List.getElem?_cons_zero, List.getElem?_cons_succ] at e0z e1z e2z
      refine bodyPost_ret (v := .tuple #[.agg #[.int .i64 x.key, .int .i64 x.val, .bool x.dead], .int .i64 E]) (by simp [results, Tryd.results46, go_sem, e0z, e1z, e2z]) rfl ?_
      rw [HXZ.out, HGF.out, HXX.out]
      exact ⟨rfl, below3 hF.out.bel (Nat.le_refl _) _ _ _⟩
end Go.Proofs.YthdcllnmnmemdaaDoor

/- Contracts: rungs.Get; the reference's Check, Pairs, Count, Get of levels. -/
namespace Go.Proofs.YthdcllnmnmemdaaDoor
open Go Go.RowKit
set_option maxRecDepth 100000
theorem rm_le' {Rs : List Rm} (h : chkR (lvs Rs) = 0) : Rs.length ≤ 4611686018427387903 ∧ ∀ r ∈ Rs, r.l.length ≤ 4611686018427387903 := by
  have h1 := rm_le (chkR_zero.1 h)
  exact ⟨by omega, fun r hr => by have := h1.1 r hr; omega⟩
theorem plain_all {Rs : List Rm} : plainE (allE (inS Rs)) = plainE (allL (lvs Rs)) := by
  unfold plainE allL
  rw [live_live, inS_of]
set_option maxHeartbeats 8000000 in
theorem getR_any (B : Option Addr) (Rs : List Rm) (c : Nat) (n : Int) (key : Int) (w : World) (hB : RunsAt w B Rs) (hT : tot (lvs Rs) ≤ 1000000) (hl : Rs.length ≤ 1000000) (hTb : TabAt 1 Lib.deBruijn64tab w) :
    Calls Tryd.prog 13 #[.agg #[.slice B Rs.length c, .int .u64 n], .int .i64 key] w (GivesX (gxR (lvs Rs) key) (geR (lvs Rs) key) w) := by
  obtain ⟨W0, hW0⟩ : ∃ W0, (w.alloc (.cells #[.slice B Rs.length c, .int .u64 n] 25)).alloc (.cells #[.int .i64 0, .int .i64 0, .bool false] 27) = W0 := ⟨_, rfl⟩
  have hb0 : Below w.heap.size w W0 := by rw [← hW0]; exact ((Below.refl _ _).alloc (Nat.le_refl _) _).alloc (by simp) _
  have b20 : Blk W0 w.heap.size 25 #[.slice B Rs.length c, .int .u64 n] := by rw [← hW0]; exact (Blk.new _ _ _).alloc _
  have bR0 : Blk W0 (w.heap.size + 1) 27 #[.int .i64 0, .int .i64 0, .bool false] := by
    rw [← hW0]
    have := Blk.new (w.alloc (.cells #[.slice B Rs.length c, .int .u64 n] 25)) 27 #[.int .i64 0, .int .i64 0, .bool false]
    rwa [World.size_alloc] at this
  have HW0 := Lib.hid hW0
  have HB := Lib.hid (hB.below hb0)
  clear hW0 hB
  have HTB := Lib.hid (tab_below (tab_lt hTb) hTb hb0)
  have hTl := tab_lt HTB.out
  clear hTb
  go_enter Tryd.func13, Tryd.ntmps13
  go_wp2_with fail
  rw [HW0.out]
  refine (checkR_any B Rs c n _ HB.out hT hl).mono ?_
  obtain ⟨E, hE⟩ : ∃ E, chkR (lvs Rs) = E := ⟨_, rfl⟩
  rw [hE]
  rintro e w1 ⟨rfl, hb1⟩
  have bR1 := bR0.below hb1 bR0.lt
  have b21 := b20.below hb1 b20.lt
  have hb01 := bext hb0 hb1
  by_cases h0 : E = 0
  case neg =>
    have HG := Lib.hid (gR_bad key (by rw [hE]; exact h0))
    have HE := Lib.hid hE
    have h1 : (E != 0) = true := by simpa using h0
    have d0 : w1.cell? ⟨w.heap.size + 1, 0, none⟩ = some (.int .i64 0) := bR1.cell 0
    have d1 : w1.cell? ⟨w.heap.size + 1, 1, none⟩ = some (.int .i64 0) := bR1.cell 1
    have d2 : w1.cell? ⟨w.heap.size + 1, 2, none⟩ = some (.bool false) := bR1.cell 2
    have f0 := bR1.frozen 0
    have f1 := bR1.frozen 1
    have f2 := bR1.frozen 2
    clear h0 hE
    go_wp2_with fail
    have bFz := put3 bR1 (.int .i64 0) (.int .i64 0) (.bool false)
    have e0z := bFz.cell 0
    have e1z := bFz.cell 1
    have e2z := bFz.cell 2
    simp only [List.getElem?_toArray, List.getElem?_cons_zero, List.getElem?_cons_succ] at e0z e1z e2z
    refine bodyPost_ret (v := .tuple #[.agg #[.int .i64 0, .int .i64 0, .bool false], .int .i64 E]) (by simp [results, Tryd.results13, go_sem, e0z, e1z, e2z]) rfl ?_
    unfold GivesX
    rw [HG.out.1, HG.out.2, HE.out]
    exact ⟨rfl, below3 hb01 (Nat.le_succ _) _ _ _⟩
  case pos =>
  subst h0
  have HQ := Lib.hid (rm_le' hE)
  have HK := Lib.hid (gR_kf key hE)
  clear hE
  have c20 : w1.cell? ⟨w.heap.size, 0, none⟩ = some (.slice B Rs.length c) := b21.cell 0
  go_wp2_with fail
  refine (kfind_any B Rs c key _ (HB.out.below hb1) HQ.out.1 HQ.out.2 (tab_below hTl HTB.out hb1)).mono ?_
  unfold GivesX
  have hlv : Rs.map Rm.l = lvs Rs := rfl
  rw [hlv, HK.out.1, HK.out.2]
  obtain ⟨x, hx⟩ : ∃ x, gxR (lvs Rs) key = x := ⟨_, rfl⟩
  obtain ⟨G, hG⟩ : ∃ x, geR (lvs Rs) key = x := ⟨_, rfl⟩
  rw [hx, hG]
  rintro e w2 ⟨rfl, hb2⟩
  have bR2 := bR1.below hb2 bR1.lt
  have hb02 := bext hb01 hb2
  have HXX := Lib.hid hx
  have HGG := Lib.hid hG
  have d0 : w2.cell? ⟨w.heap.size + 1, 0, none⟩ = some (.int .i64 0) := bR2.cell 0
  have d1 : w2.cell? ⟨w.heap.size + 1, 1, none⟩ = some (.int .i64 0) := bR2.cell 1
  have d2 : w2.cell? ⟨w.heap.size + 1, 2, none⟩ = some (.bool false) := bR2.cell 2
  have f0 := bR2.frozen 0
  have f1 := bR2.frozen 1
  have f2 := bR2.frozen 2
  clear hlv hx hG c20
  go_wp2_with fail
  have bFy := put3 bR2 (.int .i64 x.key) (.int .i64 x.val) (.bool x.dead)
  have e0y := bFy.cell 0
  have e1y := bFy.cell 1
  have e2y := bFy.cell 2
  simp only [List.getElem?_toArray, List.getElem?_cons_zero, List.getElem?_cons_succ] at e0y e1y e2y
  refine bodyPost_ret (v := .tuple #[.agg #[.int .i64 x.key, .int .i64 x.val, .bool x.dead], .int .i64 G]) (by simp [results, Tryd.results13, go_sem, e0y, e1y, e2y]) rfl ?_
  rw [HXX.out, HGG.out]
  exact ⟨rfl, below3 hb02 (Nat.le_succ _) _ _ _⟩
theorem check26_any (B : Option Addr) (Rs : List Rm) (c : Nat) (n : Int) (w : World) (hB : RunsAt w B Rs) (hT : tot (lvs Rs) ≤ 1000000) (hl : Rs.length ≤ 1000000) :
    Calls Tryd.prog 22 #[.agg #[.slice B Rs.length c, .int .u64 n]] w fun r w' => r = .returned (.int .i64 (chkR (lvs Rs))) ∧ Below w.heap.size w w' := by
  obtain ⟨W0, hW0⟩ : ∃ W0, w.alloc (.cells #[.slice B Rs.length c, .int .u64 n] 25) = W0 := ⟨_, rfl⟩
  have hb0 : Below w.heap.size w W0 := by rw [← hW0]; exact (Below.refl _ _).alloc (Nat.le_refl _) _
  have b20 : Blk W0 w.heap.size 25 #[.slice B Rs.length c, .int .u64 n] := by rw [← hW0]; exact Blk.new _ _ _
  have HW0 := Lib.hid hW0
  have HB := Lib.hid (hB.below hb0)
  clear hW0 hB
  go_enter Tryd.func22, Tryd.ntmps22
  go_wp2_with fail
  rw [HW0.out]
  refine (may26_any B Rs c n _ HB.out hT hl).mono ?_
  obtain ⟨M, hM⟩ : ∃ M, mayB (lvs Rs) = M := ⟨_, rfl⟩
  rw [hM]
  rintro e w1 ⟨rfl, hb1⟩
  have hb01 := bext hb0 hb1
  have b21 := b20.below hb1 b20.lt
  have HM := Lib.hid ((chkR_may (lvs Rs)).trans (by rw [hM]) : chkR (lvs Rs) = if M = true then 0 else 8)
  clear hM
  cases M <;> (go_wp2; go_ret; exact ⟨by rw [HM.out]; rfl, hb01⟩)
set_option maxHeartbeats 8000000 in
theorem pairs26_any (B : Option Addr) (Rs : List Rm) (c : Nat) (n : Int) (w : World) (hB : RunsAt w B Rs) (hT : tot (lvs Rs) ≤ 1000000) (hl : Rs.length ≤ 1000000) :
    Calls Tryd.prog 18 #[.agg #[.slice B Rs.length c, .int .u64 n]] w (GivesPrs (prR (lvs Rs)) (chkR (lvs Rs)) w) := by
  obtain ⟨W0, hW0⟩ : ∃ W0, w.alloc (.cells #[.slice B Rs.length c, .int .u64 n] 25) = W0 := ⟨_, rfl⟩
  have hb0 : Below w.heap.size w W0 := by rw [← hW0]; exact (Below.refl _ _).alloc (Nat.le_refl _) _
  have b20 : Blk W0 w.heap.size 25 #[.slice B Rs.length c, .int .u64 n] := by rw [← hW0]; exact Blk.new _ _ _
  have HW0 := Lib.hid hW0
  have HB := Lib.hid (hB.below hb0)
  clear hW0 hB
  go_enter Tryd.func18, Tryd.ntmps18
  go_wp2_with fail
  rw [HW0.out]
  refine (may26_any B Rs c n _ HB.out hT hl).mono ?_
  obtain ⟨M, hM⟩ : ∃ M, mayB (lvs Rs) = M := ⟨_, rfl⟩
  rw [hM]
  rintro e w1 ⟨rfl, hb1⟩
  have hb01 := bext hb0 hb1
  have b21 := b20.below hb1 b20.lt
  cases M with
  | false =>
    have hc : chkR (lvs Rs) = 8 := by rw [chkR_may, hM]; rfl
    have hp : prR (lvs Rs) = [] := prR_bad (by rw [hc]; simp)
    have HC := Lib.hid hc
    have HP := Lib.hid hp
    clear hc hp hM
    go_wp2
    refine bodyPost_ret (v := .tuple #[.slice none 0 0, .int .i64 8]) (by simp [results, Tryd.results18, go_sem]) rfl ?_
    rw [HC.out, HP.out]
    exact ⟨none, 0, rfl, World.ownsRow_nil _ _ _ _, hb01⟩
  | true =>
    have hc : chkR (lvs Rs) = 0 := by rw [chkR_may, hM]; rfl
    have hp : prR (lvs Rs) = plainE (allE (inS Rs)) := by unfold prR; rw [if_pos hc, plain_all]
    have HQ := Lib.hid (rm_le (chkR_zero.1 hc))
    have HA := fun W (hW : Below w1.heap.size w1 W) => all26_any B Rs c n W ((HB.out.below hb1).below hW) hl HQ.out.1 hT
    rw [← hp] at HA
    obtain ⟨P, hP⟩ : ∃ P, prR (lvs Rs) = P := ⟨_, rfl⟩
    rw [hP] at HA
    have HA2 := Lib.hid HA
    have HC := Lib.hid hc
    have HP := Lib.hid hP
    clear HA hP hp hc hM
    have c20 : w1.cell? ⟨w.heap.size, 0, none⟩ = some (.slice B Rs.length c) := b21.cell 0
    have c21 : w1.cell? ⟨w.heap.size, 1, none⟩ = some (.int .u64 n) := b21.cell 1
    go_wp2_with fail
    refine (HA2.out _ (Below.refl _ _)).mono ?_
    rintro e w2 ⟨A2, c2, rfl, ho2, hb2⟩
    have HO := Lib.hid (own_mono (B' := w.heap.size) ho2 hb01.size)
    clear ho2
    go_wp2
    refine bodyPost_ret (v := .tuple #[.slice A2 P.length c2, .int .i64 0]) (by simp [results, Tryd.results18, go_sem]) rfl ?_
    rw [HC.out, HP.out]
    exact ⟨A2, c2, rfl, HO.out, bext hb01 hb2⟩
set_option maxHeartbeats 8000000 in
theorem count26_any (B : Option Addr) (Rs : List Rm) (c : Nat) (n : Int) (w : World) (hB : RunsAt w B Rs) (hT : tot (lvs Rs) ≤ 1000000) (hl : Rs.length ≤ 1000000) (V : Int) (hV : Hid ((if chkR (lvs Rs) = 0 then (tot (lvs Rs) : Int) else 0) = V)) :
    Calls Tryd.prog 20 #[.agg #[.slice B Rs.length c, .int .u64 n]] w fun r w' => r = .returned (.tuple #[.int .i64 V, .int .i64 ((prR (lvs Rs)).length : Nat), .int .i64 (chkR (lvs Rs))]) ∧ Below w.heap.size w w' := by
  obtain ⟨W0, hW0⟩ : ∃ W0, w.alloc (.cells #[.slice B Rs.length c, .int .u64 n] 25) = W0 := ⟨_, rfl⟩
  have hb0 : Below w.heap.size w W0 := by rw [← hW0]; exact (Below.refl _ _).alloc (Nat.le_refl _) _
  have b20 : Blk W0 w.heap.size 25 #[.slice B Rs.length c, .int .u64 n] := by rw [← hW0]; exact Blk.new _ _ _
  have HW0 := Lib.hid hW0
  have HB := Lib.hid (hB.below hb0)
  clear hW0 hB
  go_enter Tryd.func20, Tryd.ntmps20
  go_wp2_with fail
  rw [HW0.out]
  refine (may26_any B Rs c n _ HB.out hT hl).mono ?_
  obtain ⟨M, hM⟩ : ∃ M, mayB (lvs Rs) = M := ⟨_, rfl⟩
  rw [hM]
  rintro e w1 ⟨rfl, hb1⟩
  have hb01 := bext hb0 hb1
  have b21 := b20.below hb1 b20.lt
  cases M with
  | false =>
    have hc : chkR (lvs Rs) = 8 := by rw [chkR_may, hM]; rfl
    have hp : prR (lvs Rs) = [] := prR_bad (by rw [hc]; simp)
    have HC := Lib.hid hc
    have HP := Lib.hid hp
    clear hc hp hM
    go_wp2
    refine bodyPost_ret (v := .tuple #[.int .i64 0, .int .i64 0, .int .i64 8]) (by simp [results, Tryd.results20, go_sem]) rfl ?_
    have hv := hV.out
    rw [HC.out, if_neg (by simp)] at hv
    rw [HC.out, HP.out, ← hv]
    exact ⟨by first | rfl | simp, hb01⟩
  | true =>
    have hc : chkR (lvs Rs) = 0 := by rw [chkR_may, hM]; rfl
    have hp : prR (lvs Rs) = plainE (allE (inS Rs)) := by unfold prR; rw [if_pos hc, plain_all]
    have HQ := Lib.hid (rm_le (chkR_zero.1 hc))
    have HA := fun W (hW : Below w1.heap.size w1 W) => all26_any B Rs c n W ((HB.out.below hb1).below hW) hl HQ.out.1 hT
    have HE0 := fun W (hW : Below w1.heap.size w1 W) => entries26_any B Rs c n W ((HB.out.below hb1).below hW) hT hl
    rw [← hp] at HA
    obtain ⟨P, hP⟩ : ∃ P, prR (lvs Rs) = P := ⟨_, rfl⟩
    rw [hP] at HA
    have HA2 := Lib.hid HA
    obtain ⟨T, hTT⟩ : ∃ T, tot (lvs Rs) = T := ⟨_, rfl⟩
    rw [hTT] at HE0
    have HE := Lib.hid HE0
    have HC := Lib.hid hc
    have HP := Lib.hid hP
    have HT := Lib.hid hTT
    have hp6 : P.length ≤ 1000000 := by rw [← hP, prR_len hc]; exact Nat.le_trans allL_le hT
    clear HA HE0 hP hp hc hM hT hTT
    have c20 : w1.cell? ⟨w.heap.size, 0, none⟩ = some (.slice B Rs.length c) := b21.cell 0
    have c21 : w1.cell? ⟨w.heap.size, 1, none⟩ = some (.int .u64 n) := b21.cell 1
    have i1 := b21.lt
    go_upto_region 3 with fail
    go_region_held3 (fun w' => (∀ bq jq, bq < w1.heap.size → w'.cell? ⟨bq, jq, none⟩ = w1.cell? ⟨bq, jq, none⟩) ∧ (∀ bq jq, bq < w1.heap.size → w'.frozen? ⟨bq, jq, none⟩ = w1.frozen? ⟨bq, jq, none⟩) ∧ w1.heap.size ≤ w'.heap.size ∧ Below w1.heap.size w1 w') ((with_reducible first | exact SB.init | exact SB.init0 | exact SB.below (by assumption) (by assumption) | assumption))
      (first
        | (go_at_call 54; refine (HE.out _ (SB.bel (by assumption))).mono ?_; rintro e22 v22 ⟨rfl, hv22⟩; have hl22 := SB.le hv22 (by assumption); obtain ⟨hc22, hz22, hs22⟩ := wfacts hv22)
        | (go_at_call 53; refine (HA2.out _ (SB.bel (by assumption))).mono ?_; rintro e23 v23 ⟨A23, c23, rfl, ho23, hv23⟩; clear ho23; have hl23 := SB.le hv23 (by assumption); obtain ⟨hc23, hz23, hs23⟩ := wfacts hv23)
        | fail "no arm")
    all_goals
      go_wp2_with fail
      refine bodyPost_ret (v := .tuple #[.int .i64 (T : Int), .int .i64 (P.length : Int), .int .i64 0]) (by simp [results, Tryd.results20, go_sem]) rfl ?_
      have hv := hV.out
      rw [HC.out, if_pos rfl, HT.out] at hv
      rw [HC.out, HP.out, ← hv]
      exact ⟨rfl, bext hb01 (SB.bel (by assumption))⟩
set_option maxHeartbeats 8000000 in
theorem get26_any (B : Option Addr) (Rs : List Rm) (c : Nat) (n : Int) (key : Int) (w : World) (hB : RunsAt w B Rs) (hT : tot (lvs Rs) ≤ 1000000) (hl : Rs.length ≤ 1000000) :
    Calls Tryd.prog 21 #[.agg #[.slice B Rs.length c, .int .u64 n], .int .i64 key] w (GivesX (gxR (lvs Rs) key) (geR (lvs Rs) key) w) := by
  obtain ⟨W0, hW0⟩ : ∃ W0, (w.alloc (.cells #[.slice B Rs.length c, .int .u64 n] 25)).alloc (.cells #[.int .i64 0, .int .i64 0, .bool false] 27) = W0 := ⟨_, rfl⟩
  have hb0 : Below w.heap.size w W0 := by rw [← hW0]; exact ((Below.refl _ _).alloc (Nat.le_refl _) _).alloc (by simp) _
  have b20 : Blk W0 w.heap.size 25 #[.slice B Rs.length c, .int .u64 n] := by rw [← hW0]; exact (Blk.new _ _ _).alloc _
  have bR0 : Blk W0 (w.heap.size + 1) 27 #[.int .i64 0, .int .i64 0, .bool false] := by
    rw [← hW0]
    have := Blk.new (w.alloc (.cells #[.slice B Rs.length c, .int .u64 n] 25)) 27 #[.int .i64 0, .int .i64 0, .bool false]
    rwa [World.size_alloc] at this
  have HW0 := Lib.hid hW0
  have HB := Lib.hid (hB.below hb0)
  clear hW0 hB
  go_enter Tryd.func21, Tryd.ntmps21
  go_wp2_with fail
  rw [HW0.out]
  refine (may26_any B Rs c n _ HB.out hT hl).mono ?_
  obtain ⟨M, hM⟩ : ∃ M, mayB (lvs Rs) = M := ⟨_, rfl⟩
  rw [hM]
  rintro e w1 ⟨rfl, hb1⟩
  have hb01 := bext hb0 hb1
  have b21 := b20.below hb1 b20.lt
  have bR1 := bR0.below hb1 bR0.lt
  cases M with
  | false =>
    have hc : chkR (lvs Rs) = 8 := by rw [chkR_may, hM]; rfl
    have HG := Lib.hid (gR_bad key (by rw [hc]; simp))
    have HE := Lib.hid hc
    have d0 : w1.cell? ⟨w.heap.size + 1, 0, none⟩ = some (.int .i64 0) := bR1.cell 0
    have d1 : w1.cell? ⟨w.heap.size + 1, 1, none⟩ = some (.int .i64 0) := bR1.cell 1
    have d2 : w1.cell? ⟨w.heap.size + 1, 2, none⟩ = some (.bool false) := bR1.cell 2
    have f0 := bR1.frozen 0
    have f1 := bR1.frozen 1
    have f2 := bR1.frozen 2
    clear hc hM
    go_wp2_with fail
    have bFz := put3 bR1 (.int .i64 0) (.int .i64 0) (.bool false)
    have e0z := bFz.cell 0
    have e1z := bFz.cell 1
    have e2z := bFz.cell 2
    simp only [List.getElem?_toArray, List.getElem?_cons_zero, List.getElem?_cons_succ] at e0z e1z e2z
    refine bodyPost_ret (v := .tuple #[.agg #[.int .i64 0, .int .i64 0, .bool false], .int .i64 8]) (by simp [results, Tryd.results21, go_sem, e0z, e1z, e2z]) rfl ?_
    unfold GivesX
    rw [HG.out.1, HG.out.2, HE.out]
    exact ⟨rfl, below3 hb01 (Nat.le_succ _) _ _ _⟩
  | true =>
  have hc : chkR (lvs Rs) = 0 := by rw [chkR_may, hM]; rfl
  have HQ := Lib.hid (rm_le' hc)
  have HX : Hid (gxR (lvs Rs) key = (newest (lvs Rs) key).getD zeroE) := by show _ = _; unfold gxR; rw [if_pos hc]
  have HG : Hid (geR (lvs Rs) key = if (newest (lvs Rs) key).isSome then 0 else 6) := by show _ = _; unfold geR; rw [if_pos hc]
  clear hc hM
  have c20 : w1.cell? ⟨w.heap.size, 0, none⟩ = some (.slice B Rs.length c) := b21.cell 0
  go_wp2_with fail
  refine (newest_any B Rs c key _ (HB.out.below hb1) HQ.out.1 HQ.out.2).mono ?_
  have hlv : Rs.map Rm.l = lvs Rs := rfl
  rw [hlv]
  obtain ⟨o, ho⟩ : ∃ o, newest (lvs Rs) key = o := ⟨_, rfl⟩
  rw [ho]
  have HO := Lib.hid ho
  clear ho hlv
  rintro e w2 ⟨rfl, hb2⟩
  have bR1 := bR1.below hb2 bR1.lt
  obtain ⟨x, hx⟩ : ∃ x, o.getD zeroE = x := ⟨_, rfl⟩
  rw [hx]
  have HXX := Lib.hid hx
  have ba : Below w2.heap.size w2 (w2.alloc (.cells #[.int .i64 x.key, .int .i64 x.val, .bool x.dead] 27)) := (Below.refl _ _).alloc (Nat.le_refl _) _
  have bB : Blk (w2.alloc (.cells #[.int .i64 x.key, .int .i64 x.val, .bool x.dead] 27)) w2.heap.size 27 #[.int .i64 x.key, .int .i64 x.val, .bool x.dead] := Blk.new _ _ _
  have bR1 := bR1.below ba bR1.lt
  have hb03 := bext hb01 (bext hb2 ba)
  clear c20 b21 hx
  go_upto_region 4 with fail
  obtain ⟨W3, hW3⟩ : ∃ W3, w2.alloc (.cells #[.int .i64 x.key, .int .i64 x.val, .bool x.dead] 27) = W3 := ⟨_, rfl⟩
  rw [hW3] at ba bB bR1 hb03
  try rw [hW3]
  have d0 : W3.cell? ⟨w.heap.size + 1, 0, none⟩ = some (.int .i64 0) := bR1.cell 0
  have d1 : W3.cell? ⟨w.heap.size + 1, 1, none⟩ = some (.int .i64 0) := bR1.cell 1
  have d2 : W3.cell? ⟨w.heap.size + 1, 2, none⟩ = some (.bool false) := bR1.cell 2
  have f0 := bR1.frozen 0
  have f1 := bR1.frozen 1
  have f2 := bR1.frozen 2
  have b0 : W3.cell? ⟨w2.heap.size, 0, none⟩ = some (.int .i64 x.key) := bB.cell 0
  have b1 : W3.cell? ⟨w2.heap.size, 1, none⟩ = some (.int .i64 x.val) := bB.cell 1
  have b2 : W3.cell? ⟨w2.heap.size, 2, none⟩ = some (.bool x.dead) := bB.cell 2
  clear hW3 ba
  cases o with
  | none =>
    go_wp2_with fail
    have bFz := put3 bR1 (.int .i64 0) (.int .i64 0) (.bool false)
    have e0z := bFz.cell 0
    have e1z := bFz.cell 1
    have e2z := bFz.cell 2
    simp only [List.getElem?_toArray, List.getElem?_cons_zero, List.getElem?_cons_succ] at e0z e1z e2z
    refine bodyPost_ret (v := .tuple #[.agg #[.int .i64 0, .int .i64 0, .bool false], .int .i64 6]) (by simp [results, Tryd.results21, go_sem, e0z, e1z, e2z]) rfl ?_
    unfold GivesX
    rw [HX.out, HG.out, HO.out]
    exact ⟨rfl, below3 hb03 (Nat.le_succ _) _ _ _⟩
  | some y =>
    have HZ : Hid (x = y) := HXX.out.symm
    go_wp2_with fail
    have bFy := put3 bR1 (.int .i64 x.key) (.int .i64 x.val) (.bool x.dead)
    have e0y := bFy.cell 0
    have e1y := bFy.cell 1
    have e2y := bFy.cell 2
    simp only [List.getElem?_toArray, List.getElem?_cons_zero, List.getElem?_cons_succ] at e0y e1y e2y
    refine bodyPost_ret (v := .tuple #[.agg #[.int .i64 x.key, .int .i64 x.val, .bool x.dead], .int .i64 0]) (by simp [results, Tryd.results21, go_sem, e0y, e1y, e2y]) rfl ?_
    unfold GivesX
    rw [HX.out, HG.out, HO.out]
    exact ⟨by rw [HZ.out]; rfl, below3 hb03 (Nat.le_succ _) _ _ _⟩
end Go.Proofs.YthdcllnmnmemdaaDoor

/- Structs compared: entries and pairs. No walk. -/
namespace Go.Proofs.YthdcllnmnmemdaaDoor
open Go Go.RowKit
set_option maxRecDepth 100000
def eqX (a b : Ent) : Bool := decide (a = b)
theorem eqX_self (a : Ent) : eqX a a = true := decide_eq_true rfl
theorem run_eql_ent (a b : Ent) (w : World) :
    (binOp .eql 27 (.agg #[.int .i64 a.key, .int .i64 a.val, .bool a.dead]) (.agg #[.int .i64 b.key, .int .i64 b.val, .bool b.dead])).run Tryd.prog w = .ok (.bool (eqX a b)) w := by
  have h3 := Tryd.underlying27
  obtain ⟨k, v, d⟩ := a
  obtain ⟨k', v', d'⟩ := b
  simp only [go_sem, h3]
  simp [go_sem, eqX]
  by_cases hk : k = k' <;> by_cases hv : v = v' <;> by_cases hd : d = d' <;> simp [hk, hv, hd]
theorem tab_below' {g : Nat} {w w' : World} (h : TabAt g Lib.deBruijn64tab w) (hb : Below w.heap.size w w') : TabAt g Lib.deBruijn64tab w' := tab_below (tab_lt h) h hb
def eqP (a b : Pr) : Bool := decide (a = b)
theorem run_eql_pr (a b : Pr) (w : World) :
    (binOp .eql 56 (.agg #[.int .i64 a.key, .int .i64 a.val]) (.agg #[.int .i64 b.key, .int .i64 b.val])).run Tryd.prog w = .ok (.bool (eqP a b)) w := by
  have h3 := Tryd.underlying56
  obtain ⟨k, v⟩ := a
  obtain ⟨k', v'⟩ := b
  simp only [go_sem, h3]
  simp [go_sem, eqP]
  by_cases hk : k = k' <;> by_cases hv : v = v' <;> simp [hk, hv]
theorem met_succ {m : List Pr} {k : Nat} (h : k < m.length) (q : Pr) : decide (q ∈ m.take (k + 1)) = (decide (q ∈ m.take k) || eqP (m[k]'h) q) := by
  have h0 : q ∈ m.take (k + 1) ↔ q ∈ m.take k ∨ q = m[k]'h := by rw [List.take_succ_eq_append_getElem h, List.mem_append, List.mem_singleton]
  unfold eqP
  rw [Bool.eq_iff_iff, decide_eq_true_iff, h0, Bool.or_eq_true, decide_eq_true_iff, decide_eq_true_iff]
  exact ⟨fun h => h.imp id Eq.symm, fun h => h.imp id Eq.symm⟩
end Go.Proofs.YthdcllnmnmemdaaDoor
