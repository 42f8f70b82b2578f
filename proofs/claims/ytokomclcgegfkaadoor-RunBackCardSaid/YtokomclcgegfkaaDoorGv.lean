/- Contract: kway.Find. -/
import Derived.Test.YtokomclcgegfkaaDoorGu
namespace Go.Proofs.YtokomclcgegfkaaDoor
open Go Go.RowKit
set_option maxRecDepth 100000

def isE (o : Option Ent) : Int := if o.isSome then 0 else 6
theorem isE_none : isE none = 6 := rfl
theorem isE_some (x : Ent) : isE (some x) = 0 := rfl
/-- what stands in memory while runs are looked through -/
structure Fst (w : World) (o : Option Ent) (wr : World) : Prop where
  bel : Below w.heap.size w wr
  br : Blk wr w.heap.size 29 #[.int .i64 0, .int .i64 0, .bool false]
  bf : Blk wr (w.heap.size + 1) 29 #[.int .i64 (o.getD zeroE).key, .int .i64 (o.getD zeroE).val, .bool (o.getD zeroE).dead]

set_option maxHeartbeats 4000000 in
theorem kfind_any (B : Option Addr) (Rs : List Rm) (c : Nat) (key : Int) (w : World) (hB : RunsAt w B Rs) (hl : Rs.length ≤ 4611686018427387903) (hrs : ∀ r ∈ Rs, r.l.length ≤ 4611686018427387903) (hT : TabAt 1 Lib.deBruijn64tab w) :
    Calls Tryd.prog 48 #[.slice B Rs.length c, .int .i64 key] w (GivesX (kfX (Rs.map Rm.l) key) (kfE (Rs.map Rm.l) key) w) := by
  obtain ⟨W0, hW0⟩ : ∃ W0, (w.alloc (.cells #[.int .i64 0, .int .i64 0, .bool false] 29)).alloc (.cells #[.int .i64 0, .int .i64 0, .bool false] 29) = W0 := ⟨_, rfl⟩
  have hb0 : Below w.heap.size w W0 := by rw [← hW0]; exact ((Below.refl _ _).alloc (Nat.le_refl _) _).alloc (by simp) _
  have bR0 : Blk W0 w.heap.size 29 #[.int .i64 0, .int .i64 0, .bool false] := by rw [← hW0]; exact (Blk.new _ _ _).alloc _
  have bF0 : Blk W0 (w.heap.size + 1) 29 #[.int .i64 0, .int .i64 0, .bool false] := by
    rw [← hW0]
    have := Blk.new (w.alloc (.cells #[.int .i64 0, .int .i64 0, .bool false] 29)) 29 #[.int .i64 0, .int .i64 0, .bool false]
    rwa [World.size_alloc] at this
  have hF0 : Fst w none W0 := ⟨hb0, bR0, bF0⟩
  obtain ⟨rs, hrs2⟩ : ∃ rs, Rs.map Rm.l = rs := ⟨_, rfl⟩
  rw [hrs2]
  have hln : rs.length = Rs.length := by rw [← hrs2]; simp
  obtain ⟨X1, hX1⟩ : ∃ X1, kfX rs key = X1 := ⟨_, rfl⟩
  obtain ⟨G1, hG1⟩ : ∃ G1, kfE rs key = G1 := ⟨_, rfl⟩
  rw [hX1, hG1]
  have HX1 := Lib.hid hX1
  have HG1 := Lib.hid hG1
  have HRS := Lib.hid hrs2
  have HB := Lib.hid hB
  have HLN := Lib.hid hln
  have HHR := Lib.hid hrs
  have HT := Lib.hid hT
  have HF0 := Lib.hid hF0
  have hTl := tab_lt hT
  have HW0 := Lib.hid hW0
  clear hB hrs2 hln hrs hX1 hG1 hT hF0 hb0 bR0 bF0 hW0
  go_enter Tryd.func48, Tryd.ntmps48
  go_wp2_with fail
  try rw [HW0.out]
  clear HW0
  go_loopw [7, 15] (fun v i wr => ∃ (k : Nat) (o : Option Ent) (E : Int), k ≤ Rs.length ∧ i = .int .i64 k ∧ v = .int .i64 E ∧ Hid (E = isE o) ∧ Hid (o = newest (rs.take k) key) ∧ Hid (chkAllE (rs.take k) = 0) ∧ Hid (Fst w o wr)) (fun _ i _ => Rs.length - (intOf i).toNat)
  case atStart => exact ⟨0, none, 6, Nat.zero_le _, rfl, rfl, rfl, rfl, rfl, HF0.out⟩
  case round =>
    obtain ⟨k, o, E, hk, rfl, rfl, hE, ho, hC, hF⟩ := hrel
    by_cases hlt : k < Rs.length
    · have hltr : k < rs.length := by rw [HLN.out]; exact hlt
      obtain ⟨hs1, hs2⟩ := chkAll_take hltr hC.out
      have hs3 := newest_succ hltr key
      have hg : rs[k]'hltr = (Rs[k]'hlt).l := by have := HRS.out; subst this; simp
      rw [hg] at hs1 hs2 hs3
      rw [← ho.out] at hs3
      have hbw := hF.out.bel
      obtain ⟨b, off, rfl, hbl, cp⟩ := HB.out.sl.oneB hbw k hlt
      have hok := (HB.out.ok _ (List.getElem_mem hlt)).below hbw
      have hrl := HHR.out _ (List.getElem_mem hlt)
      obtain ⟨r, hr⟩ : ∃ r, Rs[k]'hlt = r := ⟨_, rfl⟩
      rw [hr] at hs1 hs2 hs3 cp hok hrl
      obtain ⟨l, A, cl⟩ := r
      have cp1 : wr.cell? ⟨b, off + k, none⟩ = some (.slice A l.length cl) := cp
      dsimp only at hs1 hs2 hs3 hrl
      have i0 : (0 : Int) ≤ (k : Int) := by omega
      have i1 : (k : Int) < (Rs.length : Int) := by omega
      have ba0 : Below wr.heap.size wr (wr.alloc (.cells #[.slice A l.length cl] 24)) := (Below.refl _ _).alloc (Nat.le_refl _) _
      have HOK := Lib.hid (hok.sl.below ba0)
      have HTB := Lib.hid (tab_below hTl HT.out (bext hbw ba0))
      have HBA0 := Lib.hid ba0
      have lw : w.heap.size + 1 < wr.heap.size := hF.out.bf.lt
      obtain ⟨f, hf⟩ : ∃ f, gtE l key = f := ⟨_, rfl⟩
      obtain ⟨y, hy⟩ : ∃ y, gtX l key = y := ⟨_, rfl⟩
      have HFE := Lib.hid hf
      have HFX := Lib.hid hy
      have HS1 := Lib.hid hs1
      have HS2 := Lib.hid hs2
      have HS3 := Lib.hid hs3
      clear cp hg hr hok hf hy hs1 hs2 hs3 ba0 hbw
      go_wp2_with fail
      refine (runGet_any A l cl key _ HOK.out hrl HTB.out).mono ?_
      rw [HFE.out, HFX.out]
      rintro e w2 ⟨rfl, hb2⟩
      have hb02 := bext HBA0.out hb2
      have ba : Below w2.heap.size w2 (w2.alloc (.cells #[.int .i64 y.key, .int .i64 y.val, .bool y.dead] 29)) := (Below.refl _ _).alloc (Nat.le_refl _) _
      have bY : Blk (w2.alloc (.cells #[.int .i64 y.key, .int .i64 y.val, .bool y.dead] 29)) w2.heap.size 29 #[.int .i64 y.key, .int .i64 y.val, .bool y.dead] := Blk.new _ _ _
      have hb3 := bext hb02 ba
      clear cp1 hb2
      go_upto_region 6 with fail
      obtain ⟨W3, hW3⟩ : ∃ W3, w2.alloc (.cells #[.int .i64 y.key, .int .i64 y.val, .bool y.dead] 29) = W3 := ⟨_, rfl⟩
      rw [hW3] at ba bY hb3
      try rw [hW3]
      have bR1 := hF.out.br.below hb3 (by omega)
      have bF1 := hF.out.bf.below hb3 lw
      have hb4 := bext hF.out.bel hb3
      have d0y : W3.cell? ⟨w2.heap.size, 0, none⟩ = some (.int .i64 y.key) := bY.cell 0
      have d1y : W3.cell? ⟨w2.heap.size, 1, none⟩ = some (.int .i64 y.val) := bY.cell 1
      have d2y : W3.cell? ⟨w2.heap.size, 2, none⟩ = some (.bool y.dead) := bY.cell 2
      have f0y := bY.frozen 0
      have f1y := bY.frozen 1
      have f2y := bY.frozen 2
      clear hW3 ba f0y f1y f2y
      have hv := gt_vals l key
      rw [HFE.out] at hv
      by_cases hc : chkE l = 0
      · have hf06 : f = 0 ∨ f = 6 := by
          rcases hv with h | h | h
          · exact .inl h
          · exact .inr h
          · exact absurd hc h.1
        have HC2 : Hid (chkAllE (rs.take (k + 1)) = 0) := by show _ = _; rw [HS1.out]; exact hc
        clear hv
        rcases hf06 with rfl | rfl
        · have hsome : ∃ x, look l key = some x := by
            have h := HFE.out
            unfold gtE at h
            rw [if_pos hc] at h
            cases hl2 : look l key with
            | none => rw [hl2] at h; simp at h
            | some x => exact ⟨x, rfl⟩
          obtain ⟨x, hx⟩ := hsome
          have hyx : y = x := by have h := HFX.out; unfold gtX at h; rw [if_pos hc, hx] at h; exact h.symm
          have hnew : newest (rs.take (k + 1)) key = o.or (some x) := by rw [HS3.out, hx]
          have HYX := Lib.hid hyx
          have HNW := Lib.hid hnew
          clear hyx hnew hx hc
          cases o with
          | none =>
            have hE6 : E = 6 := hE.out
            subst hE6
            have d0 : W3.cell? ⟨w.heap.size + 1, 0, none⟩ = some (.int .i64 0) := bF1.cell 0
            have d1 : W3.cell? ⟨w.heap.size + 1, 1, none⟩ = some (.int .i64 0) := bF1.cell 1
            have d2 : W3.cell? ⟨w.heap.size + 1, 2, none⟩ = some (.bool false) := bF1.cell 2
            have f0 := bF1.frozen 0
            have f1 := bF1.frozen 1
            have f2 := bF1.frozen 2
            go_wp2_with fail
            have bF2 := put3 bF1 (.int .i64 y.key) (.int .i64 y.val) (.bool y.dead)
            go_roundw
            case rel =>
              refine ⟨k + 1, some y, 0, by omega, by go_num, rfl, rfl, ?_, HC2, ⟨below3 hb4 (Nat.le_succ _) _ _ _, ?_, bF2⟩⟩
              · show _ = _
                rw [HNW.out, HYX.out]; rfl
              · exact ((bR1.far (p := ⟨w.heap.size + 1, 0, none⟩) (Nat.ne_of_lt (Nat.lt_succ_self _)) _).far (p := ⟨w.heap.size + 1, 1, none⟩) (Nat.ne_of_lt (Nat.lt_succ_self _)) _).far (p := ⟨w.heap.size + 1, 2, none⟩) (Nat.ne_of_lt (Nat.lt_succ_self _)) _
            case measure => simp [intOf]; omega
          | some z =>
            have hE0 : E = 0 := hE.out
            subst hE0
            clear d0y d1y d2y
            go_wp2_with fail
            go_roundw
            case rel => exact ⟨k + 1, some z, 0, by omega, by go_num, rfl, rfl, by show _ = _; rw [HNW.out]; rfl, HC2, ⟨hb4, bR1, bF1⟩⟩
            case measure => simp [intOf]; omega
        · have hnone : look l key = none := by
            have h := HFE.out
            unfold gtE at h
            rw [if_pos hc] at h
            cases hl2 : look l key with
            | none => rfl
            | some x => rw [hl2] at h; simp at h
          have HNW : Hid (newest (rs.take (k + 1)) key = o) := by show _ = _; rw [HS3.out, hnone, Option.or_none]
          clear hnone hc d0y d1y d2y
          go_wp2_with fail
          go_roundw
          case rel => exact ⟨k + 1, o, E, by omega, by go_num, by first | rfl | simp, hE, by show _ = _; rw [HNW.out], HC2, ⟨hb4, bR1, bF1⟩⟩
          case measure => simp [intOf]; omega
      · have hfc : f = chkE l := by
          have h := HFE.out
          unfold gtE at h
          rw [if_neg hc] at h
          exact h.symm
        have hf0 : f ≠ 0 := by rw [hfc]; exact hc
        have hf6 : f ≠ 6 := by rcases chk_vals l with h | h | h | h <;> omega
        have h1 : (f != 0) = true := by simpa using hf0
        have h2 : (f != 6) = true := by simpa using hf6
        have HA1 : Hid (chkAllE rs = f) := by show _ = _; rw [hfc]; exact HS2.out hc
        have HXZ : Hid (X1 = zeroE) := by show _ = _; rw [← HX1.out]; unfold kfX; rw [HA1.out, if_neg hf0]
        have HGF : Hid (G1 = f) := by show _ = _; rw [← HG1.out]; unfold kfE; rw [HA1.out, if_neg hf0]
        have d0 : W3.cell? ⟨w.heap.size, 0, none⟩ = some (.int .i64 0) := bR1.cell 0
        have d1 : W3.cell? ⟨w.heap.size, 1, none⟩ = some (.int .i64 0) := bR1.cell 1
        have d2 : W3.cell? ⟨w.heap.size, 2, none⟩ = some (.bool false) := bR1.cell 2
        have f0 := bR1.frozen 0
        have f1 := bR1.frozen 1
        have f2 := bR1.frozen 2
        clear hfc hf0 hf6 hv hc d0y d1y d2y
        go_wp2_with fail
        have bFz := put3 bR1 (.int .i64 0) (.int .i64 0) (.bool false)
        have e0z := bFz.cell 0
        have e1z := bFz.cell 1
        have e2z := bFz.cell 2
        simp only [List.getElem?_toArray, List.getElem?_cons_zero, List.getElem?_cons_succ] at e0z e1z e2z
        refine bodyPost_ret (v := .tuple #[.agg #[.int .i64 0, .int .i64 0, .bool false], .int .i64 f]) (by simp [results, Tryd.results48, go_sem, e0z, e1z, e2z]) rfl ?_
        rw [HXZ.out, HGF.out]
        exact ⟨rfl, below3 hb4 (Nat.le_refl _) _ _ _⟩
    · have hkn : rs.take k = rs := List.take_of_length_le (by rw [HLN.out]; omega)
      have hC2 := hC.out
      have ho2 := ho.out
      rw [hkn] at hC2 ho2
      have HXZ : Hid (X1 = o.getD zeroE) := by show _ = _; rw [← HX1.out]; unfold kfX; rw [if_pos hC2, ho2]
      have HGF : Hid (G1 = E) := by
        show _ = _
        rw [← HG1.out, hE.out, ho2]
        unfold kfE
        rw [if_pos hC2]
        rfl
      obtain ⟨x, hx⟩ : ∃ x, o.getD zeroE = x := ⟨_, rfl⟩
      have bF1 := hF.out.bf
      rw [hx] at bF1
      have HXX := Lib.hid hx
      have bR1 := hF.out.br
      have d0 : wr.cell? ⟨w.heap.size, 0, none⟩ = some (.int .i64 0) := bR1.cell 0
      have d1 : wr.cell? ⟨w.heap.size, 1, none⟩ = some (.int .i64 0) := bR1.cell 1
      have d2 : wr.cell? ⟨w.heap.size, 2, none⟩ = some (.bool false) := bR1.cell 2
      have f0 := bR1.frozen 0
      have f1 := bR1.frozen 1
      have f2 := bR1.frozen 2
      have d0y : wr.cell? ⟨w.heap.size + 1, 0, none⟩ = some (.int .i64 x.key) := bF1.cell 0
      have d1y : wr.cell? ⟨w.heap.size + 1, 1, none⟩ = some (.int .i64 x.val) := bF1.cell 1
      have d2y : wr.cell? ⟨w.heap.size + 1, 2, none⟩ = some (.bool x.dead) := bF1.cell 2
      have f0y := bF1.frozen 0
      have f1y := bF1.frozen 1
      have f2y := bF1.frozen 2
      clear hkn hC2 ho2 hx f0y f1y f2y
      go_wp2_with fail
      have bFz := put3 bR1 (.int .i64 x.key) (.int .i64 x.val) (.bool x.dead)
      have e0z := bFz.cell 0
      have e1z := bFz.cell 1
      have e2z := bFz.cell 2
      simp only [List.getElem?_toArray, List.getElem?_cons_zero, List.getElem?_cons_succ] at e0z e1z e2z
      refine bodyPost_ret (v := .tuple #[.agg #[.int .i64 x.key, .int .i64 x.val, .bool x.dead], .int .i64 E]) (by simp [results, Tryd.results48, go_sem, e0z, e1z, e2z]) rfl ?_
      rw [HXZ.out, HGF.out, HXX.out]
      exact ⟨rfl, below3 hF.out.bel (Nat.le_refl _) _ _ _⟩
end Go.Proofs.YtokomclcgegfkaaDoor
