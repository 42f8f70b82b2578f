/- Contracts: the reference's Get, Newest, kway.Find, the reference's Find; copies of runs, and whether runs are the same. -/
import Derived.Test.YtokomclcgegfkaaDoorGt
import Derived.Test.YtokomclcgegfkaaDoorSb
import Derived.Deep.RegionHeld3
namespace Go.Proofs.YtokomclcgegfkaaDoor
open Go Go.RowKit
set_option maxRecDepth 100000

set_option maxHeartbeats 1000000 in
theorem refGet_any (A : Option Addr) (l : List Ent) (c : Nat) (key : Int) (w : World) (hA : Sl w A (l.flatMap Ent.cells)) (hl : l.length ≤ 4611686018427387903) :
    Calls Tryd.prog 33 #[.agg #[.slice A l.length c], .int .i64 key] w (GivesX (gtX l key) (gtE l key) w) := by
  obtain ⟨W0, hW0⟩ : ∃ W0, (w.alloc (.cells #[.slice A l.length c] 24)).alloc (.cells #[.int .i64 0, .int .i64 0, .bool false] 29) = W0 := ⟨_, rfl⟩
  have hb0 : Below w.heap.size w W0 := by rw [← hW0]; exact ((Below.refl _ _).alloc (Nat.le_refl _) _).alloc (by simp) _
  have bX0 : Blk W0 w.heap.size 24 #[.slice A l.length c] := by rw [← hW0]; exact (Blk.new _ _ _).alloc _
  have bR0 : Blk W0 (w.heap.size + 1) 29 #[.int .i64 0, .int .i64 0, .bool false] := by
    rw [← hW0]
    have := Blk.new (w.alloc (.cells #[.slice A l.length c] 24)) 29 #[.int .i64 0, .int .i64 0, .bool false]
    rwa [World.size_alloc] at this
  have HA := Lib.hid hA
  have cX0 : W0.cell? ⟨w.heap.size, 0, none⟩ = some (.slice A l.length c) := bX0.cell 0
  obtain ⟨E, hE⟩ : ∃ E, chkE l = E := ⟨_, rfl⟩
  have HE := Lib.hid hE
  clear hA hE
  go_enter Tryd.func33, Tryd.ntmps33
  go_wp2_with fail
  try rw [hW0]
  clear hW0 cX0
  refine (refCheck_any A l c _ (HA.out.below hb0) hl).mono ?_
  rw [HE.out]
  rintro e w1 ⟨rfl, hb1⟩
  have bX1 := bX0.below hb1 bX0.lt
  have bR1 := bR0.below hb1 bR0.lt
  have hb01 := bext hb0 hb1
  by_cases h0 : E = 0
  · subst h0
    have cX1 : w1.cell? ⟨w.heap.size, 0, none⟩ = some (.slice A l.length c) := bX1.cell 0
    have HX : Hid (gtX l key = (look l key).getD zeroE) := by show _ = _; unfold gtX; rw [if_pos HE.out]
    have HG : Hid (gtE l key = if (look l key).isSome then 0 else 6) := by show _ = _; unfold gtE; rw [if_pos HE.out]
    go_wp2_with fail
    refine (has_any A l c key _ (HA.out.below hb01) hl).mono ?_
    obtain ⟨o, ho⟩ : ∃ o, look l key = o := ⟨_, rfl⟩
    rw [ho]
    have HO := Lib.hid ho
    clear ho
    rintro e w2 ⟨rfl, hb2⟩
    have bR1 := bR1.below hb2 bR1.lt
    obtain ⟨x, hx⟩ : ∃ x, o.getD zeroE = x := ⟨_, rfl⟩
    rw [hx]
    have HXX := Lib.hid hx
    have ba : Below w2.heap.size w2 (w2.alloc (.cells #[.int .i64 x.key, .int .i64 x.val, .bool x.dead] 29)) := (Below.refl _ _).alloc (Nat.le_refl _) _
    have bB : Blk (w2.alloc (.cells #[.int .i64 x.key, .int .i64 x.val, .bool x.dead] 29)) w2.heap.size 29 #[.int .i64 x.key, .int .i64 x.val, .bool x.dead] := Blk.new _ _ _
    have bR1 := bR1.below ba bR1.lt
    have hb03 := bext hb01 (bext hb2 ba)
    clear cX1 bX1 hx
    go_upto_region 5 with fail
    obtain ⟨W3, hW3⟩ : ∃ W3, w2.alloc (.cells #[.int .i64 x.key, .int .i64 x.val, .bool x.dead] 29) = W3 := ⟨_, rfl⟩
    rw [hW3] at ba bB bR1 hb03
    try rw [hW3]
    have d0 : W3.cell? ⟨w.heap.size + 1, 0, none⟩ = some (.int .i64 0) := bR1.cell 0
    have d1 : W3.cell? ⟨w.heap.size + 1, 1, none⟩ = some (.int .i64 0) := bR1.cell 1
    have d2 : W3.cell? ⟨w.heap.size + 1, 2, none⟩ = some (.bool false) := bR1.cell 2
    have f0 := bR1.frozen 0
    have f1 := bR1.frozen 1
    have f2 := bR1.frozen 2
    have b0 : W3.cell? ⟨w2.heap.size, 0, none⟩ = some (.int .i64 x.key) := bB.cell 0
    have b1 : W3.cell? ⟨w2.heap.size, 1, none⟩ = some (.int .i64 x.val) := bB.cell 1
    have b2 : W3.cell? ⟨w2.heap.size, 2, none⟩ = some (.bool x.dead) := bB.cell 2
    clear hW3 ba
    cases o with
    | none =>
      have HZ : Hid (x = zeroE) := HXX.out.symm
      go_wp2_with fail
      have bFz := put3 bR1 (.int .i64 0) (.int .i64 0) (.bool false)
      have e0z := bFz.cell 0
      have e1z := bFz.cell 1
      have e2z := bFz.cell 2
      simp only [List.getElem?_toArray, List.getElem?_cons_zero, List.getElem?_cons_succ] at e0z e1z e2z
      refine bodyPost_ret (v := .tuple #[.agg #[.int .i64 0, .int .i64 0, .bool false], .int .i64 6]) (by simp [results, Tryd.results33, go_sem, e0z, e1z, e2z]) rfl ?_
      rw [HX.out, HG.out, HO.out]
      exact ⟨rfl, below3 hb03 (Nat.le_succ _) _ _ _⟩
    | some y =>
      have HZ : Hid (x = y) := HXX.out.symm
      go_wp2_with fail
      have bFy := put3 bR1 (.int .i64 x.key) (.int .i64 x.val) (.bool x.dead)
      have e0y := bFy.cell 0
      have e1y := bFy.cell 1
      have e2y := bFy.cell 2
      simp only [List.getElem?_toArray, List.getElem?_cons_zero, List.getElem?_cons_succ] at e0y e1y e2y
      refine bodyPost_ret (v := .tuple #[.agg #[.int .i64 x.key, .int .i64 x.val, .bool x.dead], .int .i64 0]) (by simp [results, Tryd.results33, go_sem, e0y, e1y, e2y]) rfl ?_
      rw [HX.out, HG.out, HO.out]
      refine ⟨by rw [HZ.out]; rfl, below3 hb03 (Nat.le_succ _) _ _ _⟩
  · have h1 : (E != 0) = true := by simpa using h0
    have HX : Hid (gtX l key = zeroE) := by show _ = _; unfold gtX; rw [HE.out, if_neg h0]
    have HG : Hid (gtE l key = E) := by show _ = _; unfold gtE; rw [HE.out, if_neg h0]
    have d0 : w1.cell? ⟨w.heap.size + 1, 0, none⟩ = some (.int .i64 0) := bR1.cell 0
    have d1 : w1.cell? ⟨w.heap.size + 1, 1, none⟩ = some (.int .i64 0) := bR1.cell 1
    have d2 : w1.cell? ⟨w.heap.size + 1, 2, none⟩ = some (.bool false) := bR1.cell 2
    have f0 := bR1.frozen 0
    have f1 := bR1.frozen 1
    have f2 := bR1.frozen 2
    clear h0
    go_wp2_with fail
    have bFw := put3 bR1 (.int .i64 0) (.int .i64 0) (.bool false)
    have e0w := bFw.cell 0
    have e1w := bFw.cell 1
    have e2w := bFw.cell 2
    simp only [List.getElem?_toArray, List.getElem?_cons_zero, List.getElem?_cons_succ] at e0w e1w e2w
    refine bodyPost_ret (v := .tuple #[.agg #[.int .i64 0, .int .i64 0, .bool false], .int .i64 E]) (by simp [results, Tryd.results33, go_sem, e0w, e1w, e2w]) rfl ?_
    rw [HX.out, HG.out]
    exact ⟨rfl, below3 hb01 (Nat.le_succ _) _ _ _⟩

theorem newest_drop {rs : List (List Ent)} {k : Nat} (h : k < rs.length) (key : Int) : newest (rs.drop k) key = (look (rs[k]'h) key).or (newest (rs.drop (k + 1)) key) := by
  rw [List.drop_eq_getElem_cons h, newest_cons]
set_option maxHeartbeats 1000000 in
theorem newest_any (B : Option Addr) (Rs : List Rm) (c : Nat) (key : Int) (w : World) (hB : RunsAt w B Rs) (hl : Rs.length ≤ 4611686018427387903) (hrs : ∀ r ∈ Rs, r.l.length ≤ 4611686018427387903) :
    Calls Tryd.prog 86 #[.slice B Rs.length c, .int .i64 key] w (GivesO (newest (Rs.map Rm.l) key) w) := by
  obtain ⟨W0, hW0⟩ : ∃ W0, w.alloc (.cells #[.int .i64 0, .int .i64 0, .bool false] 29) = W0 := ⟨_, rfl⟩
  have hb0 : Below w.heap.size w W0 := by rw [← hW0]; exact (Below.refl _ _).alloc (Nat.le_refl _) _
  have bR0 : Blk W0 w.heap.size 29 #[.int .i64 0, .int .i64 0, .bool false] := by rw [← hW0]; exact Blk.new _ _ _
  obtain ⟨rs, hrs2⟩ : ∃ rs, Rs.map Rm.l = rs := ⟨_, rfl⟩
  rw [hrs2]
  have hln : rs.length = Rs.length := by rw [← hrs2]; simp
  have HRS := Lib.hid hrs2
  have HB := Lib.hid hB
  have HLN := Lib.hid hln
  have HHR := Lib.hid hrs
  clear hB hrs2 hln hrs
  go_enter Tryd.func86, Tryd.ntmps86
  go_wp2_with fail
  try rw [hW0]
  clear hW0
  go_loopw [6] (fun i wr => ∃ k : Nat, k ≤ Rs.length ∧ i = .int .i64 k ∧ Below W0.heap.size W0 wr ∧ Hid (newest (rs.drop k) key = newest rs key)) (fun i _ => Rs.length - (intOf i).toNat)
  case atStart => exact ⟨0, Nat.zero_le _, rfl, Below.refl _ _, rfl⟩
  case round =>
    obtain ⟨k, hk, rfl, hb, hd⟩ := hrel
    have bR1 := bR0.below hb bR0.lt
    have hbw := bext hb0 hb
    by_cases hlt : k < Rs.length
    · have hltr : k < rs.length := by rw [HLN.out]; exact hlt
      have hs := newest_drop hltr key
      have hg : rs[k]'hltr = (Rs[k]'hlt).l := by have := HRS.out; subst this; simp
      rw [hg, hd.out] at hs
      obtain ⟨b, off, rfl, hbl, cp⟩ := HB.out.sl.oneB hbw k hlt
      have hok := (HB.out.ok _ (List.getElem_mem hlt)).below hbw
      have hrl := HHR.out _ (List.getElem_mem hlt)
      obtain ⟨r, hr⟩ : ∃ r, Rs[k]'hlt = r := ⟨_, rfl⟩
      rw [hr] at hs cp hok hrl
      obtain ⟨l, A, cl⟩ := r
      have cp1 : wr.cell? ⟨b, off + k, none⟩ = some (.slice A l.length cl) := cp
      dsimp only at hs hrl
      have i0 : (0 : Int) ≤ (k : Int) := by omega
      have i1 : (k : Int) < (Rs.length : Int) := by omega
      have HOK := Lib.hid hok.sl
      obtain ⟨o, ho⟩ : ∃ o, look l key = o := ⟨_, rfl⟩
      rw [ho] at hs
      have HO := Lib.hid ho
      have HS := Lib.hid hs
      clear cp hg hr hok ho hs
      go_wp2_with fail
      refine (has_any A l cl key _ HOK.out hrl).mono ?_
      rw [HO.out]
      rintro e w2 ⟨rfl, hb2⟩
      have bR1 := bR1.below hb2 bR1.lt
      obtain ⟨x, hx⟩ : ∃ x, o.getD zeroE = x := ⟨_, rfl⟩
      rw [hx]
      have HXX := Lib.hid hx
      have ba : Below w2.heap.size w2 (w2.alloc (.cells #[.int .i64 x.key, .int .i64 x.val, .bool x.dead] 29)) := (Below.refl _ _).alloc (Nat.le_refl _) _
      have bB : Blk (w2.alloc (.cells #[.int .i64 x.key, .int .i64 x.val, .bool x.dead] 29)) w2.heap.size 29 #[.int .i64 x.key, .int .i64 x.val, .bool x.dead] := Blk.new _ _ _
      have bR1 := bR1.below ba bR1.lt
      have hb3 := bext hb2 ba
      clear cp1 hx
      go_upto_region 5 with fail
      obtain ⟨W3, hW3⟩ : ∃ W3, w2.alloc (.cells #[.int .i64 x.key, .int .i64 x.val, .bool x.dead] 29) = W3 := ⟨_, rfl⟩
      rw [hW3] at ba bB bR1 hb3
      try rw [hW3]
      have d0 : W3.cell? ⟨w.heap.size, 0, none⟩ = some (.int .i64 0) := bR1.cell 0
      have d1 : W3.cell? ⟨w.heap.size, 1, none⟩ = some (.int .i64 0) := bR1.cell 1
      have d2 : W3.cell? ⟨w.heap.size, 2, none⟩ = some (.bool false) := bR1.cell 2
      have f0 := bR1.frozen 0
      have f1 := bR1.frozen 1
      have f2 := bR1.frozen 2
      have b0 : W3.cell? ⟨w2.heap.size, 0, none⟩ = some (.int .i64 x.key) := bB.cell 0
      have b1 : W3.cell? ⟨w2.heap.size, 1, none⟩ = some (.int .i64 x.val) := bB.cell 1
      have b2 : W3.cell? ⟨w2.heap.size, 2, none⟩ = some (.bool x.dead) := bB.cell 2
      clear hW3 ba
      cases o with
      | none =>
        clear b0 b1 b2 d0 d1 d2 f0 f1 f2
        go_wp2
        go_roundw
        case rel => exact ⟨k + 1, by omega, by go_num, bext hb hb3, by show _ = _; rw [HS.out, Option.none_or]⟩
        case measure => simp [intOf]; omega
      | some y =>
        have HZ : Hid (x = y) := HXX.out.symm
        go_wp2_with fail
        have bFy := put3 bR1 (.int .i64 x.key) (.int .i64 x.val) (.bool x.dead)
        have e0y := bFy.cell 0
        have e1y := bFy.cell 1
        have e2y := bFy.cell 2
        simp only [List.getElem?_toArray, List.getElem?_cons_zero, List.getElem?_cons_succ] at e0y e1y e2y
        refine bodyPost_ret (v := .tuple #[.agg #[.int .i64 x.key, .int .i64 x.val, .bool x.dead], .bool true]) (by simp [results, Tryd.results86, go_sem, e0y, e1y, e2y]) rfl ?_
        rw [HS.out, Option.some_or]
        refine ⟨by rw [HZ.out]; rfl, below3 (bext hbw hb3) (Nat.le_refl _) _ _ _⟩
    · have HN : Hid (newest rs key = none) := by show _ = _; rw [← hd.out, List.drop_eq_nil_of_le (by rw [HLN.out]; omega)]; rfl
      have d0 : wr.cell? ⟨w.heap.size, 0, none⟩ = some (.int .i64 0) := bR1.cell 0
      have d1 : wr.cell? ⟨w.heap.size, 1, none⟩ = some (.int .i64 0) := bR1.cell 1
      have d2 : wr.cell? ⟨w.heap.size, 2, none⟩ = some (.bool false) := bR1.cell 2
      have f0 := bR1.frozen 0
      have f1 := bR1.frozen 1
      have f2 := bR1.frozen 2
      go_wp2_with fail
      have bFv := put3 bR1 (.int .i64 0) (.int .i64 0) (.bool false)
      have e0v := bFv.cell 0
      have e1v := bFv.cell 1
      have e2v := bFv.cell 2
      simp only [List.getElem?_toArray, List.getElem?_cons_zero, List.getElem?_cons_succ] at e0v e1v e2v
      refine bodyPost_ret (v := .tuple #[.agg #[.int .i64 0, .int .i64 0, .bool false], .bool false]) (by simp [results, Tryd.results86, go_sem, e0v, e1v, e2v]) rfl ?_
      rw [HN.out]
      exact ⟨rfl, below3 hbw (Nat.le_refl _) _ _ _⟩

set_option maxHeartbeats 1000000 in
theorem refFind25_any (B : Option Addr) (Rs : List Rm) (c : Nat) (key : Int) (w : World) (hB : RunsAt w B Rs) (hl : Rs.length ≤ 4611686018427387903) (hrs : ∀ r ∈ Rs, r.l.length ≤ 4611686018427387903) :
    Calls Tryd.prog 49 #[.slice B Rs.length c, .int .i64 key] w (GivesX (kfX (Rs.map Rm.l) key) (kfE (Rs.map Rm.l) key) w) := by
  obtain ⟨W0, hW0⟩ : ∃ W0, w.alloc (.cells #[.int .i64 0, .int .i64 0, .bool false] 29) = W0 := ⟨_, rfl⟩
  have hb0 : Below w.heap.size w W0 := by rw [← hW0]; exact (Below.refl _ _).alloc (Nat.le_refl _) _
  have bR0 : Blk W0 w.heap.size 29 #[.int .i64 0, .int .i64 0, .bool false] := by rw [← hW0]; exact Blk.new _ _ _
  obtain ⟨E, hE⟩ : ∃ E, chkAllE (Rs.map Rm.l) = E := ⟨_, rfl⟩
  obtain ⟨o, ho⟩ : ∃ o, newest (Rs.map Rm.l) key = o := ⟨_, rfl⟩
  have hX : kfX (Rs.map Rm.l) key = if E = 0 then o.getD zeroE else zeroE := by unfold kfX; rw [hE, ho]
  have hG : kfE (Rs.map Rm.l) key = if E = 0 then (if o.isSome then 0 else 6) else E := by unfold kfE; rw [hE, ho]
  obtain ⟨X1, hX1⟩ : ∃ X1, kfX (Rs.map Rm.l) key = X1 := ⟨_, rfl⟩
  obtain ⟨G1, hG1⟩ : ∃ G1, kfE (Rs.map Rm.l) key = G1 := ⟨_, rfl⟩
  rw [hX1, hG1]
  rw [hX1] at hX
  rw [hG1] at hG
  have HX1 := Lib.hid hX
  have HG1 := Lib.hid hG
  have HE := Lib.hid hE
  have HO := Lib.hid ho
  have HB := Lib.hid hB
  have HHR := Lib.hid hrs
  clear hB hE ho hrs hX hG hX1 hG1
  by_cases h0 : E = 0
  · subst h0
    go_enter Tryd.func49, Tryd.ntmps49
    go_wp2_with fail
    try rw [hW0]
    clear hW0
    refine (refCheck25_any B Rs c _ (HB.out.below hb0) hl HHR.out).mono ?_
    rw [HE.out]
    rintro e w1 ⟨rfl, hb1⟩
    have bR1 := bR0.below hb1 bR0.lt
    have hb01 := bext hb0 hb1
    go_wp2_with fail
    refine (newest_any B Rs c key _ (HB.out.below hb01) hl HHR.out).mono ?_
    rw [HO.out]
    rintro e w2 ⟨rfl, hb2⟩
    have bR1 := bR1.below hb2 bR1.lt
    obtain ⟨x, hx⟩ : ∃ x, o.getD zeroE = x := ⟨_, rfl⟩
    rw [hx]
    have HXX := Lib.hid hx
    have ba : Below w2.heap.size w2 (w2.alloc (.cells #[.int .i64 x.key, .int .i64 x.val, .bool x.dead] 29)) := (Below.refl _ _).alloc (Nat.le_refl _) _
    have bB : Blk (w2.alloc (.cells #[.int .i64 x.key, .int .i64 x.val, .bool x.dead] 29)) w2.heap.size 29 #[.int .i64 x.key, .int .i64 x.val, .bool x.dead] := Blk.new _ _ _
    have bR1 := bR1.below ba bR1.lt
    have hb03 := bext hb01 (bext hb2 ba)
    clear hx
    go_upto_region 5 with fail
    obtain ⟨W3, hW3⟩ : ∃ W3, w2.alloc (.cells #[.int .i64 x.key, .int .i64 x.val, .bool x.dead] 29) = W3 := ⟨_, rfl⟩
    rw [hW3] at ba bB bR1 hb03
    try rw [hW3]
    have d0 : W3.cell? ⟨w.heap.size, 0, none⟩ = some (.int .i64 0) := bR1.cell 0
    have d1 : W3.cell? ⟨w.heap.size, 1, none⟩ = some (.int .i64 0) := bR1.cell 1
    have d2 : W3.cell? ⟨w.heap.size, 2, none⟩ = some (.bool false) := bR1.cell 2
    have f0 := bR1.frozen 0
    have f1 := bR1.frozen 1
    have f2 := bR1.frozen 2
    have b0 : W3.cell? ⟨w2.heap.size, 0, none⟩ = some (.int .i64 x.key) := bB.cell 0
    have b1 : W3.cell? ⟨w2.heap.size, 1, none⟩ = some (.int .i64 x.val) := bB.cell 1
    have b2 : W3.cell? ⟨w2.heap.size, 2, none⟩ = some (.bool x.dead) := bB.cell 2
    clear hW3 ba
    cases o with
    | none =>
      have HZ : Hid (x = zeroE) := HXX.out.symm
      go_wp2_with fail
      have bFz := put3 bR1 (.int .i64 0) (.int .i64 0) (.bool false)
      have e0z := bFz.cell 0
      have e1z := bFz.cell 1
      have e2z := bFz.cell 2
      simp only [List.getElem?_toArray, List.getElem?_cons_zero, List.getElem?_cons_succ] at e0z e1z e2z
      refine bodyPost_ret (v := .tuple #[.agg #[.int .i64 0, .int .i64 0, .bool false], .int .i64 6]) (by simp [results, Tryd.results49, go_sem, e0z, e1z, e2z]) rfl ?_
      rw [HX1.out, HG1.out]
      exact ⟨rfl, below3 hb03 (Nat.le_refl _) _ _ _⟩
    | some y =>
      have HZ : Hid (x = y) := HXX.out.symm
      go_wp2_with fail
      have bFy := put3 bR1 (.int .i64 x.key) (.int .i64 x.val) (.bool x.dead)
      have e0y := bFy.cell 0
      have e1y := bFy.cell 1
      have e2y := bFy.cell 2
      simp only [List.getElem?_toArray, List.getElem?_cons_zero, List.getElem?_cons_succ] at e0y e1y e2y
      refine bodyPost_ret (v := .tuple #[.agg #[.int .i64 x.key, .int .i64 x.val, .bool x.dead], .int .i64 0]) (by simp [results, Tryd.results49, go_sem, e0y, e1y, e2y]) rfl ?_
      rw [HX1.out, HG1.out]
      refine ⟨by rw [HZ.out]; rfl, below3 hb03 (Nat.le_refl _) _ _ _⟩
  · have h1 : (E != 0) = true := by simpa using h0
    have HX2 : Hid (X1 = zeroE) := by show _ = _; rw [HX1.out, if_neg h0]
    have HG2 : Hid (G1 = E) := by show _ = _; rw [HG1.out, if_neg h0]
    clear h0
    go_enter Tryd.func49, Tryd.ntmps49
    go_wp2_with fail
    try rw [hW0]
    clear hW0
    refine (refCheck25_any B Rs c _ (HB.out.below hb0) hl HHR.out).mono ?_
    rw [HE.out]
    rintro e w1 ⟨rfl, hb1⟩
    have bR1 := bR0.below hb1 bR0.lt
    have hb01 := bext hb0 hb1
    have d0 : w1.cell? ⟨w.heap.size, 0, none⟩ = some (.int .i64 0) := bR1.cell 0
    have d1 : w1.cell? ⟨w.heap.size, 1, none⟩ = some (.int .i64 0) := bR1.cell 1
    have d2 : w1.cell? ⟨w.heap.size, 2, none⟩ = some (.bool false) := bR1.cell 2
    have f0 := bR1.frozen 0
    have f1 := bR1.frozen 1
    have f2 := bR1.frozen 2
    go_wp2_with fail
    have bFw := put3 bR1 (.int .i64 0) (.int .i64 0) (.bool false)
    have e0w := bFw.cell 0
    have e1w := bFw.cell 1
    have e2w := bFw.cell 2
    simp only [List.getElem?_toArray, List.getElem?_cons_zero, List.getElem?_cons_succ] at e0w e1w e2w
    refine bodyPost_ret (v := .tuple #[.agg #[.int .i64 0, .int .i64 0, .bool false], .int .i64 E]) (by simp [results, Tryd.results49, go_sem, e0w, e1w, e2w]) rfl ?_
    rw [HX2.out, HG2.out]
    exact ⟨rfl, below3 hb01 (Nat.le_refl _) _ _ _⟩

theorem run_info1 : (Tryd.prog.info? 24).map (fun i => (i.zero, i.size, i.bytes)) = some (some (.agg #[.slice none 0 0]), 1, 24) := by kernel_rfl
/-- hands back copies of runs, in new memory -/
def GivesTwins (ls : List (List Ent)) (w : World) (r : Ending) (w' : World) : Prop :=
  ∃ (A : Option Addr) (c : Nat) (Ts : List Rm), r = .returned (.slice A Ts.length c) ∧ Ts.map Rm.l = ls ∧ RunsAt w' A Ts ∧ Below w.heap.size w w'
set_option maxHeartbeats 2000000 in
theorem twins_any (B : Option Addr) (Rs : List Rm) (c : Nat) (w : World) (hB : RunsAt w B Rs) (hl : Rs.length ≤ 1000000) (hrs : ∀ r ∈ Rs, r.l.length ≤ 1000000) :
    Calls Tryd.prog 45 #[.slice B Rs.length c] w (GivesTwins (Rs.map Rm.l) w) := by
  obtain ⟨te0, hI⟩ := info_parts run_info1
  have HI := Lib.hid hI
  have HB := Lib.hid hB
  have HHR := Lib.hid hrs
  clear hI hB hrs
  go_enter Tryd.func45, Tryd.ntmps45
  go_wp2
  go_loopw [3, 4] (fun v i wr => ∃ (k : Nat) (Ts : List Rm) (A' : Option Addr) (c' : Nat), k ≤ Rs.length ∧ i = .int .i64 k ∧ Below w.heap.size w wr ∧ v = .slice A' k c' ∧ Hid (Ts.length = k) ∧
      wr.ownsRow w.heap.size 24 1 (.slice A' k c') k (Ts.map Rm.v) ∧ (∀ s ∈ Ts, wr.ownsRow w.heap.size 29 3 s.v s.l.length (s.l.flatMap Ent.cells)) ∧ Hid (Ts.map Rm.l = (Rs.map Rm.l).take k)) (fun _ i _ => Rs.length - (intOf i).toNat)
  case atStart => exact ⟨0, [], none, 0, Nat.zero_le _, rfl, Below.refl _ _, rfl, rfl, World.ownsRow_nil _ _ _ _, by simp, rfl⟩
  case round =>
    obtain ⟨k, Ts, A', c', hk, rfl, hb, rfl, hTk, hown, hS, hin⟩ := hrel
    have hbs := hb.size
    by_cases hlt : k < Rs.length
    · obtain ⟨b, off, rfl, hbl, cp⟩ := HB.out.sl.oneB hb k hlt
      have hok := (HB.out.ok _ (List.getElem_mem hlt)).below hb
      have hrl := HHR.out _ (List.getElem_mem hlt)
      have hin2 : (Rs.map Rm.l).take (k + 1) = (Rs.map Rm.l).take k ++ [(Rs[k]'hlt).l] := by
        rw [List.take_succ_eq_append_getElem (by simpa using hlt)]; simp
      obtain ⟨r, hr⟩ : ∃ r, Rs[k]'hlt = r := ⟨_, rfl⟩
      rw [hr] at cp hok hrl hin2
      obtain ⟨l, A, cl⟩ := r
      have cp1 : wr.cell? ⟨b, off + k, none⟩ = some (.slice A l.length cl) := cp
      dsimp only at hrl hin2
      have hki : (0 : Int) ≤ (k : Int) := by omega
      have hki2 : (k : Int) < (Rs.length : Int) := by omega
      have HOK := Lib.hid hok.sl
      have HIN := Lib.hid hin2
      have HOW := Lib.hid hown
      have HSS := Lib.hid hS
      clear cp hr hok hin2 hown hS
      go_wp2_with fail
      refine (refTwin_any A l cl _ HOK.out hrl).mono ?_
      rintro e w1 ⟨A1, c1, rfl, ho1, hb1⟩
      have HO1 := Lib.hid (own_mono (B' := w.heap.size) ho1 (by omega))
      have HOW1 := Lib.hid (own_below HOW.out hb1)
      have hs1 := hb1.size
      clear ho1 cp1
      go_wp2_with (at_builtin; refine wpList_append_sl _ rfl (.tmp 11) (.tmp 17) _ rfl w.heap.size 24 te0 _ 1 24 Tryd.underlying62 HI.out.1 HI.out.2.1 HI.out.2.2.1 HI.out.2.2.2 rfl (by omega) (.slice A' k c') k _ rfl (HOW1.out.alloc _) _ 1 _ [.slice A1 l.length c1] rfl (by exact sl_new1 _ _ _) rfl (by simp [Value.oneCell']) (by unfold maxLen; omega) (by omega) (by simp; omega) ?_; intro v2 w2 hown2 hg2; obtain ⟨A2, q2, rfl, hle2, hmx2⟩ := own_form hown2; have HO2 := Lib.hid hown2; clear hown2)
      go_roundw
      case rel =>
        refine ⟨k + 1, Ts ++ [⟨l, A1, c1⟩], A2, q2, by omega, by go_num, ?_, rfl, ?_, ?_, ?_, ?_⟩
        · exact ((bext hb hb1).alloc (by omega) _).grown hg2 (by simp; omega) (fun q hq => (HOW1.out.lt q hq).1)
        · show _ = _
          rw [List.length_append, hTk.out]; rfl
        · rw [List.map_append]; exact HO2.out
        · intro s hs
          refine own_grow hg2 (HOW1.out.alloc _) ?_ (by decide)
          rcases List.mem_append.1 hs with hs | hs
          · exact (own_below (HSS.out s hs) hb1).alloc _
          · obtain rfl : s = ⟨l, A1, c1⟩ := by simpa using hs
            exact HO1.out.alloc _
        · show _ = _
          rw [List.map_append, hin.out, HIN.out]; rfl
      case measure => simp [intOf]; omega
    · have hkn : k = Rs.length := by omega
      have HIN : Hid (Ts.map Rm.l = Rs.map Rm.l) := by show _ = _; rw [hin.out, List.take_of_length_le (by simp; omega)]
      have HTN : Hid (Ts.length = k) := hTk
      have hO : RunsAt wr A' Ts := by
        refine ⟨own_sl hown, fun s hs => ?_⟩
        have h1 := hS s hs
        obtain ⟨A3, c3, h3, h4, h5⟩ := own_form h1
        obtain ⟨ls, As, cs⟩ := s
        have h6 : As = A3 ∧ cs = c3 := by simpa [Rm.v] using h3
        obtain ⟨rfl, rfl⟩ := h6
        exact ⟨own_sl h1, h4, h5⟩
      have HO := Lib.hid hO
      clear hkn hO hown hS hin hTk
      go_wp2
      go_ret
      exact ⟨A', c', Ts, by rw [HTN.out]; rfl, HIN.out, HO.out, hb⟩

set_option maxHeartbeats 1000000 in
theorem sameAll_yes (B D : Option Addr) (Rs Ts : List Rm) (n c d : Nat) (w : World) (hn : Ts.length = n) (hB : RunsAt w B Rs) (hD : RunsAt w D Ts) (he : Ts.map Rm.l = Rs.map Rm.l) (hl : Rs.length ≤ 1000000) (hrs : ∀ r ∈ Rs, r.l.length ≤ 1000000) :
    Calls Tryd.prog 50 #[.slice D n d, .slice B Rs.length c] w fun r w' => r = .returned (.bool true) ∧ Below w.heap.size w w' := by
  have hlen : Ts.length = Rs.length := by have := congrArg List.length he; simpa using this
  obtain rfl : n = Rs.length := by omega
  have HB := Lib.hid hB
  have HD := Lib.hid hD
  have HE := Lib.hid he
  have HLL := Lib.hid hlen
  have HHR := Lib.hid hrs
  clear hB hD he hlen hn hrs
  go_enter Tryd.func50, Tryd.ntmps50
  go_wp2
  go_loopw [5] (fun i wr => ∃ k : Nat, k ≤ Rs.length ∧ i = .int .i64 k ∧ Below w.heap.size w wr) (fun i _ => Rs.length - (intOf i).toNat)
  case atStart => exact ⟨0, Nat.zero_le _, rfl, Below.refl _ _⟩
  case round =>
    obtain ⟨k, hk, rfl, hb⟩ := hrel
    by_cases hlt : k < Rs.length
    · have hlt2 : k < Ts.length := by rw [HLL.out]; exact hlt
      obtain ⟨b, off, rfl, hbl, cp⟩ := HB.out.sl.oneB hb k hlt
      obtain ⟨b2, off2, rfl, hbl2, cq⟩ := HD.out.sl.oneB hb k hlt2
      have hok := (HB.out.ok _ (List.getElem_mem hlt)).below hb
      have hok2 := (HD.out.ok _ (List.getElem_mem hlt2)).below hb
      have hll : (Ts[k]'hlt2).l = (Rs[k]'hlt).l := by
        have h := HE.out
        have h2 : (Ts.map Rm.l)[k]? = (Rs.map Rm.l)[k]? := by rw [h]
        simpa [hlt, hlt2] using h2
      have hrl := HHR.out _ (List.getElem_mem hlt)
      obtain ⟨r, hr⟩ : ∃ r, Rs[k]'hlt = r := ⟨_, rfl⟩
      obtain ⟨s, hs⟩ : ∃ s, Ts[k]'hlt2 = s := ⟨_, rfl⟩
      rw [hr] at cp hok hll hrl
      rw [hs] at cq hok2 hll
      obtain ⟨l, A, cl⟩ := r
      obtain ⟨l2, A2, cl2⟩ := s
      dsimp only at hll
      subst hll
      have cp1 : wr.cell? ⟨b, off + k, none⟩ = some (.slice A l2.length cl) := cp
      have cq1 : wr.cell? ⟨b2, off2 + k, none⟩ = some (.slice A2 l2.length cl2) := cq
      dsimp only at hrl
      have htw : ∀ W, Below wr.heap.size wr W → Calls Tryd.prog 31 #[.agg #[.slice A2 l2.length cl2], .agg #[.slice A l2.length cl]] W (fun r w' => r = .returned (.bool true) ∧ Below W.heap.size W w') := by
        intro W hW
        have h8 := refSame_any A2 A l2 l2 cl2 cl W (hok2.sl.below hW) (hok.sl.below hW) (by omega) (by omega)
        rw [decide_eq_true rfl] at h8
        exact h8
      have HTW := Lib.hid htw
      have lb1 : b < wr.heap.size := Nat.lt_of_lt_of_le hbl hb.size
      have lb2 : b2 < wr.heap.size := Nat.lt_of_lt_of_le hbl2 hb.size
      have hki : (0 : Int) ≤ (k : Int) := by omega
      have hki2 : (k : Int) < (Rs.length : Int) := by omega
      clear cp cq hr hs hok hok2 htw hbl hbl2
      go_upto_region 6 with fail
      go_cut [26] from 17 to 26 (fun v wx => v = .bool false ∧ Below wr.heap.size wr wx)
      case first =>
        go_region_held3 (fun w' => (∀ bq jq, bq < wr.heap.size → w'.cell? ⟨bq, jq, none⟩ = wr.cell? ⟨bq, jq, none⟩) ∧ (∀ bq jq, bq < wr.heap.size → w'.frozen? ⟨bq, jq, none⟩ = wr.frozen? ⟨bq, jq, none⟩) ∧ wr.heap.size ≤ w'.heap.size ∧ Below wr.heap.size wr w') ((with_reducible first | exact SB.init | exact SB.init0 | exact SB.below (by assumption) (by assumption) | assumption))
          (first
            | (go_at_call 31; refine (HTW.out _ (SB.bel (by assumption))).mono ?_; rintro e22 v22 ⟨rfl, hv22⟩; have hl22 := SB.le hv22 (by assumption); obtain ⟨hc22, hz22, hs22⟩ := wfacts hv22)
            | fail "no arm")
        all_goals
          go_wp2_with fail
          go_meet
          exact ⟨by simp, SB.bel (by assumption)⟩
      case rest =>
        obtain ⟨rfl, hbx⟩ := hcut
        clear cp1 cq1
        go_wp2
        go_roundw
        case rel => exact ⟨k + 1, by omega, by go_num, bext hb hbx⟩
        case measure => simp [intOf]; omega
    · go_wp2
      go_ret
      exact ⟨rfl, hb⟩
end Go.Proofs.YtokomclcgegfkaaDoor
