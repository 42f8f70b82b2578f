/- Contracts: shelfmarkref25.Merge and Two, kway.Two. -/
import Derived.Test.YtokomclcgegfkaaDoorKq
import Derived.Test.YtokomclcgegfkaaDoorTw
namespace Go.Proofs.YtokomclcgegfkaaDoor
open Go Go.RowKit
set_option maxRecDepth 100000

set_option maxHeartbeats 4000000 in
theorem refMerge_any (B : Option Addr) (Rs : List Rm) (c T : Nat) (bare : Bool) (w : World) (hB : RunsAt w B Rs) (hl : Rs.length ≤ 1099511627775) (hrs : ∀ r ∈ Rs, r.l.length ≤ 4611686018427387903)
    (hT : (Rs.map (fun r => r.l.length)).sum ≤ T) (hT2 : T ≤ 1099511627776) :
    Calls Tryd.prog 47 #[.slice B Rs.length c, .bool bare] w (GivesRun 29 (mrgL Rs bare) (mrgE Rs) w) := by
  obtain ⟨W0, hW0⟩ : ∃ W0, w.alloc (.cells #[.slice none 0 0] 24) = W0 := ⟨_, rfl⟩
  have hb0 : Below w.heap.size w W0 := by rw [← hW0]; exact (Below.refl _ _).alloc (Nat.le_refl _) _
  have hr0 : Blk W0 w.heap.size 24 #[.slice none 0 0] := by rw [← hW0]; exact Blk.new _ _ _
  have hs0 : W0.heap.size = w.heap.size + 1 := by rw [← hW0]; simp
  have hlx : Rs.length ≤ 4611686018427387903 := by omega
  obtain ⟨C, hC⟩ : ∃ C, chkAllE (Rs.map Rm.l) = C := ⟨_, rfl⟩
  have HC := Lib.hid hC
  clear hC
  by_cases h0 : C = 0
  · subst h0
    have hsm : ∀ r ∈ Rs, r.l.length ≤ 65536 := fun r hr => chk_len (chkAll_ok HC.out _ (List.mem_map.2 ⟨r, hr, rfl⟩))
    have hlen : (allE (inS Rs)).length ≤ T := by
      have h1 := fold_len (inS Rs) []
      rw [inS_sum] at h1
      unfold allE
      simp at h1
      omega
    obtain ⟨O, hO⟩ : ∃ O, allE (inS Rs) = O := ⟨_, rfl⟩
    have HA : ∀ wx, Below w.heap.size w wx → Calls Tryd.prog 83 #[.slice B Rs.length c] wx (GivesOwn 29 3 O.length (O.flatMap Ent.cells) wx) := by
      intro wx hbx
      rw [← hO]
      exact refAll_any B Rs c T wx (hB.below hbx) hlx hsm hT hT2
    rw [hO] at hlen
    have HEq : Hid (mrgE Rs = if O.length > 65536 then 4 else 0) := by
      show _ = _
      unfold mrgE
      rw [if_pos HC.out, hO]
    have HLq : Hid (mrgE Rs = 0 → mrgL Rs bare = laid (bareE bare O)) := by
      show _ → _
      intro h
      unfold mrgL
      rw [if_pos h, hO]
    have HAA := Lib.hid HA
    have HSM := Lib.hid hsm
    have HHR := Lib.hid hrs
    clear hO HA hsm hrs
    by_cases hbig : O.length > 65536
    · have hE3 : mrgE Rs = 4 := by rw [HEq.out, if_pos hbig]
      have hL3 : mrgL Rs bare = [] := by unfold mrgL; rw [hE3]; rfl
      have HE3 := Lib.hid hE3
      have HL3 := Lib.hid hL3
      clear hE3 hL3
      go_enter Tryd.func47, Tryd.ntmps47
      go_wp2_with fail
      try rw [hW0]
      clear hW0
      refine (refCheck25_any B Rs c _ (hB.below hb0) hlx HHR.out).mono ?_
      rw [HC.out]
      rintro e w1 ⟨rfl, hb1⟩
      have hr1 := hr0.below hb1 hr0.lt
      have hb01 := bext hb0 hb1
      go_wp2_with fail
      refine (HAA.out _ hb01).mono ?_
      rintro e w2 ⟨A2, c2, rfl, ho2, hb2⟩
      have hr2 := hr1.below hb2 hr1.lt
      have hc1 : w2.cell? ⟨w.heap.size, 0, none⟩ = some (.slice none 0 0) := hr2.cell 0
      have hf1 : w2.frozen? ⟨w.heap.size, 0, none⟩ = false := hr2.frozen 0
      clear ho2
      go_wp2
      refine bodyPost_ret (v := .tuple #[.agg #[.slice none 0 0], .int .i64 4]) (by simp [results, Tryd.results47, go_sem, hc1]) rfl ?_
      rw [HE3.out]
      exact gives_none ((bext hb01 hb2).setCell (p := ⟨w.heap.size, 0, none⟩) (Nat.le_refl _) _) HL3.out
    · have hE3 : mrgE Rs = 0 := by rw [HEq.out, if_neg hbig]
      have hL3 : mrgL Rs bare = laid (bareE bare O) := HLq.out hE3
      have HE3 := Lib.hid hE3
      have HL3 := Lib.hid hL3
      clear hE3 hL3
      go_enter Tryd.func47, Tryd.ntmps47
      go_wp2_with fail
      try rw [hW0]
      clear hW0
      refine (refCheck25_any B Rs c _ (hB.below hb0) hlx HHR.out).mono ?_
      rw [HC.out]
      rintro e w1 ⟨rfl, hb1⟩
      have hr1 := hr0.below hb1 hr0.lt
      have hb01 := bext hb0 hb1
      go_wp2_with fail
      refine (HAA.out _ hb01).mono ?_
      rintro e w2 ⟨A2, c2, rfl, ho2, hb2⟩
      have hr2 := hr1.below hb2 hr1.lt
      have hs2 := own_sl ho2
      have hb02 := bext hb01 hb2
      clear ho2
      cases bare with
      | false =>
        go_wp2_with fail
        refine (refLaid_any A2 O c2 _ hs2 (by omega)).mono ?_
        rintro e w3 ⟨A3, c3, rfl, ho3, hb3⟩
        have hr3 := hr2.below hb3 hr2.lt
        have hc1 : w3.cell? ⟨w.heap.size, 0, none⟩ = some (.slice none 0 0) := hr3.cell 0
        have hf1 : w3.frozen? ⟨w.heap.size, 0, none⟩ = false := hr3.frozen 0
        have HO3 := Lib.hid ho3
        have HLn := Lib.hid (laid_length (bareE false O))
        have hlw := hr2.lt
        clear ho3
        go_wp2
        refine bodyPost_ret (v := .tuple #[.agg #[.slice A3 O.length c3], .int .i64 0]) (by simp [results, Tryd.results47, go_sem, hc1]) rfl ?_
        rw [HE3.out, HL3.out]
        refine ⟨A3, c3, by rw [HLn.out]; rfl, ?_, (bext hb02 hb3).setCell (p := ⟨w.heap.size, 0, none⟩) (Nat.le_refl _) _⟩
        rw [HLn.out]
        refine own_far (own_mono HO3.out hb02.size) ?_ _
        intro e
        have := (HO3.out.lt _ e).1
        dsimp only at this
        omega
      | true =>
        go_wp2_with fail
        refine (refAlive25_any A2 O c2 _ hs2 (by omega)).mono ?_
        rintro e w4 ⟨A4, c4, rfl, ho4, hb4⟩
        have hr4 := hr2.below hb4 hr2.lt
        have hs4 := own_sl ho4
        have hb04 := bext hb02 hb4
        have hl4 : (liveE O).length ≤ 65536 := by have := live_le O; omega
        clear ho4
        go_wp2_with fail
        refine (refLaid_any A4 (liveE O) c4 _ hs4 hl4).mono ?_
        rintro e w3 ⟨A3, c3, rfl, ho3, hb3⟩
        have hr3 := hr4.below hb3 hr4.lt
        have hc1 : w3.cell? ⟨w.heap.size, 0, none⟩ = some (.slice none 0 0) := hr3.cell 0
        have hf1 : w3.frozen? ⟨w.heap.size, 0, none⟩ = false := hr3.frozen 0
        have HO3 := Lib.hid ho3
        have HLn := Lib.hid (laid_length (bareE true O))
        have hlw := hr4.lt
        clear ho3
        go_wp2
        refine bodyPost_ret (v := .tuple #[.agg #[.slice A3 (liveE O).length c3], .int .i64 0]) (by simp [results, Tryd.results47, go_sem, hc1]) rfl ?_
        rw [HE3.out, HL3.out]
        refine ⟨A3, c3, by rw [HLn.out]; rfl, ?_, (bext hb04 hb3).setCell (p := ⟨w.heap.size, 0, none⟩) (Nat.le_refl _) _⟩
        rw [HLn.out]
        refine own_far (own_mono HO3.out hb04.size) ?_ _
        intro e
        have := (HO3.out.lt _ e).1
        dsimp only at this
        omega
  · have h1 : (C != 0) = true := by simpa using h0
    have hE3 : mrgE Rs = C := by unfold mrgE; rw [HC.out, if_neg h0]
    have hL3 : mrgL Rs bare = [] := by unfold mrgL; rw [hE3, if_neg h0]
    have HE3 := Lib.hid hE3
    have HL3 := Lib.hid hL3
    have HHR := Lib.hid hrs
    clear hE3 hL3 h0 hrs
    go_enter Tryd.func47, Tryd.ntmps47
    go_wp2_with fail
    try rw [hW0]
    clear hW0
    refine (refCheck25_any B Rs c _ (hB.below hb0) hlx HHR.out).mono ?_
    rw [HC.out]
    rintro e w1 ⟨rfl, hb1⟩
    have hr1 := hr0.below hb1 hr0.lt
    have hc1 : w1.cell? ⟨w.heap.size, 0, none⟩ = some (.slice none 0 0) := hr1.cell 0
    have hf1 : w1.frozen? ⟨w.heap.size, 0, none⟩ = false := hr1.frozen 0
    go_wp2
    refine bodyPost_ret (v := .tuple #[.agg #[.slice none 0 0], .int .i64 C]) (by simp [results, Tryd.results47, go_sem, hc1]) rfl ?_
    rw [HE3.out]
    exact gives_none ((bext hb0 hb1).setCell (p := ⟨w.heap.size, 0, none⟩) (Nat.le_refl _) _) HL3.out
theorem GivesRun.re {t : TypeId} {m : List Ent} {e : Int} {w W : World} {r : Ending} {w' : World} (hb : Below w.heap.size w W) (h : GivesRun t m e W r w') : GivesRun t m e w r w' := by
  obtain ⟨A, c, h1, h2, h3⟩ := h
  exact ⟨A, c, h1, own_mono h2 hb.size, bext hb h3⟩
end Go.Proofs.YtokomclcgegfkaaDoor
