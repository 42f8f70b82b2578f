/- Contracts: shelfmarkref25.Two, kway.Two. -/
import Derived.Test.YtokomclcgegfkaaDoorKr
namespace Go.Proofs.YtokomclcgegfkaaDoor
open Go Go.RowKit
set_option maxRecDepth 100000
set_option maxHeartbeats 1000000 in
theorem two_any (A B : Option Addr) (a b : List Ent) (ca cb : Nat) (bare : Bool) (w : World) (hA : Sl w A (a.flatMap Ent.cells)) (hB : Sl w B (b.flatMap Ent.cells)) (hca : a.length ≤ ca) (hcb : b.length ≤ cb) (hma : ca ≤ maxLen) (hmb : cb ≤ maxLen)
    (hl : a.length + b.length ≤ 1099511627776) :
    Calls Tryd.prog 53 #[.agg #[.slice A a.length ca], .agg #[.slice B b.length cb], .bool bare] w (GivesRun 29 (mrgL [⟨a, A, ca⟩, ⟨b, B, cb⟩] bare) (mrgE [⟨a, A, ca⟩, ⟨b, B, cb⟩]) w) := by
  obtain ⟨W0, hW0⟩ : ∃ W0, ((w.alloc (.cells #[.slice A a.length ca] 24)).alloc (.cells #[.slice B b.length cb] 24)).alloc (.cells #[.slice none 0 0] 24) = W0 := ⟨_, rfl⟩
  have hb0 : Below w.heap.size w W0 := by rw [← hW0]; exact (((Below.refl _ _).alloc (Nat.le_refl _) _).alloc (by simp) _).alloc (by simp; omega) _
  have hs0 : W0.heap.size = w.heap.size + 3 := by rw [← hW0]; simp
  have bA : Blk W0 w.heap.size 24 #[.slice A a.length ca] := by rw [← hW0]; exact ((Blk.new _ _ _).alloc _).alloc _
  have bB : Blk W0 (w.heap.size + 1) 24 #[.slice B b.length cb] := by
    rw [← hW0]
    have := Blk.new (w.alloc (.cells #[.slice A a.length ca] 24)) 24 #[.slice B b.length cb]
    rw [World.size_alloc] at this
    exact this.alloc _
  have bR : Blk W0 (w.heap.size + 2) 24 #[.slice none 0 0] := by
    rw [← hW0]
    have := Blk.new ((w.alloc (.cells #[.slice A a.length ca] 24)).alloc (.cells #[.slice B b.length cb] 24)) 24 #[.slice none 0 0]
    rwa [World.size_alloc, World.size_alloc] at this
  have cA : W0.cell? ⟨w.heap.size, 0, none⟩ = some (.slice A a.length ca) := bA.cell 0
  have cB : W0.cell? ⟨w.heap.size + 1, 0, none⟩ = some (.slice B b.length cb) := bB.cell 0
  obtain ⟨W1, hW1⟩ : ∃ W1, W0.alloc (.cells #[.slice A a.length ca, .slice B b.length cb] 24) = W1 := ⟨_, rfl⟩
  have hb1 : Below W0.heap.size W0 W1 := by rw [← hW1]; exact (Below.refl _ _).alloc (Nat.le_refl _) _
  have bS : Blk W1 W0.heap.size 24 #[.slice A a.length ca, .slice B b.length cb] := by rw [← hW1]; exact Blk.new _ _ _
  have hR : RunsAt W1 (some ⟨W0.heap.size, 0, none⟩) [⟨a, A, ca⟩, ⟨b, B, cb⟩] := by
    refine ⟨bS.sl 0 _ (by intro j u hu; simpa [Rm.v] using hu), ?_⟩
    intro r hr
    simp at hr
    rcases hr with rfl | rfl
    · exact ⟨hA.below (bext hb0 hb1), hca, hma⟩
    · exact ⟨hB.below (bext hb0 hb1), hcb, hmb⟩
  have HR := Lib.hid hR
  have HB := Lib.hid (bR.below hb1 bR.lt)
  have hb01 := bext hb0 hb1
  have hlr : ∀ r ∈ ([⟨a, A, ca⟩, ⟨b, B, cb⟩] : List Rm), r.l.length ≤ 4611686018427387903 := by
    intro r hr
    simp at hr
    rcases hr with rfl | rfl <;> dsimp only <;> omega
  have HLR := Lib.hid hlr
  have HS0 := Lib.hid hs0
  clear hR hlr hs0 bA bB bR bS
  obtain ⟨M, hM⟩ : ∃ M, mrgL [⟨a, A, ca⟩, ⟨b, B, cb⟩] bare = M := ⟨_, rfl⟩
  obtain ⟨E, hE⟩ : ∃ E, mrgE [⟨a, A, ca⟩, ⟨b, B, cb⟩] = E := ⟨_, rfl⟩
  rw [hM, hE]
  have HM := Lib.hid hM
  have HE := Lib.hid hE
  clear hM hE
  go_enter Tryd.func53, Tryd.ntmps53
  go_wp2_with fail
  try rw [hW0]
  try rw [hW1]
  clear hW0 hW1 cA cB
  refine (merge_any (some ⟨W0.heap.size, 0, none⟩) [⟨a, A, ca⟩, ⟨b, B, cb⟩] 2 (a.length + b.length) bare W1 HR.out (by simp) HLR.out (by simp) hl).mono ?_
  rw [HM.out, HE.out]
  rintro e w1 ⟨A1, c1, rfl, ho1, hb2⟩
  have hr1 := HB.out.below hb2 HB.out.lt
  have hc1 : w1.cell? ⟨w.heap.size + 2, 0, none⟩ = some (.slice none 0 0) := hr1.cell 0
  have hf1 : w1.frozen? ⟨w.heap.size + 2, 0, none⟩ = false := hr1.frozen 0
  have HO1 := Lib.hid ho1
  have hlw := HB.out.lt
  clear ho1 hr1
  go_wp2
  refine bodyPost_ret (v := .tuple #[.agg #[.slice A1 M.length c1], .int .i64 E]) (by simp [results, Tryd.results53, go_sem, hc1]) rfl ?_
  refine ⟨A1, c1, rfl, own_far (own_mono HO1.out hb01.size) ?_ _, (bext hb01 hb2).setCell (p := ⟨w.heap.size + 2, 0, none⟩) (by simp) _⟩
  intro e
  have := (HO1.out.lt _ e).1
  dsimp only at this
  omega
theorem inS_of (Rs : List Rm) : inS Rs = (Rs.map Rm.l).map inL := by unfold inS; rw [List.map_map]; rfl
theorem mrgE_congr {Rs Ss : List Rm} (h : Rs.map Rm.l = Ss.map Rm.l) : mrgE Rs = mrgE Ss := by unfold mrgE; rw [inS_of, inS_of, h]
theorem mrgL_congr {Rs Ss : List Rm} (h : Rs.map Rm.l = Ss.map Rm.l) (bare : Bool) : mrgL Rs bare = mrgL Ss bare := by unfold mrgL; rw [mrgE_congr h, inS_of, inS_of, h]
theorem mrg_len {Rs : List Rm} {T : Nat} (bare : Bool) (hT : (Rs.map (fun r => r.l.length)).sum ≤ T) : (mrgL Rs bare).length ≤ T := by
  unfold mrgL
  split
  · rw [laid_length]
    have h1 := fold_len (inS Rs) []
    rw [inS_sum] at h1
    have h2 : (allE (inS Rs)).length ≤ T := by unfold allE; simp at h1; omega
    unfold bareE
    split
    · have := live_le (allE (inS Rs)); omega
    · exact h2
  · exact Nat.zero_le _
end Go.Proofs.YtokomclcgegfkaaDoor
