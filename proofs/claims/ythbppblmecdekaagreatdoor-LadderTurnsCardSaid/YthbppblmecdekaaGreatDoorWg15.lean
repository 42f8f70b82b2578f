/- Hn Hc Gw: texts of the claim, in this order. -/
import Derived.Test.YthbppblmecdekaaGreatDoorWg13
import Derived.Test.YthbppblmecdekaaGreatDoorWg14
import Derived.Test.YthbppblmecdekaaGreatDoorWg9
import Derived.Test.YthbppblmecdekaaGreatDoorWg8
import Derived.Deep.LoopGhost
import Derived.Deep.CutBlock
import Derived.Deep.RegionWith
import Derived.Test.YthbppblmecdekaaGreatDoorWg12
import Derived.Deep.RegionLaw
/- Contract: an entry is let in, by the reference (In). -/
namespace Go.Proofs.YthbppblmecdekaaGreatDoor
open Go Go.RowKit
set_option maxRecDepth 100000
theorem OwnRs.setFar' {w : World} {B0 g : Nat} {B : Option Addr} {c : Nat} {Rs : List Rm} {cs : Array Value} (h : OwnRs w B0 B c Rs) (hB : Blk w g 74 cs) (hne : ∀ q, B = some q → q.block ≠ g) (i : Nat) (u : Value) : OwnRs (w.setCell ⟨g, i, none⟩ u) B0 B c Rs :=
  ⟨own_far (p := ⟨g, i, none⟩) h.row (by
    cases B with
    | none => simp [Value.ownBlock]
    | some q => have := hne q rfl; simp [Value.ownBlock]; exact this) u, fun r hr => own_setT hB (h.ent r hr) (by decide) i u⟩
theorem own_form2d {w : World} {B n c s : Nat} {e : TypeId} {A : Option Addr} {xs : List Value} (h : w.ownsRow B e s (.slice A n c) n xs) : n ≤ c ∧ c ≤ maxLen := by
  obtain ⟨A', c', h4, h5, h6⟩ := own_form h
  obtain ⟨rfl, rfl⟩ : A = A' ∧ c = c' := by simpa using h4
  exact ⟨h5, h6⟩
/-- what stands at the loop's head -/
structure InQ (w : World) (L0 : Lv × List Ent × Int) (gk : Nat) (Rs2 : List Rm) (B2 : Option Addr) (c2 : Nat) (n2 : Int) (A : Option Addr) (l : List Ent) (cl g6 : Nat) (wr : World) : Prop where
  hb : Below w.heap.size w wr
  b2 : Blk wr w.heap.size 27 #[.slice B2 Rs2.length c2, .int .u64 n2]
  b4 : Blk wr (w.heap.size + 1 + 1) 27 #[.slice none 0 0, .int .u64 0]
  b6 : Blk wr g6 74 #[.slice A l.length cl]
  own : OwnRs wr (w.heap.size + 3) B2 c2 Rs2
  ownA : wr.ownsRow (w.heap.size + 3) 71 3 (.slice A l.length cl) l.length (l.flatMap Ent.cells)
  ne6 : ∀ q, B2 = some q → q.block ≠ g6
  climbs : Climbs (lvs Rs2) l
  eq : climb (lvs Rs2) l n2 = L0
  len : Rs2.length ≤ 17
  ghost : gk = cnt (lvs Rs2)
theorem InQ.below {w : World} {L0 : Lv × List Ent × Int} {gk : Nat} {Rs2 : List Rm} {B2 : Option Addr} {c2 : Nat} {n2 : Int} {A : Option Addr} {l : List Ent} {cl g6 : Nat} {wr wx : World} (h : InQ w L0 gk Rs2 B2 c2 n2 A l cl g6 wr) (hb : Below wr.heap.size wr wx) : InQ w L0 gk Rs2 B2 c2 n2 A l cl g6 wx :=
  ⟨bext h.hb hb, h.b2.below hb h.b2.lt, h.b4.below hb h.b4.lt, h.b6.below hb h.b6.lt, h.own.below hb, own_below h.ownA hb, h.ne6, h.climbs, h.eq, h.len, h.ghost⟩
set_option maxHeartbeats 16000000 in
theorem in26_any (B : Option Addr) (Rs : List Rm) (c : Nat) (n : Int) (y : Ent) (w : World) (hB : RunsAt w B Rs) (hM : May (lvs Rs)) (hy : badEnt y = false) (ht : tot (lvs Rs) ≠ 65536) (hn : 0 ≤ n ∧ n ≤ 18446744073709551615) :
    Calls Tryz.prog 137 #[.agg #[.slice B Rs.length c, .int .u64 n], .agg #[.int .i64 y.key, .int .i64 y.val, .bool y.dead]] w (GivesRg (slimL (letL (lvs Rs) n y)) (slimN (letL (lvs Rs) n y) (letN (lvs Rs) n y)) w) := by
  have hl17 : Rs.length ≤ 17 := by have := hM.len; rwa [lvs_len] at this
  have hrs6 : ∀ r ∈ Rs, r.l.length ≤ 1000000 := fun r hr => by
    have h1 := le_sum (List.mem_map.2 ⟨r.l, List.mem_map.2 ⟨r, hr, rfl⟩, rfl⟩ : r.l.length ∈ ((lvs Rs).map List.length))
    have h2 := hM.size
    unfold tot at h2
    omega
  obtain ⟨W0, hW0⟩ : ∃ W0, ((w.alloc (.cells #[.slice B Rs.length c, .int .u64 n] 27)).alloc (.cells #[.int .i64 y.key, .int .i64 y.val, .bool y.dead] 71)).alloc (.cells #[.slice none 0 0, .int .u64 0] 27) = W0 := ⟨_, rfl⟩
  have hb0 : Below w.heap.size w W0 := by rw [← hW0]; exact (((Below.refl _ _).alloc (Nat.le_refl _) _).alloc (by simp) _).alloc (by simp; omega) _
  have hs0 : W0.heap.size = w.heap.size + 3 := by rw [← hW0]; simp
  have b20 : Blk W0 w.heap.size 27 #[.slice B Rs.length c, .int .u64 n] := by rw [← hW0]; exact ((Blk.new _ _ _).alloc _).alloc _
  have b30 : Blk W0 (w.heap.size + 1) 71 #[.int .i64 y.key, .int .i64 y.val, .bool y.dead] := by
    rw [← hW0]
    have := Blk.new (w.alloc (.cells #[.slice B Rs.length c, .int .u64 n] 27)) 71 #[.int .i64 y.key, .int .i64 y.val, .bool y.dead]
    rw [World.size_alloc] at this
    exact this.alloc _
  have b40 : Blk W0 (w.heap.size + 1 + 1) 27 #[.slice none 0 0, .int .u64 0] := by
    rw [← hW0]
    have := Blk.new ((w.alloc (.cells #[.slice B Rs.length c, .int .u64 n] 27)).alloc (.cells #[.int .i64 y.key, .int .i64 y.val, .bool y.dead] 71)) 27 #[.slice none 0 0, .int .u64 0]
    rwa [World.size_alloc, World.size_alloc] at this
  have HW0 := Lib.hid hW0
  have HB := Lib.hid (hB.below hb0)
  have HHR := Lib.hid hrs6
  have HM := Lib.hid hM
  have HY := Lib.hid hy
  have HT := Lib.hid ht
  have HNR := Lib.hid hn
  obtain ⟨L0, hL0⟩ : ∃ L0, climbE (lvs Rs) n y = L0 := ⟨_, rfl⟩
  have HL0 := Lib.hid hL0
  clear hL0 hn
  clear hW0 hB hrs6 hM hy ht
  go_enter Tryz.func137, Tryz.ntmps137
  go_wp2_with fail
  rw [HW0.out]
  refine (twin26_any B Rs c n _ HB.out (by omega) HHR.out).mono ?_
  rintro e w1 ⟨B1, c1, Rs1, rfl, hl1, ho1, hb1⟩
  have b21 := b20.below hb1 b20.lt
  have b31 := b30.below hb1 b30.lt
  have b41 := b40.below hb1 b40.lt
  have c20 : w1.cell? ⟨w.heap.size, 0, none⟩ = some (.slice B Rs.length c) := b21.cell 0
  have c21 : w1.cell? ⟨w.heap.size, 1, none⟩ = some (.int .u64 n) := b21.cell 1
  have f20 := b21.frozen 0
  have f21 := b21.frozen 1
  have l21 := b21.lt
  obtain ⟨N, hN⟩ : ∃ N, Rs1.length = N := ⟨_, rfl⟩
  have hb01 := bext hb0 hb1
  have hs1 := hb1.size
  rw [hN]
  obtain ⟨W1, hW1⟩ : ∃ W1, (w1.setCell ⟨w.heap.size, 0, none⟩ (.slice B1 N c1)).setCell ⟨w.heap.size, 1, none⟩ (.int .u64 n) = W1 := ⟨_, rfl⟩
  have hsW1 : W1.heap.size = w1.heap.size := by rw [← hW1]; simp [World.setCell]
  have hbW1 : Below w.heap.size w W1 := by rw [← hW1]; exact below2 hb01 (Nat.le_refl _) _ _
  have b22 : Blk W1 w.heap.size 27 #[.slice B1 N c1, .int .u64 n] := by rw [← hW1]; exact box2 b21 _ _
  have b32 : Blk W1 (w.heap.size + 1) 71 #[.int .i64 y.key, .int .i64 y.val, .bool y.dead] := by rw [← hW1]; exact (b31.far (p := ⟨w.heap.size, 0, none⟩) (by simp) _).far (p := ⟨w.heap.size, 1, none⟩) (by simp) _
  have b42 : Blk W1 (w.heap.size + 1 + 1) 27 #[.slice none 0 0, .int .u64 0] := by rw [← hW1]; exact (b41.far (p := ⟨w.heap.size, 0, none⟩) (by show w.heap.size + 1 + 1 ≠ w.heap.size; omega) _).far (p := ⟨w.heap.size, 1, none⟩) (by show w.heap.size + 1 + 1 ≠ w.heap.size; omega) _
  have hO1 : OwnRs W1 (w.heap.size + 3) B1 c1 Rs1 := by rw [← hW1]; exact (ho1.mono (by omega)).set2 b21 (by decide) (by decide) _ _
  have hL1 : Hid (lvs Rs1 = lvs Rs) := hl1
  have hN17 : N ≤ 17 := by rw [← hN, rs_len hl1, lvs_len]; exact hl17
  have HN := Lib.hid hN
  have HO1 := Lib.hid hO1
  have HW1 := Lib.hid hW1
  have hs1W : w.heap.size + 3 ≤ W1.heap.size := by omega
  clear hsW1 hl1 ho1 hb1 hb01 hN hO1 hW1 b21 b31 b41 b20 b30 b40
  go_upto_region 2 with fail
  rw [HW1.out]
  clear c20 c21 f20 f21
  have d0 : W1.cell? ⟨w.heap.size + 1, 0, none⟩ = some (.int .i64 y.key) := b32.cell 0
  have d1 : W1.cell? ⟨w.heap.size + 1, 1, none⟩ = some (.int .i64 y.val) := b32.cell 1
  have d2 : W1.cell? ⟨w.heap.size + 1, 2, none⟩ = some (.bool y.dead) := b32.cell 2
  have l33 := b32.lt
  obtain ⟨W3, hW3⟩ : ∃ W3, (W1.alloc (.cells #[.int .i64 y.key, .int .i64 y.val, .bool y.dead] 71)).alloc (.cells #[.slice (some ⟨W1.heap.size, 0, none⟩) 1 1] 74) = W3 := ⟨_, rfl⟩
  have hsz3 : W3.heap.size = W1.heap.size + 2 := by rw [← hW3]; simp
  have hb3 : Below W1.heap.size W1 W3 := by rw [← hW3]; exact ((Below.refl _ _).alloc (Nat.le_refl _) _).alloc (by simp) _
  have be3 : Blk W3 W1.heap.size 71 #[.int .i64 y.key, .int .i64 y.val, .bool y.dead] := by rw [← hW3]; exact (Blk.new _ _ _).alloc _
  have b63 : Blk W3 (W1.heap.size + 1) 74 #[.slice (some ⟨W1.heap.size, 0, none⟩) 1 1] := by
    rw [← hW3]
    have := Blk.new (W1.alloc (.cells #[.int .i64 y.key, .int .i64 y.val, .bool y.dead] 71)) 74 #[.slice (some ⟨W1.heap.size, 0, none⟩) 1 1]
    rwa [World.size_alloc] at this
  have b24 := b22.below hb3 b22.lt
  have b34 := b32.below hb3 b32.lt
  have b44 := b42.below hb3 b42.lt
  have HO3 := Lib.hid (HO1.out.below hb3)
  have HB3 := Lib.hid (bext hbW1 hb3)
  have hneB : Hid (∀ q, B1 = some q → q.block ≠ W1.heap.size + 1) := fun q hq => by
    have h1 := (HO1.out.row.lt q.block (by rw [hq]; simp [Value.ownBlock])).2
    omega
  have HW3 := Lib.hid hW3
  clear hW3 hb3
  go_upto_region 3 with fail
  rw [HW3.out]
  clear d0 d1 d2
  have d2 : W3.cell? ⟨w.heap.size + 1, 2, none⟩ = some (.bool y.dead) := b34.cell 2
  have c20 : W3.cell? ⟨w.heap.size, 0, none⟩ = some (.slice B1 N c1) := b24.cell 0
  have c21 : W3.cell? ⟨w.heap.size, 1, none⟩ = some (.int .u64 n) := b24.cell 1
  have c60 : W3.cell? ⟨W1.heap.size + 1, 0, none⟩ = some (.slice (some ⟨W1.heap.size, 0, none⟩) 1 1) := b63.cell 0
  have f60 := b63.frozen 0
  have f21 := b24.frozen 1
  have l63 := b63.lt
  have l24 := b24.lt
  have h2s : w.heap.size ≠ W1.heap.size + 1 := by have := hbW1.size; omega
  obtain ⟨D, hD⟩ : ∃ D : Bool, decide (y.dead = true ∧ N = 0) = D := ⟨_, rfl⟩
  have HD := Lib.hid hD
  have HB63 := Lib.hid b63
  have HB24 := Lib.hid b24
  have HB44 := Lib.hid b44
  have HBE3 := Lib.hid be3
  clear hD b63 b24 b44 be3 b22 b32 b42
  go_cut [21] from 14 to 21 (fun v wx => v = .bool D ∧ wx = W3)
  case first =>
    by_cases hd : y.dead = true
    · rw [hd] at d2
      by_cases h0 : N = 0
      · have hDt : true = D := by rw [← HD.out]; exact (decide_eq_true ⟨hd, h0⟩).symm
        have HDT := Lib.hid hDt
        have g0 : ((N : Int) = 0) := by omega
        clear hd hDt h0
        go_wp2
        go_meet
        exact ⟨by first | (rw [← HDT.out]; done) | (rw [← HDT.out]; rfl) | (rw [← HDT.out]; simp; omega), by first | trivial | rfl⟩
      · have hDt : false = D := by rw [← HD.out]; exact (decide_eq_false (fun h => h0 h.2)).symm
        have HDT := Lib.hid hDt
        have g0 : ¬ ((N : Int) = 0) := by omega
        clear hd hDt
        go_wp2
        go_meet
        exact ⟨by first | (rw [← HDT.out]; done) | (rw [← HDT.out]; rfl) | (rw [← HDT.out]; simp; omega), by first | trivial | rfl⟩
    · have hDt : false = D := by rw [← HD.out]; exact (decide_eq_false (fun h => hd h.1)).symm
      have HDT := Lib.hid hDt
      rw [show y.dead = false by simpa using hd] at d2
      clear hd hDt
      go_wp2
      go_meet
      exact ⟨by first | (rw [← HDT.out]; done) | (rw [← HDT.out]; rfl) | (rw [← HDT.out]; simp), by first | trivial | rfl⟩
  case rest =>
  obtain ⟨rfl, rfl⟩ := hcut
  clear d2
  go_upto_if 21 with fail
  go_cut [] from 22 to 22 (fun wx => ∃ (A : Option Addr) (l : List Ent) (cl : Nat), l.length ≤ 1 ∧ Hid (InQ w (climb (lvs Rs1) l n) (cnt (lvs Rs1)) Rs1 B1 c1 n A l cl (W1.heap.size + 1) wx ∧ climb (lvs Rs1) l (IntKind.u64.wrap (n + l.length)) = L0))
  case first =>
    have hcl := HM.out.climbs HY.out HT.out
    cases D with
    | true =>
      obtain ⟨hd, h0⟩ := of_decide_eq_true HD.out
      have HDD := Lib.hid hd
      have hnil : lvs Rs = [] := by rw [← hL1.out]; exact List.eq_nil_of_length_eq_zero (by rw [lvs_len, HN.out, h0])
      have HNIL := Lib.hid hnil
      clear hd h0 hnil hcl
      go_wp2
      go_meet
      refine ⟨none, [], 0, by simp, ⟨HB3.out.setCell (p := ⟨W1.heap.size + 1, 0, none⟩) (by show w.heap.size ≤ W1.heap.size + 1; omega) _, ?_, HB44.out.far (p := ⟨W1.heap.size + 1, 0, none⟩) (by show w.heap.size + 1 + 1 ≠ W1.heap.size + 1; omega) _, ?_, HO3.out.setFar' HB63.out hneB.out 0 _, World.ownsRow_nil _ _ _ _, hneB.out, ?_, rfl, by rw [HN.out]; exact hN17, rfl⟩, ?_⟩
      · rw [HN.out]; exact HB24.out.far (p := ⟨W1.heap.size + 1, 0, none⟩) h2s _
      · simpa using HB63.out.set_ 0 (.slice none 0 0)
      · rw [hL1.out]; exact ⟨HM.out.chk, chk_nil, by have := HM.out.size; simpa using this, HM.out.stood⟩
      · rw [hL1.out, climb_end (.inl rfl), ← HL0.out]
        unfold climbE
        rw [if_pos ⟨HDD.out, HNIL.out⟩]
        have h1 : IntKind.u64.wrap (n + ((([] : List Ent).length : Nat) : Int)) = n := by
          show IntKind.u64.wrap (n + 0) = n
          rw [Int.add_zero]
          exact IntWalk.u64_in n HNR.out
        rw [h1]
    | false =>
      have hnd : ¬ (y.dead = true ∧ lvs Rs = []) := by
        intro h
        refine absurd HD.out ?_
        rw [decide_eq_true]
        · simp
        · refine ⟨h.1, ?_⟩
          have h2 := h.2
          rw [← hL1.out] at h2
          have h3 := congrArg List.length h2
          rw [lvs_len, HN.out] at h3
          exact h3
      have HND := Lib.hid hnd
      have HCL := Lib.hid hcl
      clear hnd hcl
      go_wp2
      go_meet
      refine ⟨some ⟨W1.heap.size, 0, none⟩, [y], 1, by simp, ⟨HB3.out, by rw [HN.out]; exact HB24.out, HB44.out, HB63.out, HO3.out, ?_, hneB.out, ?_, rfl, by rw [HN.out]; exact hN17, rfl⟩, ?_⟩
      · exact ⟨rfl, .inr ⟨W1.heap.size, 1, _, rfl, by omega, HBE3.out, Nat.le_refl _, by unfold maxLen; omega, rfl, rfl⟩⟩
      · rw [hL1.out]; exact HCL.out
      · rw [hL1.out, ← HL0.out]
        unfold climbE
        rw [if_neg HND.out]
        rfl
  case rest =>
  obtain ⟨A0, l0, cl0, hl01, hQ⟩ := hcut
  clear c20 c21 c60 f60 f21 l63 l24
  go_upto_region 5 with fail
  have hq2 := hQ.out.1.b2
  have hq6 := hQ.out.1.b6
  have c20 : wc.cell? ⟨w.heap.size, 0, none⟩ = some (.slice B1 N c1) := by rw [← HN.out]; exact hq2.cell 0
  have c21 : wc.cell? ⟨w.heap.size, 1, none⟩ = some (.int .u64 n) := hq2.cell 1
  have f21 := hq2.frozen 1
  have c60 : wc.cell? ⟨W1.heap.size + 1, 0, none⟩ = some (.slice A0 l0.length cl0) := hq6.cell 0
  have hcv : IntKind.u64.wrap (l0.length : Int) = (l0.length : Int) := IntWalk.u64_in _ (by omega)
  have l24 := hq2.lt
  have HQ2 := Lib.hid hq2
  clear hq2 hq6
  have hs66 : w.heap.size + 3 ≤ W1.heap.size + 1 := by omega
  obtain ⟨G6, hG6⟩ : ∃ G6, W1.heap.size + 1 = G6 := ⟨_, rfl⟩
  rw [hG6] at h2s hs66 c60 hQ ⊢
  have hQo := hQ.out
  have HQ1 : Hid (InQ w L0 (cnt (lvs Rs1)) Rs1 B1 c1 (IntKind.u64.wrap (n + l0.length)) A0 l0 cl0 G6 (wc.setCell ⟨w.heap.size, 1, none⟩ (.int .u64 (IntKind.u64.wrap (n + l0.length))))) :=
    ⟨hQo.1.hb.setCell (p := ⟨w.heap.size, 1, none⟩) (Nat.le_refl _) _, by simpa using HQ2.out.set_ 1 (.int .u64 (IntKind.u64.wrap (n + l0.length))), hQo.1.b4.far (p := ⟨w.heap.size, 1, none⟩) (by show w.heap.size + 1 + 1 ≠ w.heap.size; omega) _, hQo.1.b6.far (p := ⟨w.heap.size, 1, none⟩) h2s.symm _, hQo.1.own.setT HQ2.out (by decide) (by decide) 1 _, own_setT HQ2.out hQo.1.ownA (by decide) 1 _, hQo.1.ne6, hQo.1.climbs, hQo.2, hQo.1.len, rfl⟩
  have H2S := Lib.hid h2s
  clear hQo hG6 h2s
  go_upto_block 0 with fail
  obtain ⟨W5, hW5⟩ : ∃ W5, wc.setCell ⟨w.heap.size, 1, none⟩ (.int .u64 (IntKind.u64.wrap (n + l0.length))) = W5 := ⟨_, rfl⟩
  rw [hW5] at HQ1 ⊢
  clear hW5 c20 c21 f21 c60 hcv l24 HQ2 hQ
  go_cut [] from 6 to 83 (fun wx => ∃ (Rs3 : List Rm) (B3 : Option Addr) (c3 : Nat) (n3 : Int) (A3 : Option Addr) (l3 : List Ent) (cl3 : Nat), InQ w L0 (cnt (lvs Rs3)) Rs3 B3 c3 n3 A3 l3 cl3 G6 wx ∧ (l3 = [] ∨ lev (lvs Rs3) (up l3.length) = []))
  case first =>
    go_wp2
    go_loopg [] (cnt (lvs Rs1)) (fun gk wr => ∃ (Rs2 : List Rm) (B2 : Option Addr) (c2 : Nat) (n2 : Int) (A : Option Addr) (l : List Ent) (cl : Nat), InQ w L0 gk Rs2 B2 c2 n2 A l cl G6 wr)
    case atStart => exact ⟨Rs1, B1, c1, _, A0, l0, cl0, HQ1.out⟩
    case round =>
      clear HQ1 HM HY HT HL0 HNR HB HHR HW0 HO1 HW1 HO3 HB3 hneB HW3 HD HB63 HB24 HB44 HBE3 hb0 hs0
      obtain ⟨Rs2, B2, c2, n2, A, l, cl, hI⟩ := hrel
      have HI := Lib.hid hI
      have hll : l.length ≤ 65536 := chk_len hI.climbs.run
      have HL6 := Lib.hid hll
      obtain ⟨N2, hN2⟩ : ∃ N2, Rs2.length = N2 := ⟨_, rfl⟩
      have hN217 : N2 ≤ 17 := by rw [← hN2]; exact hI.len
      have c60 : wr.cell? ⟨G6, 0, none⟩ = some (.slice A l.length cl) := hI.b6.cell 0
      have c20 : wr.cell? ⟨w.heap.size, 0, none⟩ = some (.slice B2 N2 c2) := by rw [← hN2]; exact hI.b2.cell 0
      have c21 : wr.cell? ⟨w.heap.size, 1, none⟩ = some (.int .u64 n2) := hI.b2.cell 1
      have HN2 := Lib.hid hN2
      have hgk := hI.ghost
      clear hI hN2
      subst hgk
      by_cases hl0 : l.length = 0
      · have hnil : l = [] := List.eq_nil_of_length_eq_zero hl0
        have HNIL := Lib.hid hnil
        have g1 : ¬ (0 : Int) < (l.length : Int) := by omega
        clear hnil hl0
        go_wp2
        go_meet
        exact ⟨Rs2, B2, c2, n2, A, l, cl, HI.out, .inl HNIL.out⟩
      · have hne : ¬ l = [] := by intro h; apply hl0; rw [h]; rfl
        have hlp : 0 < l.length := by omega
        have hlpi : (0 : Int) < (l.length : Int) := by omega
        have HLP := Lib.hid hlp
        have HNE := Lib.hid hne
        obtain ⟨U, hU⟩ : ∃ U, up l.length = U := ⟨_, rfl⟩
        have hU16 : U ≤ 16 := by rw [← hU]; exact up_16 hll
        have HU := Lib.hid hU
        clear hU hl0 hlp
        go_wp2_with fail
        refine (ceil_any l.length _ HLP.out HL6.out).mono ?_
        rw [HU.out]
        rintro e w2 ⟨rfl, hw2⟩
        rw [hw2]
        clear hw2
        have i0 : (0 : Int) ≤ (U : Int) := by omega
        by_cases hUN : U < N2
        case neg =>
          have g1 : (N2 : Int) ≤ (U : Int) := by omega
          have hlv : lev (lvs Rs2) U = [] := lev_ge (by rw [lvs_len, HN2.out]; omega)
          have HLV := Lib.hid hlv
          clear hlv hUN hne
          go_wp2
          go_meet
          exact ⟨Rs2, B2, c2, n2, A, l, cl, HI.out, .inr (by rw [HU.out]; exact HLV.out)⟩
        case pos =>
        have g1 : ¬ (N2 : Int) ≤ (U : Int) := by omega
        have i1 : (U : Int) < (N2 : Int) := by omega
        have hUN2 : U < Rs2.length := by rw [HN2.out]; exact hUN
        obtain ⟨gB, cur, rfl, hgB, bB, hcs, hcell⟩ := HI.out.own.at (by omega)
        have hr2 := hcell U hUN2
        obtain ⟨r2, hr2e⟩ : ∃ r2, Rs2[U]'hUN2 = r2 := ⟨_, rfl⟩
        have hlv2 := lvs_lev hUN2
        have hown2 := HI.out.own.ent _ (List.getElem_mem hUN2)
        rw [hr2e] at hr2 hlv2 hown2
        obtain ⟨l2, A2, cl2⟩ := r2
        dsimp only at hlv2
        have cB : wr.cell? ⟨gB, U, none⟩ = some (.slice A2 l2.length cl2) := hr2
        have HLV2 := Lib.hid hlv2
        have HOW2 := Lib.hid hown2
        have HBB := Lib.hid bB
        have HCB := Lib.hid cB
        have HUN2 := Lib.hid hUN2
        clear hr2 hr2e hlv2 hown2 bB hcs hcell hUN2 hne
        by_cases hl2 : l2.length = 0
        case pos =>
          have hnil : l2 = [] := List.eq_nil_of_length_eq_zero hl2
          have HLV : Hid (lev (lvs Rs2) U = []) := by show _ = _; rw [HLV2.out, hnil]
          have g2 : ((l2.length : Int) = 0) := by omega
          clear hnil
          rw [hl2] at cB
          clear g2 hl2
          go_wp2
          go_meet
          exact ⟨Rs2, _, c2, n2, A, l, cl, HI.out, .inr (by rw [HU.out]; exact HLV.out)⟩
        case neg =>
        have g2 : ¬ ((l2.length : Int) = 0) := by omega
        have hne2 : ¬ l2 = [] := by intro h; apply hl2; rw [h]; rfl
        have HNE2 := Lib.hid hne2
        have g3 : ((l2.length : Int) == 0) = false := beq_eq_false_iff_ne.2 g2
        clear hl2
        go_upto_region 9 with fail
        clear g1 g2 g3 hlpi hne2
        have hlt2 : l2.length ≤ 65536 := by
          have h1 := HI.out.climbs.size
          have h2 := tot_lev (lvs Rs2) U
          rw [HLV2.out] at h2
          omega
        have hsum : l.length + l2.length ≤ 65536 := by
          have h1 := HI.out.climbs.size
          have h2 := tot_lev (lvs Rs2) U
          rw [HLV2.out] at h2
          omega
        obtain ⟨LB, hLB⟩ : ∃ LB, bothE (inL l) (inL l2) = LB := ⟨_, rfl⟩
        have hLBn : LB.length ≤ 65536 := by
          have := bothE_len _ (inL l) (inL l2) (Nat.le_refl _)
          rw [hLB, inL_length, inL_length] at this
          omega
        have hbt := fun (A5 A6 : Option Addr) (c5 c6 : Nat) (W : World) (h5 : Sl W A5 ((inL l).flatMap Ent.cells)) (h6 : Sl W A6 ((inL l2).flatMap Ent.cells)) => both_any A5 A6 (inL l) (inL l2) c5 c6 W h5 h6 (by rw [inL_length, inL_length]; omega)
        rw [hLB] at hbt
        simp only [inL_length] at hbt
        have HBT := Lib.hid hbt
        have HLB := Lib.hid hLB
        have lt6 := HI.out.b6.lt
        have lt2 := HI.out.b2.lt
        have ltB := HBB.out.lt
        clear hbt hLB
        obtain ⟨n8, hn8⟩ : ∃ n8, LB.length = n8 := ⟨_, rfl⟩
        have HN8 := Lib.hid hn8
        go_cut [7] from 31 to 62 (fun v wx => ∃ A8 c8, v = .slice A8 n8 c8 ∧ Hid (wx.ownsRow wr.heap.size 71 3 (.slice A8 n8 c8) n8 (LB.flatMap Ent.cells) ∧ Below wr.heap.size wr wx))
        case first =>
          go_region_held3 (fun w' => (∀ b o, b < wr.heap.size → w'.cell? ⟨b, o, none⟩ = wr.cell? ⟨b, o, none⟩) ∧ (∀ b o, b < wr.heap.size → w'.frozen? ⟨b, o, none⟩ = wr.frozen? ⟨b, o, none⟩) ∧ wr.heap.size ≤ w'.heap.size ∧ Below wr.heap.size wr w')
            (with_reducible first | exact SB.init | exact SB.init0 | exact SB.alloc _ (by assumption) | exact SB.allocD _ (by assumption) | exact SB.below (by assumption) (by assumption) | assumption)
            (first
              | (go_at_call_of 131 (Value.slice A l.length cl); refine (refIn_any A l cl _ ((own_sl HI.out.ownA).below (SB.bel (by assumption))) HL6.out).mono ?_; rintro e w5 ⟨A5, c5, rfl, h51, hb5⟩; have H51 := Lib.hid h51; clear h51)
              | (go_at_call_of 131 (Value.slice A2 l2.length cl2); refine (refIn_any A2 l2 cl2 _ ((own_sl HOW2.out).below (SB.bel (by assumption))) hlt2).mono ?_; rintro e w6 ⟨A6, c6, rfl, h61, hb6⟩; have H61 := Lib.hid h61; clear h61)
              | (go_at_call 153; refine (HBT.out A5 A6 c5 c6 _ (by first | exact own_sl H51.out | exact (own_sl H51.out).below (by assumption)) (by first | exact own_sl H61.out | exact (own_sl H61.out).below (by assumption))).mono ?_; rintro e w8 ⟨A8, c8, rfl, h81, hb8⟩; have H81 := Lib.hid h81; clear h81)
              | fail "no arm")
          all_goals
            have hz := SB.bel (W := w8) (by assumption)
            have hsz : wr.heap.size ≤ w8.heap.size := hz.size
            go_wp2_with fail
            go_meet
            exact ⟨A8, c8, by first | rfl | rw [HN8.out], by have h := H81.out; rw [HN8.out] at h; exact own_mono h (by have e1 := hb5.size; have e2 := hb6.size; have e3 : wr.drew.heap.size = wr.heap.size := rfl; omega), hz⟩
        case rest =>
        obtain ⟨A8, c8, rfl, h8⟩ := hcut
        obtain ⟨wd, rfl⟩ : ∃ wd, wd = wc := ⟨_, rfl⟩
        have I10 := Lib.hid (HI.out.below h8.out.2)
        have hs10 := h8.out.2.size
        have hswr := HI.out.hb.size
        have HOB10 := Lib.hid (HBB.out.below h8.out.2 HBB.out.lt)
        have hO8 := own_mono (B' := w.heap.size + 3) h8.out.1 (by
          have h1 := HI.out.b6.lt
          omega)
        have HO8 := Lib.hid hO8
        obtain ⟨Hd, hHd⟩ : ∃ Hd, heldB (lvs Rs2) U = Hd := ⟨_, rfl⟩
        have hh := held26_any (some ⟨gB, 0, none⟩) Rs2 c2 U wd I10.out.own.runsAt (by rw [HN2.out]; omega) (by omega)
        rw [HN2.out, hHd] at hh
        have HH := Lib.hid hh
        have HHD := Lib.hid hHd
        obtain ⟨L9, hL9⟩ : ∃ L9, bareE (!Hd) LB = L9 := ⟨_, rfl⟩
        obtain ⟨n9, hn9⟩ : ∃ n9, L9.length = n9 := ⟨_, rfl⟩
        have hn96 : n9 ≤ 65536 := by
          rw [← hn9, ← hL9]
          unfold bareE
          split
          · exact Nat.le_trans (live_le LB) hLBn
          · exact hLBn
        have hmer : mergeR (lvs Rs2) l = laid L9 := by
          unfold mergeR
          rw [HU.out, HLV2.out, HHD.out, mL_is _ (by have := HI.out.climbs.mE U; rw [HLV2.out] at this; exact this), ← hL9, ← HLB.out]
          show laid (bareE (!Hd) (allE [inL l, inL l2])) = _
          rw [all_two]
        have HMER := Lib.hid hmer
        have HL9 := Lib.hid hL9
        have HN9 := Lib.hid hn9
        have d20 : wd.cell? ⟨w.heap.size, 0, none⟩ = some (.slice (some ⟨gB, 0, none⟩) N2 c2) := by rw [← HN2.out]; exact I10.out.b2.cell 0
        clear hh hHd hL9 hn9 hmer hO8 h8 cB c20 c21 c60 lt6 lt2 ltB
        go_wp2_with fail
        refine HH.out.mono ?_
        rintro e w2 ⟨rfl, hw2⟩
        rw [hw2]
        clear hw2 d20 HH
        go_upto_if 67 with fail
        go_cut [7] from 31 to 69 (fun v wx => ∃ A9 c9, v = .slice A9 n9 c9 ∧ Hid (wx.ownsRow (w.heap.size + 3) 71 3 (.slice A9 n9 c9) n9 (L9.flatMap Ent.cells) ∧ Below wd.heap.size wd wx))
        case first =>
          cases Hd with
          | true =>
            have h1 : LB = L9 := by rw [← HL9.out]; rfl
            have h2 : n8 = n9 := by rw [← HN8.out, ← HN9.out, h1]
            have HE1 := Lib.hid h1
            have HE2 := Lib.hid h2
            clear h1 h2
            go_wp2
            go_meet
            exact ⟨A8, c8, by rw [HE2.out], by rw [← HE1.out, ← HE2.out]; exact HO8.out, Below.refl _ _⟩
          | false =>
            have h1 : liveE LB = L9 := by rw [← HL9.out]; rfl
            have hal := refAlive25_any A8 LB c8 wd (by have := HO8.out; exact own_sl this) hLBn
            rw [HN8.out, h1] at hal
            unfold GivesOwn at hal
            rw [HN9.out] at hal
            have HAL := Lib.hid hal
            clear h1 hal
            go_wp2_with fail
            refine HAL.out.mono ?_
            rintro e w9 ⟨A9, c9, rfl, ho9, hb9⟩
            have HO9 := Lib.hid (own_mono (B' := w.heap.size + 3) ho9 (by have h1 := HI.out.b6.lt; omega))
            clear ho9
            go_wp2
            go_meet
            exact ⟨A9, c9, rfl, HO9.out, hb9⟩
        case rest =>
        obtain ⟨A9, c9, rfl, h9⟩ := hcut
        obtain ⟨wg, rfl⟩ : ∃ wg, wg = wc := ⟨_, rfl⟩
        have I11 := Lib.hid (I10.out.below h9.out.2)
        have hs11 := h9.out.2.size
        have HOB11 := Lib.hid (HOB10.out.below h9.out.2 HOB10.out.lt)
        have hld := refLaid_any A9 L9 c9 wg (by have := own_sl h9.out.1; exact this) (by rw [HN9.out]; exact hn96)
        rw [HN9.out] at hld
        have HLD := Lib.hid hld
        have hMRn : Hid ((laid L9).length = n9) := by show _ = _; rw [laid_length]; exact HN9.out
        obtain ⟨MR, hMR⟩ : ∃ MR, laid L9 = MR := ⟨_, rfl⟩
        rw [hMR] at HLD HMER hMRn
        clear hld hMR h9
        go_wp2_with fail
        refine HLD.out.mono ?_
        rintro e w12 ⟨A12, c12, rfl, ho12, hb12⟩
        have I12 := Lib.hid (I11.out.below hb12)
        have hs12 := hb12.size
        have HOB12 := Lib.hid (HOB11.out.below hb12 HOB11.out.lt)
        have HO12 := Lib.hid (own_mono (B' := w.heap.size + 3) ho12 (by have h1 := HI.out.b6.lt; omega))
        have c6 : w12.cell? ⟨G6, 0, none⟩ = some (.slice A l.length cl) := I12.out.b6.cell 0
        have f6 := I12.out.b6.frozen 0
        have lt6 := I12.out.b6.lt
        clear ho12 hb12 HLD
        go_upto_region 13 with fail
        obtain ⟨W13, hW13⟩ : ∃ W13, w12.setCell ⟨G6, 0, none⟩ (.slice A12 n9 c12) = W13 := ⟨_, rfl⟩
        rw [hW13]
        have hne6 : gB ≠ G6 := I12.out.ne6 ⟨gB, 0, none⟩ rfl
        have h46 : w.heap.size + 1 + 1 ≠ G6 := by omega
        have n2b : Blk W13 w.heap.size 27 #[.slice (some ⟨gB, 0, none⟩) Rs2.length c2, .int .u64 n2] := by rw [← hW13]; exact I12.out.b2.far (p := ⟨G6, 0, none⟩) H2S.out _
        have n4b : Blk W13 (w.heap.size + 1 + 1) 27 #[.slice none 0 0, .int .u64 0] := by rw [← hW13]; exact I12.out.b4.far (p := ⟨G6, 0, none⟩) h46 _
        have n6b : Blk W13 G6 74 #[.slice A12 n9 c12] := by rw [← hW13]; simpa using I12.out.b6.set_ 0 (.slice A12 n9 c12)
        have nBB : Blk W13 gB 74 cur := by rw [← hW13]; exact HOB12.out.far (p := ⟨G6, 0, none⟩) hne6 _
        have nO : OwnRs W13 (w.heap.size + 3) (some ⟨gB, 0, none⟩) c2 Rs2 := by rw [← hW13]; exact I12.out.own.setFar' I12.out.b6 (fun q hq => by cases hq; exact hne6) 0 _
        have nA : W13.ownsRow (w.heap.size + 3) 71 3 (.slice A12 n9 c12) n9 (MR.flatMap Ent.cells) := by rw [← hW13]; exact own_setT I12.out.b6 HO12.out (by decide) 0 _
        have nb : Below w.heap.size w W13 := by rw [← hW13]; exact I12.out.hb.setCell (p := ⟨G6, 0, none⟩) (by show w.heap.size ≤ G6; omega) _
        have ncB : ∃ v, W13.cell? ⟨gB, U, none⟩ = some v := by
          rw [nBB.cell U, ← HBB.out.cell U]
          exact ⟨_, HCB.out⟩
        obtain ⟨vB, hvB⟩ := ncB
        have nfB := nBB.frozen U
        have nc2 : W13.cell? ⟨w.heap.size, 0, none⟩ = some (.slice (some ⟨gB, 0, none⟩) N2 c2) := by rw [← HN2.out]; exact n2b.cell 0
        have ltB := nBB.lt
        have ltn2 := n2b.lt
        have N2b := Lib.hid n2b
        have N4b := Lib.hid n4b
        have N6b := Lib.hid n6b
        have NBB := Lib.hid nBB
        have NO := Lib.hid nO
        have NA := Lib.hid nA
        have NB := Lib.hid nb
        clear hW13 n2b n4b n6b nBB nO nA nb c6 f6 lt6
        go_upto_region 14 with fail
        obtain ⟨W14, hW14⟩ : ∃ W14, W13.setCell ⟨gB, U, none⟩ (.slice none 0 0) = W14 := ⟨_, rfl⟩
        rw [hW14]
        have hg2B : w.heap.size ≠ gB := (blk_ne NBB.out N2b.out (by decide)).symm
        have hg4B : w.heap.size + 1 + 1 ≠ gB := (blk_ne NBB.out N4b.out (by decide)).symm
        have p2b : Blk W14 w.heap.size 27 #[.slice (some ⟨gB, 0, none⟩) Rs2.length c2, .int .u64 n2] := by rw [← hW14]; exact N2b.out.far (p := ⟨gB, U, none⟩) hg2B _
        have p4b : Blk W14 (w.heap.size + 1 + 1) 27 #[.slice none 0 0, .int .u64 0] := by rw [← hW14]; exact N4b.out.far (p := ⟨gB, U, none⟩) hg4B _
        have p6b : Blk W14 G6 74 #[.slice A12 n9 c12] := by rw [← hW14]; exact N6b.out.far (p := ⟨gB, U, none⟩) hne6.symm _
        have pO : OwnRs W14 (w.heap.size + 3) (some ⟨gB, 0, none⟩) c2 (Rs2.set U ⟨[], none, 0⟩) := by rw [← hW14]; exact NO.out.set HUN2.out ⟨[], none, 0⟩ (own_empty _ _)
        have pA : W14.ownsRow (w.heap.size + 3) 71 3 (.slice A12 n9 c12) n9 (MR.flatMap Ent.cells) := by rw [← hW14]; exact own_setT NBB.out NA.out (by decide) U _
        have pb : Below w.heap.size w W14 := by rw [← hW14]; exact NB.out.setCell (p := ⟨gB, U, none⟩) (by show w.heap.size ≤ gB; omega) _
        have pc20 : W14.cell? ⟨w.heap.size, 0, none⟩ = some (.slice (some ⟨gB, 0, none⟩) N2 c2) := by rw [← HN2.out]; exact p2b.cell 0
        have pc21 : W14.cell? ⟨w.heap.size, 1, none⟩ = some (.int .u64 n2) := p2b.cell 1
        have pf21 := p2b.frozen 1
        have pl2 := p2b.lt
        have hcv : IntKind.u64.wrap (n9 : Int) = (n9 : Int) := IntWalk.u64_in _ (by omega)
        have P2b := Lib.hid p2b
        have P4b := Lib.hid p4b
        have P6b := Lib.hid p6b
        have PO := Lib.hid pO
        have PA := Lib.hid pA
        have PB := Lib.hid pb
        have hupc : climb (lvs Rs2) l n2 = climb ((lvs Rs2).set U []) MR (IntKind.u64.wrap (n2 + n9)) := by
          have h1 := climb_up (n := n2) HNE.out (by rw [HU.out, HLV2.out]; exact HNE2.out)
          rw [HMER.out, HU.out, hMRn.out] at h1
          exact h1
        have hcl2 : Climbs ((lvs Rs2).set U []) MR := by
          have h1 := HI.out.climbs.step
          rw [HMER.out, HU.out] at h1
          exact h1
        have HUPC := Lib.hid hupc
        have HCL2 := Lib.hid hcl2
        clear hW14 p2b p4b p6b pO pA pb hvB nfB nc2 hupc hcl2 hg2B hg4B
        go_wp2_with fail
        go_roundg (cnt (lvs (Rs2.set U ⟨[], none, 0⟩)))
        case measure =>
          rw [lvs_set]
          have := cnt_set (lvs Rs2) U (by rw [HLV2.out]; exact HNE2.out)
          show cnt ((lvs Rs2).set U []) < _
          omega
        case rel =>
          refine ⟨Rs2.set U ⟨[], none, 0⟩, some ⟨gB, 0, none⟩, c2, IntKind.u64.wrap (n2 + n9), A12, MR, c12, PB.out.setCell (p := ⟨w.heap.size, 1, none⟩) (Nat.le_refl _) _, ?_, P4b.out.far (p := ⟨w.heap.size, 1, none⟩) (by show w.heap.size + 1 + 1 ≠ w.heap.size; omega) _, ?_, PO.out.setT P2b.out (by decide) (by decide) 1 _, ?_, fun q hq => by cases hq; exact hne6, ?_, ?_, by rw [List.length_set]; exact HI.out.len, rfl⟩
          · rw [List.length_set]
            simpa using P2b.out.set_ 1 (.int .u64 (IntKind.u64.wrap (n2 + n9)))
          · rw [hMRn.out]; exact P6b.out.far (p := ⟨w.heap.size, 1, none⟩) H2S.out.symm _
          · rw [hMRn.out]; exact own_setT P2b.out PA.out (by decide) 1 _
          · rw [lvs_set]; exact HCL2.out
          · rw [lvs_set, ← HI.out.eq]; exact HUPC.out.symm
  case rest =>
  obtain ⟨Rs3, B3, c3, n3, A3, l3, cl3, hI, hend⟩ := hcut
  obtain ⟨wz, rfl⟩ : ∃ wz, wz = wc := ⟨_, rfl⟩
  have hLL : L0 = (lvs Rs3, l3, n3) := by rw [← hI.eq, climb_end hend]
  have hletL : letL (lvs Rs) n y = cutL (standL (lvs Rs3) l3) := by unfold letL; rw [HL0.out, hLL]
  have hletN : letN (lvs Rs) n y = n3 := by unfold letN; rw [HL0.out, hLL]
  have HLETL := Lib.hid hletL
  have HLETN := Lib.hid hletN
  have HI := Lib.hid hI
  have hl36 : l3.length ≤ 65536 := chk_len hI.climbs.run
  obtain ⟨N3, hN3⟩ : ∃ N3, Rs3.length = N3 := ⟨_, rfl⟩
  have hN317 : N3 ≤ 17 := by rw [← hN3]; exact hI.len
  have c60 : wz.cell? ⟨G6, 0, none⟩ = some (.slice A3 l3.length cl3) := hI.b6.cell 0
  have c20 : wz.cell? ⟨w.heap.size, 0, none⟩ = some (.slice B3 N3 c3) := by rw [← hN3]; exact hI.b2.cell 0
  have c21 : wz.cell? ⟨w.heap.size, 1, none⟩ = some (.int .u64 n3) := hI.b2.cell 1
  have hwz : w.heap.size + 3 ≤ wz.heap.size := by have := hI.b6.lt; omega
  have hst := stand26_any B3 A3 Rs3 l3 c3 cl3 (w.heap.size + 3) wz hI.own hI.ownA hI.len hl36 hwz
  rw [hN3] at hst
  have HST := Lib.hid hst
  have HN3 := Lib.hid hN3
  clear hLL hletL hletN hI hst hN3 hend HQ1
  rename_i hk
  refine hk _ _ ?_
  go_wp2_with fail
  refine HST.out.mono ?_
  rintro e w2 ⟨A2, d2, Ts, rfl, hTs, hO2, hb2⟩
  have b22 := HI.out.b2.below hb2 (by omega)
  have b42 := HI.out.b4.below hb2 (by omega)
  have hbw2 : Below w.heap.size w w2 := HI.out.hb.trans (hb2.mono (by omega))
  have hs2 := hb2.size
  obtain ⟨NT, hNT⟩ : ∃ NT, Ts.length = NT := ⟨_, rfl⟩
  have hNTl : NT ≤ 1000000 := by
    rw [← hNT, rs_len hTs, stand_len]
    have h1 := up_16 hl36
    have h2 : List.length (lvs Rs3) = N3 := by rw [lvs_len, HN3.out]
    split <;> omega
  have hct := cut26_any A2 Ts d2 (w.heap.size + 3) w2 hO2 (by rw [hNT]; exact hNTl)
  rw [hNT] at hct ⊢
  have HCT := Lib.hid hct
  have HO2 := Lib.hid hO2
  have HTS := Lib.hid hTs
  have HNT := Lib.hid hNT
  have HBW2 := Lib.hid hbw2
  have c20 : w2.cell? ⟨w.heap.size, 0, none⟩ = some (.slice B3 Rs3.length c3) := b22.cell 0
  have f20 := b22.frozen 0
  have l22 := b22.lt
  clear hct hO2 hTs hNT hb2 hbw2 HST
  go_wp2_with fail
  refine HCT.out.mono ?_
  rintro e w3 ⟨m, rfl, hm, hw3⟩
  rw [hw3]
  clear hw3 HCT
  rw [← HNT.out] at hm
  obtain ⟨W4, hW4⟩ : ∃ W4, w2.setCell ⟨w.heap.size, 0, none⟩ (.slice A2 m d2) = W4 := ⟨_, rfl⟩
  have hmle : m ≤ Ts.length := by rw [hm]; exact cutN_le _ _
  have hlen4 : (Ts.take m).length = m := by rw [List.length_take]; omega
  have hO4' : OwnRs w2 (w.heap.size + 3) A2 d2 (Ts.take m) := by
    by_cases hA2 : A2 = none
    · have h0 : Ts.length = 0 := by
        rcases HO2.out.row.2 with ⟨_, h0⟩ | ⟨g, cap, cur, hv, _⟩
        · exact h0
        · rw [hA2] at hv; cases hv
      rw [List.take_of_length_le (by omega)]
      exact HO2.out
    · exact own_take HO2.out hmle hA2
  have hL4 : lvs (Ts.take m) = letL (lvs Rs) n y := by
    rw [HLETL.out, ← HTS.out]
    unfold cutL
    rw [lvs_len, hm]
    unfold lvs
    rw [List.map_take]
  have b24 : Blk W4 w.heap.size 27 #[.slice A2 m d2, .int .u64 n3] := by rw [← hW4]; simpa using b22.set_ 0 (.slice A2 m d2)
  have b44 : Blk W4 (w.heap.size + 1 + 1) 27 #[.slice none 0 0, .int .u64 0] := by rw [← hW4]; exact b42.far (p := ⟨w.heap.size, 0, none⟩) (by show w.heap.size + 1 + 1 ≠ w.heap.size; omega) _
  have hO4 : OwnRs W4 (w.heap.size + 3) A2 d2 (Ts.take m) := by rw [← hW4]; exact hO4'.setT b22 (by decide) (by decide) 0 _
  have hbw4 : Below w.heap.size w W4 := by rw [← hW4]; exact HBW2.out.setCell (p := ⟨w.heap.size, 0, none⟩) (Nat.le_refl _) _
  obtain ⟨Rs4, hRs4⟩ : ∃ Rs4, Ts.take m = Rs4 := ⟨_, rfl⟩
  rw [hRs4] at hlen4 hO4 hL4
  have htot := letL_tot HM.out HY.out HT.out n
  rw [← hL4] at htot
  have hmE := letL_mE HM.out HY.out HT.out n
  rw [← hL4] at hmE
  have hsm4 : ∀ r ∈ Rs4, r.l.length ≤ 65536 := fun r hr => by
    have h1 := le_sum (List.mem_map.2 ⟨r.l, List.mem_map.2 ⟨r, hr, rfl⟩, rfl⟩ : r.l.length ∈ ((lvs Rs4).map List.length))
    have h2 := htot.2
    unfold tot at h2
    omega
  have hm6 : m ≤ 1000000 := by have := HNT.out; omega
  have hall := all26_any A2 Rs4 d2 n3 W4 hO4.runsAt (by rw [hlen4]; exact hm6) hsm4 (by have := htot.2; omega)
  have hent := fun W (hW : Below W4.heap.size W4 W) => entries26_any A2 Rs4 d2 n3 W (hO4.runsAt.below hW) (by have := htot.2; omega) (by rw [hlen4]; exact hm6)
  obtain ⟨PL, hPL⟩ : ∃ PL, plainE (allE (inS Rs4)) = PL := ⟨_, rfl⟩
  obtain ⟨TT4, hTT4⟩ : ∃ TT4, tot (lvs Rs4) = TT4 := ⟨_, rfl⟩
  have hT46 : TT4 ≤ 65536 := by rw [← hTT4]; exact htot.2
  rw [hlen4, hPL] at hall
  rw [hlen4, hTT4] at hent
  have hPLal : PL.map aliveE = allL (lvs Rs4) := by rw [← hPL, plain_alive]; unfold allL; rw [inS_of]
  have hPLn : PL.length = (allL (lvs Rs4)).length := by rw [← hPLal, List.length_map]
  have hPL6 : PL.length ≤ 65536 := by rw [hPLn]; exact Nat.le_trans allL_le htot.2
  have HPLAL := Lib.hid hPLal
  have HPLN := Lib.hid hPLn
  have HALL := Lib.hid hall
  have HENT := Lib.hid hent
  have HL4 := Lib.hid hL4
  have HO4 := Lib.hid hO4
  have HB4 := Lib.hid hbw4
  have HTT4 := Lib.hid hTT4
  have HLEN4 := Lib.hid hlen4
  have HW4 := Lib.hid hW4
  have hs4 := hbw4.size
  clear hW4 hm hmle hlen4 hO4' hL4 hO4 hbw4 hRs4 htot hmE hsm4 hall hent hPL hTT4 hPLal hPLn b22 b42
  go_upto_region 16 with fail
  rw [HW4.out]
  clear c20 f20 l22
  have c20 : W4.cell? ⟨w.heap.size, 0, none⟩ = some (.slice A2 m d2) := b24.cell 0
  have c21 : W4.cell? ⟨w.heap.size, 1, none⟩ = some (.int .u64 n3) := b24.cell 1
  go_wp2_with fail
  refine HALL.out.mono ?_
  rintro e w5 ⟨A5, c5, rfl, ho5, hb5⟩
  have b25 := b24.below hb5 b24.lt
  have b45 := b44.below hb5 b44.lt
  have HO5 := Lib.hid ho5
  have HB5 := Lib.hid hb5
  clear c20 c21 ho5 hb5 HALL
  have c20 : w5.cell? ⟨w.heap.size, 0, none⟩ = some (.slice A2 m d2) := b25.cell 0
  have c21 : w5.cell? ⟨w.heap.size, 1, none⟩ = some (.int .u64 n3) := b25.cell 1
  go_wp2_with fail
  refine (HENT.out _ HB5.out).mono ?_
  rintro e w6 ⟨rfl, hb6⟩
  have b26 := b25.below hb6 b25.lt
  have b46 := b45.below hb6 b45.lt
  have HB6 := Lib.hid (bext HB5.out hb6)
  have HBW6 := Lib.hid (bext HB4.out (bext HB5.out hb6))
  have HO6 := Lib.hid (HO4.out.below (bext HB5.out hb6))
  have HP6 : Hid (Sl w6 A5 (PL.flatMap Pr.cells)) := (own_sl HO5.out).below hb6
  clear c20 c21 hb6 HENT
  obtain ⟨M, hM⟩ : ∃ M, PL.length = M := ⟨_, rfl⟩
  have HMM := Lib.hid hM
  rw [hM] at hPL6 ⊢
  clear hM
  have c20 : w6.cell? ⟨w.heap.size, 0, none⟩ = some (.slice A2 m d2) := b26.cell 0
  have c21 : w6.cell? ⟨w.heap.size, 1, none⟩ = some (.int .u64 n3) := b26.cell 1
  have c40 : w6.cell? ⟨w.heap.size + 1 + 1, 0, none⟩ = some (.slice none 0 0) := b46.cell 0
  have c41 : w6.cell? ⟨w.heap.size + 1 + 1, 1, none⟩ = some (.int .u64 0) := b46.cell 1
  have f40 := b46.frozen 0
  have f41 := b46.frozen 1
  have l46 := b46.lt
  have g2 : IntKind.i64.wrap (2 * (M : Int)) = 2 * (M : Int) := IntWalk.i64_in _ (by omega)
  have g3 : IntKind.i64.wrap (2 * (M : Int) + 2) = 2 * (M : Int) + 2 := IntWalk.i64_in _ (by omega)
  by_cases hfat : 2 * M + 2 < TT4
  · have g4 : 2 * (M : Int) + 2 < (TT4 : Int) := by omega
    have hfB : fat (lvs Rs4) = true := by unfold fat; rw [HTT4.out, ← HPLN.out, HMM.out]; exact decide_eq_true hfat
    have HFB := Lib.hid hfB
    have hal := alone26_any A5 PL c5 n3 w6 HP6.out (by rw [HMM.out]; exact hPL6)
    rw [HMM.out, HPLAL.out] at hal
    have HAL := Lib.hid hal
    clear hfB hfat hal
    go_wp2_with fail
    refine HAL.out.mono ?_
    rintro e w7 ⟨A7, d7, Rs7, rfl, hl7, ho7, hb7⟩
    have b47 := b46.below hb7 b46.lt
    have HO7 := Lib.hid (ho7.mono (B1 := w.heap.size) (by have := HBW6.out.size; omega))
    have HL7 := Lib.hid hl7
    have HB7 := Lib.hid (bext HBW6.out hb7)
    clear hl7 ho7 hb7 c20 c21 c40 c41 f40 f41
    have c40 : w7.cell? ⟨w.heap.size + 1 + 1, 0, none⟩ = some (.slice none 0 0) := b47.cell 0
    have c41 : w7.cell? ⟨w.heap.size + 1 + 1, 1, none⟩ = some (.int .u64 0) := b47.cell 1
    have f40 := b47.frozen 0
    have f41 := b47.frozen 1
    go_wp2
    have hbx := box2 b47 (.slice A7 Rs7.length d7) (.int .u64 (IntKind.u64.wrap (n3 + M)))
    have e0 : ((w7.setCell ⟨w.heap.size + 1 + 1, 0, none⟩ (.slice A7 Rs7.length d7)).setCell ⟨w.heap.size + 1 + 1, 1, none⟩ (.int .u64 (IntKind.u64.wrap (n3 + M)))).cell? ⟨w.heap.size + 1 + 1, 0, none⟩ = some (.slice A7 Rs7.length d7) := hbx.cell 0
    have e1 : ((w7.setCell ⟨w.heap.size + 1 + 1, 0, none⟩ (.slice A7 Rs7.length d7)).setCell ⟨w.heap.size + 1 + 1, 1, none⟩ (.int .u64 (IntKind.u64.wrap (n3 + M)))).cell? ⟨w.heap.size + 1 + 1, 1, none⟩ = some (.int .u64 (IntKind.u64.wrap (n3 + M))) := hbx.cell 1
    refine bodyPost_ret (v := .agg #[.slice A7 Rs7.length d7, .int .u64 (IntKind.u64.wrap (n3 + M))]) (by simp [results, Tryz.results137, go_sem, e0, e1]) rfl ?_
    refine ⟨A7, d7, Rs7, ?_, ?_, HO7.out.set2 b47 (by decide) (by decide) _ _, below2 HB7.out (by omega) _ _⟩
    · unfold slimN
      rw [← HL4.out, if_pos HFB.out, HLETN.out, ← HPLN.out, HMM.out]
    · unfold slimL
      rw [← HL4.out, if_pos HFB.out, HL7.out]
  · have g4 : ¬ 2 * (M : Int) + 2 < (TT4 : Int) := by omega
    have hfB : ¬ fat (lvs Rs4) = true := by unfold fat; rw [HTT4.out, ← HPLN.out, HMM.out]; simpa using hfat
    have HFB := Lib.hid hfB
    clear hfB hfat
    go_wp2
    have hbx := box2 b46 (.slice A2 m d2) (.int .u64 n3)
    have e0 : ((w6.setCell ⟨w.heap.size + 1 + 1, 0, none⟩ (.slice A2 m d2)).setCell ⟨w.heap.size + 1 + 1, 1, none⟩ (.int .u64 n3)).cell? ⟨w.heap.size + 1 + 1, 0, none⟩ = some (.slice A2 m d2) := hbx.cell 0
    have e1 : ((w6.setCell ⟨w.heap.size + 1 + 1, 0, none⟩ (.slice A2 m d2)).setCell ⟨w.heap.size + 1 + 1, 1, none⟩ (.int .u64 n3)).cell? ⟨w.heap.size + 1 + 1, 1, none⟩ = some (.int .u64 n3) := hbx.cell 1
    refine bodyPost_ret (v := .agg #[.slice A2 m d2, .int .u64 n3]) (by simp [results, Tryz.results137, go_sem, e0, e1]) rfl ?_
    refine ⟨A2, d2, Rs4, ?_, ?_, (HO6.out.mono (by omega)).set2 b46 (by decide) (by decide) _ _, below2 HBW6.out (by omega) _ _⟩
    · unfold slimN
      rw [← HL4.out, if_neg HFB.out, HLETN.out, HLEN4.out]
    · unfold slimL
      rw [← HL4.out, if_neg HFB.out]
end Go.Proofs.YthbppblmecdekaaGreatDoor

/- Contract: does one of runs hold entries (slices.ContainsFunc, the closure of rungs.in). -/
namespace Go.Proofs.YthbppblmecdekaaGreatDoor
open Go Go.RowKit
set_option maxRecDepth 100000
theorem in1_any (A : Option Addr) (n c : Nat) (w : World) : Calls Tryz.prog 136 #[.agg #[.slice A n c]] w fun r w' => r = .returned (.bool (decide (0 < n))) ∧ Below w.heap.size w w' := by
  have hb0 : Below w.heap.size w (w.alloc (.cells #[.slice A n c] 74)) := (Below.refl _ _).alloc (Nat.le_refl _) _
  by_cases h : 0 < n
  · have h2 : (0 : Int) < (n : Int) := by omega
    go_enter Tryz.func136, Tryz.ntmps136
    go_wp2
    go_ret
    exact ⟨by simp [h], hb0⟩
  · have h2 : ¬ (0 : Int) < (n : Int) := by omega
    go_enter Tryz.func136, Tryz.ntmps136
    go_wp2
    go_ret
    exact ⟨by simp, hb0⟩
def anyR (Qs : List Rm) : Bool := Qs.any (fun r => decide (r.l ≠ []))
theorem any_none {Qs : List Rm} (h : ∀ j (hj : j < Qs.length), (Qs[j]'hj).l = []) : anyR Qs = false := by
  unfold anyR
  rw [List.any_eq_false]
  intro r hr
  obtain ⟨j, hj, e⟩ := List.getElem_of_mem hr
  have := h j hj
  rw [e] at this
  simp [this]
theorem any_one {Qs : List Rm} {j : Nat} (hj : j < Qs.length) (h : (Qs[j]'hj).l ≠ []) : anyR Qs = true := by
  unfold anyR
  exact List.any_eq_true.2 ⟨_, List.getElem_mem hj, by simpa using h⟩
theorem any_drop (Rs : List Rm) (k : Nat) : anyR (Rs.drop (k + 1)) = heldB (lvs Rs) k := by
  unfold anyR heldB lvs
  rw [← List.map_drop, List.any_map]
  rfl
set_option maxHeartbeats 1000000 in
theorem indexF_any (A : Option Addr) (Qs : List Rm) (c : Nat) (w : World) (hA : Sl w A (Qs.map Rm.v)) (hl : Qs.length ≤ 1000000) :
    Calls Tryz.prog 162 #[.slice A Qs.length c, .func (.func 136) #[] #[]] w fun r w' => ∃ v : Int, r = .returned (.int .i64 v) ∧ (decide (0 ≤ v) = anyR Qs) ∧ Below w.heap.size w w' := by
  have HA := Lib.hid hA
  clear hA
  go_enter Tryz.func162, Tryz.ntmps162
  go_wp2
  go_loopw [8] (fun i wr => ∃ k : Nat, k ≤ Qs.length ∧ i = .int .i64 k ∧ Below w.heap.size w wr ∧ Hid (∀ j (hj : j < Qs.length), j < k → (Qs[j]'hj).l = [])) (fun i _ => Qs.length - (intOf i).toNat)
  case atStart => exact ⟨0, Nat.zero_le _, rfl, Below.refl _ _, fun j _ h => by omega⟩
  case round =>
    obtain ⟨k, hk, rfl, hb, hd⟩ := hrel
    by_cases hlt : k < Qs.length
    · obtain ⟨b, off, rfl, hbl, cp⟩ := HA.out.oneB hb k hlt
      obtain ⟨r, hr⟩ : ∃ r, Qs[k]'hlt = r := ⟨_, rfl⟩
      have HR := Lib.hid hr
      rw [hr] at cp
      obtain ⟨l, Al, cl⟩ := r
      have cp1 : wr.cell? ⟨b, off + k, none⟩ = some (.slice Al l.length cl) := cp
      have hki : (0 : Int) ≤ (k : Int) := by omega
      have hki2 : (k : Int) < (Qs.length : Int) := by omega
      clear cp hr
      have hcall := in1_any Al l.length cl wr
      by_cases h0 : l.length = 0
      · have hnil : l = [] := List.eq_nil_of_length_eq_zero h0
        have HNIL := Lib.hid hnil
        rw [show decide (0 < l.length) = false from decide_eq_false (by omega)] at hcall
        have HC := Lib.hid hcall
        clear hcall hnil h0
        go_wp2_with fail
        refine HC.out.mono ?_
        rintro e w1 ⟨rfl, hb1⟩
        go_wp2
        go_roundw
        case rel =>
          refine ⟨k + 1, by omega, by go_num, bext hb hb1, fun j hj h1 => ?_⟩
          by_cases e : j = k
          · subst e; rw [HR.out]; exact HNIL.out
          · exact hd.out j hj (by omega)
        case measure => simp [intOf]; omega
      · have hne : l ≠ [] := by intro h; apply h0; rw [h]; rfl
        rw [show decide (0 < l.length) = true from decide_eq_true (by omega)] at hcall
        have HC := Lib.hid hcall
        have HT : Hid (anyR Qs = true) := any_one hlt (by rw [HR.out]; exact hne)
        clear hcall h0 hne
        go_wp2_with fail
        refine HC.out.mono ?_
        rintro e w1 ⟨rfl, hb1⟩
        go_wp2
        go_ret
        exact ⟨k, rfl, by rw [HT.out]; simp, bext hb hb1⟩
    · have HF : Hid (anyR Qs = false) := any_none fun j hj => hd.out j hj (by omega)
      have hkf : ¬ (k : Int) < (Qs.length : Int) := by omega
      go_wp2
      go_ret
      exact ⟨-1, rfl, by rw [HF.out]; rfl, hb⟩
set_option maxHeartbeats 1000000 in
theorem containsF_any (A : Option Addr) (Qs : List Rm) (c : Nat) (w : World) (hA : Sl w A (Qs.map Rm.v)) (hl : Qs.length ≤ 1000000) :
    Calls Tryz.prog 135 #[.slice A Qs.length c, .func (.func 136) #[] #[]] w fun r w' => r = .returned (.bool (anyR Qs)) ∧ Below w.heap.size w w' := by
  go_enter Tryz.func135, Tryz.ntmps135
  go_wp2_with fail
  refine (indexF_any A Qs c _ hA hl).mono ?_
  rintro e w1 ⟨v, rfl, hv, hb1⟩
  have HV := Lib.hid hv
  by_cases h : 0 ≤ v
  · rw [decide_eq_true h] at hv
    have HW := Lib.hid hv
    clear hv
    go_wp2
    go_ret
    exact ⟨ret_bool HW.out, hb1⟩
  · rw [decide_eq_false h] at hv
    have HW := Lib.hid hv
    clear hv
    go_wp2
    go_ret
    exact ⟨ret_bool HV.out, hb1⟩
end Go.Proofs.YthbppblmecdekaaGreatDoor

/- Contract: rungs.Twin. -/
namespace Go.Proofs.YthbppblmecdekaaGreatDoor
open Go Go.RowKit
set_option maxRecDepth 100000
section
variable {w W V V' : World}
/-- nothing below the call is touched -/
abbrev SO (w W V : World) : Prop := Below w.heap.size w V ∧ W.heap.size ≤ V.heap.size
theorem SO.init (h : Below w.heap.size w W) : SO w W W.drew := ⟨h.drew, Nat.le_refl _⟩
theorem SO.init0 (h : Below w.heap.size w W) : SO w W W := ⟨h, Nat.le_refl _⟩
theorem SO.alloc (x : Obj) (h : SO w W V) : SO w W (V.alloc x) := ⟨h.1.alloc h.1.size x, by have := h.2; simp; omega⟩
theorem SO.allocD (x : Obj) (h : SO w W V.drew) : SO w W (V.alloc x).drew := ⟨(undrew h.1).alloc (undrew h.1).size x |>.drew, by have := h.2; have e : V.drew.heap.size = V.heap.size := rfl; rw [e] at this; show W.heap.size ≤ (V.alloc x).heap.size; simp; omega⟩
theorem SO.below (hb : Below V.heap.size V V') (h : SO w W V) : SO w W V' := ⟨bext h.1 hb, Nat.le_trans h.2 hb.size⟩
theorem SO.grown {v : Value} (hg : V.grownBy V' v.ownBlock) (ho : ∀ q, v.ownBlock = some q → w.heap.size ≤ q) (h : SO w W V) : SO w W V' := ⟨h.1.grown hg h.1.size ho, Nat.le_trans h.2 hg.size⟩
theorem SO.set {g : Nat} (hg : w.heap.size ≤ g) (i : Nat) (y : Value) (h : SO w W V) : SO w W (V.setCell ⟨g, i, none⟩ y) := ⟨h.1.setCell (p := ⟨g, i, none⟩) hg y, by have := h.2; simp [World.setCell]; omega⟩
end
theorem own_hid {w : World} {B0 k : Nat} {A : Option Addr} {d : Nat} {Ts : List Rm} {o : Obj} (h : Hid (OwnRs w B0 A d Ts)) (hk : Hid (Ts.length = k)) : (w.alloc o).ownsRow B0 74 1 (.slice A k d) k (Ts.map Rm.v) := by
  have := h.out.row.alloc o
  rw [hk.out] at this
  exact this
set_option maxHeartbeats 4000000 in
theorem twinR_any (B : Option Addr) (Rs : List Rm) (c : Nat) (n : Int) (w : World) (hB : RunsAt w B Rs) (hl : Rs.length ≤ 1000000) (hrs : ∀ r ∈ Rs, r.l.length ≤ 1000000) :
    Calls Tryz.prog 38 #[.agg #[.slice B Rs.length c, .int .u64 n]] w (GivesRg (lvs Rs) n w) := by
  obtain ⟨te0, hI⟩ := info_parts run_info1
  have HI := Lib.hid hI
  obtain ⟨W0, hW0⟩ : ∃ W0, ((w.alloc (.cells #[.slice B Rs.length c, .int .u64 n] 27)).alloc (.cells #[.slice none 0 0, .int .u64 0] 27)).alloc (.cells #[.slice none 0 0, .int .u64 n] 27) = W0 := ⟨_, rfl⟩
  have hb0 : Below w.heap.size w W0 := by rw [← hW0]; exact (((Below.refl _ _).alloc (Nat.le_refl _) _).alloc (by simp) _).alloc (by simp; omega) _
  have b20 : Blk W0 (w.heap.size + 1) 27 #[.slice none 0 0, .int .u64 0] := by
    rw [← hW0]
    have := Blk.new (w.alloc (.cells #[.slice B Rs.length c, .int .u64 n] 27)) 27 #[.slice none 0 0, .int .u64 0]
    rw [World.size_alloc] at this
    exact this.alloc _
  have b30 : Blk W0 (w.heap.size + 2) 27 #[.slice none 0 0, .int .u64 n] := by
    rw [← hW0]
    have := Blk.new ((w.alloc (.cells #[.slice B Rs.length c, .int .u64 n] 27)).alloc (.cells #[.slice none 0 0, .int .u64 0] 27)) 27 #[.slice none 0 0, .int .u64 n]
    rwa [World.size_alloc, World.size_alloc] at this
  have HB := Lib.hid hB
  have HHR := Lib.hid hrs
  have HW0 := Lib.hid hW0
  clear hB hrs hI hW0
  go_enter Tryz.func38, Tryz.ntmps38
  go_wp2
  rw [HW0.out]
  go_loopw [12] (fun i wr => ∃ (k : Nat) (Ts : List Rm) (A : Option Addr) (d : Nat), k ≤ Rs.length ∧ i = .int .i64 k ∧ Below w.heap.size w wr ∧ Blk wr (w.heap.size + 1) 27 #[.slice none 0 0, .int .u64 0] ∧ Blk wr (w.heap.size + 2) 27 #[.slice A k d, .int .u64 n] ∧
      Hid (OwnRs wr w.heap.size A d Ts ∧ lvs Ts = (lvs Rs).take k ∧ Ts.length = k)) (fun i _ => Rs.length - (intOf i).toNat)
  case atStart => exact ⟨0, [], none, 0, Nat.zero_le _, rfl, hb0, b20, b30, OwnRs.nil _ _, rfl, rfl⟩
  case round =>
    obtain ⟨k, Ts, A, d, hk, rfl, hb, b2, b3, hH⟩ := hrel
    have hbs := hb.size
    have c30 : wr.cell? ⟨w.heap.size + 1 + 1, 0, none⟩ = some (.slice A k d) := b3.cell 0
    have c31 : wr.cell? ⟨w.heap.size + 1 + 1, 1, none⟩ = some (.int .u64 n) := b3.cell 1
    have f30 := b3.frozen 0
    have l3 := b3.lt
    by_cases hlt : k < Rs.length
    · obtain ⟨b, off, rfl, hbl, cp⟩ := HB.out.sl.oneB hb k hlt
      have hok := HB.out.ok _ (List.getElem_mem hlt)
      have hrl := HHR.out _ (List.getElem_mem hlt)
      have hin2 : (lvs Rs).take (k + 1) = (lvs Rs).take k ++ [(Rs[k]'hlt).l] := by
        rw [List.take_succ_eq_append_getElem (by simpa using hlt)]; simp
      obtain ⟨r, hr⟩ : ∃ r, Rs[k]'hlt = r := ⟨_, rfl⟩
      rw [hr] at cp hok hrl hin2
      obtain ⟨l, Al, cl⟩ := r
      have cp1 : wr.cell? ⟨b, off + k, none⟩ = some (.slice Al l.length cl) := cp
      dsimp only at hrl hin2
      have hki : (0 : Int) ≤ (k : Int) := by omega
      have hki2 : (k : Int) < (Rs.length : Int) := by omega
      have HOK := Lib.hid hok.sl
      have HIN := Lib.hid hin2
      obtain ⟨W1, hW1⟩ : ∃ W1, wr.alloc (.cells #[.slice Al l.length cl] 74) = W1 := ⟨_, rfl⟩
      have hb1 : Below wr.heap.size wr W1 := by rw [← hW1]; exact (Below.refl _ _).alloc (Nat.le_refl _) _
      have b51 : Blk W1 wr.heap.size 74 #[.slice Al l.length cl] := by rw [← hW1]; exact Blk.new _ _ _
      have HW1 := Lib.hid hW1
      clear cp hr hok hin2 hW1
      go_upto_region 5 with fail
      rw [HW1.out]
      clear c30 c31 f30 cp1
      have b21 := b2.below hb1 b2.lt
      have b31 := b3.below hb1 b3.lt
      have hb01 : Below w.heap.size w W1 := bext hb hb1
      have O1 : Hid (OwnRs W1 w.heap.size A d Ts) := hH.out.1.below hb1
      have c50 : W1.cell? ⟨wr.heap.size, 0, none⟩ = some (.slice Al l.length cl) := b51.cell 0
      have c30 : W1.cell? ⟨w.heap.size + 1 + 1, 0, none⟩ = some (.slice A k d) := b31.cell 0
      have c31 : W1.cell? ⟨w.heap.size + 1 + 1, 1, none⟩ = some (.int .u64 n) := b31.cell 1
      have f30 := b31.frozen 0
      have hTk : Hid (Ts.length = k) := hH.out.2.2
      have HB01 := Lib.hid hb01
      have hwl : w.heap.size ≤ W1.heap.size := hb01.size
      go_region_law (first
        | (refine step_append_sl _ (by rfl) (.tmp 17) (.tmp 20) _ (by rfl) w.heap.size 74 te0 _ 1 24 Tryz.underlying24 HI.out.1 HI.out.2.1 HI.out.2.2.1 HI.out.2.2.2 rfl (by omega) (.slice A k d) k (Ts.map Rm.v) (by rfl) (own_hid O6 hTk) _ 1 _ [.slice A6 l.length c6] (by rfl) (by exact sl_new1 _ _ _) rfl (by simp [Value.oneCell']) (by unfold maxLen; omega) (by omega) (by simp; omega) ?_; intro v7 w7 hown7 hg7; obtain ⟨A7, d7, rfl, hle7, hmx7⟩ := own_form hown7; have b37 := (b36.alloc (.cells #[.slice A6 l.length c6] 74)).grown hg7 (own_typ (own_hid O6 hTk) (b36.alloc (.cells #[.slice A6 l.length c6] 74)) (by decide)); have b27 := (b26.alloc (.cells #[.slice A6 l.length c6] 74)).grown hg7 (own_typ (own_hid O6 hTk) (b26.alloc (.cells #[.slice A6 l.length c6] 74)) (by decide)); have c37 : w7.cell? ⟨w.heap.size + 1 + 1, 0, none⟩ = some (.slice A k d) := b37.cell 0; have f37 : w7.frozen? ⟨w.heap.size + 1 + 1, 0, none⟩ = false := b37.frozen 0; have HO7 := Lib.hid hown7; have HG7 := Lib.hid hg7; clear hown7 hg7)
        | (go_simp; go_at_call 76; refine (twin_any Al l cl _ (HOK.out.below (by first | exact HB01.out.drew | exact HB01.out)) hrl).mono ?_; rintro e w6 ⟨A6, c6, rfl, ho6, hb6⟩; have hb16 : Below W1.heap.size W1 w6 := (by first | exact hb6 | exact bext ((Below.refl _ _).drew) hb6); have O6 := Lib.hid (O1.out.below hb16); have b26 := b21.below hb16 b21.lt; have b36 := b31.below hb16 b31.lt; have HO6 := Lib.hid (own_mono (B' := w.heap.size) ho6 (by first | exact hwl | (simp; omega))); have HB6 := Lib.hid hb16; have hs6 := hb16.size; have c36 : w6.cell? ⟨w.heap.size + 1 + 1, 0, none⟩ = some (.slice A k d) := b36.cell 0; have f36 : w6.frozen? ⟨w.heap.size + 1 + 1, 0, none⟩ = false := b36.frozen 0; have l36 : w.heap.size + 1 + 1 < w6.heap.size := b36.lt; clear ho6 hb6 hb16)
        | fail "no arm")
      all_goals
        go_wp2_with fail
        go_roundw
        case rel =>
          have hb7 : Below w.heap.size w w7 := ((bext HB01.out HB6.out).alloc (by have := (bext HB01.out HB6.out).size; omega) _).grown HG7.out (by have := (bext HB01.out HB6.out).size; simp; omega) (fun q hq => (O1.out.row.lt q (by rw [hTk.out]; exact hq)).1)
          have hO7 : OwnRs w7 w.heap.size A7 d7 (Ts ++ [⟨l, A6, c6⟩]) := OwnRs.push (O6.out.alloc (.cells #[.slice A6 l.length c6] 74)) ⟨l, A6, c6⟩ (HO6.out.alloc _) (by rw [hTk.out]; exact HO7.out) (by rw [hTk.out]; exact HG7.out)
          refine ⟨k + 1, Ts ++ [⟨l, A6, c6⟩], A7, d7, by omega, by go_num, hb7.setCell (p := ⟨w.heap.size + 1 + 1, 0, none⟩) (by show w.heap.size ≤ w.heap.size + 1 + 1; omega) _, b27.far (p := ⟨w.heap.size + 1 + 1, 0, none⟩) (by simp) _, ?_, hO7.setT b37 (by decide) (by decide) 0 _, ?_, ?_⟩
          · have := b37.set_ 0 (.slice A7 (k + 1) d7)
            simpa using this
          · rw [lvs_append, hH.out.2.1, HIN.out]; rfl
          · rw [List.length_append, hTk.out]; rfl
        case measure => simp [intOf]; omega
    · have hkn : k = Rs.length := by omega
      have HF : Hid (lvs Ts = lvs Rs) := by
        have h := hH.out.2.1
        rw [List.take_of_length_le (by rw [lvs_len]; omega)] at h
        exact h
      have HTK : Hid (Ts.length = k) := hH.out.2.2
      clear hkn
      have f20 := b2.frozen 0
      have f21 := b2.frozen 1
      have c20 : wr.cell? ⟨w.heap.size + 1, 0, none⟩ = some (.slice none 0 0) := b2.cell 0
      have c21 : wr.cell? ⟨w.heap.size + 1, 1, none⟩ = some (.int .u64 0) := b2.cell 1
      go_wp2
      have hbx := box2 b2 (.slice A k d) (.int .u64 n)
      have e0 : ((wr.setCell ⟨w.heap.size + 1, 0, none⟩ (.slice A k d)).setCell ⟨w.heap.size + 1, 1, none⟩ (.int .u64 n)).cell? ⟨w.heap.size + 1, 0, none⟩ = some (.slice A k d) := hbx.cell 0
      have e1 : ((wr.setCell ⟨w.heap.size + 1, 0, none⟩ (.slice A k d)).setCell ⟨w.heap.size + 1, 1, none⟩ (.int .u64 n)).cell? ⟨w.heap.size + 1, 1, none⟩ = some (.int .u64 n) := hbx.cell 1
      refine bodyPost_ret (v := .agg #[.slice A k d, .int .u64 n]) (by simp [results, Tryz.results38, go_sem, e0, e1]) rfl ?_
      exact ⟨A, d, Ts, by rw [HTK.out], HF.out, hH.out.1.set2 b2 (by decide) (by decide) _ _, below2 hb (Nat.le_succ _) _ _⟩
end Go.Proofs.YthbppblmecdekaaGreatDoor
