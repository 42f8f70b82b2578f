/- The law BoundRanks: for every run and key it returns true; its arguments stay as they were. -/
import Derived.Test.YtokomclcgegfkaaDoorLa
namespace Go.Proofs.YtokomclcgegfkaaDoor
open Go Go.RowKit
set_option maxRecDepth 100000

theorem count_first (p : Nat → Bool) : ∀ (l : List Nat), l.Pairwise (fun a b => p b = true → p a = true) → ∀ i (hi : i < l.length), p (l[i]'hi) = true ↔ i < l.countP p
  | [], _, i, hi => by simp at hi
  | a :: l, h, i, hi => by
    obtain ⟨h1, h2⟩ := List.pairwise_cons.1 h
    by_cases ha : p a = true
    · rw [List.countP_cons_of_pos ha]
      cases i with
      | zero => simp [ha]
      | succ i =>
        have := count_first p l h2 i (by simpa using hi)
        rw [List.getElem_cons_succ, this]
        omega
    · have hz : (a :: l).countP p = 0 := by
        rw [List.countP_eq_zero]
        intro x hx
        rcases List.mem_cons.1 hx with rfl | hx
        · exact ha
        · exact fun h3 => ha (h1 x hx h3)
      rw [hz]
      cases i with
      | zero => simp [ha]
      | succ i =>
        have hx : l[i]'(by simpa using hi) ∈ l := List.getElem_mem _
        rw [List.getElem_cons_succ]
        constructor
        · intro h3; exact absurd (h1 _ hx h3) ha
        · intro h3; omega
/-- the ranks below lowK have keys below, the others do not -/
theorem inL_low {l : List Ent} (h : rises ((inL l).map Ent.key) = true) (key : Int) (i : Nat) (hi : i < (inL l).length) : ((inL l)[i]'hi).key < key ↔ i < lowK l key := by
  have hi2 : i < (inord l.length 0).length := by simpa [inL] using hi
  have := count_first (belowT l key) (inord l.length 0) (inL_pairs h key) i hi2
  rw [inL_get]
  unfold lowK
  rw [← this]
  unfold belowT
  simp

theorem eytzRank_n (m n x : Nat) (w : World) (hm : m = n) (hn : n ≤ 65536) (hx : x < n) : Calls Tryd.prog 21 #[.int .i64 (m : Nat), .int .i64 (x : Nat)] w (GivesII ((inord n 0).idxOf x) 0 w) := by subst hm; exact eytzRank_ok m x w hn hx


set_option maxHeartbeats 1000000 in
theorem ranks_long (A : Option Addr) (l : List Ent) (c : Nat) (key : Int) (w : World) (hA : Sl w A (l.flatMap Ent.cells)) (hT : TabAt 1 Lib.deBruijn64tab w) (h1 : 300 < l.length) : Calls Tryd.prog 4 #[.agg #[.slice A l.length c], .int .i64 key] w fun r w' => r = .returned (.bool true) ∧ Below w.heap.size w w' := by
  have hb0 : Below w.heap.size w (w.alloc (.cells #[.slice A l.length c] 24)) := (Below.refl _ _).alloc (Nat.le_refl _) _
  have bX := Blk.new w 24 #[.slice A l.length c]
  have hTl := tab_lt hT
  have HT := Lib.hid hT
  have hA' := Lib.hid hA
  clear hT hA
  go_enter Tryd.func4, Tryd.ntmps4
  go_wp2_with fail
  refine (alive_any _ (tab_below hTl HT.out hb0)).mono ?_
  rintro e w1 ⟨rfl, hb1⟩
  have hb01 := bext hb0 hb1
  have bX1 := bX.below hb1 bX.lt
  have c0 : w1.cell? ⟨w.heap.size, 0, none⟩ = some (.slice A l.length c) := bX1.cell 0
  clear bX hb1 hb0
  go_wp2
  go_ret
  exact ⟨rfl, hb01⟩


set_option maxHeartbeats 1000000 in
theorem ranks_bad (A : Option Addr) (l : List Ent) (c : Nat) (key : Int) (w : World) (hA : Sl w A (l.flatMap Ent.cells)) (hT : TabAt 1 Lib.deBruijn64tab w) (h1 : ¬ 300 < l.length) (E : Int) (hE : chkE l = E) (hne : ¬ E = 0) : Calls Tryd.prog 4 #[.agg #[.slice A l.length c], .int .i64 key] w fun r w' => r = .returned (.bool true) ∧ Below w.heap.size w w' := by
  obtain ⟨a1, a2⟩ := low_bad key (show ¬ chkE l = 0 by rw [hE]; exact hne)
  rw [hE] at a1
  have a3 : fdE l key = E := by unfold fdE; rw [a1, if_pos hne]
  have a4 : fdAt l key = 0 := by unfold fdAt; rw [a3, if_neg hne]
  have a5 : rkN l key = 0 := by unfold rkN; rw [hE, if_neg hne]
  have a6 : sortL l = [] := by unfold sortL; rw [hE, if_neg hne]
  have HC := Lib.hid hE
  have HLE := Lib.hid a1
  have HLA := Lib.hid a2
  have HFE := Lib.hid a3
  have HFA := Lib.hid a4
  have HRK := Lib.hid a5
  have HS := Lib.hid a6
  clear hE a1 a2 a3 a4 a5 a6
  have hb0 : Below w.heap.size w (w.alloc (.cells #[.slice A l.length c] 24)) := (Below.refl _ _).alloc (Nat.le_refl _) _
  have bX := Blk.new w 24 #[.slice A l.length c]
  have hTl := tab_lt hT
  have HT := Lib.hid hT
  have hA' := Lib.hid hA
  clear hT hA
  go_enter Tryd.func4, Tryd.ntmps4
  go_wp2_with fail
  refine (alive_any _ (tab_below hTl HT.out hb0)).mono ?_
  rintro e w1 ⟨rfl, hb1⟩
  have hb01 := bext hb0 hb1
  have bX1 := bX.below hb1 bX.lt
  have c0 : w1.cell? ⟨w.heap.size, 0, none⟩ = some (.slice A l.length c) := bX1.cell 0
  clear bX hb1 hb0
  go_wp2_with fail
  refine (sortedE_any A l c _ (hA'.out.below hb01) (by omega)).mono ?_
  rw [HS.out, HC.out]
  rintro e w2 ⟨A2, c2, rfl, ho2, hb2⟩
  have hb02 := bext hb01 hb2
  have bX2 := bX1.below hb2 bX1.lt
  clear c0
  have c0 : w2.cell? ⟨w.heap.size, 0, none⟩ = some (.slice A l.length c) := bX2.cell 0
  clear bX1
  have hs2 := Lib.hid (own_sl ho2)
  clear ho2
  go_wp2_with fail
  refine (lower_any A l c key _ (hA'.out.below hb02) (by omega) (tab_below hTl HT.out hb02)).mono ?_
  unfold GivesII
  rw [HLE.out, HLA.out]
  rintro e w3 ⟨rfl, hb3⟩
  have hb03 := bext hb02 hb3
  have bX3 := bX2.below hb3 bX2.lt
  clear c0
  have c0 : w3.cell? ⟨w.heap.size, 0, none⟩ = some (.slice A l.length c) := bX3.cell 0
  clear bX2
  go_wp2_with fail
  refine (rank_any A l c key _ (hA'.out.below hb03) (by omega) (tab_below hTl HT.out hb03)).mono ?_
  unfold GivesII
  rw [HC.out, HRK.out]
  rintro e w4 ⟨rfl, hb4⟩
  have hb04 := bext hb03 hb4
  have bX4 := bX3.below hb4 bX3.lt
  clear c0
  have c0 : w4.cell? ⟨w.heap.size, 0, none⟩ = some (.slice A l.length c) := bX4.cell 0
  clear bX3
  go_wp2_with fail
  refine (find_any A l c key _ (hA'.out.below hb04) (by omega) (tab_below hTl HT.out hb04)).mono ?_
  unfold GivesII
  rw [HFE.out, HFA.out]
  rintro e w5 ⟨rfl, hb5⟩
  have hb05 := bext hb04 hb5
  have bX5 := bX4.below hb5 bX4.lt
  clear c0
  have c0 : w5.cell? ⟨w.heap.size, 0, none⟩ = some (.slice A l.length c) := bX5.cell 0
  clear bX4
  have hs5 := hs2.out.below (bext hb3 (bext hb4 hb5))
  clear hs5
  go_wp2
  go_ret
  exact ⟨rfl, hb05⟩


set_option maxHeartbeats 2000000 in
theorem ranks_ze (A : Option Addr) (l : List Ent) (c : Nat) (key : Int) (w : World) (hA : Sl w A (l.flatMap Ent.cells)) (hT : TabAt 1 Lib.deBruijn64tab w) (h1 : ¬ 300 < l.length) (hC : chkE l = 0) (hK : l.length = 0) (hle : lowE l key = 6) (hla : lowAt l key = 0) (hrk : rkN l key = 0) (hfe : fdE l key = 6) (hfa : fdAt l key = 0) : Calls Tryd.prog 4 #[.agg #[.slice A l.length c], .int .i64 key] w fun r w' => r = .returned (.bool true) ∧ Below w.heap.size w w' := by
  have HS := Lib.hid (show sortL l = inL l by unfold sortL; rw [if_pos hC])
  have HLN := Lib.hid (inL_length l)
  have HC := Lib.hid hC
  have HLE := Lib.hid hle
  have HLA := Lib.hid hla
  have HFE := Lib.hid hfe
  have HFA := Lib.hid hfa
  have HRK := Lib.hid hrk
  have HKK := Lib.hid hK
  clear hK
  clear hC hle hla hfe hfa hrk
  have hb0 : Below w.heap.size w (w.alloc (.cells #[.slice A l.length c] 24)) := (Below.refl _ _).alloc (Nat.le_refl _) _
  have bX := Blk.new w 24 #[.slice A l.length c]
  have hTl := tab_lt hT
  have HT := Lib.hid hT
  have hA' := Lib.hid hA
  clear hT hA
  go_enter Tryd.func4, Tryd.ntmps4
  go_wp2_with fail
  refine (alive_any _ (tab_below hTl HT.out hb0)).mono ?_
  rintro e w1 ⟨rfl, hb1⟩
  have hb01 := bext hb0 hb1
  have bX1 := bX.below hb1 bX.lt
  have c0 : w1.cell? ⟨w.heap.size, 0, none⟩ = some (.slice A l.length c) := bX1.cell 0
  clear bX hb1 hb0
  go_wp2_with fail
  refine (sortedE_any A l c _ (hA'.out.below hb01) (by omega)).mono ?_
  rw [HS.out, HC.out]
  rintro e w2 ⟨A2, c2, rfl, ho2, hb2⟩
  have hb02 := bext hb01 hb2
  have bX2 := bX1.below hb2 bX1.lt
  clear c0
  have c0 : w2.cell? ⟨w.heap.size, 0, none⟩ = some (.slice A l.length c) := bX2.cell 0
  clear bX1
  rw [HLN.out]
  have hs2 := Lib.hid (own_sl ho2)
  clear ho2
  go_wp2_with fail
  refine (lower_any A l c key _ (hA'.out.below hb02) (by omega) (tab_below hTl HT.out hb02)).mono ?_
  unfold GivesII
  rw [HLE.out, HLA.out]
  rintro e w3 ⟨rfl, hb3⟩
  have hb03 := bext hb02 hb3
  have bX3 := bX2.below hb3 bX2.lt
  clear c0
  have c0 : w3.cell? ⟨w.heap.size, 0, none⟩ = some (.slice A l.length c) := bX3.cell 0
  clear bX2
  go_wp2_with fail
  refine (rank_any A l c key _ (hA'.out.below hb03) (by omega) (tab_below hTl HT.out hb03)).mono ?_
  unfold GivesII
  rw [HC.out, HRK.out]
  rintro e w4 ⟨rfl, hb4⟩
  have hb04 := bext hb03 hb4
  have bX4 := bX3.below hb4 bX3.lt
  clear c0
  have c0 : w4.cell? ⟨w.heap.size, 0, none⟩ = some (.slice A l.length c) := bX4.cell 0
  clear bX3
  go_wp2_with fail
  refine (find_any A l c key _ (hA'.out.below hb04) (by omega) (tab_below hTl HT.out hb04)).mono ?_
  unfold GivesII
  rw [HFE.out, HFA.out]
  rintro e w5 ⟨rfl, hb5⟩
  have hb05 := bext hb04 hb5
  have bX5 := bX4.below hb5 bX4.lt
  clear c0
  have c0 : w5.cell? ⟨w.heap.size, 0, none⟩ = some (.slice A l.length c) := bX5.cell 0
  clear bX4
  have hs5 := hs2.out.below (bext hb3 (bext hb4 hb5))
  clear hs5
  have i5 : ¬ (0 : Int) < (l.length : Int) := by have := HKK.out; omega
  have i4 : ¬ (l.length : Int) < 0 := by omega
  have i7 : ((0 : Int) == (l.length : Int)) = true := by rw [beq_iff_eq]; have := HKK.out; omega
  go_wp2
  go_ret
  exact ⟨rfl, hb05⟩


set_option maxHeartbeats 2000000 in
theorem ranks_pe (A : Option Addr) (l : List Ent) (c : Nat) (key : Int) (w : World) (hA : Sl w A (l.flatMap Ent.cells)) (hT : TabAt 1 Lib.deBruijn64tab w) (h1 : ¬ 300 < l.length) (hC : chkE l = 0) (j : Nat) (p : Ent) (hjl : j < (inL l).length) (hpj : (inL l)[j]'hjl = p) (hpk : p.key < key) (hK : l.length = (j + 1)) (hle : lowE l key = 6) (hla : lowAt l key = 0) (hrk : rkN l key = (j + 1)) (hfe : fdE l key = 6) (hfa : fdAt l key = 0) : Calls Tryd.prog 4 #[.agg #[.slice A l.length c], .int .i64 key] w fun r w' => r = .returned (.bool true) ∧ Below w.heap.size w w' := by
  have HS := Lib.hid (show sortL l = inL l by unfold sortL; rw [if_pos hC])
  have HLN := Lib.hid (inL_length l)
  have HC := Lib.hid hC
  have HLE := Lib.hid hle
  have HLA := Lib.hid hla
  have HFE := Lib.hid hfe
  have HFA := Lib.hid hfa
  have HRK := Lib.hid hrk
  have hjl2 : j < l.length := by rw [inL_length] at hjl; exact hjl
  have HKK := Lib.hid hK
  clear hK
  clear hC hle hla hfe hfa hrk
  have hb0 : Below w.heap.size w (w.alloc (.cells #[.slice A l.length c] 24)) := (Below.refl _ _).alloc (Nat.le_refl _) _
  have bX := Blk.new w 24 #[.slice A l.length c]
  have hTl := tab_lt hT
  have HT := Lib.hid hT
  have hA' := Lib.hid hA
  clear hT hA
  go_enter Tryd.func4, Tryd.ntmps4
  go_wp2_with fail
  refine (alive_any _ (tab_below hTl HT.out hb0)).mono ?_
  rintro e w1 ⟨rfl, hb1⟩
  have hb01 := bext hb0 hb1
  have bX1 := bX.below hb1 bX.lt
  have c0 : w1.cell? ⟨w.heap.size, 0, none⟩ = some (.slice A l.length c) := bX1.cell 0
  clear bX hb1 hb0
  go_wp2_with fail
  refine (sortedE_any A l c _ (hA'.out.below hb01) (by omega)).mono ?_
  rw [HS.out, HC.out]
  rintro e w2 ⟨A2, c2, rfl, ho2, hb2⟩
  have hb02 := bext hb01 hb2
  have bX2 := bX1.below hb2 bX1.lt
  clear c0
  have c0 : w2.cell? ⟨w.heap.size, 0, none⟩ = some (.slice A l.length c) := bX2.cell 0
  clear bX1
  rw [HLN.out]
  have hs2 := Lib.hid (own_sl ho2)
  clear ho2
  go_wp2_with fail
  refine (lower_any A l c key _ (hA'.out.below hb02) (by omega) (tab_below hTl HT.out hb02)).mono ?_
  unfold GivesII
  rw [HLE.out, HLA.out]
  rintro e w3 ⟨rfl, hb3⟩
  have hb03 := bext hb02 hb3
  have bX3 := bX2.below hb3 bX2.lt
  clear c0
  have c0 : w3.cell? ⟨w.heap.size, 0, none⟩ = some (.slice A l.length c) := bX3.cell 0
  clear bX2
  go_wp2_with fail
  refine (rank_any A l c key _ (hA'.out.below hb03) (by omega) (tab_below hTl HT.out hb03)).mono ?_
  unfold GivesII
  rw [HC.out, HRK.out]
  rintro e w4 ⟨rfl, hb4⟩
  have hb04 := bext hb03 hb4
  have bX4 := bX3.below hb4 bX3.lt
  clear c0
  have c0 : w4.cell? ⟨w.heap.size, 0, none⟩ = some (.slice A l.length c) := bX4.cell 0
  clear bX3
  go_wp2_with fail
  refine (find_any A l c key _ (hA'.out.below hb04) (by omega) (tab_below hTl HT.out hb04)).mono ?_
  unfold GivesII
  rw [HFE.out, HFA.out]
  rintro e w5 ⟨rfl, hb5⟩
  have hb05 := bext hb04 hb5
  have bX5 := bX4.below hb5 bX4.lt
  clear c0
  have c0 : w5.cell? ⟨w.heap.size, 0, none⟩ = some (.slice A l.length c) := bX5.cell 0
  clear bX4
  have hs5 := hs2.out.below (bext hb3 (bext hb4 hb5))
  obtain ⟨b, off, rfl, hbl, p1, p2, p3⟩ := hs5.ent j hjl
  rw [hpj] at p1
  have hs5' := Lib.hid hs5
  clear hs5 p2 p3
  have i0 : (0 : Int) ≤ (j : Int) := by omega
  have i1 : (j : Int) < (l.length : Int) := by omega
  have i2 : (0 : Int) < (j : Int) + 1 := by omega
  have i3 : ¬ (j : Int) + 1 < 0 := by omega
  have i4 : ¬ (l.length : Int) < (j : Int) + 1 := by omega
  have hw1 : IntKind.i64.wrap ((j : Int) + 1 - 1) = (j : Int) := by rw [show (j : Int) + 1 - 1 = (j : Int) by omega]; exact IntWalk.i64_in _ (by omega)
  have hge : decide (key ≤ p.key) = false := decide_eq_false (by omega)
  have i5 : ¬ (j : Int) + 1 < (l.length : Int) := by have := HKK.out; omega
  have i7 : ((j : Int) + 1 == (l.length : Int)) = true := by rw [beq_iff_eq]; have := HKK.out; omega
  clear hpk hjl2
  go_wp2
  go_ret
  exact ⟨rfl, hb05⟩


set_option maxHeartbeats 2000000 in
theorem ranks_zm (A : Option Addr) (l : List Ent) (c : Nat) (key : Int) (w : World) (hA : Sl w A (l.flatMap Ent.cells)) (hT : TabAt 1 Lib.deBruijn64tab w) (h1 : ¬ 300 < l.length) (hC : chkE l = 0) (at_ : Nat) (hatl : at_ < l.length) (hidx : (inord l.length 0).idxOf at_ = 0) (q : Ent) (hkl : 0 < (inL l).length) (hq : (inL l)[0]'hkl = q) (hqk : ¬ q.key < key) (hqe : (q.key == key) = true) (hle : lowE l key = 0) (hla : lowAt l key = at_) (hrk : rkN l key = 0) (hfe : fdE l key = 0) (hfa : fdAt l key = at_) : Calls Tryd.prog 4 #[.agg #[.slice A l.length c], .int .i64 key] w fun r w' => r = .returned (.bool true) ∧ Below w.heap.size w w' := by
  have HS := Lib.hid (show sortL l = inL l by unfold sortL; rw [if_pos hC])
  have HLN := Lib.hid (inL_length l)
  have HC := Lib.hid hC
  have HLE := Lib.hid hle
  have HLA := Lib.hid hla
  have HFE := Lib.hid hfe
  have HFA := Lib.hid hfa
  have HRK := Lib.hid hrk
  have hkl2 : 0 < l.length := by rw [inL_length] at hkl; exact hkl
  have HI := Lib.hid hidx
  clear hidx
  clear hC hle hla hfe hfa hrk
  have hb0 : Below w.heap.size w (w.alloc (.cells #[.slice A l.length c] 24)) := (Below.refl _ _).alloc (Nat.le_refl _) _
  have bX := Blk.new w 24 #[.slice A l.length c]
  have hTl := tab_lt hT
  have HT := Lib.hid hT
  have hA' := Lib.hid hA
  clear hT hA
  go_enter Tryd.func4, Tryd.ntmps4
  go_wp2_with fail
  refine (alive_any _ (tab_below hTl HT.out hb0)).mono ?_
  rintro e w1 ⟨rfl, hb1⟩
  have hb01 := bext hb0 hb1
  have bX1 := bX.below hb1 bX.lt
  have c0 : w1.cell? ⟨w.heap.size, 0, none⟩ = some (.slice A l.length c) := bX1.cell 0
  clear bX hb1 hb0
  go_wp2_with fail
  refine (sortedE_any A l c _ (hA'.out.below hb01) (by omega)).mono ?_
  rw [HS.out, HC.out]
  rintro e w2 ⟨A2, c2, rfl, ho2, hb2⟩
  have hb02 := bext hb01 hb2
  have bX2 := bX1.below hb2 bX1.lt
  clear c0
  have c0 : w2.cell? ⟨w.heap.size, 0, none⟩ = some (.slice A l.length c) := bX2.cell 0
  clear bX1
  rw [HLN.out]
  have hs2 := Lib.hid (own_sl ho2)
  clear ho2
  go_wp2_with fail
  refine (lower_any A l c key _ (hA'.out.below hb02) (by omega) (tab_below hTl HT.out hb02)).mono ?_
  unfold GivesII
  rw [HLE.out, HLA.out]
  rintro e w3 ⟨rfl, hb3⟩
  have hb03 := bext hb02 hb3
  have bX3 := bX2.below hb3 bX2.lt
  clear c0
  have c0 : w3.cell? ⟨w.heap.size, 0, none⟩ = some (.slice A l.length c) := bX3.cell 0
  clear bX2
  go_wp2_with fail
  refine (rank_any A l c key _ (hA'.out.below hb03) (by omega) (tab_below hTl HT.out hb03)).mono ?_
  unfold GivesII
  rw [HC.out, HRK.out]
  rintro e w4 ⟨rfl, hb4⟩
  have hb04 := bext hb03 hb4
  have bX4 := bX3.below hb4 bX3.lt
  clear c0
  have c0 : w4.cell? ⟨w.heap.size, 0, none⟩ = some (.slice A l.length c) := bX4.cell 0
  clear bX3
  go_wp2_with fail
  refine (find_any A l c key _ (hA'.out.below hb04) (by omega) (tab_below hTl HT.out hb04)).mono ?_
  unfold GivesII
  rw [HFE.out, HFA.out]
  rintro e w5 ⟨rfl, hb5⟩
  have hb05 := bext hb04 hb5
  have bX5 := bX4.below hb5 bX4.lt
  clear c0
  have c0 : w5.cell? ⟨w.heap.size, 0, none⟩ = some (.slice A l.length c) := bX5.cell 0
  clear bX4
  have hs5 := hs2.out.below (bext hb3 (bext hb4 hb5))
  obtain ⟨b, off, rfl, hbl, q1, q2, q3⟩ := hs5.ent 0 hkl
  rw [hq, Nat.zero_mul, Nat.add_zero] at q1
  clear q2 q3 hs5
  have i5 : (0 : Int) < (l.length : Int) := by omega
  have i4 : ¬ (l.length : Int) < 0 := by omega
  have hlt : decide (q.key < key) = false := decide_eq_false (by omega)
  clear hqk hkl2
  go_wp2_with fail
  refine (eytzRank_ok l.length at_ _ (by omega) hatl).mono ?_
  unfold GivesII
  rw [HI.out]
  rintro e w6 ⟨rfl, hb6⟩
  have q1' : w6.cell? ⟨b, off, none⟩ = some (.int .i64 q.key) := ((bcell hb6).1 b _ hbl).trans q1
  clear q1
  go_wp2
  go_ret
  exact ⟨rfl, bext hb05 hb6⟩


set_option maxHeartbeats 2000000 in
theorem ranks_zn (A : Option Addr) (l : List Ent) (c : Nat) (key : Int) (w : World) (hA : Sl w A (l.flatMap Ent.cells)) (hT : TabAt 1 Lib.deBruijn64tab w) (h1 : ¬ 300 < l.length) (hC : chkE l = 0) (at_ : Nat) (hatl : at_ < l.length) (hidx : (inord l.length 0).idxOf at_ = 0) (q : Ent) (hkl : 0 < (inL l).length) (hq : (inL l)[0]'hkl = q) (hqk : ¬ q.key < key) (hqe : (q.key == key) = false) (hle : lowE l key = 0) (hla : lowAt l key = at_) (hrk : rkN l key = 0) (hfe : fdE l key = 6) (hfa : fdAt l key = 0) : Calls Tryd.prog 4 #[.agg #[.slice A l.length c], .int .i64 key] w fun r w' => r = .returned (.bool true) ∧ Below w.heap.size w w' := by
  have HS := Lib.hid (show sortL l = inL l by unfold sortL; rw [if_pos hC])
  have HLN := Lib.hid (inL_length l)
  have HC := Lib.hid hC
  have HLE := Lib.hid hle
  have HLA := Lib.hid hla
  have HFE := Lib.hid hfe
  have HFA := Lib.hid hfa
  have HRK := Lib.hid hrk
  have hkl2 : 0 < l.length := by rw [inL_length] at hkl; exact hkl
  have HI := Lib.hid hidx
  clear hidx
  clear hC hle hla hfe hfa hrk
  have hb0 : Below w.heap.size w (w.alloc (.cells #[.slice A l.length c] 24)) := (Below.refl _ _).alloc (Nat.le_refl _) _
  have bX := Blk.new w 24 #[.slice A l.length c]
  have hTl := tab_lt hT
  have HT := Lib.hid hT
  have hA' := Lib.hid hA
  clear hT hA
  go_enter Tryd.func4, Tryd.ntmps4
  go_wp2_with fail
  refine (alive_any _ (tab_below hTl HT.out hb0)).mono ?_
  rintro e w1 ⟨rfl, hb1⟩
  have hb01 := bext hb0 hb1
  have bX1 := bX.below hb1 bX.lt
  have c0 : w1.cell? ⟨w.heap.size, 0, none⟩ = some (.slice A l.length c) := bX1.cell 0
  clear bX hb1 hb0
  go_wp2_with fail
  refine (sortedE_any A l c _ (hA'.out.below hb01) (by omega)).mono ?_
  rw [HS.out, HC.out]
  rintro e w2 ⟨A2, c2, rfl, ho2, hb2⟩
  have hb02 := bext hb01 hb2
  have bX2 := bX1.below hb2 bX1.lt
  clear c0
  have c0 : w2.cell? ⟨w.heap.size, 0, none⟩ = some (.slice A l.length c) := bX2.cell 0
  clear bX1
  rw [HLN.out]
  have hs2 := Lib.hid (own_sl ho2)
  clear ho2
  go_wp2_with fail
  refine (lower_any A l c key _ (hA'.out.below hb02) (by omega) (tab_below hTl HT.out hb02)).mono ?_
  unfold GivesII
  rw [HLE.out, HLA.out]
  rintro e w3 ⟨rfl, hb3⟩
  have hb03 := bext hb02 hb3
  have bX3 := bX2.below hb3 bX2.lt
  clear c0
  have c0 : w3.cell? ⟨w.heap.size, 0, none⟩ = some (.slice A l.length c) := bX3.cell 0
  clear bX2
  go_wp2_with fail
  refine (rank_any A l c key _ (hA'.out.below hb03) (by omega) (tab_below hTl HT.out hb03)).mono ?_
  unfold GivesII
  rw [HC.out, HRK.out]
  rintro e w4 ⟨rfl, hb4⟩
  have hb04 := bext hb03 hb4
  have bX4 := bX3.below hb4 bX3.lt
  clear c0
  have c0 : w4.cell? ⟨w.heap.size, 0, none⟩ = some (.slice A l.length c) := bX4.cell 0
  clear bX3
  go_wp2_with fail
  refine (find_any A l c key _ (hA'.out.below hb04) (by omega) (tab_below hTl HT.out hb04)).mono ?_
  unfold GivesII
  rw [HFE.out, HFA.out]
  rintro e w5 ⟨rfl, hb5⟩
  have hb05 := bext hb04 hb5
  have bX5 := bX4.below hb5 bX4.lt
  clear c0
  have c0 : w5.cell? ⟨w.heap.size, 0, none⟩ = some (.slice A l.length c) := bX5.cell 0
  clear bX4
  have hs5 := hs2.out.below (bext hb3 (bext hb4 hb5))
  obtain ⟨b, off, rfl, hbl, q1, q2, q3⟩ := hs5.ent 0 hkl
  rw [hq, Nat.zero_mul, Nat.add_zero] at q1
  clear q2 q3 hs5
  have i5 : (0 : Int) < (l.length : Int) := by omega
  have i4 : ¬ (l.length : Int) < 0 := by omega
  have hlt : decide (q.key < key) = false := decide_eq_false (by omega)
  clear hqk hkl2
  go_wp2_with fail
  refine (eytzRank_ok l.length at_ _ (by omega) hatl).mono ?_
  unfold GivesII
  rw [HI.out]
  rintro e w6 ⟨rfl, hb6⟩
  have q1' : w6.cell? ⟨b, off, none⟩ = some (.int .i64 q.key) := ((bcell hb6).1 b _ hbl).trans q1
  clear q1
  go_wp2
  go_ret
  exact ⟨rfl, bext hb05 hb6⟩


set_option maxHeartbeats 2000000 in
theorem ranks_pm (A : Option Addr) (l : List Ent) (c : Nat) (key : Int) (w : World) (hA : Sl w A (l.flatMap Ent.cells)) (hT : TabAt 1 Lib.deBruijn64tab w) (h1 : ¬ 300 < l.length) (hC : chkE l = 0) (j : Nat) (p : Ent) (hjl : j < (inL l).length) (hpj : (inL l)[j]'hjl = p) (hpk : p.key < key) (at_ : Nat) (hatl : at_ < l.length) (hidx : (inord l.length 0).idxOf at_ = (j + 1)) (q : Ent) (hkl : (j + 1) < (inL l).length) (hq : (inL l)[(j + 1)]'hkl = q) (hqk : ¬ q.key < key) (hqe : (q.key == key) = true) (hle : lowE l key = 0) (hla : lowAt l key = at_) (hrk : rkN l key = (j + 1)) (hfe : fdE l key = 0) (hfa : fdAt l key = at_) : Calls Tryd.prog 4 #[.agg #[.slice A l.length c], .int .i64 key] w fun r w' => r = .returned (.bool true) ∧ Below w.heap.size w w' := by
  have HS := Lib.hid (show sortL l = inL l by unfold sortL; rw [if_pos hC])
  have HLN := Lib.hid (inL_length l)
  have HC := Lib.hid hC
  have HLE := Lib.hid hle
  have HLA := Lib.hid hla
  have HFE := Lib.hid hfe
  have HFA := Lib.hid hfa
  have HRK := Lib.hid hrk
  have hjl2 : j < l.length := by rw [inL_length] at hjl; exact hjl
  have hkl2 : (j + 1) < l.length := by rw [inL_length] at hkl; exact hkl
  have HI := Lib.hid hidx
  clear hidx
  clear hC hle hla hfe hfa hrk
  have hb0 : Below w.heap.size w (w.alloc (.cells #[.slice A l.length c] 24)) := (Below.refl _ _).alloc (Nat.le_refl _) _
  have bX := Blk.new w 24 #[.slice A l.length c]
  have hTl := tab_lt hT
  have HT := Lib.hid hT
  have hA' := Lib.hid hA
  clear hT hA
  go_enter Tryd.func4, Tryd.ntmps4
  go_wp2_with fail
  refine (alive_any _ (tab_below hTl HT.out hb0)).mono ?_
  rintro e w1 ⟨rfl, hb1⟩
  have hb01 := bext hb0 hb1
  have bX1 := bX.below hb1 bX.lt
  have c0 : w1.cell? ⟨w.heap.size, 0, none⟩ = some (.slice A l.length c) := bX1.cell 0
  clear bX hb1 hb0
  go_wp2_with fail
  refine (sortedE_any A l c _ (hA'.out.below hb01) (by omega)).mono ?_
  rw [HS.out, HC.out]
  rintro e w2 ⟨A2, c2, rfl, ho2, hb2⟩
  have hb02 := bext hb01 hb2
  have bX2 := bX1.below hb2 bX1.lt
  clear c0
  have c0 : w2.cell? ⟨w.heap.size, 0, none⟩ = some (.slice A l.length c) := bX2.cell 0
  clear bX1
  rw [HLN.out]
  have hs2 := Lib.hid (own_sl ho2)
  clear ho2
  go_wp2_with fail
  refine (lower_any A l c key _ (hA'.out.below hb02) (by omega) (tab_below hTl HT.out hb02)).mono ?_
  unfold GivesII
  rw [HLE.out, HLA.out]
  rintro e w3 ⟨rfl, hb3⟩
  have hb03 := bext hb02 hb3
  have bX3 := bX2.below hb3 bX2.lt
  clear c0
  have c0 : w3.cell? ⟨w.heap.size, 0, none⟩ = some (.slice A l.length c) := bX3.cell 0
  clear bX2
  go_wp2_with fail
  refine (rank_any A l c key _ (hA'.out.below hb03) (by omega) (tab_below hTl HT.out hb03)).mono ?_
  unfold GivesII
  rw [HC.out, HRK.out]
  rintro e w4 ⟨rfl, hb4⟩
  have hb04 := bext hb03 hb4
  have bX4 := bX3.below hb4 bX3.lt
  clear c0
  have c0 : w4.cell? ⟨w.heap.size, 0, none⟩ = some (.slice A l.length c) := bX4.cell 0
  clear bX3
  go_wp2_with fail
  refine (find_any A l c key _ (hA'.out.below hb04) (by omega) (tab_below hTl HT.out hb04)).mono ?_
  unfold GivesII
  rw [HFE.out, HFA.out]
  rintro e w5 ⟨rfl, hb5⟩
  have hb05 := bext hb04 hb5
  have bX5 := bX4.below hb5 bX4.lt
  clear c0
  have c0 : w5.cell? ⟨w.heap.size, 0, none⟩ = some (.slice A l.length c) := bX5.cell 0
  clear bX4
  have hs5 := hs2.out.below (bext hb3 (bext hb4 hb5))
  obtain ⟨b, off, rfl, hbl, p1, p2, p3⟩ := hs5.ent j hjl
  rw [hpj] at p1
  have hs5' := Lib.hid hs5
  clear hs5 p2 p3
  obtain ⟨b', off', he', hbl', q1, q2, q3⟩ := hs5'.out.ent (j + 1) hkl
  injection he' with he'
  injection he' with e1 e2
  subst e1 e2
  rw [hq] at q1
  clear q2 q3
  have i0 : (0 : Int) ≤ (j : Int) := by omega
  have i1 : (j : Int) < (l.length : Int) := by omega
  have i2 : (0 : Int) < (j : Int) + 1 := by omega
  have i3 : ¬ (j : Int) + 1 < 0 := by omega
  have i4 : ¬ (l.length : Int) < (j : Int) + 1 := by omega
  have hw1 : IntKind.i64.wrap ((j : Int) + 1 - 1) = (j : Int) := by rw [show (j : Int) + 1 - 1 = (j : Int) by omega]; exact IntWalk.i64_in _ (by omega)
  have hge : decide (key ≤ p.key) = false := decide_eq_false (by omega)
  have i5 : (j : Int) + 1 < (l.length : Int) := by omega
  have i6 : (0 : Int) ≤ (j : Int) + 1 := by omega
  have hlt : decide (q.key < key) = false := decide_eq_false (by omega)
  clear hpk hjl2
  clear hqk hkl2
  go_wp2_with fail
  refine (eytzRank_ok l.length at_ _ (by omega) hatl).mono ?_
  unfold GivesII
  rw [HI.out]
  rintro e w6 ⟨rfl, hb6⟩
  have q1' : w6.cell? ⟨b, off + (j + 1) * 3, none⟩ = some (.int .i64 q.key) := ((bcell hb6).1 b _ hbl).trans q1
  clear q1
  go_wp2
  go_ret
  exact ⟨rfl, bext hb05 hb6⟩


set_option maxHeartbeats 2000000 in
theorem ranks_pn (A : Option Addr) (l : List Ent) (c : Nat) (key : Int) (w : World) (hA : Sl w A (l.flatMap Ent.cells)) (hT : TabAt 1 Lib.deBruijn64tab w) (h1 : ¬ 300 < l.length) (hC : chkE l = 0) (j : Nat) (p : Ent) (hjl : j < (inL l).length) (hpj : (inL l)[j]'hjl = p) (hpk : p.key < key) (at_ : Nat) (hatl : at_ < l.length) (hidx : (inord l.length 0).idxOf at_ = (j + 1)) (q : Ent) (hkl : (j + 1) < (inL l).length) (hq : (inL l)[(j + 1)]'hkl = q) (hqk : ¬ q.key < key) (hqe : (q.key == key) = false) (hle : lowE l key = 0) (hla : lowAt l key = at_) (hrk : rkN l key = (j + 1)) (hfe : fdE l key = 6) (hfa : fdAt l key = 0) : Calls Tryd.prog 4 #[.agg #[.slice A l.length c], .int .i64 key] w fun r w' => r = .returned (.bool true) ∧ Below w.heap.size w w' := by
  have HS := Lib.hid (show sortL l = inL l by unfold sortL; rw [if_pos hC])
  have HLN := Lib.hid (inL_length l)
  have HC := Lib.hid hC
  have HLE := Lib.hid hle
  have HLA := Lib.hid hla
  have HFE := Lib.hid hfe
  have HFA := Lib.hid hfa
  have HRK := Lib.hid hrk
  have hjl2 : j < l.length := by rw [inL_length] at hjl; exact hjl
  have hkl2 : (j + 1) < l.length := by rw [inL_length] at hkl; exact hkl
  have HI := Lib.hid hidx
  clear hidx
  clear hC hle hla hfe hfa hrk
  have hb0 : Below w.heap.size w (w.alloc (.cells #[.slice A l.length c] 24)) := (Below.refl _ _).alloc (Nat.le_refl _) _
  have bX := Blk.new w 24 #[.slice A l.length c]
  have hTl := tab_lt hT
  have HT := Lib.hid hT
  have hA' := Lib.hid hA
  clear hT hA
  go_enter Tryd.func4, Tryd.ntmps4
  go_wp2_with fail
  refine (alive_any _ (tab_below hTl HT.out hb0)).mono ?_
  rintro e w1 ⟨rfl, hb1⟩
  have hb01 := bext hb0 hb1
  have bX1 := bX.below hb1 bX.lt
  have c0 : w1.cell? ⟨w.heap.size, 0, none⟩ = some (.slice A l.length c) := bX1.cell 0
  clear bX hb1 hb0
  go_wp2_with fail
  refine (sortedE_any A l c _ (hA'.out.below hb01) (by omega)).mono ?_
  rw [HS.out, HC.out]
  rintro e w2 ⟨A2, c2, rfl, ho2, hb2⟩
  have hb02 := bext hb01 hb2
  have bX2 := bX1.below hb2 bX1.lt
  clear c0
  have c0 : w2.cell? ⟨w.heap.size, 0, none⟩ = some (.slice A l.length c) := bX2.cell 0
  clear bX1
  rw [HLN.out]
  have hs2 := Lib.hid (own_sl ho2)
  clear ho2
  go_wp2_with fail
  refine (lower_any A l c key _ (hA'.out.below hb02) (by omega) (tab_below hTl HT.out hb02)).mono ?_
  unfold GivesII
  rw [HLE.out, HLA.out]
  rintro e w3 ⟨rfl, hb3⟩
  have hb03 := bext hb02 hb3
  have bX3 := bX2.below hb3 bX2.lt
  clear c0
  have c0 : w3.cell? ⟨w.heap.size, 0, none⟩ = some (.slice A l.length c) := bX3.cell 0
  clear bX2
  go_wp2_with fail
  refine (rank_any A l c key _ (hA'.out.below hb03) (by omega) (tab_below hTl HT.out hb03)).mono ?_
  unfold GivesII
  rw [HC.out, HRK.out]
  rintro e w4 ⟨rfl, hb4⟩
  have hb04 := bext hb03 hb4
  have bX4 := bX3.below hb4 bX3.lt
  clear c0
  have c0 : w4.cell? ⟨w.heap.size, 0, none⟩ = some (.slice A l.length c) := bX4.cell 0
  clear bX3
  go_wp2_with fail
  refine (find_any A l c key _ (hA'.out.below hb04) (by omega) (tab_below hTl HT.out hb04)).mono ?_
  unfold GivesII
  rw [HFE.out, HFA.out]
  rintro e w5 ⟨rfl, hb5⟩
  have hb05 := bext hb04 hb5
  have bX5 := bX4.below hb5 bX4.lt
  clear c0
  have c0 : w5.cell? ⟨w.heap.size, 0, none⟩ = some (.slice A l.length c) := bX5.cell 0
  clear bX4
  have hs5 := hs2.out.below (bext hb3 (bext hb4 hb5))
  obtain ⟨b, off, rfl, hbl, p1, p2, p3⟩ := hs5.ent j hjl
  rw [hpj] at p1
  have hs5' := Lib.hid hs5
  clear hs5 p2 p3
  obtain ⟨b', off', he', hbl', q1, q2, q3⟩ := hs5'.out.ent (j + 1) hkl
  injection he' with he'
  injection he' with e1 e2
  subst e1 e2
  rw [hq] at q1
  clear q2 q3
  have i0 : (0 : Int) ≤ (j : Int) := by omega
  have i1 : (j : Int) < (l.length : Int) := by omega
  have i2 : (0 : Int) < (j : Int) + 1 := by omega
  have i3 : ¬ (j : Int) + 1 < 0 := by omega
  have i4 : ¬ (l.length : Int) < (j : Int) + 1 := by omega
  have hw1 : IntKind.i64.wrap ((j : Int) + 1 - 1) = (j : Int) := by rw [show (j : Int) + 1 - 1 = (j : Int) by omega]; exact IntWalk.i64_in _ (by omega)
  have hge : decide (key ≤ p.key) = false := decide_eq_false (by omega)
  have i5 : (j : Int) + 1 < (l.length : Int) := by omega
  have i6 : (0 : Int) ≤ (j : Int) + 1 := by omega
  have hlt : decide (q.key < key) = false := decide_eq_false (by omega)
  clear hpk hjl2
  clear hqk hkl2
  go_wp2_with fail
  refine (eytzRank_ok l.length at_ _ (by omega) hatl).mono ?_
  unfold GivesII
  rw [HI.out]
  rintro e w6 ⟨rfl, hb6⟩
  have q1' : w6.cell? ⟨b, off + (j + 1) * 3, none⟩ = some (.int .i64 q.key) := ((bcell hb6).1 b _ hbl).trans q1
  clear q1
  go_wp2
  go_ret
  exact ⟨rfl, bext hb05 hb6⟩


theorem ranks_any (A : Option Addr) (l : List Ent) (c : Nat) (key : Int) (w : World) (hA : Sl w A (l.flatMap Ent.cells)) (hT : TabAt 1 Lib.deBruijn64tab w) : Calls Tryd.prog 4 #[.agg #[.slice A l.length c], .int .i64 key] w fun r w' => r = .returned (.bool true) ∧ Below w.heap.size w w' := by
  by_cases h1 : 300 < l.length
  · exact ranks_long A l c key w hA hT h1
  by_cases hC : chkE l = 0
  case neg => exact ranks_bad A l c key w hA hT h1 _ rfl hC
  obtain ⟨_, hr, _⟩ := chk_ok hC
  have hK := lowK_le l key
  have hrk : rkN l key = lowK l key := by unfold rkN; rw [if_pos hC]
  have hlt := inL_low hr key
  have hil := inL_length l
  by_cases hend : lowK l key = l.length
  · obtain ⟨h6, h7⟩ := low_six hC hend
    have h8 : fdE l key = 6 := by unfold fdE; rw [h6]; rfl
    have h9 : fdAt l key = 0 := by unfold fdAt; rw [h8]; rfl
    by_cases hz : lowK l key = 0
    · exact ranks_ze A l c key w hA hT h1 hC (by omega) h6 h7 (by rw [hrk, hz]) h8 h9
    · obtain ⟨j, hj⟩ : ∃ j, lowK l key = j + 1 := ⟨lowK l key - 1, by omega⟩
      have hjl : j < (inL l).length := by omega
      exact ranks_pe A l c key w hA hT h1 hC j _ hjl rfl ((hlt j hjl).2 (by omega)) (by omega) h6 h7 (by rw [hrk, hj]) h8 h9
  · obtain ⟨h6, h7, h8⟩ := low_at hC hend
    have hidx : (inord l.length 0).idxOf (lowAt l key) = lowK l key := by
      obtain ⟨g1, g2⟩ := List.getElem?_eq_some_iff.1 h7
      rw [← g2]
      exact idx_inord g1
    have hkl : lowK l key < (inL l).length := by omega
    have hq : (inL l)[lowK l key]'hkl = entAt l (lowAt l key) := by
      rw [inL_get]
      congr 1
      exact (List.getElem?_eq_some_iff.1 h7).2
    have hqk : ¬ ((inL l)[lowK l key]'hkl).key < key := fun h => by have := (hlt _ hkl).1 h; omega
    rw [hq] at hqk
    by_cases he : (entAt l (lowAt l key)).key = key
    · have hfe : fdE l key = 0 := by unfold fdE; rw [h6, if_neg (by simp), if_pos he]
      have hfa : fdAt l key = lowAt l key := by unfold fdAt; rw [hfe, if_pos rfl]
      by_cases hz : lowK l key = 0
      · simp only [hz] at hkl hq hidx
        exact ranks_zm A l c key w hA hT h1 hC _ h8 hidx _ hkl hq hqk (by simpa using he) h6 rfl (by rw [hrk, hz]) hfe hfa
      · obtain ⟨j, hj⟩ : ∃ j, lowK l key = j + 1 := ⟨lowK l key - 1, by omega⟩
        have hjl : j < (inL l).length := by omega
        have hpk := (hlt j hjl).2 (by omega)
        simp only [hj] at hkl hq hidx
        exact ranks_pm A l c key w hA hT h1 hC j _ hjl rfl hpk _ h8 hidx _ hkl hq hqk (by simpa using he) h6 rfl (by rw [hrk, hj]) hfe hfa
    · have hfe : fdE l key = 6 := by unfold fdE; rw [h6, if_neg (by simp), if_neg he]
      have hfa : fdAt l key = 0 := by unfold fdAt; rw [hfe]; rfl
      by_cases hz : lowK l key = 0
      · simp only [hz] at hkl hq hidx
        exact ranks_zn A l c key w hA hT h1 hC _ h8 hidx _ hkl hq hqk (by simpa using he) h6 rfl (by rw [hrk, hz]) hfe hfa
      · obtain ⟨j, hj⟩ : ∃ j, lowK l key = j + 1 := ⟨lowK l key - 1, by omega⟩
        have hjl : j < (inL l).length := by omega
        have hpk := (hlt j hjl).2 (by omega)
        simp only [hj] at hkl hq hidx
        exact ranks_pn A l c key w hA hT h1 hC j _ hjl rfl hpk _ h8 hidx _ hkl hq hqk (by simpa using he) h6 rfl (by rw [hrk, hj]) hfe hfa
end Go.Proofs.YtokomclcgegfkaaDoor