/- The law BoundBack: for every entries and run it returns true; its arguments stay as they were. -/
import Derived.Test.YtokomclcgegfkaaDoorLa
import Derived.Test.YtokomclcgegfkaaDoorLf
namespace Go.Proofs.YtokomclcgegfkaaDoor
open Go Go.RowKit
set_option maxRecDepth 100000


set_option maxHeartbeats 1000000 in
theorem back_l1 (A : Option Addr) (l : List Ent) (c : Nat) (B : Option Addr) (x : List Ent) (d : Nat) (w : World) (hA : Sl w A (l.flatMap Ent.cells)) (hB : Sl w B (x.flatMap Ent.cells)) (hT : TabAt 1 Lib.deBruijn64tab w) (h1 : 300 < l.length) : Calls Tryd.prog 5 #[.slice A l.length c, .agg #[.slice B x.length d]] w fun r w' => r = .returned (.bool true) ∧ Below w.heap.size w w' := by
  have hb0 : Below w.heap.size w (w.alloc (.cells #[.slice B x.length d] 24)) := (Below.refl _ _).alloc (Nat.le_refl _) _
  have bX := Blk.new w 24 #[.slice B x.length d]
  have hTl := tab_lt hT
  have HT := Lib.hid hT
  have hA' := Lib.hid hA
  have hB' := Lib.hid hB
  clear hT hA hB
  go_enter Tryd.func5, Tryd.ntmps5
  go_wp2_with fail
  refine (alive_any _ (tab_below hTl HT.out hb0)).mono ?_
  rintro e w1 ⟨rfl, hb1⟩
  have hb01 := bext hb0 hb1
  have bX1 := Blk.below bX hb1 bX.lt
  have c0 : w1.cell? ⟨w.heap.size, 0, none⟩ = some (.slice B x.length d) := bX1.cell 0
  clear bX hb1 hb0
  go_wp2
  go_ret
  exact ⟨rfl, hb01⟩


set_option maxHeartbeats 1000000 in
theorem back_l2 (A : Option Addr) (l : List Ent) (c : Nat) (B : Option Addr) (x : List Ent) (d : Nat) (w : World) (hA : Sl w A (l.flatMap Ent.cells)) (hB : Sl w B (x.flatMap Ent.cells)) (hT : TabAt 1 Lib.deBruijn64tab w) (h1 : ¬ 300 < l.length) (h2 : 300 < x.length) : Calls Tryd.prog 5 #[.slice A l.length c, .agg #[.slice B x.length d]] w fun r w' => r = .returned (.bool true) ∧ Below w.heap.size w w' := by
  have hb0 : Below w.heap.size w (w.alloc (.cells #[.slice B x.length d] 24)) := (Below.refl _ _).alloc (Nat.le_refl _) _
  have bX := Blk.new w 24 #[.slice B x.length d]
  have hTl := tab_lt hT
  have HT := Lib.hid hT
  have hA' := Lib.hid hA
  have hB' := Lib.hid hB
  clear hT hA hB
  go_enter Tryd.func5, Tryd.ntmps5
  go_wp2_with fail
  refine (alive_any _ (tab_below hTl HT.out hb0)).mono ?_
  rintro e w1 ⟨rfl, hb1⟩
  have hb01 := bext hb0 hb1
  have bX1 := Blk.below bX hb1 bX.lt
  have c0 : w1.cell? ⟨w.heap.size, 0, none⟩ = some (.slice B x.length d) := bX1.cell 0
  clear bX hb1 hb0
  go_wp2
  go_ret
  exact ⟨rfl, hb01⟩


theorem sortedE_n (A : Option Addr) (l : List Ent) (n c : Nat) (w : World) (hn : l.length = n) (hA : Sl w A (l.flatMap Ent.cells)) (hl : l.length ≤ 4611686018427387903) :
    Calls Tryd.prog 20 #[.agg #[.slice A n c]] w (GivesEnts (sortL l) (chkE l) w) := by subst hn; exact sortedE_any A l c w hA hl
theorem check_n (A : Option Addr) (l : List Ent) (n c : Nat) (w : World) (hn : l.length = n) (hA : Sl w A (l.flatMap Ent.cells)) (hl : l.length ≤ 4611686018427387903) :
    Calls Tryd.prog 18 #[.agg #[.slice A n c]] w fun r w' => r = .returned (.int .i64 (chkE l)) ∧ Below w.heap.size w w' := by subst hn; exact check_any A l c w hA hl


set_option maxHeartbeats 2000000 in
theorem back_11 (A : Option Addr) (l : List Ent) (c : Nat) (B : Option Addr) (x : List Ent) (d : Nat) (w : World) (hA : Sl w A (l.flatMap Ent.cells)) (hB : Sl w B (x.flatMap Ent.cells)) (hT : TabAt 1 Lib.deBruijn64tab w) (h1 : ¬ 300 < l.length) (h2 : ¬ 300 < x.length) (hl0 : buildE l = 0) (hx0 : chkE x = 0) : Calls Tryd.prog 5 #[.slice A l.length c, .agg #[.slice B x.length d]] w fun r w' => r = .returned (.bool true) ∧ Below w.heap.size w w' := by
  have HBE := Lib.hid hl0
  have HBL := Lib.hid (show buildL l = laid l by unfold buildL; rw [if_pos hl0])
  have HLL := Lib.hid (laid_length l)
  have HCL := Lib.hid (build_chk hl0)
  have HSL := Lib.hid (show sortL (laid l) = l by unfold sortL; rw [if_pos (build_chk hl0), in_laid])
  clear hl0
  have HCX := Lib.hid hx0
  have HSX := Lib.hid (show sortL x = inL x by unfold sortL; rw [if_pos hx0])
  have HBI := Lib.hid (chk_build hx0)
  have HBX := Lib.hid (show buildL (inL x) = x by unfold buildL; rw [if_pos (chk_build hx0), laid_in])
  clear hx0
  have hb0 : Below w.heap.size w (w.alloc (.cells #[.slice B x.length d] 24)) := (Below.refl _ _).alloc (Nat.le_refl _) _
  have bX := Blk.new w 24 #[.slice B x.length d]
  have hTl := tab_lt hT
  have HT := Lib.hid hT
  have hA' := Lib.hid hA
  have hB' := Lib.hid hB
  clear hT hA hB
  go_enter Tryd.func5, Tryd.ntmps5
  go_wp2_with fail
  refine (alive_any _ (tab_below hTl HT.out hb0)).mono ?_
  rintro e w1 ⟨rfl, hb1⟩
  have hb01 := bext hb0 hb1
  have bX1 := Blk.below bX hb1 bX.lt
  have c0 : w1.cell? ⟨w.heap.size, 0, none⟩ = some (.slice B x.length d) := bX1.cell 0
  clear bX hb1 hb0
  go_wp2_with fail
  refine (build_any A l c _ (hA'.out.below hb01) (by omega)).mono ?_
  rw [HBL.out, HBE.out]
  rintro e w2 ⟨A2, c2, rfl, ho2, hb2⟩
  have hb02 := bext hb01 hb2
  rw [HLL.out]
  have hs2 := own_sl ho2
  have ba : Below w2.heap.size w2 (w2.alloc (.cells #[.slice A2 l.length c2] 24)) := (Below.refl _ _).alloc (Nat.le_refl _) _
  have bY : Blk (w2.alloc (.cells #[.slice A2 l.length c2] 24)) w2.heap.size 24 #[.slice A2 l.length c2] := Blk.new _ _ _
  go_upto_region 5 with fail
  obtain ⟨W2, hW2⟩ : ∃ W2, w2.alloc (.cells #[.slice A2 l.length c2] 24) = W2 := ⟨_, rfl⟩
  obtain ⟨gy, hgy⟩ : ∃ gy, w2.heap.size = gy := ⟨_, rfl⟩
  have hb2W := bext hb2 (hW2 ▸ ba)
  rw [hW2] at ba bY
  rw [hgy] at bY
  try rw [hW2]
  try rw [hgy]
  have hb0W := bext hb02 ba
  have bXW := bX1.below hb2W bX1.lt
  clear c0
  have c0 : W2.cell? ⟨w.heap.size, 0, none⟩ = some (.slice B x.length d) := bXW.cell 0
  have y0 : W2.cell? ⟨gy, 0, none⟩ = some (.slice A2 l.length c2) := bY.cell 0
  have hsW := Lib.hid (hs2.below ba)
  clear hW2 hgy hb2W bX1 ho2 ba hs2
  go_wp2_with fail
  refine (sortedE_n A2 (laid l) l.length c2 _ (laid_length l) hsW.out (by rw [laid_length]; omega)).mono ?_
  rw [HSL.out, HCL.out]
  rintro e w3 ⟨A3, c3, rfl, ho3, hb3⟩
  have hs3 := own_sl ho3
  have hb03 := bext hb0W hb3
  have bX3 := bXW.below hb3 bXW.lt
  have bY3 := bY.below hb3 bY.lt
  clear c0 y0 ho3
  have c0 : w3.cell? ⟨w.heap.size, 0, none⟩ = some (.slice B x.length d) := bX3.cell 0
  have y0 : w3.cell? ⟨gy, 0, none⟩ = some (.slice A2 l.length c2) := bY3.cell 0
  go_wp2_with fail
  refine (sameEntries_any A3 A l l c3 c _ hs3 (hA'.out.below hb03) (by omega) (by omega)).mono ?_
  rw [decide_eq_true rfl]
  rintro e w4 ⟨rfl, hb4⟩
  have hb04 := bext hb03 hb4
  have bX4 := bX3.below hb4 bX3.lt
  have bY4 := bY3.below hb4 bY3.lt
  clear c0 y0
  have c0 : w4.cell? ⟨w.heap.size, 0, none⟩ = some (.slice B x.length d) := bX4.cell 0
  have y0 : w4.cell? ⟨gy, 0, none⟩ = some (.slice A2 l.length c2) := bY4.cell 0
  go_wp2_with fail
  refine (check_n A2 (laid l) l.length c2 _ (laid_length l) ((hsW.out.below hb3).below hb4) (by rw [laid_length]; omega)).mono ?_
  rw [HCL.out]
  rintro e w5 ⟨rfl, hb5⟩
  have hb05 := bext hb04 hb5
  have bX5 := bX4.below hb5 bX4.lt
  clear c0 y0
  have c0 : w5.cell? ⟨w.heap.size, 0, none⟩ = some (.slice B x.length d) := bX5.cell 0
  go_wp2_with fail
  refine (sortedE_any B x d _ (hB'.out.below hb05) (by omega)).mono ?_
  rw [HSX.out, HCX.out]
  rintro e w6 ⟨A6, c6, rfl, ho6, hb6⟩
  have hb06 := bext hb05 hb6
  have hs6 := own_sl ho6
  have bX6 := bX5.below hb6 bX5.lt
  clear c0 ho6
  have c0 : w6.cell? ⟨w.heap.size, 0, none⟩ = some (.slice B x.length d) := bX6.cell 0
  go_wp2_with fail
  refine (build_any A6 (inL x) c6 _ hs6 (by rw [inL_length]; omega)).mono ?_
  rw [HBX.out, HBI.out]
  rintro e w7 ⟨A7, c7, rfl, ho7, hb7⟩
  have hb07 := bext hb06 hb7
  have hs7 := own_sl ho7
  have bX7 := bX6.below hb7 bX6.lt
  have ba7 : Below w7.heap.size w7 (w7.alloc (.cells #[.slice A7 x.length c7] 24)) := (Below.refl _ _).alloc (Nat.le_refl _) _
  have bX8 := bX7.below ba7 bX7.lt
  have hl7 := bX7.lt
  clear c0 ho7
  have c0 : w7.cell? ⟨w.heap.size, 0, none⟩ = some (.slice B x.length d) := bX7.cell 0
  go_wp2_with fail
  refine (boundSame_any A7 B x x c7 d _ (hs7.below ba7) (hB'.out.below (bext hb07 ba7)) (by omega) (by omega)).mono ?_
  rw [decide_eq_true rfl]
  rintro e w8 ⟨rfl, hb8⟩
  go_wp2
  go_ret
  exact ⟨rfl, bext (bext hb07 ba7) hb8⟩


set_option maxHeartbeats 2000000 in
theorem back_10 (A : Option Addr) (l : List Ent) (c : Nat) (B : Option Addr) (x : List Ent) (d : Nat) (w : World) (hA : Sl w A (l.flatMap Ent.cells)) (hB : Sl w B (x.flatMap Ent.cells)) (hT : TabAt 1 Lib.deBruijn64tab w) (h1 : ¬ 300 < l.length) (h2 : ¬ 300 < x.length) (hl0 : buildE l = 0) (G : Int) (hx0 : chkE x = G) (hG0 : ¬ G = 0) : Calls Tryd.prog 5 #[.slice A l.length c, .agg #[.slice B x.length d]] w fun r w' => r = .returned (.bool true) ∧ Below w.heap.size w w' := by
  have HBE := Lib.hid hl0
  have HBL := Lib.hid (show buildL l = laid l by unfold buildL; rw [if_pos hl0])
  have HLL := Lib.hid (laid_length l)
  have HCL := Lib.hid (build_chk hl0)
  have HSL := Lib.hid (show sortL (laid l) = l by unfold sortL; rw [if_pos (build_chk hl0), in_laid])
  clear hl0
  have HCX := Lib.hid hx0
  have HSX := Lib.hid (show sortL x = [] by unfold sortL; rw [hx0, if_neg hG0])
  clear hx0
  have hb0 : Below w.heap.size w (w.alloc (.cells #[.slice B x.length d] 24)) := (Below.refl _ _).alloc (Nat.le_refl _) _
  have bX := Blk.new w 24 #[.slice B x.length d]
  have hTl := tab_lt hT
  have HT := Lib.hid hT
  have hA' := Lib.hid hA
  have hB' := Lib.hid hB
  clear hT hA hB
  go_enter Tryd.func5, Tryd.ntmps5
  go_wp2_with fail
  refine (alive_any _ (tab_below hTl HT.out hb0)).mono ?_
  rintro e w1 ⟨rfl, hb1⟩
  have hb01 := bext hb0 hb1
  have bX1 := Blk.below bX hb1 bX.lt
  have c0 : w1.cell? ⟨w.heap.size, 0, none⟩ = some (.slice B x.length d) := bX1.cell 0
  clear bX hb1 hb0
  go_wp2_with fail
  refine (build_any A l c _ (hA'.out.below hb01) (by omega)).mono ?_
  rw [HBL.out, HBE.out]
  rintro e w2 ⟨A2, c2, rfl, ho2, hb2⟩
  have hb02 := bext hb01 hb2
  rw [HLL.out]
  have hs2 := own_sl ho2
  have ba : Below w2.heap.size w2 (w2.alloc (.cells #[.slice A2 l.length c2] 24)) := (Below.refl _ _).alloc (Nat.le_refl _) _
  have bY : Blk (w2.alloc (.cells #[.slice A2 l.length c2] 24)) w2.heap.size 24 #[.slice A2 l.length c2] := Blk.new _ _ _
  go_upto_region 5 with fail
  obtain ⟨W2, hW2⟩ : ∃ W2, w2.alloc (.cells #[.slice A2 l.length c2] 24) = W2 := ⟨_, rfl⟩
  obtain ⟨gy, hgy⟩ : ∃ gy, w2.heap.size = gy := ⟨_, rfl⟩
  have hb2W := bext hb2 (hW2 ▸ ba)
  rw [hW2] at ba bY
  rw [hgy] at bY
  try rw [hW2]
  try rw [hgy]
  have hb0W := bext hb02 ba
  have bXW := bX1.below hb2W bX1.lt
  clear c0
  have c0 : W2.cell? ⟨w.heap.size, 0, none⟩ = some (.slice B x.length d) := bXW.cell 0
  have y0 : W2.cell? ⟨gy, 0, none⟩ = some (.slice A2 l.length c2) := bY.cell 0
  have hsW := Lib.hid (hs2.below ba)
  clear hW2 hgy hb2W bX1 ho2 ba hs2
  go_wp2_with fail
  refine (sortedE_n A2 (laid l) l.length c2 _ (laid_length l) hsW.out (by rw [laid_length]; omega)).mono ?_
  rw [HSL.out, HCL.out]
  rintro e w3 ⟨A3, c3, rfl, ho3, hb3⟩
  have hs3 := own_sl ho3
  have hb03 := bext hb0W hb3
  have bX3 := bXW.below hb3 bXW.lt
  have bY3 := bY.below hb3 bY.lt
  clear c0 y0 ho3
  have c0 : w3.cell? ⟨w.heap.size, 0, none⟩ = some (.slice B x.length d) := bX3.cell 0
  have y0 : w3.cell? ⟨gy, 0, none⟩ = some (.slice A2 l.length c2) := bY3.cell 0
  go_wp2_with fail
  refine (sameEntries_any A3 A l l c3 c _ hs3 (hA'.out.below hb03) (by omega) (by omega)).mono ?_
  rw [decide_eq_true rfl]
  rintro e w4 ⟨rfl, hb4⟩
  have hb04 := bext hb03 hb4
  have bX4 := bX3.below hb4 bX3.lt
  have bY4 := bY3.below hb4 bY3.lt
  clear c0 y0
  have c0 : w4.cell? ⟨w.heap.size, 0, none⟩ = some (.slice B x.length d) := bX4.cell 0
  have y0 : w4.cell? ⟨gy, 0, none⟩ = some (.slice A2 l.length c2) := bY4.cell 0
  go_wp2_with fail
  refine (check_n A2 (laid l) l.length c2 _ (laid_length l) ((hsW.out.below hb3).below hb4) (by rw [laid_length]; omega)).mono ?_
  rw [HCL.out]
  rintro e w5 ⟨rfl, hb5⟩
  have hb05 := bext hb04 hb5
  have bX5 := bX4.below hb5 bX4.lt
  clear c0 y0
  have c0 : w5.cell? ⟨w.heap.size, 0, none⟩ = some (.slice B x.length d) := bX5.cell 0
  go_wp2_with fail
  refine (sortedE_any B x d _ (hB'.out.below hb05) (by omega)).mono ?_
  rw [HSX.out, HCX.out]
  rintro e w6 ⟨A6, c6, rfl, ho6, hb6⟩
  have hb06 := bext hb05 hb6
  go_wp2
  go_ret
  exact ⟨rfl, hb06⟩


set_option maxHeartbeats 2000000 in
theorem back_01 (A : Option Addr) (l : List Ent) (c : Nat) (B : Option Addr) (x : List Ent) (d : Nat) (w : World) (hA : Sl w A (l.flatMap Ent.cells)) (hB : Sl w B (x.flatMap Ent.cells)) (hT : TabAt 1 Lib.deBruijn64tab w) (h1 : ¬ 300 < l.length) (h2 : ¬ 300 < x.length) (E : Int) (hl0 : buildE l = E) (hE0 : ¬ E = 0) (hx0 : chkE x = 0) : Calls Tryd.prog 5 #[.slice A l.length c, .agg #[.slice B x.length d]] w fun r w' => r = .returned (.bool true) ∧ Below w.heap.size w w' := by
  have HBE := Lib.hid hl0
  have HBL := Lib.hid (show buildL l = [] by unfold buildL; rw [hl0, if_neg hE0])
  clear hl0
  have HCX := Lib.hid hx0
  have HSX := Lib.hid (show sortL x = inL x by unfold sortL; rw [if_pos hx0])
  have HBI := Lib.hid (chk_build hx0)
  have HBX := Lib.hid (show buildL (inL x) = x by unfold buildL; rw [if_pos (chk_build hx0), laid_in])
  clear hx0
  have hb0 : Below w.heap.size w (w.alloc (.cells #[.slice B x.length d] 24)) := (Below.refl _ _).alloc (Nat.le_refl _) _
  have bX := Blk.new w 24 #[.slice B x.length d]
  have hTl := tab_lt hT
  have HT := Lib.hid hT
  have hA' := Lib.hid hA
  have hB' := Lib.hid hB
  clear hT hA hB
  go_enter Tryd.func5, Tryd.ntmps5
  go_wp2_with fail
  refine (alive_any _ (tab_below hTl HT.out hb0)).mono ?_
  rintro e w1 ⟨rfl, hb1⟩
  have hb01 := bext hb0 hb1
  have bX1 := Blk.below bX hb1 bX.lt
  have c0 : w1.cell? ⟨w.heap.size, 0, none⟩ = some (.slice B x.length d) := bX1.cell 0
  clear bX hb1 hb0
  go_wp2_with fail
  refine (build_any A l c _ (hA'.out.below hb01) (by omega)).mono ?_
  rw [HBL.out, HBE.out]
  rintro e w2 ⟨A2, c2, rfl, ho2, hb2⟩
  have hb02 := bext hb01 hb2
  have ba : Below w2.heap.size w2 (w2.alloc (.cells #[.slice A2 0 c2] 24)) := (Below.refl _ _).alloc (Nat.le_refl _) _
  go_upto_region 5 with fail
  obtain ⟨W2, hW2⟩ : ∃ W2, w2.alloc (.cells #[.slice A2 0 c2] 24) = W2 := ⟨_, rfl⟩
  obtain ⟨gy, hgy⟩ : ∃ gy, w2.heap.size = gy := ⟨_, rfl⟩
  have hb2W := bext hb2 (hW2 ▸ ba)
  rw [hW2] at ba

  try rw [hW2]
  try rw [hgy]
  have hb0W := bext hb02 ba
  have bXW := bX1.below hb2W bX1.lt
  clear c0
  have c0 : W2.cell? ⟨w.heap.size, 0, none⟩ = some (.slice B x.length d) := bXW.cell 0
  clear hW2 hgy hb2W bX1 ho2 ba
  have hb05 := hb0W
  have bX5 := bXW
  go_wp2_with fail
  refine (sortedE_any B x d _ (hB'.out.below hb05) (by omega)).mono ?_
  rw [HSX.out, HCX.out]
  rintro e w6 ⟨A6, c6, rfl, ho6, hb6⟩
  have hb06 := bext hb05 hb6
  have hs6 := own_sl ho6
  have bX6 := bX5.below hb6 bX5.lt
  clear c0 ho6
  have c0 : w6.cell? ⟨w.heap.size, 0, none⟩ = some (.slice B x.length d) := bX6.cell 0
  go_wp2_with fail
  refine (build_any A6 (inL x) c6 _ hs6 (by rw [inL_length]; omega)).mono ?_
  rw [HBX.out, HBI.out]
  rintro e w7 ⟨A7, c7, rfl, ho7, hb7⟩
  have hb07 := bext hb06 hb7
  have hs7 := own_sl ho7
  have bX7 := bX6.below hb7 bX6.lt
  have ba7 : Below w7.heap.size w7 (w7.alloc (.cells #[.slice A7 x.length c7] 24)) := (Below.refl _ _).alloc (Nat.le_refl _) _
  have bX8 := bX7.below ba7 bX7.lt
  have hl7 := bX7.lt
  clear c0 ho7
  have c0 : w7.cell? ⟨w.heap.size, 0, none⟩ = some (.slice B x.length d) := bX7.cell 0
  go_wp2_with fail
  refine (boundSame_any A7 B x x c7 d _ (hs7.below ba7) (hB'.out.below (bext hb07 ba7)) (by omega) (by omega)).mono ?_
  rw [decide_eq_true rfl]
  rintro e w8 ⟨rfl, hb8⟩
  go_wp2
  go_ret
  exact ⟨rfl, bext (bext hb07 ba7) hb8⟩


set_option maxHeartbeats 2000000 in
theorem back_00 (A : Option Addr) (l : List Ent) (c : Nat) (B : Option Addr) (x : List Ent) (d : Nat) (w : World) (hA : Sl w A (l.flatMap Ent.cells)) (hB : Sl w B (x.flatMap Ent.cells)) (hT : TabAt 1 Lib.deBruijn64tab w) (h1 : ¬ 300 < l.length) (h2 : ¬ 300 < x.length) (E : Int) (hl0 : buildE l = E) (hE0 : ¬ E = 0) (G : Int) (hx0 : chkE x = G) (hG0 : ¬ G = 0) : Calls Tryd.prog 5 #[.slice A l.length c, .agg #[.slice B x.length d]] w fun r w' => r = .returned (.bool true) ∧ Below w.heap.size w w' := by
  have HBE := Lib.hid hl0
  have HBL := Lib.hid (show buildL l = [] by unfold buildL; rw [hl0, if_neg hE0])
  clear hl0
  have HCX := Lib.hid hx0
  have HSX := Lib.hid (show sortL x = [] by unfold sortL; rw [hx0, if_neg hG0])
  clear hx0
  have hb0 : Below w.heap.size w (w.alloc (.cells #[.slice B x.length d] 24)) := (Below.refl _ _).alloc (Nat.le_refl _) _
  have bX := Blk.new w 24 #[.slice B x.length d]
  have hTl := tab_lt hT
  have HT := Lib.hid hT
  have hA' := Lib.hid hA
  have hB' := Lib.hid hB
  clear hT hA hB
  go_enter Tryd.func5, Tryd.ntmps5
  go_wp2_with fail
  refine (alive_any _ (tab_below hTl HT.out hb0)).mono ?_
  rintro e w1 ⟨rfl, hb1⟩
  have hb01 := bext hb0 hb1
  have bX1 := Blk.below bX hb1 bX.lt
  have c0 : w1.cell? ⟨w.heap.size, 0, none⟩ = some (.slice B x.length d) := bX1.cell 0
  clear bX hb1 hb0
  go_wp2_with fail
  refine (build_any A l c _ (hA'.out.below hb01) (by omega)).mono ?_
  rw [HBL.out, HBE.out]
  rintro e w2 ⟨A2, c2, rfl, ho2, hb2⟩
  have hb02 := bext hb01 hb2
  have ba : Below w2.heap.size w2 (w2.alloc (.cells #[.slice A2 0 c2] 24)) := (Below.refl _ _).alloc (Nat.le_refl _) _
  go_upto_region 5 with fail
  obtain ⟨W2, hW2⟩ : ∃ W2, w2.alloc (.cells #[.slice A2 0 c2] 24) = W2 := ⟨_, rfl⟩
  obtain ⟨gy, hgy⟩ : ∃ gy, w2.heap.size = gy := ⟨_, rfl⟩
  have hb2W := bext hb2 (hW2 ▸ ba)
  rw [hW2] at ba

  try rw [hW2]
  try rw [hgy]
  have hb0W := bext hb02 ba
  have bXW := bX1.below hb2W bX1.lt
  clear c0
  have c0 : W2.cell? ⟨w.heap.size, 0, none⟩ = some (.slice B x.length d) := bXW.cell 0
  clear hW2 hgy hb2W bX1 ho2 ba
  have hb05 := hb0W
  have bX5 := bXW
  go_wp2_with fail
  refine (sortedE_any B x d _ (hB'.out.below hb05) (by omega)).mono ?_
  rw [HSX.out, HCX.out]
  rintro e w6 ⟨A6, c6, rfl, ho6, hb6⟩
  have hb06 := bext hb05 hb6
  go_wp2
  go_ret
  exact ⟨rfl, hb06⟩


theorem back_any (A : Option Addr) (l : List Ent) (c : Nat) (B : Option Addr) (x : List Ent) (d : Nat) (w : World) (hA : Sl w A (l.flatMap Ent.cells)) (hB : Sl w B (x.flatMap Ent.cells)) (hT : TabAt 1 Lib.deBruijn64tab w) : Calls Tryd.prog 5 #[.slice A l.length c, .agg #[.slice B x.length d]] w fun r w' => r = .returned (.bool true) ∧ Below w.heap.size w w' := by
  by_cases h1 : 300 < l.length
  · exact back_l1 A l c B x d w hA hB hT h1
  by_cases h2 : 300 < x.length
  · exact back_l2 A l c B x d w hA hB hT h1 h2
  by_cases hl0 : buildE l = 0 <;> by_cases hx0 : chkE x = 0
  · exact back_11 A l c B x d w hA hB hT h1 h2 hl0 hx0
  · exact back_10 A l c B x d w hA hB hT h1 h2 hl0 _ rfl hx0
  · exact back_01 A l c B x d w hA hB hT h1 h2 _ rfl hl0 hx0
  · exact back_00 A l c B x d w hA hB hT h1 h2 _ rfl hl0 _ rfl hx0
end Go.Proofs.YtokomclcgegfkaaDoor
