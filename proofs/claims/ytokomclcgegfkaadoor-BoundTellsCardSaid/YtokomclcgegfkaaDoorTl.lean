/- The law BoundTells: for every two runs and key it returns true; its arguments stay as they were. -/
import Derived.Test.YtokomclcgegfkaaDoorLa
import Derived.Test.YtokomclcgegfkaaDoorTw
import Derived.Test.YtokomclcgegfkaaDoorSb
import Derived.Deep.CutRange
import Derived.Deep.RegionHeld3
namespace Go.Proofs.YtokomclcgegfkaaDoor
open Go Go.RowKit
set_option maxRecDepth 100000
theorem sortedE_n (A : Option Addr) (l : List Ent) (n c : Nat) (w : World) (hn : l.length = n) (hA : Sl w A (l.flatMap Ent.cells)) (hl : l.length ≤ 4611686018427387903) :
    Calls Tryd.prog 20 #[.agg #[.slice A n c]] w (GivesEnts (sortL l) (chkE l) w) := by subst hn; exact sortedE_any A l c w hA hl

set_option maxHeartbeats 1000000 in
theorem tells_l1 (A : Option Addr) (x : List Ent) (c : Nat) (B : Option Addr) (o : List Ent) (d : Nat) (key : Int) (w : World) (_hA : Sl w A (x.flatMap Ent.cells)) (_hB : Sl w B (o.flatMap Ent.cells)) (_hT : TabAt 1 Lib.deBruijn64tab w) (h1 : 300 < x.length) : Calls Tryd.prog 6 #[.agg #[.slice A x.length c], .agg #[.slice B o.length d], .int .i64 key] w fun r w' => r = .returned (.bool true) ∧ Below w.heap.size w w' := by
  have hb0 : Below w.heap.size w ((w.alloc (.cells #[.slice A x.length c] 24)).alloc (.cells #[.slice B o.length d] 24)) := ((Below.refl _ _).alloc (Nat.le_refl _) _).alloc (by simp) _
  have bX0 : Blk ((w.alloc (.cells #[.slice A x.length c] 24)).alloc (.cells #[.slice B o.length d] 24)) w.heap.size 24 #[.slice A x.length c] := (Blk.new w _ _).alloc _
  have bO0 : Blk ((w.alloc (.cells #[.slice A x.length c] 24)).alloc (.cells #[.slice B o.length d] 24)) (w.heap.size + 1) 24 #[.slice B o.length d] := by
    have := Blk.new (w.alloc (.cells #[.slice A x.length c] 24)) 24 #[.slice B o.length d]
    rwa [World.size_alloc] at this
  go_enter Tryd.func6, Tryd.ntmps6
  go_wp2
  go_ret
  exact ⟨rfl, hb0⟩
set_option maxHeartbeats 1000000 in
theorem tells_l2 (A : Option Addr) (x : List Ent) (c : Nat) (B : Option Addr) (o : List Ent) (d : Nat) (key : Int) (w : World) (_hA : Sl w A (x.flatMap Ent.cells)) (_hB : Sl w B (o.flatMap Ent.cells)) (_hT : TabAt 1 Lib.deBruijn64tab w) (h1 : ¬ 300 < x.length) (h2 : 300 < o.length) : Calls Tryd.prog 6 #[.agg #[.slice A x.length c], .agg #[.slice B o.length d], .int .i64 key] w fun r w' => r = .returned (.bool true) ∧ Below w.heap.size w w' := by
  have hb0 : Below w.heap.size w ((w.alloc (.cells #[.slice A x.length c] 24)).alloc (.cells #[.slice B o.length d] 24)) := ((Below.refl _ _).alloc (Nat.le_refl _) _).alloc (by simp) _
  have bX0 : Blk ((w.alloc (.cells #[.slice A x.length c] 24)).alloc (.cells #[.slice B o.length d] 24)) w.heap.size 24 #[.slice A x.length c] := (Blk.new w _ _).alloc _
  have bO0 : Blk ((w.alloc (.cells #[.slice A x.length c] 24)).alloc (.cells #[.slice B o.length d] 24)) (w.heap.size + 1) 24 #[.slice B o.length d] := by
    have := Blk.new (w.alloc (.cells #[.slice A x.length c] 24)) 24 #[.slice B o.length d]
    rwa [World.size_alloc] at this
  go_enter Tryd.func6, Tryd.ntmps6
  go_wp2
  go_ret
  exact ⟨rfl, hb0⟩


set_option maxHeartbeats 8000000 in
theorem tells_main (A : Option Addr) (x : List Ent) (c : Nat) (B : Option Addr) (o : List Ent) (d : Nat) (key : Int) (w : World) (hA : Sl w A (x.flatMap Ent.cells)) (hB : Sl w B (o.flatMap Ent.cells)) (hT : TabAt 1 Lib.deBruijn64tab w) (h1 : ¬ 300 < x.length) (h2 : ¬ 300 < o.length) : Calls Tryd.prog 6 #[.agg #[.slice A x.length c], .agg #[.slice B o.length d], .int .i64 key] w fun r w' => r = .returned (.bool true) ∧ Below w.heap.size w w' := by
  obtain ⟨C, hC⟩ : ∃ C, chkE x = C := ⟨_, rfl⟩
  obtain ⟨L, hL⟩ : ∃ L, sortL x = L := ⟨_, rfl⟩
  obtain ⟨la, hla⟩ : ∃ la, lowAt x key = la := ⟨_, rfl⟩
  obtain ⟨le, hle⟩ : ∃ le, lowE x key = le := ⟨_, rfl⟩
  obtain ⟨fa, hfa⟩ : ∃ fa, fdAt x key = fa := ⟨_, rfl⟩
  obtain ⟨fe, hfe⟩ : ∃ fe, fdE x key = fe := ⟨_, rfl⟩
  obtain ⟨rn, hrn⟩ : ∃ rn, rkN x key = rn := ⟨_, rfl⟩
  obtain ⟨D, hD⟩ : ∃ D, decide (x = o) = D := ⟨_, rfl⟩
  have hLl : L.length ≤ 300 := by
    rw [← hL]
    unfold sortL
    split
    · rw [inL_length]; omega
    · simp
  have HC := Lib.hid hC
  have HL := Lib.hid hL
  have HLA := Lib.hid hla
  have HLE := Lib.hid hle
  have HFA := Lib.hid hfa
  have HFE := Lib.hid hfe
  have HRN := Lib.hid hrn
  have HD := Lib.hid hD
  clear hC hL hla hle hfa hfe hrn hD
  have hb0 : Below w.heap.size w ((w.alloc (.cells #[.slice A x.length c] 24)).alloc (.cells #[.slice B o.length d] 24)) := ((Below.refl _ _).alloc (Nat.le_refl _) _).alloc (by simp) _
  have bX0 : Blk ((w.alloc (.cells #[.slice A x.length c] 24)).alloc (.cells #[.slice B o.length d] 24)) w.heap.size 24 #[.slice A x.length c] := (Blk.new w _ _).alloc _
  have bO0 : Blk ((w.alloc (.cells #[.slice A x.length c] 24)).alloc (.cells #[.slice B o.length d] 24)) (w.heap.size + 1) 24 #[.slice B o.length d] := by
    have := Blk.new (w.alloc (.cells #[.slice A x.length c] 24)) 24 #[.slice B o.length d]
    rwa [World.size_alloc] at this
  have hTl := tab_lt hT
  have HT := Lib.hid hT
  have hA' := Lib.hid hA
  have hB' := Lib.hid hB
  clear hT hA hB
  go_enter Tryd.func6, Tryd.ntmps6
  go_wp2_with fail
  refine (refTwin_any A x c _ (hA'.out.below hb0) (by omega)).mono ?_
  rintro e w1 ⟨A7, c7, rfl, ho7, hb1⟩
  have hb01 := bext hb0 hb1
  have bX1 := bX0.below hb1 bX0.lt
  have bO1 := bO0.below hb1 bO0.lt
  have ba1 : Below w1.heap.size w1 (w1.alloc (.cells #[.slice A7 x.length c7] 24)) := (Below.refl _ _).alloc (Nat.le_refl _) _
  have bGn : Blk (w1.alloc (.cells #[.slice A7 x.length c7] 24)) w1.heap.size 24 #[.slice A7 x.length c7] := Blk.new _ _ _
  have bXn := bX1.below ba1 bX1.lt
  have bOn := bO1.below ba1 bO1.lt
  have hs7 := (own_sl ho7).below ba1
  go_upto_region 4 with fail
  obtain ⟨U, hU⟩ : ∃ U, w1.alloc (.cells #[.slice A7 x.length c7] 24) = U := ⟨_, rfl⟩
  obtain ⟨g7, hg7⟩ : ∃ g7, w1.heap.size = g7 := ⟨_, rfl⟩
  have hb0U := bext hb01 ba1
  rw [hU] at bGn bXn bOn hs7 hb0U
  rw [hg7] at bGn
  try rw [hU]
  try rw [hg7]
  clear hU hg7 ho7 hb1 bX0 bO0 hb0 bX1 bO1 hb01 ba1
  have hs7 := Lib.hid hs7
  have hbU := Below.refl U.heap.size U
  have bXU := Lib.hid bXn
  have bOU := Lib.hid bOn
  have bGU := Lib.hid bGn
  have cX : U.cell? ⟨w.heap.size, 0, none⟩ = some (.slice A x.length c) := bXn.cell 0
  have cO : U.cell? ⟨w.heap.size + 1, 0, none⟩ = some (.slice B o.length d) := bOn.cell 0
  have cG : U.cell? ⟨g7, 0, none⟩ = some (.slice A7 x.length c7) := bGn.cell 0
  go_wp2_with fail
  refine (twin_any A7 x c7 _ hs7.out (by omega)).mono ?_
  rintro e w2 ⟨A8, c8, rfl, ho8, hb2⟩
  have bX2 := Blk.below bXn hb2 bXn.lt
  have bO2 := Blk.below bOn hb2 bOn.lt
  have bG2 := Blk.below bGn hb2 bGn.lt
  have ba2 : Below w2.heap.size w2 (w2.alloc (.cells #[.slice A8 x.length c8] 24)) := (Below.refl _ _).alloc (Nat.le_refl _) _
  have bT3 : Blk (w2.alloc (.cells #[.slice A8 x.length c8] 24)) w2.heap.size 24 #[.slice A8 x.length c8] := Blk.new _ _ _
  have bX3 := Blk.below bX2 ba2 bX2.lt
  have bO3 := Blk.below bO2 ba2 bO2.lt
  have bG3 := Blk.below bG2 ba2 bG2.lt
  have ho83 := own_below ho8 ba2
  go_upto_region 5 with fail
  obtain ⟨w3, hw3⟩ : ∃ W, w2.alloc (.cells #[.slice A8 x.length c8] 24) = W := ⟨_, rfl⟩
  obtain ⟨g8, hg8⟩ : ∃ g8, w2.heap.size = g8 := ⟨_, rfl⟩
  have hU3 := bext hb2 ba2
  rw [hw3] at bT3 bX3 bO3 bG3 ho83 hU3
  rw [hg8] at bT3
  try rw [hw3]
  try rw [hg8]
  clear hw3 hg8 ho8 hb2 ba2 bXn bOn bGn bX2 bO2 bG2 hbU
  have k8 := Ki3.of_own (B := U.heap.size) ho83 (Nat.le_refl _) bT3
  have hs8 := Lib.hid (own_sl ho83)
  clear cX cO cG
  have cX : w3.cell? ⟨w.heap.size, 0, none⟩ = some (.slice A x.length c) := bX3.cell 0
  have cO : w3.cell? ⟨w.heap.size + 1, 0, none⟩ = some (.slice B o.length d) := bO3.cell 0
  have cG : w3.cell? ⟨g7, 0, none⟩ = some (.slice A7 x.length c7) := bG3.cell 0
  have cT : w3.cell? ⟨g8, 0, none⟩ = some (.slice A8 x.length c8) := bT3.cell 0
  go_wp2_with fail
  refine (sortedE_n A7 x x.length c7 _ rfl (hs7.out.below hU3) (by omega)).mono ?_
  rw [HL.out, HC.out]
  rintro e w4 ⟨A9, c9, rfl, ho9, hb4⟩
  have hU4 := bext hU3 hb4
  have k9 := Ki3.of_own (B := U.heap.size) ho9 hU3.size (Blk.below bT3 hb4 bT3.lt)
  have hs9 := Lib.hid (own_sl ho9)
  have bX4 := Blk.below bX3 hb4 bX3.lt
  have bO4 := Blk.below bO3 hb4 bO3.lt
  have bG4 := Blk.below bG3 hb4 bG3.lt
  have bT4 := Blk.below bT3 hb4 bT3.lt
  clear cX cO cG cT
  have cX : w4.cell? ⟨w.heap.size, 0, none⟩ = some (.slice A x.length c) := bX4.cell 0
  have cO : w4.cell? ⟨w.heap.size + 1, 0, none⟩ = some (.slice B o.length d) := bO4.cell 0
  have cG : w4.cell? ⟨g7, 0, none⟩ = some (.slice A7 x.length c7) := bG4.cell 0
  have cT : w4.cell? ⟨g8, 0, none⟩ = some (.slice A8 x.length c8) := bT4.cell 0
  clear bX3 bO3 bG3 bT3
  go_wp2_with fail
  refine (refSorted_any A x c _ (hA'.out.below (bext hb0U hU4)) (by omega)).mono ?_
  rw [HL.out, HC.out]
  rintro e w5 ⟨A11, c11, rfl, ho11, hb5⟩
  have hU5 := bext hU4 hb5
  have hs11 := Lib.hid (own_sl ho11)
  have hs9 := Lib.hid (hs9.out.below hb5)
  have bX5 := Blk.below bX4 hb5 bX4.lt
  have bO5 := Blk.below bO4 hb5 bO4.lt
  have bG5 := Blk.below bG4 hb5 bG4.lt
  have bT5 := Blk.below bT4 hb5 bT4.lt
  clear cX cO cG cT
  have cX : w5.cell? ⟨w.heap.size, 0, none⟩ = some (.slice A x.length c) := bX5.cell 0
  have cO : w5.cell? ⟨w.heap.size + 1, 0, none⟩ = some (.slice B o.length d) := bO5.cell 0
  have cG : w5.cell? ⟨g7, 0, none⟩ = some (.slice A7 x.length c7) := bG5.cell 0
  have cT : w5.cell? ⟨g8, 0, none⟩ = some (.slice A8 x.length c8) := bT5.cell 0
  clear bX4 bO4 bG4 bT4
  go_wp2_with fail
  refine (lower_any A7 x c7 key _ (hs7.out.below hU5) (by omega) (tab_below hTl HT.out (bext hb0U hU5))).mono ?_
  unfold GivesII
  rw [HLA.out, HLE.out]
  rintro e w6 ⟨rfl, hb6⟩
  have hU6 := bext hU5 hb6
  have bX6 := Blk.below bX5 hb6 bX5.lt
  have bO6 := Blk.below bO5 hb6 bO5.lt
  have bG6 := Blk.below bG5 hb6 bG5.lt
  have bT6 := Blk.below bT5 hb6 bT5.lt
  clear cX cO cG cT
  have cX : w6.cell? ⟨w.heap.size, 0, none⟩ = some (.slice A x.length c) := bX6.cell 0
  have cO : w6.cell? ⟨w.heap.size + 1, 0, none⟩ = some (.slice B o.length d) := bO6.cell 0
  have cG : w6.cell? ⟨g7, 0, none⟩ = some (.slice A7 x.length c7) := bG6.cell 0
  have cT : w6.cell? ⟨g8, 0, none⟩ = some (.slice A8 x.length c8) := bT6.cell 0
  clear bX5 bO5 bG5 bT5
  go_wp2_with fail
  refine (refLower_any A x c key _ (hA'.out.below (bext hb0U hU6)) (by omega)).mono ?_
  unfold GivesII
  rw [HLA.out, HLE.out]
  rintro e w7 ⟨rfl, hb7⟩
  have hU7 := bext hU6 hb7
  have bX7 := Blk.below bX6 hb7 bX6.lt
  have bO7 := Blk.below bO6 hb7 bO6.lt
  have bG7 := Blk.below bG6 hb7 bG6.lt
  have bT7 := Blk.below bT6 hb7 bT6.lt
  clear cX cO cG cT
  have cX : w7.cell? ⟨w.heap.size, 0, none⟩ = some (.slice A x.length c) := bX7.cell 0
  have cO : w7.cell? ⟨w.heap.size + 1, 0, none⟩ = some (.slice B o.length d) := bO7.cell 0
  have cG : w7.cell? ⟨g7, 0, none⟩ = some (.slice A7 x.length c7) := bG7.cell 0
  have cT : w7.cell? ⟨g8, 0, none⟩ = some (.slice A8 x.length c8) := bT7.cell 0
  clear bX6 bO6 bG6 bT6
  go_wp2_with fail
  refine (find_any A7 x c7 key _ (hs7.out.below hU7) (by omega) (tab_below hTl HT.out (bext hb0U hU7))).mono ?_
  unfold GivesII
  rw [HFA.out, HFE.out]
  rintro e w8 ⟨rfl, hb8⟩
  have hU8 := bext hU7 hb8
  have bX8 := Blk.below bX7 hb8 bX7.lt
  have bO8 := Blk.below bO7 hb8 bO7.lt
  have bG8 := Blk.below bG7 hb8 bG7.lt
  have bT8 := Blk.below bT7 hb8 bT7.lt
  clear cX cO cG cT
  have cX : w8.cell? ⟨w.heap.size, 0, none⟩ = some (.slice A x.length c) := bX8.cell 0
  have cO : w8.cell? ⟨w.heap.size + 1, 0, none⟩ = some (.slice B o.length d) := bO8.cell 0
  have cG : w8.cell? ⟨g7, 0, none⟩ = some (.slice A7 x.length c7) := bG8.cell 0
  have cT : w8.cell? ⟨g8, 0, none⟩ = some (.slice A8 x.length c8) := bT8.cell 0
  clear bX7 bO7 bG7 bT7
  go_wp2_with fail
  refine (refFind_any A x c key _ (hA'.out.below (bext hb0U hU8)) (by omega)).mono ?_
  unfold GivesII
  rw [HFA.out, HFE.out]
  rintro e w9 ⟨rfl, hb9⟩
  have hU9 := bext hU8 hb9
  have bX9 := Blk.below bX8 hb9 bX8.lt
  have bO9 := Blk.below bO8 hb9 bO8.lt
  have bG9 := Blk.below bG8 hb9 bG8.lt
  have bT9 := Blk.below bT8 hb9 bT8.lt
  clear cX cO cG cT
  have cX : w9.cell? ⟨w.heap.size, 0, none⟩ = some (.slice A x.length c) := bX9.cell 0
  have cO : w9.cell? ⟨w.heap.size + 1, 0, none⟩ = some (.slice B o.length d) := bO9.cell 0
  have cG : w9.cell? ⟨g7, 0, none⟩ = some (.slice A7 x.length c7) := bG9.cell 0
  have cT : w9.cell? ⟨g8, 0, none⟩ = some (.slice A8 x.length c8) := bT9.cell 0
  clear bX8 bO8 bG8 bT8
  go_wp2_with fail
  refine (rank_any A7 x c7 key _ (hs7.out.below hU9) (by omega) (tab_below hTl HT.out (bext hb0U hU9))).mono ?_
  unfold GivesII
  rw [HRN.out, HC.out]
  rintro e w10 ⟨rfl, hb10⟩
  have hU10 := bext hU9 hb10
  have bX10 := Blk.below bX9 hb10 bX9.lt
  have bO10 := Blk.below bO9 hb10 bO9.lt
  have bG10 := Blk.below bG9 hb10 bG9.lt
  have bT10 := Blk.below bT9 hb10 bT9.lt
  clear cX cO cG cT
  have cX : w10.cell? ⟨w.heap.size, 0, none⟩ = some (.slice A x.length c) := bX10.cell 0
  have cO : w10.cell? ⟨w.heap.size + 1, 0, none⟩ = some (.slice B o.length d) := bO10.cell 0
  have cG : w10.cell? ⟨g7, 0, none⟩ = some (.slice A7 x.length c7) := bG10.cell 0
  have cT : w10.cell? ⟨g8, 0, none⟩ = some (.slice A8 x.length c8) := bT10.cell 0
  clear bX9 bO9 bG9 bT9
  go_wp2_with fail
  refine (refRank_any A x c key _ (hA'.out.below (bext hb0U hU10)) (by omega)).mono ?_
  unfold GivesII
  rw [HRN.out, HC.out]
  rintro e w11 ⟨rfl, hb11⟩
  have hU11 := bext hU10 hb11
  have bX11 := Blk.below bX10 hb11 bX10.lt
  have bO11 := Blk.below bO10 hb11 bO10.lt
  have bG11 := Blk.below bG10 hb11 bG10.lt
  have bT11 := Blk.below bT10 hb11 bT10.lt
  clear cX cO cG cT
  have cX : w11.cell? ⟨w.heap.size, 0, none⟩ = some (.slice A x.length c) := bX11.cell 0
  have cO : w11.cell? ⟨w.heap.size + 1, 0, none⟩ = some (.slice B o.length d) := bO11.cell 0
  have cG : w11.cell? ⟨g7, 0, none⟩ = some (.slice A7 x.length c7) := bG11.cell 0
  have cT : w11.cell? ⟨g8, 0, none⟩ = some (.slice A8 x.length c8) := bT11.cell 0
  clear bX10 bO10 bG10 bT10
  have k8 := Ki3.belowS (bext (bext (bext (bext (bext (bext (bext hb4 hb5) hb6) hb7) hb8) hb9) hb10) hb11) k8
  have k9 := Ki3.belowS (bext (bext (bext (bext (bext (bext hb5 hb6) hb7) hb8) hb9) hb10) hb11) k9
  have hs8 := Lib.hid (hs8.out.below (bext (bext (bext (bext (bext (bext (bext hb4 hb5) hb6) hb7) hb8) hb9) hb10) hb11))
  have hs9 := Lib.hid (hs9.out.below (bext (bext (bext (bext (bext hb6 hb7) hb8) hb9) hb10) hb11))
  have hs11 := Lib.hid (hs11.out.below (bext (bext (bext (bext (bext hb6 hb7) hb8) hb9) hb10) hb11))
  have hs7w := Lib.hid (hs7.out.below hU11)
  have hAw := Lib.hid (hA'.out.below (bext hb0U hU11))
  have hBw := Lib.hid (hB'.out.below (bext hb0U hU11))
  clear hb4 hb5 hb6 hb7 hb8 hb9 hb10 hb11 ho9 ho11 ho83 hU3 hU4 hU5 hU6 hU7 hU8 hU9 hU10
  have iX : w.heap.size < w11.heap.size := bX11.lt
  have iO : w.heap.size + 1 < w11.heap.size := bO11.lt
  have iG : g7 < w11.heap.size := bG11.lt
  have iT : g8 < w11.heap.size := bT11.lt
  have HK := Lib.hid (And.intro k8 (And.intro k9 bT11))
  clear k8 k9
  go_upto_region 13 with fail
  go_cut [25] from 88 to 121 (fun v wx => v = .bool true ∧ Below w11.heap.size w11 wx)
  case first =>
    go_region_held3 (fun w' => (∀ bq jq, bq < w11.heap.size → w'.cell? ⟨bq, jq, none⟩ = w11.cell? ⟨bq, jq, none⟩) ∧ (∀ bq jq, bq < w11.heap.size → w'.frozen? ⟨bq, jq, none⟩ = w11.frozen? ⟨bq, jq, none⟩) ∧ w11.heap.size ≤ w'.heap.size ∧ Below w11.heap.size w11 w') ((with_reducible first | exact SB.init | exact SB.below (by assumption) (by assumption) | assumption))
      (first
        | (go_at_call 18; refine (check_any A7 x c7 _ (hs7w.out.below (SB.bel (by assumption))) (by omega)).mono ?_; rw [HC.out]; rintro e21 v21 ⟨rfl, hv21⟩; have hl21 := SB.le hv21 (by assumption); obtain ⟨hc21, hz21, hs21⟩ := wfacts hv21)
        | (go_at_call 30; refine (refCheck_any A x c _ (hAw.out.below (SB.bel (by assumption))) (by omega)).mono ?_; rw [HC.out]; rintro e22 v22 ⟨rfl, hv22⟩; have hl22 := SB.le hv22 (by assumption); obtain ⟨hc22, hz22, hs22⟩ := wfacts hv22)
        | (have hx := hv23; go_at_call 23; refine (boundSame_any A7 A x x c7 c _ (hs7w.out.below (SB.bel (by assumption))) (hAw.out.below (SB.bel (by assumption))) (by omega) (by omega)).mono ?_; rw [decide_eq_true rfl]; rintro e25 v25 ⟨rfl, hv25⟩; have hl25 := SB.le hv25 (by assumption); obtain ⟨hc25, hz25, hs25⟩ := wfacts hv25)
        | (go_at_call 23; refine (boundSame_any A7 B x o c7 d _ (hs7w.out.below (SB.bel (by assumption))) (hBw.out.below (SB.bel (by assumption))) (by omega) (by omega)).mono ?_; rw [HD.out]; rintro e23 v23 ⟨rfl, hv23⟩; have hl23 := SB.le hv23 (by assumption); obtain ⟨hc23, hz23, hs23⟩ := wfacts hv23)
        | (have hx := hv25; go_at_call 31; refine (refSame_any A8 A x x c8 c _ (hs8.out.below (SB.bel (by assumption))) (hAw.out.below (SB.bel (by assumption))) (by omega) (by omega)).mono ?_; rw [decide_eq_true rfl]; rintro e26 v26 ⟨rfl, hv26⟩; have hl26 := SB.le hv26 (by assumption); obtain ⟨hc26, hz26, hs26⟩ := wfacts hv26)
        | (go_at_call 31; refine (refSame_any A B x o c d _ (hAw.out.below (SB.bel (by assumption))) (hBw.out.below (SB.bel (by assumption))) (by omega) (by omega)).mono ?_; rw [HD.out]; rintro e24 v24 ⟨rfl, hv24⟩; have hl24 := SB.le hv24 (by assumption); obtain ⟨hc24, hz24, hs24⟩ := wfacts hv24)
        | (go_at_call 22; refine (sameEntries_any A9 A11 L L c9 c11 _ (hs9.out.below (SB.bel (by assumption))) (hs11.out.below (SB.bel (by assumption))) (by omega) (by omega)).mono ?_; rw [decide_eq_true rfl]; rintro e27 v27 ⟨rfl, hv27⟩; have hl27 := SB.le hv27 (by assumption); obtain ⟨hc27, hz27, hs27⟩ := wfacts hv27)
        | fail "no arm")
    all_goals
      go_wp2_with fail
      go_meet
      exact ⟨by simp, SB.bel (by assumption)⟩
  case rest =>
    obtain ⟨rfl, hbz⟩ := hcut
    have bzT := HK.out.2.2.below hbz HK.out.2.2.lt
    have k8 := Ki3.belowS hbz HK.out.1
    have k9 := Ki3.belowS hbz HK.out.2.1
    have hUz := bext hU11 hbz
    clear HK cX cO cG cT iX iO iG iT bX11 bO11 bG11 bT11 hs8 hs9 hs11 hs7w hAw hBw hbz hU11
    go_wp2_with fail
    go_loopw [26] (fun i wr => ∃ k : Nat, k ≤ x.length ∧ i = .int .i64 k ∧ Below U.heap.size U wr ∧ Blk wr g8 24 #[.slice A8 x.length c8] ∧ Ki3 wr U.heap.size g8 A8 x.length ∧ Ki3 wr U.heap.size g8 A9 L.length) (fun i _ => x.length - (intOf i).toNat)
    case atStart => exact ⟨0, Nat.zero_le _, rfl, hUz, bzT, k8, k9⟩
    case round =>
      clear k8 k9 hUz bzT
      obtain ⟨k, hk, rfl, hbr, br, j8, j9⟩ := hrel
      have c8' : wr.cell? ⟨g8, 0, none⟩ = some (.slice A8 x.length c8) := br.cell 0
      by_cases hlt : k < x.length
      · obtain ⟨gx, kx, rfl, hgx, hne, cc, ff⟩ := j8.get hlt
        have i0 : (0 : Int) ≤ (k : Int) := by omega
        have i1 : (k : Int) < (x.length : Int) := by omega
        have HR := Lib.hid (And.intro hbr (And.intro br (And.intro j8 j9)))
        clear hbr br j8 j9
        go_wp2_with fail
        go_region
        all_goals
          go_wp2
          go_roundw
          case rel => exact ⟨k + 1, by omega, by go_num, (HR.out.1.setCell (p := ⟨gx, k * 3, none⟩) hgx _).drew, HR.out.2.1.far (p := ⟨gx, k * 3, none⟩) hne.symm _, HR.out.2.2.1.set _ _ _, HR.out.2.2.2.set _ _ _⟩
          case measure => simp [intOf]; omega
      · go_wp2_with fail
        go_loopw [27] (fun i wr2 => ∃ k : Nat, k ≤ L.length ∧ i = .int .i64 k ∧ Below U.heap.size U wr2 ∧ Ki3 wr2 U.heap.size g8 A9 L.length) (fun i _ => L.length - (intOf i).toNat)
        case atStart => exact ⟨0, Nat.zero_le _, rfl, hbr, j9⟩
        case round =>
          clear hbr br j8 j9 c8'
          obtain ⟨j, hj, rfl, hbr2, j92⟩ := hrel
          by_cases hlt2 : j < L.length
          · obtain ⟨gx, kx, rfl, hgx, hne, cc, ff⟩ := j92.get hlt2
            have i0 : (0 : Int) ≤ (j : Int) := by omega
            have i1 : (j : Int) < (L.length : Int) := by omega
            have HR := Lib.hid (And.intro hbr2 j92)
            clear hbr2 j92
            go_wp2
            go_roundw
            case rel => exact ⟨j + 1, by omega, by go_num, HR.out.1.setCell (p := ⟨gx, j * 3, none⟩) hgx _, HR.out.2.set _ _ _⟩
            case measure => simp [intOf]; omega
          · have bXe := Blk.below bXU.out hbr2 bXU.out.lt
            have bGe := Blk.below bGU.out hbr2 bGU.out.lt
            have cXe : wr.cell? ⟨w.heap.size, 0, none⟩ = some (.slice A x.length c) := bXe.cell 0
            have cGe : wr.cell? ⟨g7, 0, none⟩ = some (.slice A7 x.length c7) := bGe.cell 0
            clear bXe bGe j92
            go_wp2_with fail
            refine (refSame_any A7 A x x c7 c _ (hs7.out.below hbr2) (hA'.out.below (bext hb0U hbr2)) (by omega) (by omega)).mono ?_
            rw [decide_eq_true rfl]
            rintro e30 w30 ⟨rfl, hb30⟩
            go_wp2
            go_ret
            exact ⟨rfl, bext (bext hb0U hbr2) hb30⟩


theorem tells_any (A : Option Addr) (x : List Ent) (c : Nat) (B : Option Addr) (o : List Ent) (d : Nat) (key : Int) (w : World) (hA : Sl w A (x.flatMap Ent.cells)) (hB : Sl w B (o.flatMap Ent.cells)) (hT : TabAt 1 Lib.deBruijn64tab w) : Calls Tryd.prog 6 #[.agg #[.slice A x.length c], .agg #[.slice B o.length d], .int .i64 key] w fun r w' => r = .returned (.bool true) ∧ Below w.heap.size w w' := by
  by_cases h1 : 300 < x.length
  · exact tells_l1 A x c B o d key w hA hB hT h1
  by_cases h2 : 300 < o.length
  · exact tells_l2 A x c B o d key w hA hB hT h1 h2
  exact tells_main A x c B o d key w hA hB hT h1 h2
end Go.Proofs.YtokomclcgegfkaaDoor
