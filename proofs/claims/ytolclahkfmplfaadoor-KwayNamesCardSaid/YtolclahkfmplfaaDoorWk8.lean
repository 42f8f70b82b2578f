/- Kna: texts of the claim, in this order. -/
import Derived.Test.YtolclahkfmplfaaDoorWk7
import Derived.Deep.CutRange
/- The law KwayNames: it returns true. -/
namespace Go.Proofs.YtolclahkfmplfaaDoor
open Go Go.RowKit
set_option maxRecDepth 100000
/-- a later world, step by step -/
structure SBX (a W : World) : Prop where
  bel : Below a.heap.size a W
theorem SBX.init {a : World} : SBX a a := ⟨Below.refl _ _⟩
theorem SBX.below {a W W' : World} (hb : Below W.heap.size W W') (h : SBX a W) : SBX a W' := ⟨bext h.bel hb⟩
theorem SBX.alloc {a W : World} (x : Obj) (h : SBX a W) : SBX a (W.alloc x) := ⟨h.bel.alloc h.bel.size x⟩
theorem SBX.drew {a W : World} (h : SBX a W) : SBX a W.drew := ⟨h.bel.drew⟩
theorem SBX.set {a W : World} {g : Nat} (hg : a.heap.size ≤ g) (i : Nat) (y : Value) (h : SBX a W) : SBX a (W.setCell ⟨g, i, none⟩ y) := ⟨h.bel.setCell (p := ⟨g, i, none⟩) hg y⟩
theorem sb_of {a W : World} (h : SBX a W) : Below a.heap.size a W := h.bel
def nmB : List Ent := [⟨1, 0, false⟩, ⟨2, 0, false⟩]
def nmO : List Ent := [⟨0, 1, true⟩]
theorem nmB_len : nmB.length ≤ 3 := by decide
theorem nmO_len : nmO.length ≤ 3 := by decide
theorem rA_len : rA.length ≤ 3 := by decide
theorem rB_len : rB.length ≤ 3 := by decide
theorem kinord1 : inord 1 0 = [0] := by simp [inord]
theorem nmB_chk : chkE nmB = 130 := by unfold chkE inL; rw [show nmB.length = 2 from rfl, kinord2]; decide
theorem nmO_chk : chkE nmO = 8 := by unfold chkE; rw [show fairE nmO = 8 by decide]; decide
theorem nm_e1 : mE [nmB, nmO] = 130 := by unfold mE; simp [chkAllE, nmB_chk]
theorem nm_e2 : mE [nmO, nmB] = 8 := by unfold mE; simp [chkAllE, nmO_chk]
theorem nm_l1 : mL [nmB, nmO] false = [] := by unfold mL; rw [nm_e1]; rfl
theorem nm_l2 : mL [nmO, nmB] false = [] := by unfold mL; rw [nm_e2]; rfl
theorem nm_i0 : inL [] = [] := by unfold inL; simp [inord]
theorem nm_c0 : chkE [] = 0 := by unfold chkE; rw [nm_i0]; decide
theorem nm_e0 : mE [] = 0 := mE_of rfl (by simp)
theorem nm_l0 : mL [] true = [] := by unfold mL; rw [if_pos nm_e0]; rfl
theorem ch_chkAll : chkAllE [rA, rB] = 0 := by simp [chkAllE, rA_chk, rB_chk]
theorem nm_k (key : Int) : kfE [rA, rB] key = isE (newest [rA, rB] key) ∧ kfX [rA, rB] key = (newest [rA, rB] key).getD zeroE := by
  unfold kfE kfX
  rw [if_pos ch_chkAll, if_pos ch_chkAll]
  exact ⟨rfl, rfl⟩
theorem nm_k2 : kfE [rA, rB] 2 = 0 ∧ kfX [rA, rB] 2 = ⟨2, 0, true⟩ := by rw [(nm_k 2).1, (nm_k 2).2]; decide
theorem nm_k1 : kfE [rA, rB] 1 = 0 ∧ kfX [rA, rB] 1 = ⟨1, 10, false⟩ := by rw [(nm_k 1).1, (nm_k 1).2]; decide
theorem nm_k4 : kfE [rA, rB] 4 = 6 ∧ kfX [rA, rB] 4 = zeroE := by rw [(nm_k 4).1, (nm_k 4).2]; decide
theorem nm_kb : kfE [rA, nmB] 3 = 130 ∧ kfX [rA, nmB] 3 = zeroE := by
  have h : chkAllE [rA, nmB] = 130 := by simp [chkAllE, rA_chk, nmB_chk]
  unfold kfE kfX
  rw [h]
  exact ⟨rfl, rfl⟩
theorem nm_kn : kfE [] 3 = 6 ∧ kfX [] 3 = zeroE := by decide
theorem nm_t : mE [rB, rA] = 0 ∧ mL [rB, rA] false = laid chB := by
  have h : mE [rB, rA] = 0 := mE_of (by simp [chkAllE, rA_chk, rB_chk]) (by decide)
  refine ⟨h, ?_⟩
  rw [mL_is false h]
  show laid (allE [inL rB, inL rA]) = _
  rw [rA_in, rB_in, all_two]
  congr 1
  simp [bothE, chA, chB]
theorem rs2_le (a b : Rm) (h1 : a.l.length ≤ 3) (h2 : b.l.length ≤ 3) : ∀ r ∈ [a, b], r.l.length ≤ 4611686018427387903 := by
  intro r hr
  simp at hr
  rcases hr with rfl | rfl <;> omega
theorem rs2_sum (a b : Rm) (h1 : a.l.length ≤ 3) (h2 : b.l.length ≤ 3) : (([a, b] : List Rm).map (fun r => r.l.length)).sum ≤ 6 := by simp; omega
theorem rs2_ok {w : World} {a b : Rm} (h1 : a.Ok w) (h2 : b.Ok w) : ∀ r ∈ [a, b], r.Ok w := by
  intro r hr
  simp at hr
  rcases hr with rfl | rfl
  · exact h1
  · exact h2
theorem rmOk {w : World} {l : List Ent} {A : Option Addr} {c : Nat} (hs : Sl w A (l.flatMap Ent.cells)) (hl : l.length ≤ c) (hc : c ≤ 100) : (⟨l, A, c⟩ : Rm).Ok w := ⟨hs, hl, by show c ≤ maxLen; unfold maxLen; omega⟩
theorem eql_lit (a : Ent) (w : World) : (binOp .eql 29 (.agg #[.int .i64 a.key, .int .i64 a.val, .bool a.dead]) (.agg #[.int .i64 a.key, .int .i64 a.val, .bool a.dead])).run Tryd.prog w = .ok (.bool true) w := by
  have := run_eql_ent a a w
  rwa [eqX_self] at this
/-- what Two hands back of the chapter's runs -/
def GivesY (w : World) (r : Ending) (w' : World) : Prop := ∃ A c B, Hid (B = w.heap.size) ∧ r = .returned (.tuple #[.agg #[.slice A 3 c], .int .i64 0]) ∧ w'.ownsRow B 29 3 (.slice A 3 c) 3 ((laid chB).flatMap Ent.cells) ∧ Below w.heap.size w w'
set_option maxHeartbeats 16000000 in
theorem kwayNames_any (w : World) (hT : TabAt 1 Lib.deBruijn64tab w) : Calls Tryd.prog 3 #[] w fun r w' => r = .returned (.bool true) ∧ Below w.heap.size w w' := by
  have HT := Lib.hid hT
  clear hT
  go_enter Tryd.func3, Tryd.ntmps3
  have HF := Lib.hid (Below.refl w.heap.size w)
  have HY1 := Lib.hid (HT.out)
  go_wp2_with fail
  refine (merge_any none [] 0 0 true _ ⟨.inl rfl, by simp⟩ (by simp) (by simp) (by simp) (by simp)).mono ?_
  rw [mrgE_m, mrgL_m, show ([] : List Rm).map Rm.l = [] from rfl, nm_e0, nm_l0]
  rintro e w2 ⟨A1, c1, rfl, ho1, hb3⟩
  have HF4 := Lib.hid (bext HF.out hb3)
  have HY5 := Lib.hid (tab_below' HY1.out hb3)
  clear HF HY1
  clear hb3
  clear ho1
  go_upto_region 2 with fail
  obtain ⟨U6, h8⟩ : ∃ U, w2.alloc (.cells #[.slice A1 0 c1] 24) = U := ⟨_, rfl⟩
  have ba9 : Below w2.heap.size w2 U6 := by rw [← h8]; exact (Below.refl _ _).alloc (Nat.le_refl _) _
  have bn10 : Blk U6 w2.heap.size 24 #[.slice A1 0 c1] := by rw [← h8]; exact Blk.new _ _ _
  try rw [h8]
  have HF11 := Lib.hid (bext HF4.out ba9)
  have HY12 := Lib.hid (tab_below' HY5.out ba9)
  clear HF4 HY5
  obtain ⟨g7, h13⟩ : ∃ g, w2.heap.size = g := ⟨_, rfl⟩
  rw [h13] at bn10
  try rw [h13]
  have HX14 := Lib.hid bn10
  clear h8 ba9 bn10 h13
  go_upto_region 3 with fail
  obtain ⟨U15, h17⟩ : ∃ U, U6.alloc (.cells #[.int .i64 1, .int .i64 0, .bool false, .int .i64 2, .int .i64 0, .bool false] 29) = U := ⟨_, rfl⟩
  have ba23 : Below U6.heap.size U6 U15 := by rw [← h17]; exact (Below.refl _ _).alloc (Nat.le_refl _) _
  have bn25 : Blk U15 U6.heap.size 29 #[.int .i64 1, .int .i64 0, .bool false, .int .i64 2, .int .i64 0, .bool false] := by rw [← h17]; exact Blk.new _ _ _
  have z27 : U15.heap.size = U6.heap.size + 1 := by rw [← h17]; simp
  try rw [h17]
  have HF28 := Lib.hid (bext HF11.out ba23)
  have HX29 := Lib.hid (HX14.out.below ba23 HX14.out.lt)
  have HY30 := Lib.hid (tab_below' HY12.out ba23)
  clear HF11 HX14 HY12
  obtain ⟨g19, h20⟩ : ∃ g, U6.heap.size = g := ⟨_, rfl⟩
  rw [h20] at bn25 z27
  try rw [h20]
  obtain ⟨U16, h18⟩ : ∃ U, U15.alloc (.cells #[.slice (some ⟨g19, 0, none⟩) 2 2] 24) = U := ⟨_, rfl⟩
  have ba24 : Below U15.heap.size U15 U16 := by rw [← h18]; exact (Below.refl _ _).alloc (Nat.le_refl _) _
  have bn26 : Blk U16 U15.heap.size 24 #[.slice (some ⟨g19, 0, none⟩) 2 2] := by rw [← h18]; exact Blk.new _ _ _
  try rw [h18]
  rw [z27] at bn26
  obtain ⟨g21, h22⟩ : ∃ g, g19 + 1 = g := ⟨_, rfl⟩
  rw [h22] at bn26
  try rw [h22]
  have HY31 := Lib.hid ((bn25.sl 0 (List.flatMap Ent.cells nmB) (by intro j u hu; have h : ([.int .i64 1, .int .i64 0, .bool false, .int .i64 2, .int .i64 0, .bool false] : List Value)[j]? = some u := hu; simpa using h) : Sl U15 (some ⟨g19, 0, none⟩) (List.flatMap Ent.cells nmB)))
  have HF32 := Lib.hid (bext HF28.out ba24)
  have HX33 := Lib.hid (HX29.out.below ba24 HX29.out.lt)
  have HY34 := Lib.hid (tab_below' HY30.out ba24)
  have HY35 := Lib.hid (HY31.out.below ba24)
  clear HF28 HX29 HY30 HY31
  have HX36 := Lib.hid bn26
  clear h17 ba23 bn25 z27 h20 h18 ba24 bn26 h22
  go_upto_region 4 with fail
  obtain ⟨U37, h39⟩ : ∃ U, U16.alloc (.cells #[.int .i64 0, .int .i64 1, .bool true] 29) = U := ⟨_, rfl⟩
  have ba45 : Below U16.heap.size U16 U37 := by rw [← h39]; exact (Below.refl _ _).alloc (Nat.le_refl _) _
  have bn47 : Blk U37 U16.heap.size 29 #[.int .i64 0, .int .i64 1, .bool true] := by rw [← h39]; exact Blk.new _ _ _
  have z49 : U37.heap.size = U16.heap.size + 1 := by rw [← h39]; simp
  try rw [h39]
  have HF50 := Lib.hid (bext HF32.out ba45)
  have HX51 := Lib.hid (HX33.out.below ba45 HX33.out.lt)
  have HX52 := Lib.hid (HX36.out.below ba45 HX36.out.lt)
  have HY53 := Lib.hid (tab_below' HY34.out ba45)
  have HY54 := Lib.hid (HY35.out.below ba45)
  clear HF32 HX33 HX36 HY34 HY35
  obtain ⟨g41, h42⟩ : ∃ g, U16.heap.size = g := ⟨_, rfl⟩
  rw [h42] at bn47 z49
  try rw [h42]
  obtain ⟨U38, h40⟩ : ∃ U, U37.alloc (.cells #[.slice (some ⟨g41, 0, none⟩) 1 1] 24) = U := ⟨_, rfl⟩
  have ba46 : Below U37.heap.size U37 U38 := by rw [← h40]; exact (Below.refl _ _).alloc (Nat.le_refl _) _
  have bn48 : Blk U38 U37.heap.size 24 #[.slice (some ⟨g41, 0, none⟩) 1 1] := by rw [← h40]; exact Blk.new _ _ _
  try rw [h40]
  rw [z49] at bn48
  obtain ⟨g43, h44⟩ : ∃ g, g41 + 1 = g := ⟨_, rfl⟩
  rw [h44] at bn48
  try rw [h44]
  have HY55 := Lib.hid ((bn47.sl 0 (List.flatMap Ent.cells nmO) (by intro j u hu; have h : ([.int .i64 0, .int .i64 1, .bool true] : List Value)[j]? = some u := hu; simpa using h) : Sl U37 (some ⟨g41, 0, none⟩) (List.flatMap Ent.cells nmO)))
  have HF56 := Lib.hid (bext HF50.out ba46)
  have HX57 := Lib.hid (HX51.out.below ba46 HX51.out.lt)
  have HX58 := Lib.hid (HX52.out.below ba46 HX52.out.lt)
  have HY59 := Lib.hid (tab_below' HY53.out ba46)
  have HY60 := Lib.hid (HY54.out.below ba46)
  have HY61 := Lib.hid (HY55.out.below ba46)
  clear HF50 HX51 HX52 HY53 HY54 HY55
  have HX62 := Lib.hid bn48
  clear h39 ba45 bn47 z49 h42 h40 ba46 bn48 h44
  have hba63 : Below U38.heap.size U38 (U38.alloc (.cells #[.slice (some ⟨g19, 0, none⟩) 2 2, .slice (some ⟨g41, 0, none⟩) 1 1] 24)) := (Below.refl _ _).alloc (Nat.le_refl _) _
  have HBA64 := Lib.hid hba63
  clear hba63
  have c65 : U38.cell? ⟨g21, 0, none⟩ = some (.slice (some ⟨g19, 0, none⟩) 2 2) := HX58.out.cell 0
  have l66 : g21 < U38.heap.size := HX58.out.lt
  have c67 : U38.cell? ⟨g43, 0, none⟩ = some (.slice (some ⟨g41, 0, none⟩) 1 1) := HX62.out.cell 0
  have l68 : g43 < U38.heap.size := HX62.out.lt
  go_wp2_with fail
  clear c65 l66 c67 l68
  refine (merge_any (some ⟨U38.heap.size, 0, none⟩) [⟨nmB, some ⟨g19, 0, none⟩, 2⟩, ⟨nmO, some ⟨g41, 0, none⟩, 1⟩] 2 6 false _ ⟨by exact sl_new1 _ _ _, rs2_ok (rmOk (HY60.out.below HBA64.out) (by decide) (by decide)) (rmOk (HY61.out.below HBA64.out) (by decide) (by decide))⟩ (by simp) (rs2_le _ _ nmB_len nmO_len) (rs2_sum _ _ nmB_len nmO_len) (by omega)).mono ?_
  rw [mrgE_m, mrgL_m, show ([⟨nmB, some ⟨g19, 0, none⟩, 2⟩, ⟨nmO, some ⟨g41, 0, none⟩, 1⟩] : List Rm).map Rm.l = [nmB, nmO] from rfl, nm_e1, nm_l1]
  rintro e w69 ⟨A5, c5, rfl, ho5, hb70⟩
  have hc71 : Below U38.heap.size U38 w69 := bext ((Below.refl _ _).alloc (Nat.le_refl _) _) hb70
  have HF72 := Lib.hid (bext HF56.out hc71)
  have HX73 := Lib.hid (HX57.out.below hc71 HX57.out.lt)
  have HX74 := Lib.hid (HX58.out.below hc71 HX58.out.lt)
  have HX75 := Lib.hid (HX62.out.below hc71 HX62.out.lt)
  have HY76 := Lib.hid (tab_below' HY59.out hc71)
  have HY77 := Lib.hid (HY60.out.below hc71)
  have HY78 := Lib.hid (HY61.out.below hc71)
  clear HF56 HX57 HX58 HX62 HY59 HY60 HY61
  clear hb70 hc71
  clear ho5
  go_upto_region 5 with fail
  obtain ⟨U79, h81⟩ : ∃ U, w69.alloc (.cells #[.slice A5 0 c5] 24) = U := ⟨_, rfl⟩
  have ba82 : Below w69.heap.size w69 U79 := by rw [← h81]; exact (Below.refl _ _).alloc (Nat.le_refl _) _
  have bn83 : Blk U79 w69.heap.size 24 #[.slice A5 0 c5] := by rw [← h81]; exact Blk.new _ _ _
  try rw [h81]
  have HF84 := Lib.hid (bext HF72.out ba82)
  have HX85 := Lib.hid (HX73.out.below ba82 HX73.out.lt)
  have HX86 := Lib.hid (HX74.out.below ba82 HX74.out.lt)
  have HX87 := Lib.hid (HX75.out.below ba82 HX75.out.lt)
  have HY88 := Lib.hid (tab_below' HY76.out ba82)
  have HY89 := Lib.hid (HY77.out.below ba82)
  have HY90 := Lib.hid (HY78.out.below ba82)
  clear HF72 HX73 HX74 HX75 HY76 HY77 HY78
  obtain ⟨g80, h91⟩ : ∃ g, w69.heap.size = g := ⟨_, rfl⟩
  rw [h91] at bn83
  try rw [h91]
  have HX92 := Lib.hid bn83
  clear h81 ba82 bn83 h91
  have hba93 : Below U79.heap.size U79 (U79.alloc (.cells #[.slice (some ⟨g41, 0, none⟩) 1 1, .slice (some ⟨g19, 0, none⟩) 2 2] 24)) := (Below.refl _ _).alloc (Nat.le_refl _) _
  have HBA94 := Lib.hid hba93
  clear hba93
  have c95 : U79.cell? ⟨g43, 0, none⟩ = some (.slice (some ⟨g41, 0, none⟩) 1 1) := HX87.out.cell 0
  have l96 : g43 < U79.heap.size := HX87.out.lt
  have c97 : U79.cell? ⟨g21, 0, none⟩ = some (.slice (some ⟨g19, 0, none⟩) 2 2) := HX86.out.cell 0
  have l98 : g21 < U79.heap.size := HX86.out.lt
  go_wp2_with fail
  clear c95 l96 c97 l98
  refine (merge_any (some ⟨U79.heap.size, 0, none⟩) [⟨nmO, some ⟨g41, 0, none⟩, 1⟩, ⟨nmB, some ⟨g19, 0, none⟩, 2⟩] 2 6 false _ ⟨by exact sl_new1 _ _ _, rs2_ok (rmOk (HY90.out.below HBA94.out) (by decide) (by decide)) (rmOk (HY89.out.below HBA94.out) (by decide) (by decide))⟩ (by simp) (rs2_le _ _ nmO_len nmB_len) (rs2_sum _ _ nmO_len nmB_len) (by omega)).mono ?_
  rw [mrgE_m, mrgL_m, show ([⟨nmO, some ⟨g41, 0, none⟩, 1⟩, ⟨nmB, some ⟨g19, 0, none⟩, 2⟩] : List Rm).map Rm.l = [nmO, nmB] from rfl, nm_e2, nm_l2]
  rintro e w99 ⟨A7, c7, rfl, ho7, hb100⟩
  have hc101 : Below U79.heap.size U79 w99 := bext ((Below.refl _ _).alloc (Nat.le_refl _) _) hb100
  have HF102 := Lib.hid (bext HF84.out hc101)
  have HX103 := Lib.hid (HX85.out.below hc101 HX85.out.lt)
  have HX104 := Lib.hid (HX86.out.below hc101 HX86.out.lt)
  have HX105 := Lib.hid (HX87.out.below hc101 HX87.out.lt)
  have HX106 := Lib.hid (HX92.out.below hc101 HX92.out.lt)
  have HY107 := Lib.hid (tab_below' HY88.out hc101)
  have HY108 := Lib.hid (HY89.out.below hc101)
  have HY109 := Lib.hid (HY90.out.below hc101)
  clear HF84 HX85 HX86 HX87 HX92 HY88 HY89 HY90
  clear hb100 hc101
  clear ho7
  go_upto_region 6 with fail
  obtain ⟨U110, h112⟩ : ∃ U, w99.alloc (.cells #[.slice A7 0 c7] 24) = U := ⟨_, rfl⟩
  have ba113 : Below w99.heap.size w99 U110 := by rw [← h112]; exact (Below.refl _ _).alloc (Nat.le_refl _) _
  have bn114 : Blk U110 w99.heap.size 24 #[.slice A7 0 c7] := by rw [← h112]; exact Blk.new _ _ _
  try rw [h112]
  have HF115 := Lib.hid (bext HF102.out ba113)
  have HX116 := Lib.hid (HX103.out.below ba113 HX103.out.lt)
  have HX117 := Lib.hid (HX104.out.below ba113 HX104.out.lt)
  have HX118 := Lib.hid (HX105.out.below ba113 HX105.out.lt)
  have HX119 := Lib.hid (HX106.out.below ba113 HX106.out.lt)
  have HY120 := Lib.hid (tab_below' HY107.out ba113)
  have HY121 := Lib.hid (HY108.out.below ba113)
  have HY122 := Lib.hid (HY109.out.below ba113)
  clear HF102 HX103 HX104 HX105 HX106 HY107 HY108 HY109
  obtain ⟨g111, h123⟩ : ∃ g, w99.heap.size = g := ⟨_, rfl⟩
  rw [h123] at bn114
  try rw [h123]
  have HX124 := Lib.hid bn114
  clear h112 ba113 bn114 h123
  go_wp2_with fail
  refine (chapter25_any _).mono ?_
  rintro e w125 ⟨gca, Aca, cca, Ada, cda, rfl, -, hRa, hb126⟩
  have HF127 := Lib.hid (bext HF115.out hb126)
  have HX128 := Lib.hid (HX116.out.below hb126 HX116.out.lt)
  have HX129 := Lib.hid (HX117.out.below hb126 HX117.out.lt)
  have HX130 := Lib.hid (HX118.out.below hb126 HX118.out.lt)
  have HX131 := Lib.hid (HX119.out.below hb126 HX119.out.lt)
  have HX132 := Lib.hid (HX124.out.below hb126 HX124.out.lt)
  have HY133 := Lib.hid (tab_below' HY120.out hb126)
  have HY134 := Lib.hid (HY121.out.below hb126)
  have HY135 := Lib.hid (HY122.out.below hb126)
  clear HF115 HX116 HX117 HX118 HX119 HX124 HY120 HY121 HY122
  clear hb126
  have HY136 := Lib.hid (hRa)
  clear hRa
  go_wp2_with fail
  refine (kfind_any (some ⟨gca, 0, none⟩) [⟨rA, Aca, cca⟩, ⟨rB, Ada, cda⟩] 2 2 _ HY136.out (by simp) (rs2_le _ _ rA_len rB_len) HY133.out).mono ?_
  rw [show ([⟨rA, Aca, cca⟩, ⟨rB, Ada, cda⟩] : List Rm).map Rm.l = [rA, rB] from rfl, nm_k2.1, nm_k2.2]
  rintro e w137 ⟨rfl, hb138⟩
  have HF139 := Lib.hid (bext HF127.out hb138)
  have HX140 := Lib.hid (HX128.out.below hb138 HX128.out.lt)
  have HX141 := Lib.hid (HX129.out.below hb138 HX129.out.lt)
  have HX142 := Lib.hid (HX130.out.below hb138 HX130.out.lt)
  have HX143 := Lib.hid (HX131.out.below hb138 HX131.out.lt)
  have HX144 := Lib.hid (HX132.out.below hb138 HX132.out.lt)
  have HY145 := Lib.hid (tab_below' HY133.out hb138)
  have HY146 := Lib.hid (HY134.out.below hb138)
  have HY147 := Lib.hid (HY135.out.below hb138)
  have HY148 := Lib.hid (RunsAt.below HY136.out hb138)
  clear HF127 HX128 HX129 HX130 HX131 HX132 HY133 HY134 HY135 HY136
  clear hb138
  go_upto_region 7 with fail
  obtain ⟨U149, h151⟩ : ∃ U, w137.alloc (.cells #[.int .i64 2, .int .i64 0, .bool true] 29) = U := ⟨_, rfl⟩
  have ba152 : Below w137.heap.size w137 U149 := by rw [← h151]; exact (Below.refl _ _).alloc (Nat.le_refl _) _
  have bn153 : Blk U149 w137.heap.size 29 #[.int .i64 2, .int .i64 0, .bool true] := by rw [← h151]; exact Blk.new _ _ _
  try rw [h151]
  have HF154 := Lib.hid (bext HF139.out ba152)
  have HX155 := Lib.hid (HX140.out.below ba152 HX140.out.lt)
  have HX156 := Lib.hid (HX141.out.below ba152 HX141.out.lt)
  have HX157 := Lib.hid (HX142.out.below ba152 HX142.out.lt)
  have HX158 := Lib.hid (HX143.out.below ba152 HX143.out.lt)
  have HX159 := Lib.hid (HX144.out.below ba152 HX144.out.lt)
  have HY160 := Lib.hid (tab_below' HY145.out ba152)
  have HY161 := Lib.hid (HY146.out.below ba152)
  have HY162 := Lib.hid (HY147.out.below ba152)
  clear HF139 HX140 HX141 HX142 HX143 HX144 HY145 HY146 HY147
  obtain ⟨g150, h163⟩ : ∃ g, w137.heap.size = g := ⟨_, rfl⟩
  rw [h163] at bn153
  try rw [h163]
  have HX164 := Lib.hid bn153
  clear h151 ba152 bn153 h163
  go_wp2_with fail
  refine (chapter25_any _).mono ?_
  rintro e w165 ⟨gcb, Acb, ccb, Adb, cdb, rfl, -, hRb, hb166⟩
  have HF167 := Lib.hid (bext HF154.out hb166)
  have HX168 := Lib.hid (HX155.out.below hb166 HX155.out.lt)
  have HX169 := Lib.hid (HX156.out.below hb166 HX156.out.lt)
  have HX170 := Lib.hid (HX157.out.below hb166 HX157.out.lt)
  have HX171 := Lib.hid (HX158.out.below hb166 HX158.out.lt)
  have HX172 := Lib.hid (HX159.out.below hb166 HX159.out.lt)
  have HX173 := Lib.hid (HX164.out.below hb166 HX164.out.lt)
  have HY174 := Lib.hid (tab_below' HY160.out hb166)
  have HY175 := Lib.hid (HY161.out.below hb166)
  have HY176 := Lib.hid (HY162.out.below hb166)
  clear HF154 HX155 HX156 HX157 HX158 HX159 HX164 HY160 HY161 HY162
  clear hb166
  have HY177 := Lib.hid (hRb)
  clear hRb
  go_wp2_with fail
  refine (kfind_any (some ⟨gcb, 0, none⟩) [⟨rA, Acb, ccb⟩, ⟨rB, Adb, cdb⟩] 2 1 _ HY177.out (by simp) (rs2_le _ _ rA_len rB_len) HY174.out).mono ?_
  rw [show ([⟨rA, Acb, ccb⟩, ⟨rB, Adb, cdb⟩] : List Rm).map Rm.l = [rA, rB] from rfl, nm_k1.1, nm_k1.2]
  rintro e w178 ⟨rfl, hb179⟩
  have HF180 := Lib.hid (bext HF167.out hb179)
  have HX181 := Lib.hid (HX168.out.below hb179 HX168.out.lt)
  have HX182 := Lib.hid (HX169.out.below hb179 HX169.out.lt)
  have HX183 := Lib.hid (HX170.out.below hb179 HX170.out.lt)
  have HX184 := Lib.hid (HX171.out.below hb179 HX171.out.lt)
  have HX185 := Lib.hid (HX172.out.below hb179 HX172.out.lt)
  have HX186 := Lib.hid (HX173.out.below hb179 HX173.out.lt)
  have HY187 := Lib.hid (tab_below' HY174.out hb179)
  have HY188 := Lib.hid (HY175.out.below hb179)
  have HY189 := Lib.hid (HY176.out.below hb179)
  have HY190 := Lib.hid (RunsAt.below HY177.out hb179)
  clear HF167 HX168 HX169 HX170 HX171 HX172 HX173 HY174 HY175 HY176 HY177
  clear hb179
  go_upto_region 8 with fail
  obtain ⟨U191, h193⟩ : ∃ U, w178.alloc (.cells #[.int .i64 1, .int .i64 10, .bool false] 29) = U := ⟨_, rfl⟩
  have ba194 : Below w178.heap.size w178 U191 := by rw [← h193]; exact (Below.refl _ _).alloc (Nat.le_refl _) _
  have bn195 : Blk U191 w178.heap.size 29 #[.int .i64 1, .int .i64 10, .bool false] := by rw [← h193]; exact Blk.new _ _ _
  try rw [h193]
  have HF196 := Lib.hid (bext HF180.out ba194)
  have HX197 := Lib.hid (HX181.out.below ba194 HX181.out.lt)
  have HX198 := Lib.hid (HX182.out.below ba194 HX182.out.lt)
  have HX199 := Lib.hid (HX183.out.below ba194 HX183.out.lt)
  have HX200 := Lib.hid (HX184.out.below ba194 HX184.out.lt)
  have HX201 := Lib.hid (HX185.out.below ba194 HX185.out.lt)
  have HX202 := Lib.hid (HX186.out.below ba194 HX186.out.lt)
  have HY203 := Lib.hid (tab_below' HY187.out ba194)
  have HY204 := Lib.hid (HY188.out.below ba194)
  have HY205 := Lib.hid (HY189.out.below ba194)
  clear HF180 HX181 HX182 HX183 HX184 HX185 HX186 HY187 HY188 HY189
  obtain ⟨g192, h206⟩ : ∃ g, w178.heap.size = g := ⟨_, rfl⟩
  rw [h206] at bn195
  try rw [h206]
  have HX207 := Lib.hid bn195
  clear h193 ba194 bn195 h206
  go_wp2_with fail
  refine (chapter25_any _).mono ?_
  rintro e w208 ⟨gcc, Acc, ccc, Adc, cdc, rfl, -, hRc, hb209⟩
  have HF210 := Lib.hid (bext HF196.out hb209)
  have HX211 := Lib.hid (HX197.out.below hb209 HX197.out.lt)
  have HX212 := Lib.hid (HX198.out.below hb209 HX198.out.lt)
  have HX213 := Lib.hid (HX199.out.below hb209 HX199.out.lt)
  have HX214 := Lib.hid (HX200.out.below hb209 HX200.out.lt)
  have HX215 := Lib.hid (HX201.out.below hb209 HX201.out.lt)
  have HX216 := Lib.hid (HX202.out.below hb209 HX202.out.lt)
  have HX217 := Lib.hid (HX207.out.below hb209 HX207.out.lt)
  have HY218 := Lib.hid (tab_below' HY203.out hb209)
  have HY219 := Lib.hid (HY204.out.below hb209)
  have HY220 := Lib.hid (HY205.out.below hb209)
  clear HF196 HX197 HX198 HX199 HX200 HX201 HX202 HX207 HY203 HY204 HY205
  clear hb209
  have HY221 := Lib.hid (hRc)
  clear hRc
  go_wp2_with fail
  refine (kfind_any (some ⟨gcc, 0, none⟩) [⟨rA, Acc, ccc⟩, ⟨rB, Adc, cdc⟩] 2 4 _ HY221.out (by simp) (rs2_le _ _ rA_len rB_len) HY218.out).mono ?_
  rw [show ([⟨rA, Acc, ccc⟩, ⟨rB, Adc, cdc⟩] : List Rm).map Rm.l = [rA, rB] from rfl, nm_k4.1, nm_k4.2]
  rintro e w222 ⟨rfl, hb223⟩
  have HF224 := Lib.hid (bext HF210.out hb223)
  have HX225 := Lib.hid (HX211.out.below hb223 HX211.out.lt)
  have HX226 := Lib.hid (HX212.out.below hb223 HX212.out.lt)
  have HX227 := Lib.hid (HX213.out.below hb223 HX213.out.lt)
  have HX228 := Lib.hid (HX214.out.below hb223 HX214.out.lt)
  have HX229 := Lib.hid (HX215.out.below hb223 HX215.out.lt)
  have HX230 := Lib.hid (HX216.out.below hb223 HX216.out.lt)
  have HX231 := Lib.hid (HX217.out.below hb223 HX217.out.lt)
  have HY232 := Lib.hid (tab_below' HY218.out hb223)
  have HY233 := Lib.hid (HY219.out.below hb223)
  have HY234 := Lib.hid (HY220.out.below hb223)
  have HY235 := Lib.hid (RunsAt.below HY221.out hb223)
  clear HF210 HX211 HX212 HX213 HX214 HX215 HX216 HX217 HY218 HY219 HY220 HY221
  clear hb223
  go_upto_region 9 with fail
  obtain ⟨U236, h238⟩ : ∃ U, w222.alloc (.cells #[.int .i64 zeroE.key, .int .i64 zeroE.val, .bool zeroE.dead] 29) = U := ⟨_, rfl⟩
  have ba239 : Below w222.heap.size w222 U236 := by rw [← h238]; exact (Below.refl _ _).alloc (Nat.le_refl _) _
  have bn240 : Blk U236 w222.heap.size 29 #[.int .i64 zeroE.key, .int .i64 zeroE.val, .bool zeroE.dead] := by rw [← h238]; exact Blk.new _ _ _
  try rw [h238]
  have HF241 := Lib.hid (bext HF224.out ba239)
  have HX242 := Lib.hid (HX225.out.below ba239 HX225.out.lt)
  have HX243 := Lib.hid (HX226.out.below ba239 HX226.out.lt)
  have HX244 := Lib.hid (HX227.out.below ba239 HX227.out.lt)
  have HX245 := Lib.hid (HX228.out.below ba239 HX228.out.lt)
  have HX246 := Lib.hid (HX229.out.below ba239 HX229.out.lt)
  have HX247 := Lib.hid (HX230.out.below ba239 HX230.out.lt)
  have HX248 := Lib.hid (HX231.out.below ba239 HX231.out.lt)
  have HY249 := Lib.hid (tab_below' HY232.out ba239)
  have HY250 := Lib.hid (HY233.out.below ba239)
  have HY251 := Lib.hid (HY234.out.below ba239)
  clear HF224 HX225 HX226 HX227 HX228 HX229 HX230 HX231 HY232 HY233 HY234
  obtain ⟨g237, h252⟩ : ∃ g, w222.heap.size = g := ⟨_, rfl⟩
  rw [h252] at bn240
  try rw [h252]
  have HX253 := Lib.hid bn240
  clear h238 ba239 bn240 h252
  have HSB := HY250
  have HTW := HY249
  go_cut [16] from 61 to 69 (fun v wx => v = .int .i64 130 ∧ Below U236.heap.size U236 wx)
  case first =>
    refine region_inv (by kernel_rfl) (by kernel_rfl) (fun L a W => ∃ (X : Nat → Prop) (t62 t63 t64 t65 t66 t67 t61 t68 t69 t15 t16 : Value) (g62 : Nat) (A62 : Option Addr) (c62 : Nat) (B62 : Option Addr) (d62 : Nat) (g66 : Nat) (g9 : Nat), a = ⟨#[(Value.bool false), (Value.pointer (some { block := g7, off := 0 })), (Value.int IntKind.i64 0), (Value.pointer (some { block := g21, off := 0 })), (Value.pointer (some { block := g43, off := 0 })), (Value.pointer (some { block := g80, off := 0 })), (Value.int IntKind.i64 130), (Value.pointer (some { block := g111, off := 0 })), (Value.int IntKind.i64 8), (Value.pointer (some { block := g150, off := 0 })), (Value.int IntKind.i64 0), (Value.pointer (some { block := g192, off := 0 })), (Value.int IntKind.i64 0), (Value.pointer (some { block := g237, off := 0 })), (Value.int IntKind.i64 6), t15, t16, undef, undef, undef, undef, (Value.tuple #[Value.agg #[Value.slice A1 0 c1], Value.int IntKind.i64 0]), (Value.tuple #[Value.agg #[Value.slice A1 0 c1], Value.int IntKind.i64 0]), (Value.agg #[Value.slice A1 0 c1]), (Value.int IntKind.i64 0), (Value.agg #[Value.int IntKind.i64 1, Value.int IntKind.i64 0, Value.bool false]), (Value.agg #[Value.int IntKind.i64 2, Value.int IntKind.i64 0, Value.bool false]), (Value.slice (some { block := g19, off := 0 }) 2 2), (Value.agg #[Value.slice (some { block := g19, off := 0 }) 2 2]), (Value.agg #[Value.int IntKind.i64 0, Value.int IntKind.i64 1, Value.bool true]), (Value.slice (some { block := g41, off := 0 }) 1 1), (Value.agg #[Value.slice (some { block := g41, off := 0 }) 1 1]), (Value.tuple #[Value.agg #[Value.slice A5 0 c5], Value.int IntKind.i64 130]), (Value.agg #[Value.slice (some { block := g19, off := 0 }) 2 2]), (Value.agg #[Value.slice (some { block := g41, off := 0 }) 1 1]), (Value.slice (some { block := U38.heap.size, off := 0 }) 2 2), (Value.tuple #[Value.agg #[Value.slice A5 0 c5], Value.int IntKind.i64 130]), (Value.agg #[Value.slice A5 0 c5]), (Value.int IntKind.i64 130), (Value.tuple #[Value.agg #[Value.slice A7 0 c7], Value.int IntKind.i64 8]), (Value.agg #[Value.slice (some { block := g41, off := 0 }) 1 1]), (Value.agg #[Value.slice (some { block := g19, off := 0 }) 2 2]), (Value.slice (some { block := U79.heap.size, off := 0 }) 2 2), (Value.tuple #[Value.agg #[Value.slice A7 0 c7], Value.int IntKind.i64 8]), (Value.agg #[Value.slice A7 0 c7]), (Value.int IntKind.i64 8), (Value.tuple #[Value.agg #[Value.int IntKind.i64 2, Value.int IntKind.i64 0, Value.bool true], Value.int IntKind.i64 0]), (Value.slice (some { block := gca, off := 0 }) 2 2), (Value.tuple #[Value.agg #[Value.int IntKind.i64 2, Value.int IntKind.i64 0, Value.bool true], Value.int IntKind.i64 0]), (Value.agg #[Value.int IntKind.i64 2, Value.int IntKind.i64 0, Value.bool true]), (Value.int IntKind.i64 0), (Value.tuple #[Value.agg #[Value.int IntKind.i64 1, Value.int IntKind.i64 10, Value.bool false], Value.int IntKind.i64 0]), (Value.slice (some { block := gcb, off := 0 }) 2 2), (Value.tuple #[Value.agg #[Value.int IntKind.i64 1, Value.int IntKind.i64 10, Value.bool false], Value.int IntKind.i64 0]), (Value.agg #[Value.int IntKind.i64 1, Value.int IntKind.i64 10, Value.bool false]), (Value.int IntKind.i64 0), (Value.tuple #[Value.agg #[Value.int IntKind.i64 zeroE.key, Value.int IntKind.i64 zeroE.val, Value.bool zeroE.dead], Value.int IntKind.i64 6]), (Value.slice (some { block := gcc, off := 0 }) 2 2), (Value.tuple #[Value.agg #[Value.int IntKind.i64 zeroE.key, Value.int IntKind.i64 zeroE.val, Value.bool zeroE.dead], Value.int IntKind.i64 6]), (Value.agg #[Value.int IntKind.i64 zeroE.key, Value.int IntKind.i64 zeroE.val, Value.bool zeroE.dead]), (Value.int IntKind.i64 6), t61, t62, t63, t64, t65, t66, t67, t68, t69, undef, undef, undef, undef, undef, undef, undef, undef, undef, undef, undef, undef, undef, undef, undef, undef, undef, undef, undef, undef, undef, undef, undef, undef, undef, undef, undef, undef, undef, undef, undef, undef, undef, undef, undef, undef, undef, undef, undef, undef, undef, undef, undef, undef, undef, undef, undef, undef, undef, undef, undef, undef, undef, undef, undef, undef, undef, undef, undef, undef, undef, undef, undef, undef, undef, undef, undef, undef, undef, undef, undef, undef, undef, undef, undef], []⟩ ∧ Below U236.heap.size U236 W ∧ (∀ k, X k → U236.heap.size ≤ k ∧ k < W.heap.size) ∧ (L 0 = true → t62 = .slice (some ⟨g62, 0, none⟩) 2 2 ∧ (L 10 = false → Held (fun _ => False) (fun W => Blk W g62 24 #[.slice A62 2 c62, .slice B62 3 d62] ∧ RunsAt W (some ⟨g62, 0, none⟩) [⟨rA, A62, c62⟩, ⟨rB, B62, d62⟩]) W)) ∧ (L 1 = true → t63 = .pointer (some ⟨g62, 0, none⟩)) ∧ (L 2 = true → t64 = .agg #[.slice A62 2 c62]) ∧ (L 3 = true → t65 = .agg #[.slice (some ⟨g19, 0, none⟩) 2 2]) ∧ (L 4 = true → t66 = .slice (some ⟨g66, 0, none⟩) 2 2 ∧ (L 10 = false → Held (fun _ => False) (fun W => RunsAt W (some ⟨g66, 0, none⟩) [⟨rA, A62, c62⟩, ⟨nmB, some ⟨g19, 0, none⟩, 2⟩]) W)) ∧ (L 5 = true → t67 = .tuple #[.agg #[.int .i64 zeroE.key, .int .i64 zeroE.val, .bool zeroE.dead], .int .i64 130]) ∧ (L 6 = true → t61 = .tuple #[.agg #[.int .i64 zeroE.key, .int .i64 zeroE.val, .bool zeroE.dead], .int .i64 130]) ∧ (L 7 = true → t68 = .agg #[.int .i64 zeroE.key, .int .i64 zeroE.val, .bool zeroE.dead]) ∧ (L 8 = true → t69 = .int .i64 130) ∧ (L 9 = true → t15 = .pointer (some ⟨g9, 0, none⟩) ∧ X g9 ∧ Held (fun k => X k ∧ k ≠ g9) (fun W => (∃ x0 x1 x2 : Value, Blk W g9 29 #[x0, x1, x2])) W) ∧ (L 10 = true → Held (fun k => X k ∧ k ≠ g9) (fun W => Blk W g9 29 #[.int .i64 zeroE.key, .int .i64 zeroE.val, .bool zeroE.dead]) W) ∧ (L 11 = true → t16 = .int .i64 130) ∧ (L 1 = true → L 0 = true) ∧ (L 2 = true → L 0 = true) ∧ (L 4 = true → L 0 = true) ∧ (L 10 = true → L 9 = true) ∧ (L 10 = true → L 1 = true) ∧ (L 10 = true → L 2 = true) ∧ (L 10 = true → L 4 = true) ∧ (L 10 = true → L 5 = true)) ?h0 ?hstep ?hend
    case h0 => exact ⟨(fun _ => False), undef, undef, undef, undef, undef, undef, undef, undef, undef, undef, undef, 0, none, 0, none, 0, 0, 0, rfl, (Below.refl _ _).drew, fun k hk => absurd hk id, fun h => absurd h Bool.false_ne_true, fun h => absurd h Bool.false_ne_true, fun h => absurd h Bool.false_ne_true, fun h => absurd h Bool.false_ne_true, fun h => absurd h Bool.false_ne_true, fun h => absurd h Bool.false_ne_true, fun h => absurd h Bool.false_ne_true, fun h => absurd h Bool.false_ne_true, fun h => absurd h Bool.false_ne_true, fun h => absurd h Bool.false_ne_true, fun h => absurd h Bool.false_ne_true, fun h => absurd h Bool.false_ne_true, fun h => absurd h Bool.false_ne_true, fun h => absurd h Bool.false_ne_true, fun h => absurd h Bool.false_ne_true, fun h => absurd h Bool.false_ne_true, fun h => absurd h Bool.false_ne_true, fun h => absurd h Bool.false_ne_true, fun h => absurd h Bool.false_ne_true, fun h => absurd h Bool.false_ne_true⟩
    case hend =>
      rintro L a W hall ⟨X, t62, t63, t64, t65, t66, t67, t61, t68, t69, t15, t16, g62, A62, c62, B62, d62, g66, g9, rfl, hb, hX, f0, f1, f2, f3, f4, f5, f6, f7, f8, f9, f10, f11, im1_0, im2_0, im4_0, im10_9, im10_1, im10_2, im10_4, im10_5⟩
      have z0 := f0 (hall 0 (by decide))
      have z1 := f1 (hall 1 (by decide))
      have z2 := f2 (hall 2 (by decide))
      have z3 := f3 (hall 3 (by decide))
      have z4 := f4 (hall 4 (by decide))
      have z5 := f5 (hall 5 (by decide))
      have z6 := f6 (hall 6 (by decide))
      have z7 := f7 (hall 7 (by decide))
      have z8 := f8 (hall 8 (by decide))
      have z9 := f9 (hall 9 (by decide))
      have z10 := f10 (hall 10 (by decide))
      have z11 := f11 (hall 11 (by decide))
      clear hall f0 f1 f2 f3 f4 f5 f6 f7 f8 f9 f10 f11 im1_0 im2_0 im4_0 im10_9 im10_1 im10_2 im10_4 im10_5
      obtain rfl := z11
      have HBZ := Lib.hid hb
      clear z0 z1 z2 z3 z4 z5 z6 z7 z8 z9 z10 hb hX
      go_wp2_with fail
      go_meet
      exact ⟨rfl, HBZ.out⟩
    case hstep =>
      rintro L a W i o ho hLi hdep ⟨X, t62, t63, t64, t65, t66, t67, t61, t68, t69, t15, t16, g62, A62, c62, B62, d62, g66, g9, rfl, hb, hX, f0, f1, f2, f3, f4, f5, f6, f7, f8, f9, f10, f11, im1_0, im2_0, im4_0, im10_9, im10_1, im10_2, im10_4, im10_5⟩
      have F0 := Lib.hid f0
      have F1 := Lib.hid f1
      have F2 := Lib.hid f2
      have F3 := Lib.hid f3
      have F4 := Lib.hid f4
      have F5 := Lib.hid f5
      have F6 := Lib.hid f6
      have F7 := Lib.hid f7
      have F8 := Lib.hid f8
      have F9 := Lib.hid f9
      have F10 := Lib.hid f10
      have F11 := Lib.hid f11
      have IM1_0 := Lib.hid im1_0
      have IM2_0 := Lib.hid im2_0
      have IM4_0 := Lib.hid im4_0
      have IM10_9 := Lib.hid im10_9
      have IM10_1 := Lib.hid im10_1
      have IM10_2 := Lib.hid im10_2
      have IM10_4 := Lib.hid im10_4
      have IM10_5 := Lib.hid im10_5
      clear f0 f1 f2 f3 f4 f5 f6 f7 f8 f9 f10 f11 im1_0 im2_0 im4_0 im10_9 im10_1 im10_2 im10_4 im10_5
      have HLi := Lib.hid hLi
      clear hLi
      match i, ho with
      | 0, ho =>
        obtain rfl := Option.some.inj ho
        clear hdep
        have HB := Lib.hid hb
        have HX := Lib.hid hX
        refine wpOp_step rfl (fun K1 hK1 => ?_)
        have hK := Lib.hid hK1
        clear hK1
        go_wp2_with (go_at_call 6; refine (chapter25_any _).mono ?_; rintro e1 W1 ⟨gq, Aq, cq, Bq, dq, rfl, bq, hq, hb1⟩)
        exact hK.out _ _ ⟨X, _, t63, t64, t65, t66, t67, t61, t68, t69, t15, t16, gq, Aq, cq, Bq, dq, g66, g9, rfl, bext HB.out hb1, fun k hk => ⟨(HX.out k hk).1, Nat.lt_of_lt_of_le (HX.out k hk).2 hb1.size⟩, fun _ => ⟨rfl, fun _ => fun w2 hm => ⟨bq.below (hm.below (Nat.le_refl _) (fun k hk => hk.elim)) bq.lt, hq.below (hm.below (Nat.le_refl _) (fun k hk => hk.elim))⟩⟩, fun h => absurd (IM1_0.out (by simpa using h)) (by rw [HLi.out]; exact Bool.false_ne_true), fun h => absurd (IM2_0.out (by simpa using h)) (by rw [HLi.out]; exact Bool.false_ne_true), fun h => F3.out (by simpa using h), fun h => absurd (IM4_0.out (by simpa using h)) (by rw [HLi.out]; exact Bool.false_ne_true), fun h => F5.out (by simpa using h), fun h => F6.out (by simpa using h), fun h => F7.out (by simpa using h), fun h => F8.out (by simpa using h), fun h => ⟨(F9.out (by simpa using h)).1, (F9.out (by simpa using h)).2.1, (F9.out (by simpa using h)).2.2.ext hb1⟩, fun h => (F10.out (by simpa using h)).ext hb1, fun h => F11.out (by simpa using h), fun _ => by simp, fun _ => by simp, fun _ => by simp, fun h => by have := IM10_9.out (by simpa using h); simp [this], fun h => by have := IM10_1.out (by simpa using h); simp [this], fun h => by have := IM10_2.out (by simpa using h); simp [this], fun h => by have := IM10_4.out (by simpa using h); simp [this], fun h => by have := IM10_5.out (by simpa using h); simp [this]⟩
      | 1, ho =>
        obtain rfl := Option.some.inj ho
        have hls10 : L 10 = false := by
          cases h : L 10 with
          | false => rfl
          | true => exact absurd (IM10_1.out h) (by rw [HLi.out]; exact Bool.false_ne_true)
        have hl0 := hdep ⟨0, .data⟩ (by simp) rfl
        have z0 := F0.out hl0
        have zz0 := z0.2 hls10
        obtain rfl := z0.1
        clear z0
        have z0 := Lib.hid zz0
        clear zz0
        clear hdep
        have HB := Lib.hid hb
        have HX := Lib.hid hX
        refine wpOp_step rfl (fun K1 hK1 => ?_)
        have hK := Lib.hid hK1
        clear hK1
        go_wp2_with fail
        exact hK.out _ _ ⟨X, _, _, t64, t65, t66, t67, t61, t68, t69, t15, t16, g62, A62, c62, B62, d62, g66, g9, rfl, HB.out, HX.out, fun h => ⟨rfl, fun hs => z0.out⟩, fun _ => rfl, fun h => F2.out (by simpa using h), fun h => F3.out (by simpa using h), fun h => ⟨(F4.out (by simpa using h)).1, fun hs => ((F4.out (by simpa using h)).2 (by simpa using hs))⟩, fun h => F5.out (by simpa using h), fun h => F6.out (by simpa using h), fun h => F7.out (by simpa using h), fun h => F8.out (by simpa using h), fun h => F9.out (by simpa using h), fun h => absurd (IM10_1.out (by simpa using h)) (by rw [HLi.out]; exact Bool.false_ne_true), fun h => F11.out (by simpa using h), fun _ => by simp [hl0], fun h => by have := IM2_0.out (by simpa using h); simp [this], fun h => by have := IM4_0.out (by simpa using h); simp [this], fun h => by have := IM10_9.out (by simpa using h); simp [this], fun _ => by simp, fun h => by have := IM10_2.out (by simpa using h); simp [this], fun h => by have := IM10_4.out (by simpa using h); simp [this], fun h => by have := IM10_5.out (by simpa using h); simp [this]⟩
      | 2, ho =>
        obtain rfl := Option.some.inj ho
        have hls10 : L 10 = false := by
          cases h : L 10 with
          | false => rfl
          | true => exact absurd (IM10_2.out h) (by rw [HLi.out]; exact Bool.false_ne_true)
        have hl1 := hdep ⟨1, .data⟩ (by simp) rfl
        have z1 := F1.out hl1
        obtain rfl := z1
        have hl0 := IM1_0.out hl1
        have z0 := F0.out hl0
        have zz0 := z0.2 hls10
        obtain rfl := z0.1
        clear z0
        have z0 := Lib.hid zz0
        clear zz0
        clear hdep
        have HB := Lib.hid hb
        have HX := Lib.hid hX
        have bo := z0.out.now.1
        have q0 : W.cell? ⟨g62, 0, none⟩ = some (.slice A62 2 c62) := bo.cell 0
        have lo := bo.lt
        refine wpOp_step rfl (fun K1 hK1 => ?_)
        have hK := Lib.hid hK1
        clear hK1
        go_wp2_with fail
        exact hK.out _ _ ⟨X, _, _, _, t65, t66, t67, t61, t68, t69, t15, t16, g62, A62, c62, B62, d62, g66, g9, rfl, HB.out, HX.out, fun h => ⟨rfl, fun hs => z0.out⟩, fun h => rfl, fun _ => rfl, fun h => F3.out (by simpa using h), fun h => ⟨(F4.out (by simpa using h)).1, fun hs => ((F4.out (by simpa using h)).2 (by simpa using hs))⟩, fun h => F5.out (by simpa using h), fun h => F6.out (by simpa using h), fun h => F7.out (by simpa using h), fun h => F8.out (by simpa using h), fun h => F9.out (by simpa using h), fun h => absurd (IM10_2.out (by simpa using h)) (by rw [HLi.out]; exact Bool.false_ne_true), fun h => F11.out (by simpa using h), fun h => by have := IM1_0.out (by simpa using h); simp [this], fun _ => by simp [hl0], fun h => by have := IM4_0.out (by simpa using h); simp [this], fun h => by have := IM10_9.out (by simpa using h); simp [this], fun h => by have := IM10_1.out (by simpa using h); simp [this], fun _ => by simp, fun h => by have := IM10_4.out (by simpa using h); simp [this], fun h => by have := IM10_5.out (by simpa using h); simp [this]⟩
      | 3, ho =>
        obtain rfl := Option.some.inj ho
        clear hdep
        have HB := Lib.hid hb
        have HX := Lib.hid hX
        have bo := (HX243.out).below HB.out (HX243.out).lt
        have q0 : W.cell? ⟨g21, 0, none⟩ = some (.slice (some ⟨g19, 0, none⟩) 2 2) := bo.cell 0
        have lo := bo.lt
        refine wpOp_step rfl (fun K1 hK1 => ?_)
        have hK := Lib.hid hK1
        clear hK1
        go_wp2_with fail
        exact hK.out _ _ ⟨X, t62, t63, t64, _, t66, t67, t61, t68, t69, t15, t16, g62, A62, c62, B62, d62, g66, g9, rfl, HB.out, HX.out, fun h => ⟨(F0.out (by simpa using h)).1, fun hs => ((F0.out (by simpa using h)).2 (by simpa using hs))⟩, fun h => F1.out (by simpa using h), fun h => F2.out (by simpa using h), fun _ => rfl, fun h => ⟨(F4.out (by simpa using h)).1, fun hs => ((F4.out (by simpa using h)).2 (by simpa using hs))⟩, fun h => F5.out (by simpa using h), fun h => F6.out (by simpa using h), fun h => F7.out (by simpa using h), fun h => F8.out (by simpa using h), fun h => F9.out (by simpa using h), fun h => F10.out (by simpa using h), fun h => F11.out (by simpa using h), fun h => by have := IM1_0.out (by simpa using h); simp [this], fun h => by have := IM2_0.out (by simpa using h); simp [this], fun h => by have := IM4_0.out (by simpa using h); simp [this], fun h => by have := IM10_9.out (by simpa using h); simp [this], fun h => by have := IM10_1.out (by simpa using h); simp [this], fun h => by have := IM10_2.out (by simpa using h); simp [this], fun h => by have := IM10_4.out (by simpa using h); simp [this], fun h => by have := IM10_5.out (by simpa using h); simp [this]⟩
      | 4, ho =>
        obtain rfl := Option.some.inj ho
        have hls10 : L 10 = false := by
          cases h : L 10 with
          | false => rfl
          | true => exact absurd (IM10_4.out h) (by rw [HLi.out]; exact Bool.false_ne_true)
        have hl2 := hdep ⟨2, .data⟩ (by simp) rfl
        have z2 := F2.out hl2
        obtain rfl := z2
        have hl3 := hdep ⟨3, .data⟩ (by simp) rfl
        have z3 := F3.out hl3
        obtain rfl := z3
        have hl0 := IM2_0.out hl2
        have z0 := F0.out hl0
        have zz0 := z0.2 hls10
        obtain rfl := z0.1
        clear z0
        have z0 := Lib.hid zz0
        clear zz0
        clear hdep
        have HB := Lib.hid hb
        have HX := Lib.hid hX
        refine wpOp_step rfl (fun K1 hK1 => ?_)
        have hK := Lib.hid hK1
        clear hK1
        have hq := z0.out.now.2
        go_wp2_with fail
        obtain ⟨W1, hW1⟩ : ∃ W1, W.alloc (.cells #[.slice A62 2 c62, .slice (some ⟨g19, 0, none⟩) 2 2] 24) = W1 := ⟨_, rfl⟩
        have hb1 : Below W.heap.size W W1 := by rw [← hW1]; exact (Below.refl _ _).alloc (Nat.le_refl _) _
        have hrr : RunsAt W1 (some ⟨W.heap.size, 0, none⟩) [⟨rA, A62, c62⟩, ⟨nmB, some ⟨g19, 0, none⟩, 2⟩] := ⟨by rw [← hW1]; exact sl_new1 _ _ _, rs2_ok ((hq.ok ⟨rA, A62, c62⟩ (by simp)).below hb1) (rmOk ((HSB.out.below HB.out).below hb1) (by decide) (by decide))⟩
        rw [hW1]
        clear hW1
        exact hK.out _ _ ⟨X, _, t63, _, _, _, t67, t61, t68, t69, t15, t16, g62, A62, c62, B62, d62, W.heap.size, g9, rfl, bext HB.out hb1, fun k hk => ⟨(HX.out k hk).1, Nat.lt_of_lt_of_le (HX.out k hk).2 hb1.size⟩, fun h => ⟨rfl, fun hs => z0.out.ext hb1⟩, fun h => F1.out (by simpa using h), fun h => rfl, fun h => rfl, fun _ => ⟨rfl, fun _ => fun w2 hm => hrr.below (hm.below (Nat.le_refl _) (fun k hk => hk.elim))⟩, fun h => F5.out (by simpa using h), fun h => F6.out (by simpa using h), fun h => F7.out (by simpa using h), fun h => F8.out (by simpa using h), fun h => ⟨(F9.out (by simpa using h)).1, (F9.out (by simpa using h)).2.1, (F9.out (by simpa using h)).2.2.ext hb1⟩, fun h => absurd (IM10_4.out (by simpa using h)) (by rw [HLi.out]; exact Bool.false_ne_true), fun h => F11.out (by simpa using h), fun h => by have := IM1_0.out (by simpa using h); simp [this], fun h => by have := IM2_0.out (by simpa using h); simp [this], fun _ => by simp [hl0], fun h => by have := IM10_9.out (by simpa using h); simp [this], fun h => by have := IM10_1.out (by simpa using h); simp [this], fun h => by have := IM10_2.out (by simpa using h); simp [this], fun _ => by simp, fun h => by have := IM10_5.out (by simpa using h); simp [this]⟩
      | 5, ho =>
        obtain rfl := Option.some.inj ho
        have hls10 : L 10 = false := by
          cases h : L 10 with
          | false => rfl
          | true => exact absurd (IM10_5.out h) (by rw [HLi.out]; exact Bool.false_ne_true)
        have hl4 := hdep ⟨4, .data⟩ (by simp) rfl
        have z4 := F4.out hl4
        have zz4 := z4.2 hls10
        obtain rfl := z4.1
        clear z4
        have z4 := Lib.hid zz4
        clear zz4
        clear hdep
        have HB := Lib.hid hb
        have HX := Lib.hid hX
        refine wpOp_step rfl (fun K1 hK1 => ?_)
        have hK := Lib.hid hK1
        clear hK1
        have hq := z4.out.now
        have hqt := tab_below' HTW.out HB.out
        go_wp2_with (go_at_call 5; refine (kfind_any (some ⟨g66, 0, none⟩) [⟨rA, A62, c62⟩, ⟨nmB, some ⟨g19, 0, none⟩, 2⟩] 2 3 _ hq (by simp) (rs2_le _ _ rA_len nmB_len) hqt).mono ?_; rw [show ([⟨rA, A62, c62⟩, ⟨nmB, some ⟨g19, 0, none⟩, 2⟩] : List Rm).map Rm.l = [rA, nmB] from rfl, nm_kb.1, nm_kb.2]; rintro e1 W1 ⟨rfl, hb1⟩)
        exact hK.out _ _ ⟨X, t62, t63, t64, t65, _, _, t61, t68, t69, t15, t16, g62, A62, c62, B62, d62, g66, g9, rfl, bext HB.out hb1, fun k hk => ⟨(HX.out k hk).1, Nat.lt_of_lt_of_le (HX.out k hk).2 hb1.size⟩, fun h => ⟨(F0.out (by simpa using h)).1, fun hs => ((F0.out (by simpa using h)).2 (by simpa using hs)).ext hb1⟩, fun h => F1.out (by simpa using h), fun h => F2.out (by simpa using h), fun h => F3.out (by simpa using h), fun h => ⟨rfl, fun hs => z4.out.ext hb1⟩, fun _ => rfl, fun h => F6.out (by simpa using h), fun h => F7.out (by simpa using h), fun h => F8.out (by simpa using h), fun h => ⟨(F9.out (by simpa using h)).1, (F9.out (by simpa using h)).2.1, (F9.out (by simpa using h)).2.2.ext hb1⟩, fun h => absurd (IM10_5.out (by simpa using h)) (by rw [HLi.out]; exact Bool.false_ne_true), fun h => F11.out (by simpa using h), fun h => by have := IM1_0.out (by simpa using h); simp [this], fun h => by have := IM2_0.out (by simpa using h); simp [this], fun h => by have := IM4_0.out (by simpa using h); simp [this], fun h => by have := IM10_9.out (by simpa using h); simp [this], fun h => by have := IM10_1.out (by simpa using h); simp [this], fun h => by have := IM10_2.out (by simpa using h); simp [this], fun h => by have := IM10_4.out (by simpa using h); simp [this], fun _ => by simp⟩
      | 6, ho =>
        obtain rfl := Option.some.inj ho
        have hl5 := hdep ⟨5, .data⟩ (by simp) rfl
        have z5 := F5.out hl5
        obtain rfl := z5
        clear hdep
        have HB := Lib.hid hb
        have HX := Lib.hid hX
        refine wpOp_step rfl (fun K1 hK1 => ?_)
        have hK := Lib.hid hK1
        clear hK1
        go_wp2_with fail
        exact hK.out _ _ ⟨X, t62, t63, t64, t65, t66, _, _, t68, t69, t15, t16, g62, A62, c62, B62, d62, g66, g9, rfl, HB.out, HX.out, fun h => ⟨(F0.out (by simpa using h)).1, fun hs => ((F0.out (by simpa using h)).2 (by simpa using hs))⟩, fun h => F1.out (by simpa using h), fun h => F2.out (by simpa using h), fun h => F3.out (by simpa using h), fun h => ⟨(F4.out (by simpa using h)).1, fun hs => ((F4.out (by simpa using h)).2 (by simpa using hs))⟩, fun h => rfl, fun _ => rfl, fun h => F7.out (by simpa using h), fun h => F8.out (by simpa using h), fun h => F9.out (by simpa using h), fun h => F10.out (by simpa using h), fun h => F11.out (by simpa using h), fun h => by have := IM1_0.out (by simpa using h); simp [this], fun h => by have := IM2_0.out (by simpa using h); simp [this], fun h => by have := IM4_0.out (by simpa using h); simp [this], fun h => by have := IM10_9.out (by simpa using h); simp [this], fun h => by have := IM10_1.out (by simpa using h); simp [this], fun h => by have := IM10_2.out (by simpa using h); simp [this], fun h => by have := IM10_4.out (by simpa using h); simp [this], fun h => by have := IM10_5.out (by simpa using h); simp [this]⟩
      | 7, ho =>
        obtain rfl := Option.some.inj ho
        have hl6 := hdep ⟨6, .data⟩ (by simp) rfl
        have z6 := F6.out hl6
        obtain rfl := z6
        clear hdep
        have HB := Lib.hid hb
        have HX := Lib.hid hX
        refine wpOp_step rfl (fun K1 hK1 => ?_)
        have hK := Lib.hid hK1
        clear hK1
        go_wp2_with fail
        exact hK.out _ _ ⟨X, t62, t63, t64, t65, t66, t67, _, _, t69, t15, t16, g62, A62, c62, B62, d62, g66, g9, rfl, HB.out, HX.out, fun h => ⟨(F0.out (by simpa using h)).1, fun hs => ((F0.out (by simpa using h)).2 (by simpa using hs))⟩, fun h => F1.out (by simpa using h), fun h => F2.out (by simpa using h), fun h => F3.out (by simpa using h), fun h => ⟨(F4.out (by simpa using h)).1, fun hs => ((F4.out (by simpa using h)).2 (by simpa using hs))⟩, fun h => F5.out (by simpa using h), fun h => rfl, fun _ => rfl, fun h => F8.out (by simpa using h), fun h => F9.out (by simpa using h), fun h => F10.out (by simpa using h), fun h => F11.out (by simpa using h), fun h => by have := IM1_0.out (by simpa using h); simp [this], fun h => by have := IM2_0.out (by simpa using h); simp [this], fun h => by have := IM4_0.out (by simpa using h); simp [this], fun h => by have := IM10_9.out (by simpa using h); simp [this], fun h => by have := IM10_1.out (by simpa using h); simp [this], fun h => by have := IM10_2.out (by simpa using h); simp [this], fun h => by have := IM10_4.out (by simpa using h); simp [this], fun h => by have := IM10_5.out (by simpa using h); simp [this]⟩
      | 8, ho =>
        obtain rfl := Option.some.inj ho
        have hl6 := hdep ⟨6, .data⟩ (by simp) rfl
        have z6 := F6.out hl6
        obtain rfl := z6
        clear hdep
        have HB := Lib.hid hb
        have HX := Lib.hid hX
        refine wpOp_step rfl (fun K1 hK1 => ?_)
        have hK := Lib.hid hK1
        clear hK1
        go_wp2_with fail
        exact hK.out _ _ ⟨X, t62, t63, t64, t65, t66, t67, _, t68, _, t15, t16, g62, A62, c62, B62, d62, g66, g9, rfl, HB.out, HX.out, fun h => ⟨(F0.out (by simpa using h)).1, fun hs => ((F0.out (by simpa using h)).2 (by simpa using hs))⟩, fun h => F1.out (by simpa using h), fun h => F2.out (by simpa using h), fun h => F3.out (by simpa using h), fun h => ⟨(F4.out (by simpa using h)).1, fun hs => ((F4.out (by simpa using h)).2 (by simpa using hs))⟩, fun h => F5.out (by simpa using h), fun h => rfl, fun h => F7.out (by simpa using h), fun _ => rfl, fun h => F9.out (by simpa using h), fun h => F10.out (by simpa using h), fun h => F11.out (by simpa using h), fun h => by have := IM1_0.out (by simpa using h); simp [this], fun h => by have := IM2_0.out (by simpa using h); simp [this], fun h => by have := IM4_0.out (by simpa using h); simp [this], fun h => by have := IM10_9.out (by simpa using h); simp [this], fun h => by have := IM10_1.out (by simpa using h); simp [this], fun h => by have := IM10_2.out (by simpa using h); simp [this], fun h => by have := IM10_4.out (by simpa using h); simp [this], fun h => by have := IM10_5.out (by simpa using h); simp [this]⟩
      | 9, ho =>
        obtain rfl := Option.some.inj ho
        clear hdep
        have HB := Lib.hid hb
        have HX := Lib.hid hX
        refine wpOp_step rfl (fun K1 hK1 => ?_)
        have hK := Lib.hid hK1
        clear hK1
        go_wp2_with fail
        have hb1 : Below W.heap.size W (W.alloc (.cells #[.int .i64 0, .int .i64 0, .bool false] 29)) := (Below.refl _ _).alloc (Nat.le_refl _) _
        exact hK.out _ _ ⟨(fun k => X k ∨ k = W.heap.size), t62, t63, t64, t65, t66, t67, t61, t68, t69, _, t16, g62, A62, c62, B62, d62, g66, W.heap.size, rfl, HB.out.alloc HB.out.size _, fun k hk => hk.elim (fun q => ⟨(HX.out k q).1, Nat.lt_of_lt_of_le (HX.out k q).2 hb1.size⟩) (fun q => by subst q; exact ⟨HB.out.size, by simp⟩), fun h => ⟨(F0.out (by simpa using h)).1, fun hs => ((F0.out (by simpa using h)).2 (by simpa using hs)).ext hb1⟩, fun h => F1.out (by simpa using h), fun h => F2.out (by simpa using h), fun h => F3.out (by simpa using h), fun h => ⟨(F4.out (by simpa using h)).1, fun hs => ((F4.out (by simpa using h)).2 (by simpa using hs)).ext hb1⟩, fun h => F5.out (by simpa using h), fun h => F6.out (by simpa using h), fun h => F7.out (by simpa using h), fun h => F8.out (by simpa using h), fun _ => ⟨rfl, .inr rfl, held_mono (held_blk (X := fun k => (X k ∨ k = W.heap.size) ∧ k ≠ W.heap.size) (Blk.new W 29 #[.int .i64 0, .int .i64 0, .bool false]) (fun hx => hx.2 rfl)) (fun W2 h2 => ⟨_, _, _, h2⟩)⟩, fun h => absurd (IM10_9.out (by simpa using h)) (by rw [HLi.out]; exact Bool.false_ne_true), fun h => F11.out (by simpa using h), fun h => by have := IM1_0.out (by simpa using h); simp [this], fun h => by have := IM2_0.out (by simpa using h); simp [this], fun h => by have := IM4_0.out (by simpa using h); simp [this], fun _ => by simp, fun h => by have := IM10_1.out (by simpa using h); simp [this], fun h => by have := IM10_2.out (by simpa using h); simp [this], fun h => by have := IM10_4.out (by simpa using h); simp [this], fun h => by have := IM10_5.out (by simpa using h); simp [this]⟩
      | 10, ho =>
        obtain rfl := Option.some.inj ho
        have hl9 := hdep ⟨9, .data⟩ (by simp) rfl
        have z9 := F9.out hl9
        have zz9 := z9.2
        obtain rfl := z9.1
        clear z9
        have z9 := Lib.hid zz9
        clear zz9
        have hl7 := hdep ⟨7, .data⟩ (by simp) rfl
        have z7 := F7.out hl7
        obtain rfl := z7
        have hl5 := hdep ⟨5, .chain⟩ (by simp) rfl
        have z5 := F5.out hl5
        obtain rfl := z5
        have hl4 := hdep ⟨4, .phase⟩ (by simp) rfl
        have z4 := F4.out hl4
        have zz4 := z4.2
        obtain rfl := z4.1
        clear z4
        have z4 := Lib.hid zz4
        clear zz4
        have hl2 := hdep ⟨2, .phase⟩ (by simp) rfl
        have z2 := F2.out hl2
        obtain rfl := z2
        have hl1 := hdep ⟨1, .phase⟩ (by simp) rfl
        have z1 := F1.out hl1
        obtain rfl := z1
        clear hdep
        have HB := Lib.hid hb
        have HX := Lib.hid hX
        refine wpOp_step rfl (fun K1 hK1 => ?_)
        have hK := Lib.hid hK1
        clear hK1
        obtain ⟨hxg, hbx⟩ := z9.out
        obtain ⟨x0, x1, x2, hbk⟩ := hbx.now
        have q0 : W.cell? ⟨g9, 0, none⟩ = some x0 := hbk.cell 0
        have r0 := hbk.frozen 0
        have q1 : W.cell? ⟨g9, 1, none⟩ = some x1 := hbk.cell 1
        have r1 := hbk.frozen 1
        have q2 : W.cell? ⟨g9, 2, none⟩ = some x2 := hbk.cell 2
        have r2 := hbk.frozen 2
        have lg := hbk.lt
        go_wp2_with fail
        have hm1 : ∀ Y : Nat → Prop, Y g9 → Mod Y W (((W.setCell ⟨g9, 0, none⟩ (.int .i64 zeroE.key)).setCell ⟨g9, 1, none⟩ (.int .i64 zeroE.val)).setCell ⟨g9, 2, none⟩ (.bool zeroE.dead)) := fun Y hY => ((((Mod.refl Y W).setCell (p := ⟨g9, 0, none⟩) hY _).setCell (p := ⟨g9, 1, none⟩) hY _).setCell (p := ⟨g9, 2, none⟩) hY _)
        have hbn : Blk (((W.setCell ⟨g9, 0, none⟩ (.int .i64 zeroE.key)).setCell ⟨g9, 1, none⟩ (.int .i64 zeroE.val)).setCell ⟨g9, 2, none⟩ (.bool zeroE.dead)) g9 29 #[.int .i64 zeroE.key, .int .i64 zeroE.val, .bool zeroE.dead] := by simpa using ((hbk.set_ 0 (.int .i64 zeroE.key)).set_ 1 (.int .i64 zeroE.val)).set_ 2 (.bool zeroE.dead)
        have hle : U236.heap.size ≤ g9 := (HX.out _ hxg).1
        have hbl : Below U236.heap.size U236 (((W.setCell ⟨g9, 0, none⟩ (.int .i64 zeroE.key)).setCell ⟨g9, 1, none⟩ (.int .i64 zeroE.val)).setCell ⟨g9, 2, none⟩ (.bool zeroE.dead)) := (((HB.out.setCell (p := ⟨g9, 0, none⟩) hle _).setCell (p := ⟨g9, 1, none⟩) hle _).setCell (p := ⟨g9, 2, none⟩) hle _)
        obtain ⟨W1, hW1⟩ : ∃ W1, (((W.setCell ⟨g9, 0, none⟩ (.int .i64 zeroE.key)).setCell ⟨g9, 1, none⟩ (.int .i64 zeroE.val)).setCell ⟨g9, 2, none⟩ (.bool zeroE.dead)) = W1 := ⟨_, rfl⟩
        rw [hW1] at hm1 hbn hbl
        rw [hW1]
        clear hW1
        exact hK.out _ _ ⟨X, t62, _, _, t65, _, _, t61, _, t69, _, t16, g62, A62, c62, B62, d62, g66, g9, rfl, hbl, fun k hk => ⟨(HX.out k hk).1, Nat.lt_of_lt_of_le (HX.out k hk).2 (hm1 X hxg).size⟩, fun h => ⟨(F0.out (by simpa using h)).1, fun hs => absurd hs (by simp)⟩, fun h => rfl, fun h => rfl, fun h => F3.out (by simpa using h), fun h => ⟨rfl, fun hs => absurd hs (by simp)⟩, fun h => rfl, fun h => F6.out (by simpa using h), fun h => rfl, fun h => F8.out (by simpa using h), fun h => ⟨rfl, z9.out.1, held_mono (held_blk hbn (fun hx => hx.2 rfl)) (fun W2 h2 => ⟨_, _, _, h2⟩)⟩, fun _ => held_blk hbn (fun hx => hx.2 rfl), fun h => F11.out (by simpa using h), fun h => by have := IM1_0.out (by simpa using h); simp [this], fun h => by have := IM2_0.out (by simpa using h); simp [this], fun h => by have := IM4_0.out (by simpa using h); simp [this], fun _ => by simp [hl9], fun _ => by simp [hl1], fun _ => by simp [hl2], fun _ => by simp [hl4], fun _ => by simp [hl5]⟩
      | 11, ho =>
        obtain rfl := Option.some.inj ho
        have hl8 := hdep ⟨8, .data⟩ (by simp) rfl
        have z8 := F8.out hl8
        obtain rfl := z8
        clear hdep
        have HB := Lib.hid hb
        have HX := Lib.hid hX
        refine wpOp_step rfl (fun K1 hK1 => ?_)
        have hK := Lib.hid hK1
        clear hK1
        go_wp2_with fail
        exact hK.out _ _ ⟨X, t62, t63, t64, t65, t66, t67, t61, t68, _, t15, _, g62, A62, c62, B62, d62, g66, g9, rfl, HB.out, HX.out, fun h => ⟨(F0.out (by simpa using h)).1, fun hs => ((F0.out (by simpa using h)).2 (by simpa using hs))⟩, fun h => F1.out (by simpa using h), fun h => F2.out (by simpa using h), fun h => F3.out (by simpa using h), fun h => ⟨(F4.out (by simpa using h)).1, fun hs => ((F4.out (by simpa using h)).2 (by simpa using hs))⟩, fun h => F5.out (by simpa using h), fun h => F6.out (by simpa using h), fun h => F7.out (by simpa using h), fun h => rfl, fun h => F9.out (by simpa using h), fun h => F10.out (by simpa using h), fun _ => rfl, fun h => by have := IM1_0.out (by simpa using h); simp [this], fun h => by have := IM2_0.out (by simpa using h); simp [this], fun h => by have := IM4_0.out (by simpa using h); simp [this], fun h => by have := IM10_9.out (by simpa using h); simp [this], fun h => by have := IM10_1.out (by simpa using h); simp [this], fun h => by have := IM10_2.out (by simpa using h); simp [this], fun h => by have := IM10_4.out (by simpa using h); simp [this], fun h => by have := IM10_5.out (by simpa using h); simp [this]⟩
  case rest =>
  obtain ⟨rfl, hcw⟩ := hcut
  have HF254 := Lib.hid (bext HF241.out hcw)
  have HX255 := Lib.hid (HX242.out.below hcw HX242.out.lt)
  have HX256 := Lib.hid (HX243.out.below hcw HX243.out.lt)
  have HX257 := Lib.hid (HX244.out.below hcw HX244.out.lt)
  have HX258 := Lib.hid (HX245.out.below hcw HX245.out.lt)
  have HX259 := Lib.hid (HX246.out.below hcw HX246.out.lt)
  have HX260 := Lib.hid (HX247.out.below hcw HX247.out.lt)
  have HX261 := Lib.hid (HX248.out.below hcw HX248.out.lt)
  have HX262 := Lib.hid (HX253.out.below hcw HX253.out.lt)
  have HY263 := Lib.hid (tab_below' HY249.out hcw)
  have HY264 := Lib.hid (HY250.out.below hcw)
  have HY265 := Lib.hid (HY251.out.below hcw)
  clear HF241 HX242 HX243 HX244 HX245 HX246 HX247 HX248 HX253 HY249 HY250 HY251
  clear hcw HSB HTW
  go_wp2_with fail
  refine (kfind_any none [] 0 3 _ ⟨.inl rfl, by simp⟩ (by simp) (by simp) HY263.out).mono ?_
  rw [show ([] : List Rm).map Rm.l = [] from rfl, nm_kn.1, nm_kn.2]
  rintro e w266 ⟨rfl, hb267⟩
  have HF268 := Lib.hid (bext HF254.out hb267)
  have HX269 := Lib.hid (HX255.out.below hb267 HX255.out.lt)
  have HX270 := Lib.hid (HX256.out.below hb267 HX256.out.lt)
  have HX271 := Lib.hid (HX257.out.below hb267 HX257.out.lt)
  have HX272 := Lib.hid (HX258.out.below hb267 HX258.out.lt)
  have HX273 := Lib.hid (HX259.out.below hb267 HX259.out.lt)
  have HX274 := Lib.hid (HX260.out.below hb267 HX260.out.lt)
  have HX275 := Lib.hid (HX261.out.below hb267 HX261.out.lt)
  have HX276 := Lib.hid (HX262.out.below hb267 HX262.out.lt)
  have HY277 := Lib.hid (tab_below' HY263.out hb267)
  have HY278 := Lib.hid (HY264.out.below hb267)
  have HY279 := Lib.hid (HY265.out.below hb267)
  clear HF254 HX255 HX256 HX257 HX258 HX259 HX260 HX261 HX262 HY263 HY264 HY265
  clear hb267
  go_upto_region 11 with fail
  obtain ⟨U280, h282⟩ : ∃ U, w266.alloc (.cells #[.int .i64 zeroE.key, .int .i64 zeroE.val, .bool zeroE.dead] 29) = U := ⟨_, rfl⟩
  have ba283 : Below w266.heap.size w266 U280 := by rw [← h282]; exact (Below.refl _ _).alloc (Nat.le_refl _) _
  have bn284 : Blk U280 w266.heap.size 29 #[.int .i64 zeroE.key, .int .i64 zeroE.val, .bool zeroE.dead] := by rw [← h282]; exact Blk.new _ _ _
  try rw [h282]
  have HF285 := Lib.hid (bext HF268.out ba283)
  have HX286 := Lib.hid (HX269.out.below ba283 HX269.out.lt)
  have HX287 := Lib.hid (HX270.out.below ba283 HX270.out.lt)
  have HX288 := Lib.hid (HX271.out.below ba283 HX271.out.lt)
  have HX289 := Lib.hid (HX272.out.below ba283 HX272.out.lt)
  have HX290 := Lib.hid (HX273.out.below ba283 HX273.out.lt)
  have HX291 := Lib.hid (HX274.out.below ba283 HX274.out.lt)
  have HX292 := Lib.hid (HX275.out.below ba283 HX275.out.lt)
  have HX293 := Lib.hid (HX276.out.below ba283 HX276.out.lt)
  have HY294 := Lib.hid (tab_below' HY277.out ba283)
  have HY295 := Lib.hid (HY278.out.below ba283)
  have HY296 := Lib.hid (HY279.out.below ba283)
  clear HF268 HX269 HX270 HX271 HX272 HX273 HX274 HX275 HX276 HY277 HY278 HY279
  obtain ⟨g281, h297⟩ : ∃ g, w266.heap.size = g := ⟨_, rfl⟩
  rw [h297] at bn284
  try rw [h297]
  have HX298 := Lib.hid bn284
  clear h282 ba283 bn284 h297
  have hlB : (laid chB).length = 3 := laid_length _
  have HLB := Lib.hid hlB
  clear hlB
  have HTWO : Hid (∀ (W : World) (A1 A2 : Option Addr) (c1 c2 : Nat), (⟨rB, A1, c1⟩ : Rm).Ok W → (⟨rA, A2, c2⟩ : Rm).Ok W → Calls Tryd.prog 7 #[.agg #[.slice A1 3 c1], .agg #[.slice A2 2 c2], .bool false] W (GivesY W)) := by
    show ∀ _, _
    intro W A1 A2 c1 c2 h1 h2
    refine (two_any A1 A2 rB rA c1 c2 false W h1.sl h2.sl h1.lc h2.lc h1.c h2.c (by decide)).mono ?_
    intro r w' h
    rw [mrgE_m, mrgL_m, show ([⟨rB, A1, c1⟩, ⟨rA, A2, c2⟩] : List Rm).map Rm.l = [rB, rA] from rfl, nm_t.1, nm_t.2] at h
    obtain ⟨A, c, B, h3, h4, h5, h6⟩ := h.form
    rw [HLB.out] at h4 h5
    exact ⟨A, c, B, h3, h4, h5.1, h6⟩
  
  go_cut [19, 20] from 74 to 83 (fun v e wx => ∃ g A c, v = .pointer (some ⟨g, 0, none⟩) ∧ e = .int .i64 0 ∧ Blk wx g 24 #[.slice A 3 c] ∧ Sl wx A ((laid chB).flatMap Ent.cells) ∧ Below U280.heap.size U280 wx)
  case first =>
    refine region_inv (by kernel_rfl) (by kernel_rfl) (fun L a W => ∃ (X : Nat → Prop) (t75 t76 t77 t78 t79 t80 t81 t74 t82 t83 t19 t20 : Value) (g75 : Nat) (A75 : Option Addr) (c75 : Nat) (B75 : Option Addr) (d75 : Nat) (g78 : Nat) (A78 : Option Addr) (c78 : Nat) (B78 : Option Addr) (d78 : Nat) (A81 : Option Addr) (c81 : Nat) (g10 : Nat), a = ⟨#[(Value.bool false), (Value.pointer (some { block := g7, off := 0 })), (Value.int IntKind.i64 0), (Value.pointer (some { block := g21, off := 0 })), (Value.pointer (some { block := g43, off := 0 })), (Value.pointer (some { block := g80, off := 0 })), (Value.int IntKind.i64 130), (Value.pointer (some { block := g111, off := 0 })), (Value.int IntKind.i64 8), (Value.pointer (some { block := g150, off := 0 })), (Value.int IntKind.i64 0), (Value.pointer (some { block := g192, off := 0 })), (Value.int IntKind.i64 0), (Value.pointer (some { block := g237, off := 0 })), (Value.int IntKind.i64 6), (u15), (Value.int IntKind.i64 130), (Value.pointer (some { block := g281, off := 0 })), (Value.int IntKind.i64 6), t19, t20, (Value.tuple #[Value.agg #[Value.slice A1 0 c1], Value.int IntKind.i64 0]), (Value.tuple #[Value.agg #[Value.slice A1 0 c1], Value.int IntKind.i64 0]), (Value.agg #[Value.slice A1 0 c1]), (Value.int IntKind.i64 0), (Value.agg #[Value.int IntKind.i64 1, Value.int IntKind.i64 0, Value.bool false]), (Value.agg #[Value.int IntKind.i64 2, Value.int IntKind.i64 0, Value.bool false]), (Value.slice (some { block := g19, off := 0 }) 2 2), (Value.agg #[Value.slice (some { block := g19, off := 0 }) 2 2]), (Value.agg #[Value.int IntKind.i64 0, Value.int IntKind.i64 1, Value.bool true]), (Value.slice (some { block := g41, off := 0 }) 1 1), (Value.agg #[Value.slice (some { block := g41, off := 0 }) 1 1]), (Value.tuple #[Value.agg #[Value.slice A5 0 c5], Value.int IntKind.i64 130]), (Value.agg #[Value.slice (some { block := g19, off := 0 }) 2 2]), (Value.agg #[Value.slice (some { block := g41, off := 0 }) 1 1]), (Value.slice (some { block := U38.heap.size, off := 0 }) 2 2), (Value.tuple #[Value.agg #[Value.slice A5 0 c5], Value.int IntKind.i64 130]), (Value.agg #[Value.slice A5 0 c5]), (Value.int IntKind.i64 130), (Value.tuple #[Value.agg #[Value.slice A7 0 c7], Value.int IntKind.i64 8]), (Value.agg #[Value.slice (some { block := g41, off := 0 }) 1 1]), (Value.agg #[Value.slice (some { block := g19, off := 0 }) 2 2]), (Value.slice (some { block := U79.heap.size, off := 0 }) 2 2), (Value.tuple #[Value.agg #[Value.slice A7 0 c7], Value.int IntKind.i64 8]), (Value.agg #[Value.slice A7 0 c7]), (Value.int IntKind.i64 8), (Value.tuple #[Value.agg #[Value.int IntKind.i64 2, Value.int IntKind.i64 0, Value.bool true], Value.int IntKind.i64 0]), (Value.slice (some { block := gca, off := 0 }) 2 2), (Value.tuple #[Value.agg #[Value.int IntKind.i64 2, Value.int IntKind.i64 0, Value.bool true], Value.int IntKind.i64 0]), (Value.agg #[Value.int IntKind.i64 2, Value.int IntKind.i64 0, Value.bool true]), (Value.int IntKind.i64 0), (Value.tuple #[Value.agg #[Value.int IntKind.i64 1, Value.int IntKind.i64 10, Value.bool false], Value.int IntKind.i64 0]), (Value.slice (some { block := gcb, off := 0 }) 2 2), (Value.tuple #[Value.agg #[Value.int IntKind.i64 1, Value.int IntKind.i64 10, Value.bool false], Value.int IntKind.i64 0]), (Value.agg #[Value.int IntKind.i64 1, Value.int IntKind.i64 10, Value.bool false]), (Value.int IntKind.i64 0), (Value.tuple #[Value.agg #[Value.int IntKind.i64 zeroE.key, Value.int IntKind.i64 zeroE.val, Value.bool zeroE.dead], Value.int IntKind.i64 6]), (Value.slice (some { block := gcc, off := 0 }) 2 2), (Value.tuple #[Value.agg #[Value.int IntKind.i64 zeroE.key, Value.int IntKind.i64 zeroE.val, Value.bool zeroE.dead], Value.int IntKind.i64 6]), (Value.agg #[Value.int IntKind.i64 zeroE.key, Value.int IntKind.i64 zeroE.val, Value.bool zeroE.dead]), (Value.int IntKind.i64 6), (u61), (u62), (u63), (u64), (u65), (u66), (u67), (u68), (u69), (Value.tuple #[Value.agg #[Value.int IntKind.i64 zeroE.key, Value.int IntKind.i64 zeroE.val, Value.bool zeroE.dead], Value.int IntKind.i64 6]), (Value.tuple #[Value.agg #[Value.int IntKind.i64 zeroE.key, Value.int IntKind.i64 zeroE.val, Value.bool zeroE.dead], Value.int IntKind.i64 6]), (Value.agg #[Value.int IntKind.i64 zeroE.key, Value.int IntKind.i64 zeroE.val, Value.bool zeroE.dead]), (Value.int IntKind.i64 6), t74, t75, t76, t77, t78, t79, t80, t81, t82, t83, undef, undef, undef, undef, undef, undef, undef, undef, undef, undef, undef, undef, undef, undef, undef, undef, undef, undef, undef, undef, undef, undef, undef, undef, undef, undef, undef, undef, undef, undef, undef, undef, undef, undef, undef, undef, undef, undef, undef, undef, undef, undef, undef, undef, undef, undef, undef, undef, undef, undef, undef, undef, undef, undef, undef, undef, undef, undef, undef, undef, undef], []⟩ ∧ Below U280.heap.size U280 W ∧ (∀ k, X k → U280.heap.size ≤ k ∧ k < W.heap.size) ∧ (L 0 = true → t75 = .slice (some ⟨g75, 0, none⟩) 2 2 ∧ (L 11 = false → Held (fun _ => False) (fun W => Blk W g75 24 #[.slice A75 2 c75, .slice B75 3 d75] ∧ RunsAt W (some ⟨g75, 0, none⟩) [⟨rA, A75, c75⟩, ⟨rB, B75, d75⟩]) W)) ∧ (L 1 = true → t76 = .pointer (some ⟨g75, 1, none⟩)) ∧ (L 2 = true → t77 = .agg #[.slice B75 3 d75]) ∧ (L 3 = true → t78 = .slice (some ⟨g78, 0, none⟩) 2 2 ∧ (L 11 = false → Held (fun _ => False) (fun W => Blk W g78 24 #[.slice A78 2 c78, .slice B78 3 d78] ∧ RunsAt W (some ⟨g78, 0, none⟩) [⟨rA, A78, c78⟩, ⟨rB, B78, d78⟩]) W)) ∧ (L 4 = true → t79 = .pointer (some ⟨g78, 0, none⟩)) ∧ (L 5 = true → t80 = .agg #[.slice A78 2 c78]) ∧ (L 6 = true → t81 = .tuple #[.agg #[.slice A81 3 c81], .int .i64 0] ∧ Held X (fun W => Sl W A81 ((laid chB).flatMap Ent.cells)) W) ∧ (L 7 = true → t74 = .tuple #[.agg #[.slice A81 3 c81], .int .i64 0]) ∧ (L 8 = true → t82 = .agg #[.slice A81 3 c81]) ∧ (L 9 = true → t83 = .int .i64 0) ∧ (L 10 = true → t19 = .pointer (some ⟨g10, 0, none⟩) ∧ X g10 ∧ Held (fun k => X k ∧ k ≠ g10) (fun W => (∃ x0 : Value, Blk W g10 24 #[x0])) W) ∧ (L 11 = true → Held (fun k => X k ∧ k ≠ g10) (fun W => Blk W g10 24 #[.slice A81 3 c81]) W) ∧ (L 12 = true → t20 = .int .i64 0) ∧ (L 1 = true → L 0 = true) ∧ (L 2 = true → L 0 = true) ∧ (L 4 = true → L 3 = true) ∧ (L 5 = true → L 3 = true) ∧ (L 7 = true → L 6 = true) ∧ (L 8 = true → L 6 = true) ∧ (L 11 = true → L 6 = true) ∧ (L 11 = true → L 10 = true) ∧ (L 11 = true → L 1 = true) ∧ (L 11 = true → L 2 = true) ∧ (L 11 = true → L 4 = true) ∧ (L 11 = true → L 5 = true)) ?h0 ?hstep ?hend
    case h0 => exact ⟨(fun _ => False), undef, undef, undef, undef, undef, undef, undef, undef, undef, undef, undef, undef, 0, none, 0, none, 0, 0, none, 0, none, 0, none, 0, 0, rfl, (Below.refl _ _).drew, fun k hk => absurd hk id, fun h => absurd h Bool.false_ne_true, fun h => absurd h Bool.false_ne_true, fun h => absurd h Bool.false_ne_true, fun h => absurd h Bool.false_ne_true, fun h => absurd h Bool.false_ne_true, fun h => absurd h Bool.false_ne_true, fun h => absurd h Bool.false_ne_true, fun h => absurd h Bool.false_ne_true, fun h => absurd h Bool.false_ne_true, fun h => absurd h Bool.false_ne_true, fun h => absurd h Bool.false_ne_true, fun h => absurd h Bool.false_ne_true, fun h => absurd h Bool.false_ne_true, fun h => absurd h Bool.false_ne_true, fun h => absurd h Bool.false_ne_true, fun h => absurd h Bool.false_ne_true, fun h => absurd h Bool.false_ne_true, fun h => absurd h Bool.false_ne_true, fun h => absurd h Bool.false_ne_true, fun h => absurd h Bool.false_ne_true, fun h => absurd h Bool.false_ne_true, fun h => absurd h Bool.false_ne_true, fun h => absurd h Bool.false_ne_true, fun h => absurd h Bool.false_ne_true, fun h => absurd h Bool.false_ne_true⟩
    case hend =>
      rintro L a W hall ⟨X, t75, t76, t77, t78, t79, t80, t81, t74, t82, t83, t19, t20, g75, A75, c75, B75, d75, g78, A78, c78, B78, d78, A81, c81, g10, rfl, hb, hX, f0, f1, f2, f3, f4, f5, f6, f7, f8, f9, f10, f11, f12, im1_0, im2_0, im4_3, im5_3, im7_6, im8_6, im11_6, im11_10, im11_1, im11_2, im11_4, im11_5⟩
      have z0 := f0 (hall 0 (by decide))
      have z1 := f1 (hall 1 (by decide))
      have z2 := f2 (hall 2 (by decide))
      have z3 := f3 (hall 3 (by decide))
      have z4 := f4 (hall 4 (by decide))
      have z5 := f5 (hall 5 (by decide))
      have z6 := f6 (hall 6 (by decide))
      have z7 := f7 (hall 7 (by decide))
      have z8 := f8 (hall 8 (by decide))
      have z9 := f9 (hall 9 (by decide))
      have z10 := f10 (hall 10 (by decide))
      have z11 := f11 (hall 11 (by decide))
      have z12 := f12 (hall 12 (by decide))
      clear hall f0 f1 f2 f3 f4 f5 f6 f7 f8 f9 f10 f11 f12 im1_0 im2_0 im4_3 im5_3 im7_6 im8_6 im11_6 im11_10 im11_1 im11_2 im11_4 im11_5
      obtain ⟨rfl, -, -⟩ := z10
      obtain rfl := z12
      have hh := And.intro z11.now z6.2.now
      have HH := Lib.hid hh
      have HBZ := Lib.hid hb
      clear z0 z1 z2 z3 z4 z5 z6 z7 z8 z9 z11 hh hb hX
      go_wp2_with fail
      go_meet
      exact ⟨g10, A81, c81, rfl, rfl, HH.out.1, HH.out.2, HBZ.out⟩
    case hstep =>
      rintro L a W i o ho hLi hdep ⟨X, t75, t76, t77, t78, t79, t80, t81, t74, t82, t83, t19, t20, g75, A75, c75, B75, d75, g78, A78, c78, B78, d78, A81, c81, g10, rfl, hb, hX, f0, f1, f2, f3, f4, f5, f6, f7, f8, f9, f10, f11, f12, im1_0, im2_0, im4_3, im5_3, im7_6, im8_6, im11_6, im11_10, im11_1, im11_2, im11_4, im11_5⟩
      have F0 := Lib.hid f0
      have F1 := Lib.hid f1
      have F2 := Lib.hid f2
      have F3 := Lib.hid f3
      have F4 := Lib.hid f4
      have F5 := Lib.hid f5
      have F6 := Lib.hid f6
      have F7 := Lib.hid f7
      have F8 := Lib.hid f8
      have F9 := Lib.hid f9
      have F10 := Lib.hid f10
      have F11 := Lib.hid f11
      have F12 := Lib.hid f12
      have IM1_0 := Lib.hid im1_0
      have IM2_0 := Lib.hid im2_0
      have IM4_3 := Lib.hid im4_3
      have IM5_3 := Lib.hid im5_3
      have IM7_6 := Lib.hid im7_6
      have IM8_6 := Lib.hid im8_6
      have IM11_6 := Lib.hid im11_6
      have IM11_10 := Lib.hid im11_10
      have IM11_1 := Lib.hid im11_1
      have IM11_2 := Lib.hid im11_2
      have IM11_4 := Lib.hid im11_4
      have IM11_5 := Lib.hid im11_5
      clear f0 f1 f2 f3 f4 f5 f6 f7 f8 f9 f10 f11 f12 im1_0 im2_0 im4_3 im5_3 im7_6 im8_6 im11_6 im11_10 im11_1 im11_2 im11_4 im11_5
      have HLi := Lib.hid hLi
      clear hLi
      match i, ho with
      | 0, ho =>
        obtain rfl := Option.some.inj ho
        clear hdep
        have HB := Lib.hid hb
        have HX := Lib.hid hX
        refine wpOp_step rfl (fun K1 hK1 => ?_)
        have hK := Lib.hid hK1
        clear hK1
        go_wp2_with (go_at_call 6; refine (chapter25_any _).mono ?_; rintro e1 W1 ⟨gq, Aq, cq, Bq, dq, rfl, bq, hq, hb1⟩)
        exact hK.out _ _ ⟨X, _, t76, t77, t78, t79, t80, t81, t74, t82, t83, t19, t20, gq, Aq, cq, Bq, dq, g78, A78, c78, B78, d78, A81, c81, g10, rfl, bext HB.out hb1, fun k hk => ⟨(HX.out k hk).1, Nat.lt_of_lt_of_le (HX.out k hk).2 hb1.size⟩, fun _ => ⟨rfl, fun _ => fun w2 hm => ⟨bq.below (hm.below (Nat.le_refl _) (fun k hk => hk.elim)) bq.lt, hq.below (hm.below (Nat.le_refl _) (fun k hk => hk.elim))⟩⟩, fun h => absurd (IM1_0.out (by simpa using h)) (by rw [HLi.out]; exact Bool.false_ne_true), fun h => absurd (IM2_0.out (by simpa using h)) (by rw [HLi.out]; exact Bool.false_ne_true), fun h => ⟨(F3.out (by simpa using h)).1, fun hs => ((F3.out (by simpa using h)).2 (by simpa using hs)).ext hb1⟩, fun h => F4.out (by simpa using h), fun h => F5.out (by simpa using h), fun h => ⟨(F6.out (by simpa using h)).1, (F6.out (by simpa using h)).2.ext hb1⟩, fun h => F7.out (by simpa using h), fun h => F8.out (by simpa using h), fun h => F9.out (by simpa using h), fun h => ⟨(F10.out (by simpa using h)).1, (F10.out (by simpa using h)).2.1, (F10.out (by simpa using h)).2.2.ext hb1⟩, fun h => (F11.out (by simpa using h)).ext hb1, fun h => F12.out (by simpa using h), fun _ => by simp, fun _ => by simp, fun h => by have := IM4_3.out (by simpa using h); simp [this], fun h => by have := IM5_3.out (by simpa using h); simp [this], fun h => by have := IM7_6.out (by simpa using h); simp [this], fun h => by have := IM8_6.out (by simpa using h); simp [this], fun h => by have := IM11_6.out (by simpa using h); simp [this], fun h => by have := IM11_10.out (by simpa using h); simp [this], fun h => by have := IM11_1.out (by simpa using h); simp [this], fun h => by have := IM11_2.out (by simpa using h); simp [this], fun h => by have := IM11_4.out (by simpa using h); simp [this], fun h => by have := IM11_5.out (by simpa using h); simp [this]⟩
      | 1, ho =>
        obtain rfl := Option.some.inj ho
        have hls11 : L 11 = false := by
          cases h : L 11 with
          | false => rfl
          | true => exact absurd (IM11_1.out h) (by rw [HLi.out]; exact Bool.false_ne_true)
        have hl0 := hdep ⟨0, .data⟩ (by simp) rfl
        have z0 := F0.out hl0
        have zz0 := z0.2 hls11
        obtain rfl := z0.1
        clear z0
        have z0 := Lib.hid zz0
        clear zz0
        clear hdep
        have HB := Lib.hid hb
        have HX := Lib.hid hX
        refine wpOp_step rfl (fun K1 hK1 => ?_)
        have hK := Lib.hid hK1
        clear hK1
        go_wp2_with fail
        exact hK.out _ _ ⟨X, _, _, t77, t78, t79, t80, t81, t74, t82, t83, t19, t20, g75, A75, c75, B75, d75, g78, A78, c78, B78, d78, A81, c81, g10, rfl, HB.out, HX.out, fun h => ⟨rfl, fun hs => z0.out⟩, fun _ => rfl, fun h => F2.out (by simpa using h), fun h => ⟨(F3.out (by simpa using h)).1, fun hs => ((F3.out (by simpa using h)).2 (by simpa using hs))⟩, fun h => F4.out (by simpa using h), fun h => F5.out (by simpa using h), fun h => F6.out (by simpa using h), fun h => F7.out (by simpa using h), fun h => F8.out (by simpa using h), fun h => F9.out (by simpa using h), fun h => F10.out (by simpa using h), fun h => absurd (IM11_1.out (by simpa using h)) (by rw [HLi.out]; exact Bool.false_ne_true), fun h => F12.out (by simpa using h), fun _ => by simp [hl0], fun h => by have := IM2_0.out (by simpa using h); simp [this], fun h => by have := IM4_3.out (by simpa using h); simp [this], fun h => by have := IM5_3.out (by simpa using h); simp [this], fun h => by have := IM7_6.out (by simpa using h); simp [this], fun h => by have := IM8_6.out (by simpa using h); simp [this], fun h => by have := IM11_6.out (by simpa using h); simp [this], fun h => by have := IM11_10.out (by simpa using h); simp [this], fun _ => by simp, fun h => by have := IM11_2.out (by simpa using h); simp [this], fun h => by have := IM11_4.out (by simpa using h); simp [this], fun h => by have := IM11_5.out (by simpa using h); simp [this]⟩
      | 2, ho =>
        obtain rfl := Option.some.inj ho
        have hls11 : L 11 = false := by
          cases h : L 11 with
          | false => rfl
          | true => exact absurd (IM11_2.out h) (by rw [HLi.out]; exact Bool.false_ne_true)
        have hl1 := hdep ⟨1, .data⟩ (by simp) rfl
        have z1 := F1.out hl1
        obtain rfl := z1
        have hl0 := IM1_0.out hl1
        have z0 := F0.out hl0
        have zz0 := z0.2 hls11
        obtain rfl := z0.1
        clear z0
        have z0 := Lib.hid zz0
        clear zz0
        clear hdep
        have HB := Lib.hid hb
        have HX := Lib.hid hX
        have bo := z0.out.now.1
        have q0 : W.cell? ⟨g75, 1, none⟩ = some (.slice B75 3 d75) := bo.cell 1
        have lo := bo.lt
        refine wpOp_step rfl (fun K1 hK1 => ?_)
        have hK := Lib.hid hK1
        clear hK1
        go_wp2_with fail
        exact hK.out _ _ ⟨X, _, _, _, t78, t79, t80, t81, t74, t82, t83, t19, t20, g75, A75, c75, B75, d75, g78, A78, c78, B78, d78, A81, c81, g10, rfl, HB.out, HX.out, fun h => ⟨rfl, fun hs => z0.out⟩, fun h => rfl, fun _ => rfl, fun h => ⟨(F3.out (by simpa using h)).1, fun hs => ((F3.out (by simpa using h)).2 (by simpa using hs))⟩, fun h => F4.out (by simpa using h), fun h => F5.out (by simpa using h), fun h => F6.out (by simpa using h), fun h => F7.out (by simpa using h), fun h => F8.out (by simpa using h), fun h => F9.out (by simpa using h), fun h => F10.out (by simpa using h), fun h => absurd (IM11_2.out (by simpa using h)) (by rw [HLi.out]; exact Bool.false_ne_true), fun h => F12.out (by simpa using h), fun h => by have := IM1_0.out (by simpa using h); simp [this], fun _ => by simp [hl0], fun h => by have := IM4_3.out (by simpa using h); simp [this], fun h => by have := IM5_3.out (by simpa using h); simp [this], fun h => by have := IM7_6.out (by simpa using h); simp [this], fun h => by have := IM8_6.out (by simpa using h); simp [this], fun h => by have := IM11_6.out (by simpa using h); simp [this], fun h => by have := IM11_10.out (by simpa using h); simp [this], fun h => by have := IM11_1.out (by simpa using h); simp [this], fun _ => by simp, fun h => by have := IM11_4.out (by simpa using h); simp [this], fun h => by have := IM11_5.out (by simpa using h); simp [this]⟩
      | 3, ho =>
        obtain rfl := Option.some.inj ho
        clear hdep
        have HB := Lib.hid hb
        have HX := Lib.hid hX
        refine wpOp_step rfl (fun K1 hK1 => ?_)
        have hK := Lib.hid hK1
        clear hK1
        go_wp2_with (go_at_call 6; refine (chapter25_any _).mono ?_; rintro e1 W1 ⟨gq, Aq, cq, Bq, dq, rfl, bq, hq, hb1⟩)
        exact hK.out _ _ ⟨X, t75, t76, t77, _, t79, t80, t81, t74, t82, t83, t19, t20, g75, A75, c75, B75, d75, gq, Aq, cq, Bq, dq, A81, c81, g10, rfl, bext HB.out hb1, fun k hk => ⟨(HX.out k hk).1, Nat.lt_of_lt_of_le (HX.out k hk).2 hb1.size⟩, fun h => ⟨(F0.out (by simpa using h)).1, fun hs => ((F0.out (by simpa using h)).2 (by simpa using hs)).ext hb1⟩, fun h => F1.out (by simpa using h), fun h => F2.out (by simpa using h), fun _ => ⟨rfl, fun _ => fun w2 hm => ⟨bq.below (hm.below (Nat.le_refl _) (fun k hk => hk.elim)) bq.lt, hq.below (hm.below (Nat.le_refl _) (fun k hk => hk.elim))⟩⟩, fun h => absurd (IM4_3.out (by simpa using h)) (by rw [HLi.out]; exact Bool.false_ne_true), fun h => absurd (IM5_3.out (by simpa using h)) (by rw [HLi.out]; exact Bool.false_ne_true), fun h => ⟨(F6.out (by simpa using h)).1, (F6.out (by simpa using h)).2.ext hb1⟩, fun h => F7.out (by simpa using h), fun h => F8.out (by simpa using h), fun h => F9.out (by simpa using h), fun h => ⟨(F10.out (by simpa using h)).1, (F10.out (by simpa using h)).2.1, (F10.out (by simpa using h)).2.2.ext hb1⟩, fun h => (F11.out (by simpa using h)).ext hb1, fun h => F12.out (by simpa using h), fun h => by have := IM1_0.out (by simpa using h); simp [this], fun h => by have := IM2_0.out (by simpa using h); simp [this], fun _ => by simp, fun _ => by simp, fun h => by have := IM7_6.out (by simpa using h); simp [this], fun h => by have := IM8_6.out (by simpa using h); simp [this], fun h => by have := IM11_6.out (by simpa using h); simp [this], fun h => by have := IM11_10.out (by simpa using h); simp [this], fun h => by have := IM11_1.out (by simpa using h); simp [this], fun h => by have := IM11_2.out (by simpa using h); simp [this], fun h => by have := IM11_4.out (by simpa using h); simp [this], fun h => by have := IM11_5.out (by simpa using h); simp [this]⟩
      | 4, ho =>
        obtain rfl := Option.some.inj ho
        have hls11 : L 11 = false := by
          cases h : L 11 with
          | false => rfl
          | true => exact absurd (IM11_4.out h) (by rw [HLi.out]; exact Bool.false_ne_true)
        have hl3 := hdep ⟨3, .data⟩ (by simp) rfl
        have z3 := F3.out hl3
        have zz3 := z3.2 hls11
        obtain rfl := z3.1
        clear z3
        have z3 := Lib.hid zz3
        clear zz3
        clear hdep
        have HB := Lib.hid hb
        have HX := Lib.hid hX
        refine wpOp_step rfl (fun K1 hK1 => ?_)
        have hK := Lib.hid hK1
        clear hK1
        go_wp2_with fail
        exact hK.out _ _ ⟨X, t75, t76, t77, _, _, t80, t81, t74, t82, t83, t19, t20, g75, A75, c75, B75, d75, g78, A78, c78, B78, d78, A81, c81, g10, rfl, HB.out, HX.out, fun h => ⟨(F0.out (by simpa using h)).1, fun hs => ((F0.out (by simpa using h)).2 (by simpa using hs))⟩, fun h => F1.out (by simpa using h), fun h => F2.out (by simpa using h), fun h => ⟨rfl, fun hs => z3.out⟩, fun _ => rfl, fun h => F5.out (by simpa using h), fun h => F6.out (by simpa using h), fun h => F7.out (by simpa using h), fun h => F8.out (by simpa using h), fun h => F9.out (by simpa using h), fun h => F10.out (by simpa using h), fun h => absurd (IM11_4.out (by simpa using h)) (by rw [HLi.out]; exact Bool.false_ne_true), fun h => F12.out (by simpa using h), fun h => by have := IM1_0.out (by simpa using h); simp [this], fun h => by have := IM2_0.out (by simpa using h); simp [this], fun _ => by simp [hl3], fun h => by have := IM5_3.out (by simpa using h); simp [this], fun h => by have := IM7_6.out (by simpa using h); simp [this], fun h => by have := IM8_6.out (by simpa using h); simp [this], fun h => by have := IM11_6.out (by simpa using h); simp [this], fun h => by have := IM11_10.out (by simpa using h); simp [this], fun h => by have := IM11_1.out (by simpa using h); simp [this], fun h => by have := IM11_2.out (by simpa using h); simp [this], fun _ => by simp, fun h => by have := IM11_5.out (by simpa using h); simp [this]⟩
      | 5, ho =>
        obtain rfl := Option.some.inj ho
        have hls11 : L 11 = false := by
          cases h : L 11 with
          | false => rfl
          | true => exact absurd (IM11_5.out h) (by rw [HLi.out]; exact Bool.false_ne_true)
        have hl4 := hdep ⟨4, .data⟩ (by simp) rfl
        have z4 := F4.out hl4
        obtain rfl := z4
        have hl3 := IM4_3.out hl4
        have z3 := F3.out hl3
        have zz3 := z3.2 hls11
        obtain rfl := z3.1
        clear z3
        have z3 := Lib.hid zz3
        clear zz3
        clear hdep
        have HB := Lib.hid hb
        have HX := Lib.hid hX
        have bo := z3.out.now.1
        have q0 : W.cell? ⟨g78, 0, none⟩ = some (.slice A78 2 c78) := bo.cell 0
        have lo := bo.lt
        refine wpOp_step rfl (fun K1 hK1 => ?_)
        have hK := Lib.hid hK1
        clear hK1
        go_wp2_with fail
        exact hK.out _ _ ⟨X, t75, t76, t77, _, _, _, t81, t74, t82, t83, t19, t20, g75, A75, c75, B75, d75, g78, A78, c78, B78, d78, A81, c81, g10, rfl, HB.out, HX.out, fun h => ⟨(F0.out (by simpa using h)).1, fun hs => ((F0.out (by simpa using h)).2 (by simpa using hs))⟩, fun h => F1.out (by simpa using h), fun h => F2.out (by simpa using h), fun h => ⟨rfl, fun hs => z3.out⟩, fun h => rfl, fun _ => rfl, fun h => F6.out (by simpa using h), fun h => F7.out (by simpa using h), fun h => F8.out (by simpa using h), fun h => F9.out (by simpa using h), fun h => F10.out (by simpa using h), fun h => absurd (IM11_5.out (by simpa using h)) (by rw [HLi.out]; exact Bool.false_ne_true), fun h => F12.out (by simpa using h), fun h => by have := IM1_0.out (by simpa using h); simp [this], fun h => by have := IM2_0.out (by simpa using h); simp [this], fun h => by have := IM4_3.out (by simpa using h); simp [this], fun _ => by simp [hl3], fun h => by have := IM7_6.out (by simpa using h); simp [this], fun h => by have := IM8_6.out (by simpa using h); simp [this], fun h => by have := IM11_6.out (by simpa using h); simp [this], fun h => by have := IM11_10.out (by simpa using h); simp [this], fun h => by have := IM11_1.out (by simpa using h); simp [this], fun h => by have := IM11_2.out (by simpa using h); simp [this], fun h => by have := IM11_4.out (by simpa using h); simp [this], fun _ => by simp⟩
      | 6, ho =>
        obtain rfl := Option.some.inj ho
        have hls11 : L 11 = false := by
          cases h : L 11 with
          | false => rfl
          | true => exact absurd (IM11_6.out h) (by rw [HLi.out]; exact Bool.false_ne_true)
        have hl2 := hdep ⟨2, .data⟩ (by simp) rfl
        have z2 := F2.out hl2
        obtain rfl := z2
        have hl5 := hdep ⟨5, .data⟩ (by simp) rfl
        have z5 := F5.out hl5
        obtain rfl := z5
        have hl0 := IM2_0.out hl2
        have z0 := F0.out hl0
        have zz0 := z0.2 hls11
        obtain rfl := z0.1
        clear z0
        have z0 := Lib.hid zz0
        clear zz0
        have hl3 := IM5_3.out hl5
        have z3 := F3.out hl3
        have zz3 := z3.2 hls11
        obtain rfl := z3.1
        clear z3
        have z3 := Lib.hid zz3
        clear zz3
        clear hdep
        have HB := Lib.hid hb
        have HX := Lib.hid hX
        refine wpOp_step rfl (fun K1 hK1 => ?_)
        have hK := Lib.hid hK1
        clear hK1
        have h1 := z0.out.now.2.ok ⟨rB, B75, d75⟩ (by simp)
        have h2 := z3.out.now.2.ok ⟨rA, A78, c78⟩ (by simp)
        go_wp2_with (go_at_call 7; refine (HTWO.out W B75 A78 d75 c78 h1 h2).mono ?_; rintro e1 W1 ⟨A9, c9, B9, hB9, rfl, ho9, hb1⟩)
        exact hK.out _ _ ⟨X, _, t76, _, _, t79, _, _, t74, t82, t83, t19, t20, g75, A75, c75, B75, d75, g78, A78, c78, B78, d78, A9, c9, g10, rfl, bext HB.out hb1, fun k hk => ⟨(HX.out k hk).1, Nat.lt_of_lt_of_le (HX.out k hk).2 hb1.size⟩, fun h => ⟨rfl, fun hs => z0.out.ext hb1⟩, fun h => F1.out (by simpa using h), fun h => rfl, fun h => ⟨rfl, fun hs => z3.out.ext hb1⟩, fun h => F4.out (by simpa using h), fun h => rfl, fun _ => ⟨rfl, fun w2 hm => own_sl (own_mod ho9 hm (fun k hk hx => by have h3 := (HX.out k hx).2; have h4 : B9 = W.heap.size := hB9.out; omega))⟩, fun h => absurd (IM7_6.out (by simpa using h)) (by rw [HLi.out]; exact Bool.false_ne_true), fun h => absurd (IM8_6.out (by simpa using h)) (by rw [HLi.out]; exact Bool.false_ne_true), fun h => F9.out (by simpa using h), fun h => ⟨(F10.out (by simpa using h)).1, (F10.out (by simpa using h)).2.1, (F10.out (by simpa using h)).2.2.ext hb1⟩, fun h => absurd (IM11_6.out (by simpa using h)) (by rw [HLi.out]; exact Bool.false_ne_true), fun h => F12.out (by simpa using h), fun h => by have := IM1_0.out (by simpa using h); simp [this], fun h => by have := IM2_0.out (by simpa using h); simp [this], fun h => by have := IM4_3.out (by simpa using h); simp [this], fun h => by have := IM5_3.out (by simpa using h); simp [this], fun _ => by simp, fun _ => by simp, fun _ => by simp, fun h => by have := IM11_10.out (by simpa using h); simp [this], fun h => by have := IM11_1.out (by simpa using h); simp [this], fun h => by have := IM11_2.out (by simpa using h); simp [this], fun h => by have := IM11_4.out (by simpa using h); simp [this], fun h => by have := IM11_5.out (by simpa using h); simp [this]⟩
      | 7, ho =>
        obtain rfl := Option.some.inj ho
        have hl6 := hdep ⟨6, .data⟩ (by simp) rfl
        have z6 := F6.out hl6
        have zz6 := z6.2
        obtain rfl := z6.1
        clear z6
        have z6 := Lib.hid zz6
        clear zz6
        clear hdep
        have HB := Lib.hid hb
        have HX := Lib.hid hX
        refine wpOp_step rfl (fun K1 hK1 => ?_)
        have hK := Lib.hid hK1
        clear hK1
        go_wp2_with fail
        exact hK.out _ _ ⟨X, t75, t76, t77, t78, t79, t80, _, _, t82, t83, t19, t20, g75, A75, c75, B75, d75, g78, A78, c78, B78, d78, A81, c81, g10, rfl, HB.out, HX.out, fun h => ⟨(F0.out (by simpa using h)).1, fun hs => ((F0.out (by simpa using h)).2 (by simpa using hs))⟩, fun h => F1.out (by simpa using h), fun h => F2.out (by simpa using h), fun h => ⟨(F3.out (by simpa using h)).1, fun hs => ((F3.out (by simpa using h)).2 (by simpa using hs))⟩, fun h => F4.out (by simpa using h), fun h => F5.out (by simpa using h), fun h => ⟨rfl, z6.out⟩, fun _ => rfl, fun h => F8.out (by simpa using h), fun h => F9.out (by simpa using h), fun h => F10.out (by simpa using h), fun h => F11.out (by simpa using h), fun h => F12.out (by simpa using h), fun h => by have := IM1_0.out (by simpa using h); simp [this], fun h => by have := IM2_0.out (by simpa using h); simp [this], fun h => by have := IM4_3.out (by simpa using h); simp [this], fun h => by have := IM5_3.out (by simpa using h); simp [this], fun _ => by simp [hl6], fun h => by have := IM8_6.out (by simpa using h); simp [this], fun h => by have := IM11_6.out (by simpa using h); simp [this], fun h => by have := IM11_10.out (by simpa using h); simp [this], fun h => by have := IM11_1.out (by simpa using h); simp [this], fun h => by have := IM11_2.out (by simpa using h); simp [this], fun h => by have := IM11_4.out (by simpa using h); simp [this], fun h => by have := IM11_5.out (by simpa using h); simp [this]⟩
      | 8, ho =>
        obtain rfl := Option.some.inj ho
        have hl7 := hdep ⟨7, .data⟩ (by simp) rfl
        have z7 := F7.out hl7
        obtain rfl := z7
        have hl6 := IM7_6.out hl7
        have z6 := F6.out hl6
        have zz6 := z6.2
        obtain rfl := z6.1
        clear z6
        have z6 := Lib.hid zz6
        clear zz6
        clear hdep
        have HB := Lib.hid hb
        have HX := Lib.hid hX
        refine wpOp_step rfl (fun K1 hK1 => ?_)
        have hK := Lib.hid hK1
        clear hK1
        go_wp2_with fail
        exact hK.out _ _ ⟨X, t75, t76, t77, t78, t79, t80, _, _, _, t83, t19, t20, g75, A75, c75, B75, d75, g78, A78, c78, B78, d78, A81, c81, g10, rfl, HB.out, HX.out, fun h => ⟨(F0.out (by simpa using h)).1, fun hs => ((F0.out (by simpa using h)).2 (by simpa using hs))⟩, fun h => F1.out (by simpa using h), fun h => F2.out (by simpa using h), fun h => ⟨(F3.out (by simpa using h)).1, fun hs => ((F3.out (by simpa using h)).2 (by simpa using hs))⟩, fun h => F4.out (by simpa using h), fun h => F5.out (by simpa using h), fun h => ⟨rfl, z6.out⟩, fun h => rfl, fun _ => rfl, fun h => F9.out (by simpa using h), fun h => F10.out (by simpa using h), fun h => F11.out (by simpa using h), fun h => F12.out (by simpa using h), fun h => by have := IM1_0.out (by simpa using h); simp [this], fun h => by have := IM2_0.out (by simpa using h); simp [this], fun h => by have := IM4_3.out (by simpa using h); simp [this], fun h => by have := IM5_3.out (by simpa using h); simp [this], fun h => by have := IM7_6.out (by simpa using h); simp [this], fun _ => by simp [hl6], fun h => by have := IM11_6.out (by simpa using h); simp [this], fun h => by have := IM11_10.out (by simpa using h); simp [this], fun h => by have := IM11_1.out (by simpa using h); simp [this], fun h => by have := IM11_2.out (by simpa using h); simp [this], fun h => by have := IM11_4.out (by simpa using h); simp [this], fun h => by have := IM11_5.out (by simpa using h); simp [this]⟩
      | 9, ho =>
        obtain rfl := Option.some.inj ho
        have hl7 := hdep ⟨7, .data⟩ (by simp) rfl
        have z7 := F7.out hl7
        obtain rfl := z7
        clear hdep
        have HB := Lib.hid hb
        have HX := Lib.hid hX
        refine wpOp_step rfl (fun K1 hK1 => ?_)
        have hK := Lib.hid hK1
        clear hK1
        go_wp2_with fail
        exact hK.out _ _ ⟨X, t75, t76, t77, t78, t79, t80, t81, _, t82, _, t19, t20, g75, A75, c75, B75, d75, g78, A78, c78, B78, d78, A81, c81, g10, rfl, HB.out, HX.out, fun h => ⟨(F0.out (by simpa using h)).1, fun hs => ((F0.out (by simpa using h)).2 (by simpa using hs))⟩, fun h => F1.out (by simpa using h), fun h => F2.out (by simpa using h), fun h => ⟨(F3.out (by simpa using h)).1, fun hs => ((F3.out (by simpa using h)).2 (by simpa using hs))⟩, fun h => F4.out (by simpa using h), fun h => F5.out (by simpa using h), fun h => F6.out (by simpa using h), fun h => rfl, fun h => F8.out (by simpa using h), fun _ => rfl, fun h => F10.out (by simpa using h), fun h => F11.out (by simpa using h), fun h => F12.out (by simpa using h), fun h => by have := IM1_0.out (by simpa using h); simp [this], fun h => by have := IM2_0.out (by simpa using h); simp [this], fun h => by have := IM4_3.out (by simpa using h); simp [this], fun h => by have := IM5_3.out (by simpa using h); simp [this], fun h => by have := IM7_6.out (by simpa using h); simp [this], fun h => by have := IM8_6.out (by simpa using h); simp [this], fun h => by have := IM11_6.out (by simpa using h); simp [this], fun h => by have := IM11_10.out (by simpa using h); simp [this], fun h => by have := IM11_1.out (by simpa using h); simp [this], fun h => by have := IM11_2.out (by simpa using h); simp [this], fun h => by have := IM11_4.out (by simpa using h); simp [this], fun h => by have := IM11_5.out (by simpa using h); simp [this]⟩
      | 10, ho =>
        obtain rfl := Option.some.inj ho
        clear hdep
        have HB := Lib.hid hb
        have HX := Lib.hid hX
        refine wpOp_step rfl (fun K1 hK1 => ?_)
        have hK := Lib.hid hK1
        clear hK1
        go_wp2_with fail
        have hb1 : Below W.heap.size W (W.alloc (.cells #[.slice none 0 0] 24)) := (Below.refl _ _).alloc (Nat.le_refl _) _
        exact hK.out _ _ ⟨(fun k => X k ∨ k = W.heap.size), t75, t76, t77, t78, t79, t80, t81, t74, t82, t83, _, t20, g75, A75, c75, B75, d75, g78, A78, c78, B78, d78, A81, c81, W.heap.size, rfl, HB.out.alloc HB.out.size _, fun k hk => hk.elim (fun q => ⟨(HX.out k q).1, Nat.lt_of_lt_of_le (HX.out k q).2 hb1.size⟩) (fun q => by subst q; exact ⟨HB.out.size, by simp⟩), fun h => ⟨(F0.out (by simpa using h)).1, fun hs => ((F0.out (by simpa using h)).2 (by simpa using hs)).ext hb1⟩, fun h => F1.out (by simpa using h), fun h => F2.out (by simpa using h), fun h => ⟨(F3.out (by simpa using h)).1, fun hs => ((F3.out (by simpa using h)).2 (by simpa using hs)).ext hb1⟩, fun h => F4.out (by simpa using h), fun h => F5.out (by simpa using h), fun h => ⟨(F6.out (by simpa using h)).1, (F6.out (by simpa using h)).2.join (Mod.of_ext hb1) (fun k hk hx => hx.elim id (fun q => absurd q (by omega)))⟩, fun h => F7.out (by simpa using h), fun h => F8.out (by simpa using h), fun h => F9.out (by simpa using h), fun _ => ⟨rfl, .inr rfl, held_mono (held_blk (X := fun k => (X k ∨ k = W.heap.size) ∧ k ≠ W.heap.size) (Blk.new W 24 #[.slice none 0 0]) (fun hx => hx.2 rfl)) (fun W2 h2 => ⟨_, h2⟩)⟩, fun h => absurd (IM11_10.out (by simpa using h)) (by rw [HLi.out]; exact Bool.false_ne_true), fun h => F12.out (by simpa using h), fun h => by have := IM1_0.out (by simpa using h); simp [this], fun h => by have := IM2_0.out (by simpa using h); simp [this], fun h => by have := IM4_3.out (by simpa using h); simp [this], fun h => by have := IM5_3.out (by simpa using h); simp [this], fun h => by have := IM7_6.out (by simpa using h); simp [this], fun h => by have := IM8_6.out (by simpa using h); simp [this], fun h => by have := IM11_6.out (by simpa using h); simp [this], fun _ => by simp, fun h => by have := IM11_1.out (by simpa using h); simp [this], fun h => by have := IM11_2.out (by simpa using h); simp [this], fun h => by have := IM11_4.out (by simpa using h); simp [this], fun h => by have := IM11_5.out (by simpa using h); simp [this]⟩
      | 11, ho =>
        obtain rfl := Option.some.inj ho
        have hl10 := hdep ⟨10, .data⟩ (by simp) rfl
        have z10 := F10.out hl10
        have zz10 := z10.2
        obtain rfl := z10.1
        clear z10
        have z10 := Lib.hid zz10
        clear zz10
        have hl8 := hdep ⟨8, .data⟩ (by simp) rfl
        have z8 := F8.out hl8
        obtain rfl := z8
        have hl6 := hdep ⟨6, .chain⟩ (by simp) rfl
        have z6 := F6.out hl6
        have zz6 := z6.2
        obtain rfl := z6.1
        clear z6
        have z6 := Lib.hid zz6
        clear zz6
        have hl5 := hdep ⟨5, .phase⟩ (by simp) rfl
        have z5 := F5.out hl5
        obtain rfl := z5
        have hl4 := hdep ⟨4, .phase⟩ (by simp) rfl
        have z4 := F4.out hl4
        obtain rfl := z4
        have hl2 := hdep ⟨2, .phase⟩ (by simp) rfl
        have z2 := F2.out hl2
        obtain rfl := z2
        have hl1 := hdep ⟨1, .phase⟩ (by simp) rfl
        have z1 := F1.out hl1
        obtain rfl := z1
        clear hdep
        have HB := Lib.hid hb
        have HX := Lib.hid hX
        refine wpOp_step rfl (fun K1 hK1 => ?_)
        have hK := Lib.hid hK1
        clear hK1
        obtain ⟨hxg, hbx⟩ := z10.out
        obtain ⟨x0, hbk⟩ := hbx.now
        have q0 : W.cell? ⟨g10, 0, none⟩ = some x0 := hbk.cell 0
        have r0 := hbk.frozen 0
        have lg := hbk.lt
        go_wp2_with fail
        have hm1 : ∀ Y : Nat → Prop, Y g10 → Mod Y W (W.setCell ⟨g10, 0, none⟩ (.slice A81 3 c81)) := fun Y hY => ((Mod.refl Y W).setCell (p := ⟨g10, 0, none⟩) hY _)
        have hbn : Blk (W.setCell ⟨g10, 0, none⟩ (.slice A81 3 c81)) g10 24 #[.slice A81 3 c81] := by simpa using hbk.set_ 0 (.slice A81 3 c81)
        have hle : U280.heap.size ≤ g10 := (HX.out _ hxg).1
        have hbl : Below U280.heap.size U280 (W.setCell ⟨g10, 0, none⟩ (.slice A81 3 c81)) := (HB.out.setCell (p := ⟨g10, 0, none⟩) hle _)
        obtain ⟨W1, hW1⟩ : ∃ W1, (W.setCell ⟨g10, 0, none⟩ (.slice A81 3 c81)) = W1 := ⟨_, rfl⟩
        rw [hW1] at hm1 hbn hbl
        rw [hW1]
        clear hW1
        exact hK.out _ _ ⟨X, t75, _, _, t78, _, _, _, t74, _, t83, _, t20, g75, A75, c75, B75, d75, g78, A78, c78, B78, d78, A81, c81, g10, rfl, hbl, fun k hk => ⟨(HX.out k hk).1, Nat.lt_of_lt_of_le (HX.out k hk).2 (hm1 X hxg).size⟩, fun h => ⟨(F0.out (by simpa using h)).1, fun hs => absurd hs (by simp)⟩, fun h => rfl, fun h => rfl, fun h => ⟨(F3.out (by simpa using h)).1, fun hs => absurd hs (by simp)⟩, fun h => rfl, fun h => rfl, fun h => ⟨rfl, z6.out.step (hm1 _ hxg)⟩, fun h => F7.out (by simpa using h), fun h => rfl, fun h => F9.out (by simpa using h), fun h => ⟨rfl, z10.out.1, held_mono (held_blk hbn (fun hx => hx.2 rfl)) (fun W2 h2 => ⟨_, h2⟩)⟩, fun _ => held_blk hbn (fun hx => hx.2 rfl), fun h => F12.out (by simpa using h), fun h => by have := IM1_0.out (by simpa using h); simp [this], fun h => by have := IM2_0.out (by simpa using h); simp [this], fun h => by have := IM4_3.out (by simpa using h); simp [this], fun h => by have := IM5_3.out (by simpa using h); simp [this], fun h => by have := IM7_6.out (by simpa using h); simp [this], fun h => by have := IM8_6.out (by simpa using h); simp [this], fun _ => by simp [hl6], fun _ => by simp [hl10], fun _ => by simp [hl1], fun _ => by simp [hl2], fun _ => by simp [hl4], fun _ => by simp [hl5]⟩
      | 12, ho =>
        obtain rfl := Option.some.inj ho
        have hl9 := hdep ⟨9, .data⟩ (by simp) rfl
        have z9 := F9.out hl9
        obtain rfl := z9
        clear hdep
        have HB := Lib.hid hb
        have HX := Lib.hid hX
        refine wpOp_step rfl (fun K1 hK1 => ?_)
        have hK := Lib.hid hK1
        clear hK1
        go_wp2_with fail
        exact hK.out _ _ ⟨X, t75, t76, t77, t78, t79, t80, t81, t74, t82, _, t19, _, g75, A75, c75, B75, d75, g78, A78, c78, B78, d78, A81, c81, g10, rfl, HB.out, HX.out, fun h => ⟨(F0.out (by simpa using h)).1, fun hs => ((F0.out (by simpa using h)).2 (by simpa using hs))⟩, fun h => F1.out (by simpa using h), fun h => F2.out (by simpa using h), fun h => ⟨(F3.out (by simpa using h)).1, fun hs => ((F3.out (by simpa using h)).2 (by simpa using hs))⟩, fun h => F4.out (by simpa using h), fun h => F5.out (by simpa using h), fun h => F6.out (by simpa using h), fun h => F7.out (by simpa using h), fun h => F8.out (by simpa using h), fun h => rfl, fun h => F10.out (by simpa using h), fun h => F11.out (by simpa using h), fun _ => rfl, fun h => by have := IM1_0.out (by simpa using h); simp [this], fun h => by have := IM2_0.out (by simpa using h); simp [this], fun h => by have := IM4_3.out (by simpa using h); simp [this], fun h => by have := IM5_3.out (by simpa using h); simp [this], fun h => by have := IM7_6.out (by simpa using h); simp [this], fun h => by have := IM8_6.out (by simpa using h); simp [this], fun h => by have := IM11_6.out (by simpa using h); simp [this], fun h => by have := IM11_10.out (by simpa using h); simp [this], fun h => by have := IM11_1.out (by simpa using h); simp [this], fun h => by have := IM11_2.out (by simpa using h); simp [this], fun h => by have := IM11_4.out (by simpa using h); simp [this], fun h => by have := IM11_5.out (by simpa using h); simp [this]⟩
  case rest =>
  obtain ⟨gy, Ay, cy, rfl, rfl, hby, hsy, hcw⟩ := hcut
  have HF299 := Lib.hid (bext HF285.out hcw)
  have HX300 := Lib.hid (HX286.out.below hcw HX286.out.lt)
  have HX301 := Lib.hid (HX287.out.below hcw HX287.out.lt)
  have HX302 := Lib.hid (HX288.out.below hcw HX288.out.lt)
  have HX303 := Lib.hid (HX289.out.below hcw HX289.out.lt)
  have HX304 := Lib.hid (HX290.out.below hcw HX290.out.lt)
  have HX305 := Lib.hid (HX291.out.below hcw HX291.out.lt)
  have HX306 := Lib.hid (HX292.out.below hcw HX292.out.lt)
  have HX307 := Lib.hid (HX293.out.below hcw HX293.out.lt)
  have HX308 := Lib.hid (HX298.out.below hcw HX298.out.lt)
  have HY309 := Lib.hid (tab_below' HY294.out hcw)
  have HY310 := Lib.hid (HY295.out.below hcw)
  have HY311 := Lib.hid (HY296.out.below hcw)
  clear HF285 HX286 HX287 HX288 HX289 HX290 HX291 HX292 HX293 HX298 HY294 HY295 HY296
  have HBY := Lib.hid hby
  clear hcw hby
  have HY312 := Lib.hid (hsy)
  clear hsy
  go_wp2_with fail
  refine (alive25_any _).mono ?_
  rintro e w313 ⟨rfl, hb314⟩
  have HF315 := Lib.hid (bext HF299.out hb314)
  have HX316 := Lib.hid (HX300.out.below hb314 HX300.out.lt)
  have HX317 := Lib.hid (HX301.out.below hb314 HX301.out.lt)
  have HX318 := Lib.hid (HX302.out.below hb314 HX302.out.lt)
  have HX319 := Lib.hid (HX303.out.below hb314 HX303.out.lt)
  have HX320 := Lib.hid (HX304.out.below hb314 HX304.out.lt)
  have HX321 := Lib.hid (HX305.out.below hb314 HX305.out.lt)
  have HX322 := Lib.hid (HX306.out.below hb314 HX306.out.lt)
  have HX323 := Lib.hid (HX307.out.below hb314 HX307.out.lt)
  have HX324 := Lib.hid (HX308.out.below hb314 HX308.out.lt)
  have HX325 := Lib.hid (HBY.out.below hb314 HBY.out.lt)
  have HY326 := Lib.hid (tab_below' HY309.out hb314)
  have HY327 := Lib.hid (HY310.out.below hb314)
  have HY328 := Lib.hid (HY311.out.below hb314)
  have HY329 := Lib.hid (HY312.out.below hb314)
  clear HF299 HX300 HX301 HX302 HX303 HX304 HX305 HX306 HX307 HX308 HBY HY309 HY310 HY311 HY312
  clear hb314
  have c330 : w313.cell? ⟨g7, 0, none⟩ = some (.slice A1 0 c1) := HX316.out.cell 0
  have l331 : g7 < w313.heap.size := HX316.out.lt
  go_wp2_with fail
  clear c330 l331
  refine (has25_yes A1 none [] [] 0 0 c1 0 _ rfl rfl (.inl rfl) (.inl rfl) (by simp) nm_c0 nm_i0).mono ?_
  rintro e w332 ⟨rfl, hb333⟩
  have HF334 := Lib.hid (bext HF315.out hb333)
  have HX335 := Lib.hid (HX316.out.below hb333 HX316.out.lt)
  have HX336 := Lib.hid (HX317.out.below hb333 HX317.out.lt)
  have HX337 := Lib.hid (HX318.out.below hb333 HX318.out.lt)
  have HX338 := Lib.hid (HX319.out.below hb333 HX319.out.lt)
  have HX339 := Lib.hid (HX320.out.below hb333 HX320.out.lt)
  have HX340 := Lib.hid (HX321.out.below hb333 HX321.out.lt)
  have HX341 := Lib.hid (HX322.out.below hb333 HX322.out.lt)
  have HX342 := Lib.hid (HX323.out.below hb333 HX323.out.lt)
  have HX343 := Lib.hid (HX324.out.below hb333 HX324.out.lt)
  have HX344 := Lib.hid (HX325.out.below hb333 HX325.out.lt)
  have HY345 := Lib.hid (tab_below' HY326.out hb333)
  have HY346 := Lib.hid (HY327.out.below hb333)
  have HY347 := Lib.hid (HY328.out.below hb333)
  have HY348 := Lib.hid (HY329.out.below hb333)
  clear HF315 HX316 HX317 HX318 HX319 HX320 HX321 HX322 HX323 HX324 HX325 HY326 HY327 HY328 HY329
  clear hb333
  have HSY := HY348
  have hsy2 := HSY.out
  rw [rB_laid] at hsy2
  have HS2 := Lib.hid hsy2
  clear hsy2
  have HY349 := Lib.hid (HS2.out)
  have c350 : w332.cell? ⟨g150, 0, none⟩ = some (.int .i64 2) := HX340.out.cell 0
  have c351 : w332.cell? ⟨g150, 1, none⟩ = some (.int .i64 0) := HX340.out.cell 1
  have c352 : w332.cell? ⟨g150, 2, none⟩ = some (.bool true) := HX340.out.cell 2
  have l353 : g150 < w332.heap.size := HX340.out.lt
  have c354 : w332.cell? ⟨g192, 0, none⟩ = some (.int .i64 1) := HX341.out.cell 0
  have c355 : w332.cell? ⟨g192, 1, none⟩ = some (.int .i64 10) := HX341.out.cell 1
  have c356 : w332.cell? ⟨g192, 2, none⟩ = some (.bool false) := HX341.out.cell 2
  have l357 : g192 < w332.heap.size := HX341.out.lt
  have c358 : w332.cell? ⟨gy, 0, none⟩ = some (.slice Ay 3 cy) := HX344.out.cell 0
  have l359 : gy < w332.heap.size := HX344.out.lt
  go_wp2_with fail
  clear c350 c351 c352 l353 c354 c355 c356 l357 c358 l359
  obtain ⟨U360, h361⟩ : ∃ U, w332.alloc (.cells #[.int .i64 1, .int .i64 10, .bool false, .int .i64 2, .int .i64 20, .bool false, .int .i64 3, .int .i64 30, .bool false] 29) = U := ⟨_, rfl⟩
  have ba362 : Below w332.heap.size w332 U360 := by rw [← h361]; exact (Below.refl _ _).alloc (Nat.le_refl _) _
  have sl363 : Sl U360 (some ⟨w332.heap.size, 0, none⟩) (List.flatMap Ent.cells chB) := by rw [← h361]; exact sl_new1 _ _ _
  try rw [h361]
  have HF366 := Lib.hid (bext HF334.out ba362)
  have HX367 := Lib.hid (HX335.out.below ba362 HX335.out.lt)
  have HX368 := Lib.hid (HX336.out.below ba362 HX336.out.lt)
  have HX369 := Lib.hid (HX337.out.below ba362 HX337.out.lt)
  have HX370 := Lib.hid (HX338.out.below ba362 HX338.out.lt)
  have HX371 := Lib.hid (HX339.out.below ba362 HX339.out.lt)
  have HX372 := Lib.hid (HX340.out.below ba362 HX340.out.lt)
  have HX373 := Lib.hid (HX341.out.below ba362 HX341.out.lt)
  have HX374 := Lib.hid (HX342.out.below ba362 HX342.out.lt)
  have HX375 := Lib.hid (HX343.out.below ba362 HX343.out.lt)
  have HX376 := Lib.hid (HX344.out.below ba362 HX344.out.lt)
  have HY377 := Lib.hid (tab_below' HY345.out ba362)
  have HY378 := Lib.hid (HY346.out.below ba362)
  have HY379 := Lib.hid (HY347.out.below ba362)
  have HY380 := Lib.hid (HY348.out.below ba362)
  have HY381 := Lib.hid (HY349.out.below ba362)
  clear HF334 HX335 HX336 HX337 HX338 HX339 HX340 HX341 HX342 HX343 HX344 HY345 HY346 HY347 HY348 HY349
  obtain ⟨g364, h365⟩ : ∃ g, w332.heap.size = g := ⟨_, rfl⟩
  rw [h365] at sl363
  try rw [h365]
  have HY382 := Lib.hid (sl363)
  clear h361 ba362 sl363 h365
  refine (has25_yes Ay (some ⟨g364, 0, none⟩) rB chB 3 3 cy 3 _ rfl rfl HY381.out HY382.out (by decide) rB_chk rB_in).mono ?_
  rintro e w383 ⟨rfl, hb384⟩
  have HF385 := Lib.hid (bext HF366.out hb384)
  have HX386 := Lib.hid (HX367.out.below hb384 HX367.out.lt)
  have HX387 := Lib.hid (HX368.out.below hb384 HX368.out.lt)
  have HX388 := Lib.hid (HX369.out.below hb384 HX369.out.lt)
  have HX389 := Lib.hid (HX370.out.below hb384 HX370.out.lt)
  have HX390 := Lib.hid (HX371.out.below hb384 HX371.out.lt)
  have HX391 := Lib.hid (HX372.out.below hb384 HX372.out.lt)
  have HX392 := Lib.hid (HX373.out.below hb384 HX373.out.lt)
  have HX393 := Lib.hid (HX374.out.below hb384 HX374.out.lt)
  have HX394 := Lib.hid (HX375.out.below hb384 HX375.out.lt)
  have HX395 := Lib.hid (HX376.out.below hb384 HX376.out.lt)
  have HY396 := Lib.hid (tab_below' HY377.out hb384)
  have HY397 := Lib.hid (HY378.out.below hb384)
  have HY398 := Lib.hid (HY379.out.below hb384)
  have HY399 := Lib.hid (HY380.out.below hb384)
  have HY400 := Lib.hid (HY381.out.below hb384)
  have HY401 := Lib.hid (HY382.out.below hb384)
  clear HF366 HX367 HX368 HX369 HX370 HX371 HX372 HX373 HX374 HX375 HX376 HY377 HY378 HY379 HY380 HY381 HY382
  clear hb384
  go_wp2_with fail
  go_ret
  exact ⟨rfl, HF385.out⟩
end Go.Proofs.YtolclahkfmplfaaDoor
