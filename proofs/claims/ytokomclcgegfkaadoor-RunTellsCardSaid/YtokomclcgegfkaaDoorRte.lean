/- The law RunTells: for every run and key it returns true; its arguments stay as they were. -/
import Derived.Test.YtokomclcgegfkaaDoorRr
import Derived.Test.YtokomclcgegfkaaDoorKte
namespace Go.Proofs.YtokomclcgegfkaaDoor
open Go Go.RowKit
set_option maxRecDepth 100000
set_option maxHeartbeats 8000000 in
theorem runTells_any (A : Option Addr) (l : List Ent) (c : Nat) (key : Int) (w : World) (hA : Sl w A (l.flatMap Ent.cells)) (hT : TabAt 1 Lib.deBruijn64tab w) : Calls Tryd.prog 7 #[.agg #[.slice A l.length c], .int .i64 key] w fun r w' => r = .returned (.bool true) ∧ Below w.heap.size w w' := by
  have HA := Lib.hid hA
  have HT := Lib.hid hT
  clear hA hT
  obtain ⟨E, hE⟩ : ∃ E, chkE l = E := ⟨_, rfl⟩
  obtain ⟨x1, hx1⟩ : ∃ x, gtX l key = x := ⟨_, rfl⟩
  obtain ⟨e1, he1⟩ : ∃ x, gtE l key = x := ⟨_, rfl⟩
  obtain ⟨x2, hx2⟩ : ∃ x, nxX l key = x := ⟨_, rfl⟩
  obtain ⟨e2, he2⟩ : ∃ x, nxE l key = x := ⟨_, rfl⟩
  obtain ⟨x3, hx3⟩ : ∃ x, lsX l key = x := ⟨_, rfl⟩
  obtain ⟨e3, he3⟩ : ∃ x, lsE l key = x := ⟨_, rfl⟩
  obtain ⟨m, hm⟩ : ∃ x, prL l = x := ⟨_, rfl⟩
  obtain ⟨N, hN⟩ : ∃ x, lvN l = x := ⟨_, rfl⟩
  have hml : m.length = N := by rw [← hm, ← hN, pr_lv]
  have hNl : N ≤ l.length := by
    rw [← hN]; unfold lvN
    split
    · exact live_le l
    · exact Nat.zero_le _
  have HE := Lib.hid hE
  have HX1 := Lib.hid hx1
  have HE1 := Lib.hid he1
  have HX2 := Lib.hid hx2
  have HE2 := Lib.hid he2
  have HX3 := Lib.hid hx3
  have HE3 := Lib.hid he3
  have HM := Lib.hid hm
  have HN := Lib.hid hN
  have HML := Lib.hid hml
  clear hE hx1 he1 hx2 he2 hx3 he3 hm hN hml
  go_enter Tryd.func7, Tryd.ntmps7
  have HF := Lib.hid (Below.refl w.heap.size w)
  have HY1 := Lib.hid (HA.out)
  have HY2 := Lib.hid (HT.out)
  go_upto_region 1 with fail
  obtain ⟨U3, h5⟩ : ∃ U, w.alloc (.cells #[.slice A l.length c] 24) = U := ⟨_, rfl⟩
  have ba6 : Below w.heap.size w U3 := by rw [← h5]; exact (Below.refl _ _).alloc (Nat.le_refl _) _
  have bn7 : Blk U3 w.heap.size 24 #[.slice A l.length c] := by rw [← h5]; exact Blk.new _ _ _
  try rw [h5]
  have HF8 := Lib.hid (bext HF.out ba6)
  have HY9 := Lib.hid (HY1.out.below ba6)
  have HY10 := Lib.hid (tab_below' HY2.out ba6)
  clear HF HY1 HY2
  obtain ⟨g4, h11⟩ : ∃ g, w.heap.size = g := ⟨_, rfl⟩
  rw [h11] at bn7
  try rw [h11]
  have HX12 := Lib.hid bn7
  clear h5 ba6 bn7 h11
  by_cases h3 : 300 < l.length
  case pos =>
    have h4 : (300 : Int) < (l.length : Int) := by omega
    have c0 : U3.cell? ⟨g4, 0, none⟩ = some (.slice A l.length c) := HX12.out.cell 0
    go_wp2
    go_ret
    exact ⟨rfl, HF8.out⟩
  case neg =>
  have h4 : ¬ (300 : Int) < (l.length : Int) := by omega
  have hl6 : l.length ≤ 300 := by omega
  have hl : l.length ≤ 4611686018427387903 := by omega
  have c13 : U3.cell? ⟨g4, 0, none⟩ = some (.slice A l.length c) := HX12.out.cell 0
  have l14 : g4 < U3.heap.size := HX12.out.lt
  go_wp2_with fail
  clear c13 l14
  refine (refTwin_any A l c _ HY9.out (by omega)).mono ?_
  rintro e w15 ⟨A1, c1, rfl, ho1, hb16⟩
  have HF17 := Lib.hid (bext HF8.out hb16)
  have HX18 := Lib.hid (HX12.out.below hb16 HX12.out.lt)
  have HY19 := Lib.hid (HY9.out.below hb16)
  have HY20 := Lib.hid (tab_below' HY10.out hb16)
  clear HF8 HX12 HY9 HY10
  clear hb16
  have HY21 := Lib.hid (own_sl ho1)
  clear ho1
  go_upto_region 4 with fail
  obtain ⟨U22, h24⟩ : ∃ U, w15.alloc (.cells #[.slice A1 l.length c1] 24) = U := ⟨_, rfl⟩
  have ba25 : Below w15.heap.size w15 U22 := by rw [← h24]; exact (Below.refl _ _).alloc (Nat.le_refl _) _
  have bn26 : Blk U22 w15.heap.size 24 #[.slice A1 l.length c1] := by rw [← h24]; exact Blk.new _ _ _
  try rw [h24]
  have HF27 := Lib.hid (bext HF17.out ba25)
  have HX28 := Lib.hid (HX18.out.below ba25 HX18.out.lt)
  have HY29 := Lib.hid (HY19.out.below ba25)
  have HY30 := Lib.hid (tab_below' HY20.out ba25)
  have HY31 := Lib.hid (HY21.out.below ba25)
  clear HF17 HX18 HY19 HY20 HY21
  obtain ⟨g23, h32⟩ : ∃ g, w15.heap.size = g := ⟨_, rfl⟩
  rw [h32] at bn26
  try rw [h32]
  have HX33 := Lib.hid bn26
  clear h24 ba25 bn26 h32
  have c34 : U22.cell? ⟨g23, 0, none⟩ = some (.slice A1 l.length c1) := HX33.out.cell 0
  have l35 : g23 < U22.heap.size := HX33.out.lt
  go_wp2_with fail
  clear c34 l35
  refine (runGet_any A1 l c1 key _ HY31.out hl HY30.out).mono ?_
  unfold GivesX
  rw [HX1.out, HE1.out]
  rintro e w36 ⟨rfl, hb37⟩
  have HF38 := Lib.hid (bext HF27.out hb37)
  have HX39 := Lib.hid (HX28.out.below hb37 HX28.out.lt)
  have HX40 := Lib.hid (HX33.out.below hb37 HX33.out.lt)
  have HY41 := Lib.hid (HY29.out.below hb37)
  have HY42 := Lib.hid (tab_below' HY30.out hb37)
  have HY43 := Lib.hid (HY31.out.below hb37)
  clear HF27 HX28 HX33 HY29 HY30 HY31
  clear hb37
  go_upto_region 5 with fail
  obtain ⟨U44, h46⟩ : ∃ U, w36.alloc (.cells #[.int .i64 x1.key, .int .i64 x1.val, .bool x1.dead] 29) = U := ⟨_, rfl⟩
  have ba47 : Below w36.heap.size w36 U44 := by rw [← h46]; exact (Below.refl _ _).alloc (Nat.le_refl _) _
  have bn48 : Blk U44 w36.heap.size 29 #[.int .i64 x1.key, .int .i64 x1.val, .bool x1.dead] := by rw [← h46]; exact Blk.new _ _ _
  try rw [h46]
  have HF49 := Lib.hid (bext HF38.out ba47)
  have HX50 := Lib.hid (HX39.out.below ba47 HX39.out.lt)
  have HX51 := Lib.hid (HX40.out.below ba47 HX40.out.lt)
  have HY52 := Lib.hid (HY41.out.below ba47)
  have HY53 := Lib.hid (tab_below' HY42.out ba47)
  have HY54 := Lib.hid (HY43.out.below ba47)
  clear HF38 HX39 HX40 HY41 HY42 HY43
  obtain ⟨g45, h55⟩ : ∃ g, w36.heap.size = g := ⟨_, rfl⟩
  rw [h55] at bn48
  try rw [h55]
  have HX56 := Lib.hid bn48
  clear h46 ba47 bn48 h55
  have c57 : U44.cell? ⟨g4, 0, none⟩ = some (.slice A l.length c) := HX50.out.cell 0
  have l58 : g4 < U44.heap.size := HX50.out.lt
  go_wp2_with fail
  clear c57 l58
  refine (refGet_any A l c key _ HY52.out hl).mono ?_
  unfold GivesX
  rw [HX1.out, HE1.out]
  rintro e w59 ⟨rfl, hb60⟩
  have HF61 := Lib.hid (bext HF49.out hb60)
  have HX62 := Lib.hid (HX50.out.below hb60 HX50.out.lt)
  have HX63 := Lib.hid (HX51.out.below hb60 HX51.out.lt)
  have HX64 := Lib.hid (HX56.out.below hb60 HX56.out.lt)
  have HY65 := Lib.hid (HY52.out.below hb60)
  have HY66 := Lib.hid (tab_below' HY53.out hb60)
  have HY67 := Lib.hid (HY54.out.below hb60)
  clear HF49 HX50 HX51 HX56 HY52 HY53 HY54
  clear hb60
  go_upto_region 6 with fail
  obtain ⟨U68, h70⟩ : ∃ U, w59.alloc (.cells #[.int .i64 x1.key, .int .i64 x1.val, .bool x1.dead] 29) = U := ⟨_, rfl⟩
  have ba71 : Below w59.heap.size w59 U68 := by rw [← h70]; exact (Below.refl _ _).alloc (Nat.le_refl _) _
  have bn72 : Blk U68 w59.heap.size 29 #[.int .i64 x1.key, .int .i64 x1.val, .bool x1.dead] := by rw [← h70]; exact Blk.new _ _ _
  try rw [h70]
  have HF73 := Lib.hid (bext HF61.out ba71)
  have HX74 := Lib.hid (HX62.out.below ba71 HX62.out.lt)
  have HX75 := Lib.hid (HX63.out.below ba71 HX63.out.lt)
  have HX76 := Lib.hid (HX64.out.below ba71 HX64.out.lt)
  have HY77 := Lib.hid (HY65.out.below ba71)
  have HY78 := Lib.hid (tab_below' HY66.out ba71)
  have HY79 := Lib.hid (HY67.out.below ba71)
  clear HF61 HX62 HX63 HX64 HY65 HY66 HY67
  obtain ⟨g69, h80⟩ : ∃ g, w59.heap.size = g := ⟨_, rfl⟩
  rw [h80] at bn72
  try rw [h80]
  have HX81 := Lib.hid bn72
  clear h70 ba71 bn72 h80
  have c82 : U68.cell? ⟨g23, 0, none⟩ = some (.slice A1 l.length c1) := HX75.out.cell 0
  have l83 : g23 < U68.heap.size := HX75.out.lt
  go_wp2_with fail
  clear c82 l83
  refine (live_any A1 l c1 _ HY79.out hl).mono ?_
  unfold GivesII
  rw [HN.out, HE.out]
  rintro e w84 ⟨rfl, hb85⟩
  have HF86 := Lib.hid (bext HF73.out hb85)
  have HX87 := Lib.hid (HX74.out.below hb85 HX74.out.lt)
  have HX88 := Lib.hid (HX75.out.below hb85 HX75.out.lt)
  have HX89 := Lib.hid (HX76.out.below hb85 HX76.out.lt)
  have HX90 := Lib.hid (HX81.out.below hb85 HX81.out.lt)
  have HY91 := Lib.hid (HY77.out.below hb85)
  have HY92 := Lib.hid (tab_below' HY78.out hb85)
  have HY93 := Lib.hid (HY79.out.below hb85)
  clear HF73 HX74 HX75 HX76 HX81 HY77 HY78 HY79
  clear hb85
  have c94 : w84.cell? ⟨g4, 0, none⟩ = some (.slice A l.length c) := HX87.out.cell 0
  have l95 : g4 < w84.heap.size := HX87.out.lt
  go_wp2_with fail
  clear c94 l95
  refine (refLive_any A l c _ HY91.out hl).mono ?_
  unfold GivesII
  rw [HN.out, HE.out]
  rintro e w96 ⟨rfl, hb97⟩
  have HF98 := Lib.hid (bext HF86.out hb97)
  have HX99 := Lib.hid (HX87.out.below hb97 HX87.out.lt)
  have HX100 := Lib.hid (HX88.out.below hb97 HX88.out.lt)
  have HX101 := Lib.hid (HX89.out.below hb97 HX89.out.lt)
  have HX102 := Lib.hid (HX90.out.below hb97 HX90.out.lt)
  have HY103 := Lib.hid (HY91.out.below hb97)
  have HY104 := Lib.hid (tab_below' HY92.out hb97)
  have HY105 := Lib.hid (HY93.out.below hb97)
  clear HF86 HX87 HX88 HX89 HX90 HY91 HY92 HY93
  clear hb97
  have c106 : w96.cell? ⟨g23, 0, none⟩ = some (.slice A1 l.length c1) := HX100.out.cell 0
  have l107 : g23 < w96.heap.size := HX100.out.lt
  go_wp2_with fail
  clear c106 l107
  refine (pairs_any A1 l c1 _ HY105.out hl).mono ?_
  rw [HM.out, HE.out]
  rintro e w108 ⟨A2, c2, rfl, ho2, hb109⟩
  have HF110 := Lib.hid (bext HF98.out hb109)
  have HX111 := Lib.hid (HX99.out.below hb109 HX99.out.lt)
  have HX112 := Lib.hid (HX100.out.below hb109 HX100.out.lt)
  have HX113 := Lib.hid (HX101.out.below hb109 HX101.out.lt)
  have HX114 := Lib.hid (HX102.out.below hb109 HX102.out.lt)
  have HY115 := Lib.hid (HY103.out.below hb109)
  have HY116 := Lib.hid (tab_below' HY104.out hb109)
  have HY117 := Lib.hid (HY105.out.below hb109)
  clear HF98 HX99 HX100 HX101 HX102 HY103 HY104 HY105
  clear hb109
  have HY118 := Lib.hid (own_sl ho2)
  clear ho2
  have c119 : w108.cell? ⟨g4, 0, none⟩ = some (.slice A l.length c) := HX111.out.cell 0
  have l120 : g4 < w108.heap.size := HX111.out.lt
  go_wp2_with fail
  clear c119 l120
  refine (refPairs_any A l c _ HY115.out hl).mono ?_
  rw [HM.out, HE.out]
  rintro e w121 ⟨A3, c3, rfl, ho3, hb122⟩
  have HF123 := Lib.hid (bext HF110.out hb122)
  have HX124 := Lib.hid (HX111.out.below hb122 HX111.out.lt)
  have HX125 := Lib.hid (HX112.out.below hb122 HX112.out.lt)
  have HX126 := Lib.hid (HX113.out.below hb122 HX113.out.lt)
  have HX127 := Lib.hid (HX114.out.below hb122 HX114.out.lt)
  have HY128 := Lib.hid (HY115.out.below hb122)
  have HY129 := Lib.hid (tab_below' HY116.out hb122)
  have HY130 := Lib.hid (HY117.out.below hb122)
  have HY131 := Lib.hid (HY118.out.below hb122)
  clear HF110 HX111 HX112 HX113 HX114 HY115 HY116 HY117 HY118
  clear hb122
  have HY132 := Lib.hid (own_sl ho3)
  clear ho3
  have c133 : w121.cell? ⟨g23, 0, none⟩ = some (.slice A1 l.length c1) := HX125.out.cell 0
  have l134 : g23 < w121.heap.size := HX125.out.lt
  go_wp2_with fail
  clear c133 l134
  refine (runNext_any A1 l c1 key _ HY130.out hl HY129.out).mono ?_
  unfold GivesX
  rw [HX2.out, HE2.out]
  rintro e w135 ⟨rfl, hb136⟩
  have HF137 := Lib.hid (bext HF123.out hb136)
  have HX138 := Lib.hid (HX124.out.below hb136 HX124.out.lt)
  have HX139 := Lib.hid (HX125.out.below hb136 HX125.out.lt)
  have HX140 := Lib.hid (HX126.out.below hb136 HX126.out.lt)
  have HX141 := Lib.hid (HX127.out.below hb136 HX127.out.lt)
  have HY142 := Lib.hid (HY128.out.below hb136)
  have HY143 := Lib.hid (tab_below' HY129.out hb136)
  have HY144 := Lib.hid (HY130.out.below hb136)
  have HY145 := Lib.hid (HY131.out.below hb136)
  have HY146 := Lib.hid (HY132.out.below hb136)
  clear HF123 HX124 HX125 HX126 HX127 HY128 HY129 HY130 HY131 HY132
  clear hb136
  go_upto_region 11 with fail
  obtain ⟨U147, h149⟩ : ∃ U, w135.alloc (.cells #[.int .i64 x2.key, .int .i64 x2.val, .bool x2.dead] 29) = U := ⟨_, rfl⟩
  have ba150 : Below w135.heap.size w135 U147 := by rw [← h149]; exact (Below.refl _ _).alloc (Nat.le_refl _) _
  have bn151 : Blk U147 w135.heap.size 29 #[.int .i64 x2.key, .int .i64 x2.val, .bool x2.dead] := by rw [← h149]; exact Blk.new _ _ _
  try rw [h149]
  have HF152 := Lib.hid (bext HF137.out ba150)
  have HX153 := Lib.hid (HX138.out.below ba150 HX138.out.lt)
  have HX154 := Lib.hid (HX139.out.below ba150 HX139.out.lt)
  have HX155 := Lib.hid (HX140.out.below ba150 HX140.out.lt)
  have HX156 := Lib.hid (HX141.out.below ba150 HX141.out.lt)
  have HY157 := Lib.hid (HY142.out.below ba150)
  have HY158 := Lib.hid (tab_below' HY143.out ba150)
  have HY159 := Lib.hid (HY144.out.below ba150)
  have HY160 := Lib.hid (HY145.out.below ba150)
  have HY161 := Lib.hid (HY146.out.below ba150)
  clear HF137 HX138 HX139 HX140 HX141 HY142 HY143 HY144 HY145 HY146
  obtain ⟨g148, h162⟩ : ∃ g, w135.heap.size = g := ⟨_, rfl⟩
  rw [h162] at bn151
  try rw [h162]
  have HX163 := Lib.hid bn151
  clear h149 ba150 bn151 h162
  have c164 : U147.cell? ⟨g4, 0, none⟩ = some (.slice A l.length c) := HX153.out.cell 0
  have l165 : g4 < U147.heap.size := HX153.out.lt
  go_wp2_with fail
  clear c164 l165
  refine (refNext_any A l c key _ HY157.out hl).mono ?_
  unfold GivesX
  rw [HX2.out, HE2.out]
  rintro e w166 ⟨rfl, hb167⟩
  have HF168 := Lib.hid (bext HF152.out hb167)
  have HX169 := Lib.hid (HX153.out.below hb167 HX153.out.lt)
  have HX170 := Lib.hid (HX154.out.below hb167 HX154.out.lt)
  have HX171 := Lib.hid (HX155.out.below hb167 HX155.out.lt)
  have HX172 := Lib.hid (HX156.out.below hb167 HX156.out.lt)
  have HX173 := Lib.hid (HX163.out.below hb167 HX163.out.lt)
  have HY174 := Lib.hid (HY157.out.below hb167)
  have HY175 := Lib.hid (tab_below' HY158.out hb167)
  have HY176 := Lib.hid (HY159.out.below hb167)
  have HY177 := Lib.hid (HY160.out.below hb167)
  have HY178 := Lib.hid (HY161.out.below hb167)
  clear HF152 HX153 HX154 HX155 HX156 HX163 HY157 HY158 HY159 HY160 HY161
  clear hb167
  go_upto_region 12 with fail
  obtain ⟨U179, h181⟩ : ∃ U, w166.alloc (.cells #[.int .i64 x2.key, .int .i64 x2.val, .bool x2.dead] 29) = U := ⟨_, rfl⟩
  have ba182 : Below w166.heap.size w166 U179 := by rw [← h181]; exact (Below.refl _ _).alloc (Nat.le_refl _) _
  have bn183 : Blk U179 w166.heap.size 29 #[.int .i64 x2.key, .int .i64 x2.val, .bool x2.dead] := by rw [← h181]; exact Blk.new _ _ _
  try rw [h181]
  have HF184 := Lib.hid (bext HF168.out ba182)
  have HX185 := Lib.hid (HX169.out.below ba182 HX169.out.lt)
  have HX186 := Lib.hid (HX170.out.below ba182 HX170.out.lt)
  have HX187 := Lib.hid (HX171.out.below ba182 HX171.out.lt)
  have HX188 := Lib.hid (HX172.out.below ba182 HX172.out.lt)
  have HX189 := Lib.hid (HX173.out.below ba182 HX173.out.lt)
  have HY190 := Lib.hid (HY174.out.below ba182)
  have HY191 := Lib.hid (tab_below' HY175.out ba182)
  have HY192 := Lib.hid (HY176.out.below ba182)
  have HY193 := Lib.hid (HY177.out.below ba182)
  have HY194 := Lib.hid (HY178.out.below ba182)
  clear HF168 HX169 HX170 HX171 HX172 HX173 HY174 HY175 HY176 HY177 HY178
  obtain ⟨g180, h195⟩ : ∃ g, w166.heap.size = g := ⟨_, rfl⟩
  rw [h195] at bn183
  try rw [h195]
  have HX196 := Lib.hid bn183
  clear h181 ba182 bn183 h195
  have c197 : U179.cell? ⟨g23, 0, none⟩ = some (.slice A1 l.length c1) := HX186.out.cell 0
  have l198 : g23 < U179.heap.size := HX186.out.lt
  go_wp2_with fail
  clear c197 l198
  refine (runLast_any A1 l c1 key _ HY192.out hl HY191.out).mono ?_
  unfold GivesX
  rw [HX3.out, HE3.out]
  rintro e w199 ⟨rfl, hb200⟩
  have HF201 := Lib.hid (bext HF184.out hb200)
  have HX202 := Lib.hid (HX185.out.below hb200 HX185.out.lt)
  have HX203 := Lib.hid (HX186.out.below hb200 HX186.out.lt)
  have HX204 := Lib.hid (HX187.out.below hb200 HX187.out.lt)
  have HX205 := Lib.hid (HX188.out.below hb200 HX188.out.lt)
  have HX206 := Lib.hid (HX189.out.below hb200 HX189.out.lt)
  have HX207 := Lib.hid (HX196.out.below hb200 HX196.out.lt)
  have HY208 := Lib.hid (HY190.out.below hb200)
  have HY209 := Lib.hid (tab_below' HY191.out hb200)
  have HY210 := Lib.hid (HY192.out.below hb200)
  have HY211 := Lib.hid (HY193.out.below hb200)
  have HY212 := Lib.hid (HY194.out.below hb200)
  clear HF184 HX185 HX186 HX187 HX188 HX189 HX196 HY190 HY191 HY192 HY193 HY194
  clear hb200
  go_upto_region 13 with fail
  obtain ⟨U213, h215⟩ : ∃ U, w199.alloc (.cells #[.int .i64 x3.key, .int .i64 x3.val, .bool x3.dead] 29) = U := ⟨_, rfl⟩
  have ba216 : Below w199.heap.size w199 U213 := by rw [← h215]; exact (Below.refl _ _).alloc (Nat.le_refl _) _
  have bn217 : Blk U213 w199.heap.size 29 #[.int .i64 x3.key, .int .i64 x3.val, .bool x3.dead] := by rw [← h215]; exact Blk.new _ _ _
  try rw [h215]
  have HF218 := Lib.hid (bext HF201.out ba216)
  have HX219 := Lib.hid (HX202.out.below ba216 HX202.out.lt)
  have HX220 := Lib.hid (HX203.out.below ba216 HX203.out.lt)
  have HX221 := Lib.hid (HX204.out.below ba216 HX204.out.lt)
  have HX222 := Lib.hid (HX205.out.below ba216 HX205.out.lt)
  have HX223 := Lib.hid (HX206.out.below ba216 HX206.out.lt)
  have HX224 := Lib.hid (HX207.out.below ba216 HX207.out.lt)
  have HY225 := Lib.hid (HY208.out.below ba216)
  have HY226 := Lib.hid (tab_below' HY209.out ba216)
  have HY227 := Lib.hid (HY210.out.below ba216)
  have HY228 := Lib.hid (HY211.out.below ba216)
  have HY229 := Lib.hid (HY212.out.below ba216)
  clear HF201 HX202 HX203 HX204 HX205 HX206 HX207 HY208 HY209 HY210 HY211 HY212
  obtain ⟨g214, h230⟩ : ∃ g, w199.heap.size = g := ⟨_, rfl⟩
  rw [h230] at bn217
  try rw [h230]
  have HX231 := Lib.hid bn217
  clear h215 ba216 bn217 h230
  have c232 : U213.cell? ⟨g4, 0, none⟩ = some (.slice A l.length c) := HX219.out.cell 0
  have l233 : g4 < U213.heap.size := HX219.out.lt
  go_wp2_with fail
  clear c232 l233
  refine (refLast_any A l c key _ HY225.out hl).mono ?_
  unfold GivesX
  rw [HX3.out, HE3.out]
  rintro e w234 ⟨rfl, hb235⟩
  have HF236 := Lib.hid (bext HF218.out hb235)
  have HX237 := Lib.hid (HX219.out.below hb235 HX219.out.lt)
  have HX238 := Lib.hid (HX220.out.below hb235 HX220.out.lt)
  have HX239 := Lib.hid (HX221.out.below hb235 HX221.out.lt)
  have HX240 := Lib.hid (HX222.out.below hb235 HX222.out.lt)
  have HX241 := Lib.hid (HX223.out.below hb235 HX223.out.lt)
  have HX242 := Lib.hid (HX224.out.below hb235 HX224.out.lt)
  have HX243 := Lib.hid (HX231.out.below hb235 HX231.out.lt)
  have HY244 := Lib.hid (HY225.out.below hb235)
  have HY245 := Lib.hid (tab_below' HY226.out hb235)
  have HY246 := Lib.hid (HY227.out.below hb235)
  have HY247 := Lib.hid (HY228.out.below hb235)
  have HY248 := Lib.hid (HY229.out.below hb235)
  clear HF218 HX219 HX220 HX221 HX222 HX223 HX224 HX231 HY225 HY226 HY227 HY228 HY229
  clear hb235
  go_upto_region 14 with fail
  obtain ⟨U249, h251⟩ : ∃ U, w234.alloc (.cells #[.int .i64 x3.key, .int .i64 x3.val, .bool x3.dead] 29) = U := ⟨_, rfl⟩
  have ba252 : Below w234.heap.size w234 U249 := by rw [← h251]; exact (Below.refl _ _).alloc (Nat.le_refl _) _
  have bn253 : Blk U249 w234.heap.size 29 #[.int .i64 x3.key, .int .i64 x3.val, .bool x3.dead] := by rw [← h251]; exact Blk.new _ _ _
  try rw [h251]
  have HF254 := Lib.hid (bext HF236.out ba252)
  have HX255 := Lib.hid (HX237.out.below ba252 HX237.out.lt)
  have HX256 := Lib.hid (HX238.out.below ba252 HX238.out.lt)
  have HX257 := Lib.hid (HX239.out.below ba252 HX239.out.lt)
  have HX258 := Lib.hid (HX240.out.below ba252 HX240.out.lt)
  have HX259 := Lib.hid (HX241.out.below ba252 HX241.out.lt)
  have HX260 := Lib.hid (HX242.out.below ba252 HX242.out.lt)
  have HX261 := Lib.hid (HX243.out.below ba252 HX243.out.lt)
  have HY262 := Lib.hid (HY244.out.below ba252)
  have HY263 := Lib.hid (tab_below' HY245.out ba252)
  have HY264 := Lib.hid (HY246.out.below ba252)
  have HY265 := Lib.hid (HY247.out.below ba252)
  have HY266 := Lib.hid (HY248.out.below ba252)
  clear HF236 HX237 HX238 HX239 HX240 HX241 HX242 HX243 HY244 HY245 HY246 HY247 HY248
  obtain ⟨g250, h267⟩ : ∃ g, w234.heap.size = g := ⟨_, rfl⟩
  rw [h267] at bn253
  try rw [h267]
  have HX268 := Lib.hid bn253
  clear h251 ba252 bn253 h267
  have hxx := fun w => run_eql_ent x1 x1 w
  have hxy := eqX_self x1
  have c269 : U249.cell? ⟨g45, 0, none⟩ = some (.int .i64 x1.key) := HX257.out.cell 0
  have c270 : U249.cell? ⟨g45, 1, none⟩ = some (.int .i64 x1.val) := HX257.out.cell 1
  have c271 : U249.cell? ⟨g45, 2, none⟩ = some (.bool x1.dead) := HX257.out.cell 2
  have l272 : g45 < U249.heap.size := HX257.out.lt
  have c273 : U249.cell? ⟨g69, 0, none⟩ = some (.int .i64 x1.key) := HX258.out.cell 0
  have c274 : U249.cell? ⟨g69, 1, none⟩ = some (.int .i64 x1.val) := HX258.out.cell 1
  have c275 : U249.cell? ⟨g69, 2, none⟩ = some (.bool x1.dead) := HX258.out.cell 2
  have l276 : g69 < U249.heap.size := HX258.out.lt
  go_wp2_with fail
  clear c269 c270 c271 l272 c273 c274 c275 l276
  refine (samePairs_any A2 A3 m m c2 c3 _ HY265.out HY266.out (by have := HML.out; omega) (by have := HML.out; omega)).mono ?_
  rw [decide_eq_true rfl]
  rintro e w277 ⟨rfl, hb278⟩
  have HF279 := Lib.hid (bext HF254.out hb278)
  have HX280 := Lib.hid (HX255.out.below hb278 HX255.out.lt)
  have HX281 := Lib.hid (HX256.out.below hb278 HX256.out.lt)
  have HX282 := Lib.hid (HX257.out.below hb278 HX257.out.lt)
  have HX283 := Lib.hid (HX258.out.below hb278 HX258.out.lt)
  have HX284 := Lib.hid (HX259.out.below hb278 HX259.out.lt)
  have HX285 := Lib.hid (HX260.out.below hb278 HX260.out.lt)
  have HX286 := Lib.hid (HX261.out.below hb278 HX261.out.lt)
  have HX287 := Lib.hid (HX268.out.below hb278 HX268.out.lt)
  have HY288 := Lib.hid (HY262.out.below hb278)
  have HY289 := Lib.hid (tab_below' HY263.out hb278)
  have HY290 := Lib.hid (HY264.out.below hb278)
  have HY291 := Lib.hid (HY265.out.below hb278)
  have HY292 := Lib.hid (HY266.out.below hb278)
  clear HF254 HX255 HX256 HX257 HX258 HX259 HX260 HX261 HX268 HY262 HY263 HY264 HY265 HY266
  clear hb278
  clear hxx hxy
  have hxx2 := fun w => run_eql_ent x2 x2 w
  have hxy2 := eqX_self x2
  have hxx3 := fun w => run_eql_ent x3 x3 w
  have hxy3 := eqX_self x3
  have c293 : w277.cell? ⟨g148, 0, none⟩ = some (.int .i64 x2.key) := HX284.out.cell 0
  have c294 : w277.cell? ⟨g148, 1, none⟩ = some (.int .i64 x2.val) := HX284.out.cell 1
  have c295 : w277.cell? ⟨g148, 2, none⟩ = some (.bool x2.dead) := HX284.out.cell 2
  have l296 : g148 < w277.heap.size := HX284.out.lt
  have c297 : w277.cell? ⟨g180, 0, none⟩ = some (.int .i64 x2.key) := HX285.out.cell 0
  have c298 : w277.cell? ⟨g180, 1, none⟩ = some (.int .i64 x2.val) := HX285.out.cell 1
  have c299 : w277.cell? ⟨g180, 2, none⟩ = some (.bool x2.dead) := HX285.out.cell 2
  have l300 : g180 < w277.heap.size := HX285.out.lt
  have c301 : w277.cell? ⟨g214, 0, none⟩ = some (.int .i64 x3.key) := HX286.out.cell 0
  have c302 : w277.cell? ⟨g214, 1, none⟩ = some (.int .i64 x3.val) := HX286.out.cell 1
  have c303 : w277.cell? ⟨g214, 2, none⟩ = some (.bool x3.dead) := HX286.out.cell 2
  have l304 : g214 < w277.heap.size := HX286.out.lt
  have c305 : w277.cell? ⟨g250, 0, none⟩ = some (.int .i64 x3.key) := HX287.out.cell 0
  have c306 : w277.cell? ⟨g250, 1, none⟩ = some (.int .i64 x3.val) := HX287.out.cell 1
  have c307 : w277.cell? ⟨g250, 2, none⟩ = some (.bool x3.dead) := HX287.out.cell 2
  have l308 : g250 < w277.heap.size := HX287.out.lt
  have c309 : w277.cell? ⟨g23, 0, none⟩ = some (.slice A1 l.length c1) := HX281.out.cell 0
  have l310 : g23 < w277.heap.size := HX281.out.lt
  have c311 : w277.cell? ⟨g4, 0, none⟩ = some (.slice A l.length c) := HX280.out.cell 0
  have l312 : g4 < w277.heap.size := HX280.out.lt
  go_wp2_with fail
  clear c293 c294 c295 l296 c297 c298 c299 l300 c301 c302 c303 l304 c305 c306 c307 l308 c309 l310 c311 l312
  refine (refSame_any A1 A l l c1 c _ HY290.out HY288.out hl hl).mono ?_
  rw [decide_eq_true rfl]
  rintro e w313 ⟨rfl, hb314⟩
  have HF315 := Lib.hid (bext HF279.out hb314)
  have HX316 := Lib.hid (HX280.out.below hb314 HX280.out.lt)
  have HX317 := Lib.hid (HX281.out.below hb314 HX281.out.lt)
  have HX318 := Lib.hid (HX282.out.below hb314 HX282.out.lt)
  have HX319 := Lib.hid (HX283.out.below hb314 HX283.out.lt)
  have HX320 := Lib.hid (HX284.out.below hb314 HX284.out.lt)
  have HX321 := Lib.hid (HX285.out.below hb314 HX285.out.lt)
  have HX322 := Lib.hid (HX286.out.below hb314 HX286.out.lt)
  have HX323 := Lib.hid (HX287.out.below hb314 HX287.out.lt)
  have HY324 := Lib.hid (HY288.out.below hb314)
  have HY325 := Lib.hid (tab_below' HY289.out hb314)
  have HY326 := Lib.hid (HY290.out.below hb314)
  have HY327 := Lib.hid (HY291.out.below hb314)
  have HY328 := Lib.hid (HY292.out.below hb314)
  clear HF279 HX280 HX281 HX282 HX283 HX284 HX285 HX286 HX287 HY288 HY289 HY290 HY291 HY292
  clear hb314
  go_wp2
  go_ret
  exact ⟨rfl, HF315.out⟩
end Go.Proofs.YtokomclcgegfkaaDoor
