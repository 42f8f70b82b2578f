/- Contracts of the laws' helpers of chapter 24: chapter, is, alive. -/
import Derived.Test.YtokomclcgegfkaaDoorRr
import Derived.Test.YtokomclcgegfkaaDoorKte
namespace Go.Proofs.YtokomclcgegfkaaDoor
open Go Go.RowKit
set_option maxRecDepth 100000

def chX : List Ent := [⟨1, 10, false⟩, ⟨2, 0, true⟩, ⟨3, 30, false⟩]
def rX : List Ent := [⟨2, 0, true⟩, ⟨1, 10, false⟩, ⟨3, 30, false⟩]
def e2 : Ent := ⟨2, 0, true⟩
def e1 : Ent := ⟨1, 10, false⟩
def chQ : List Pr := [⟨1, 10⟩, ⟨3, 30⟩]
theorem chX_E : buildE chX = 0 := by decide
theorem chX_L : buildL chX = rX := by unfold buildL; rw [if_pos chX_E]; unfold laid; rw [show chX.length = 3 from rfl, kranks3]; decide
theorem rX_laid : laid chX = rX := by rw [← chX_L]; unfold buildL; rw [if_pos chX_E]
theorem rX_in : inL rX = chX := by rw [← rX_laid, in_laid]
theorem rX_chk : chkE rX = 0 := by rw [← rX_laid]; exact build_chk chX_E
theorem rX_get : gtE rX 2 = 0 ∧ gtX rX 2 = e2 := by unfold gtE gtX; rw [if_pos rX_chk, if_pos rX_chk]; decide
theorem rX_next : nxE rX 2 = 0 ∧ nxX rX 2 = e2 := by unfold nxE nxX; rw [if_pos rX_chk, if_pos rX_chk, rX_in]; decide
theorem rX_last : lsE rX 2 = 0 ∧ lsX rX 2 = e1 := by unfold lsE lsX inAt; rw [if_pos rX_chk, if_pos rX_chk, rX_in]; decide
theorem rX_live : lvN rX = 2 := by unfold lvN; rw [if_pos rX_chk]; decide
theorem rX_pairs : prL rX = chQ := by unfold prL; rw [if_pos rX_chk, rX_in]; decide

section
variable {B n c : Nat} {e : TypeId} {s : Nat} {A : Option Addr} {xs : List Value} {w w2 : World}
/-- a slice of the call's own still lies when a cell older than it has been written over -/
theorem own_store (h : w.ownsRow B e s (.slice A n c) n xs) (hb : Below w.heap.size w w2) (p : Addr) (hp : p.block < B) (v : Value) : Sl (w2.setCell p v) A xs := by
  have hs := (own_sl h).below hb
  by_cases hn : n = 0
  · left
    have := h.1
    rw [hn] at this
    exact List.eq_nil_of_length_eq_zero (by simpa using this)
  obtain ⟨g, cap, cur, hv, hg, _⟩ := own_blk h (by omega)
  obtain ⟨rfl, -⟩ : A = some ⟨g, 0, none⟩ ∧ c = cap := by simpa using hv
  rcases hs with h1 | ⟨b, off, hA, hlt, hc⟩
  · exact .inl h1
  · refine .inr ⟨b, off, hA, by simpa [World.setCell] using hlt, fun j u hu => (World.cell?_of_block (a := ⟨b, off + j, none⟩) (Below.heap_setCell _ _ _ _ ?_)).trans (hc j u hu)⟩
    show b ≠ p.block
    have : g = b := by simpa using congrArg (fun a : Option Addr => a.elim 0 Addr.block) hA
    omega
end
set_option maxHeartbeats 2000000 in
theorem chapter24_any (w : World) : Calls Tryd.prog 58 #[] w fun r w' => ∃ A c, r = .returned (.agg #[.slice A rX.length c]) ∧ Sl w' A (rX.flatMap Ent.cells) ∧ Below w.heap.size w w' := by
  obtain ⟨W0, hW0⟩ : ∃ W0, w.alloc (.cells #[.slice none 0 0] 24) = W0 := ⟨_, rfl⟩
  have hb0 : Below w.heap.size w W0 := by rw [← hW0]; exact (Below.refl _ _).alloc (Nat.le_refl _) _
  have bX : Blk W0 w.heap.size 24 #[.slice none 0 0] := by rw [← hW0]; exact Blk.new _ _ _
  have HB0 := Lib.hid hb0
  have HX := Lib.hid bX
  clear hb0 bX
  go_enter Tryd.func58, Tryd.ntmps58
  go_upto_region 1 with fail
  try rw [hW0]
  clear hW0
  have hbm : Below W0.heap.size W0 (W0.alloc (.cells #[.int .i64 1, .int .i64 10, .bool false, .int .i64 2, .int .i64 0, .bool true, .int .i64 3, .int .i64 30, .bool false] 29)) := (Below.refl _ _).alloc (Nat.le_refl _) _
  have HBM := Lib.hid hbm
  clear hbm
  go_wp2_with fail
  refine (build_n (some ⟨W0.heap.size, 0, none⟩) chX 3 3 _ rfl (by exact sl_new1 _ _ _) (by decide)).mono ?_
  rw [chX_E, chX_L]
  rintro e w1 ⟨A1, c1, rfl, ho1, hb1⟩
  have hs1 := own_sl ho1
  have hb01 := bext HB0.out (bext HBM.out hb1)
  have b1 := HX.out.below (bext HBM.out hb1) HX.out.lt
  obtain ⟨n, hn⟩ : ∃ n, rX.length = n := ⟨_, rfl⟩
  rw [hn] at ho1 ⊢
  have HN := Lib.hid hn
  clear hn
  have ba1 : Below w1.heap.size w1 (w1.alloc (.cells #[.slice A1 n c1] 24)) := (Below.refl _ _).alloc (Nat.le_refl _) _
  have b2 := b1.below ba1 b1.lt
  have b3 : Blk (w1.alloc (.cells #[.slice A1 n c1] 24)) w1.heap.size 24 #[.slice A1 n c1] := Blk.new _ _ _
  have hs2 := hs1.below ba1
  obtain ⟨W1, hW1⟩ : ∃ W, w1.alloc (.cells #[.slice A1 n c1] 24) = W := ⟨_, rfl⟩
  go_upto_region 2 with fail
  try rw [hW1]
  rw [hW1] at ba1 b2 b3 hs2
  have hbf := bext hb01 ba1
  have k1 : W1.cell? ⟨w1.heap.size, 0, none⟩ = some (.slice A1 n c1) := b3.cell 0
  have k2 : W1.cell? ⟨w.heap.size, 0, none⟩ = some (.slice none 0 0) := b2.cell 0
  have k3 := b2.frozen 0
  have k4 := (b2.set_ 0 (.slice A1 n c1)).cell 0
  have k5 : (W1.setCell ⟨w.heap.size, 0, none⟩ (.slice A1 n c1)).cell? ⟨w.heap.size, 0, none⟩ = some (.slice A1 n c1) := k4
  have hbg : Below w.heap.size w (W1.setCell ⟨w.heap.size, 0, none⟩ (.slice A1 n c1)) := hbf.setCell (p := ⟨w.heap.size, 0, none⟩) (Nat.le_refl _) _
  have hsg : Sl (W1.setCell ⟨w.heap.size, 0, none⟩ (.slice A1 n c1)) A1 (rX.flatMap Ent.cells) := own_store ho1 ba1 ⟨w.heap.size, 0, none⟩ (by have := HX.out.lt; simp; omega) _
  have HG := Lib.hid hbg
  have HS := Lib.hid hsg
  clear hW1 ho1 hs1 hb1 hb01 b1 ba1 b2 b3 hs2 hbf k4 hbg hsg
  go_wp2_with fail
  refine bodyPost_ret (v := .agg #[.slice A1 n c1]) (by simp [results, Tryd.results58, go_sem, k5]) rfl ?_
  exact ⟨A1, c1, by rw [HN.out], HS.out, HG.out⟩
set_option maxHeartbeats 1000000 in
theorem is24_any (x y : Ent) (e : Int) (w : World) : Calls Tryd.prog 56 #[.agg #[.int .i64 x.key, .int .i64 x.val, .bool x.dead], .int .i64 e, .agg #[.int .i64 y.key, .int .i64 y.val, .bool y.dead]] w fun r w' => r = .returned (.bool (decide (e = 0) && eqX x y)) ∧ Below w.heap.size w w' := by
  have hxx := fun w => run_eql_ent x y w
  go_enter Tryd.func56, Tryd.ntmps56
  by_cases h : e = 0
  · subst h
    go_wp2
    refine bodyPost_ret (v := .bool (eqX x y)) (by simp [results, Tryd.results56, go_sem]) rfl ?_
    exact ⟨by simp, ((Below.refl _ _).alloc (Nat.le_refl _) _).alloc (by simp) _⟩
  · have h0 : (e == 0) = false := by simpa using h
    go_wp2
    refine bodyPost_ret (v := .bool false) (by simp [results, Tryd.results56, go_sem]) rfl ?_
    exact ⟨by simp [h], ((Below.refl _ _).alloc (Nat.le_refl _) _).alloc (by simp) _⟩
set_option maxHeartbeats 4000000 in
theorem alive24_any (w : World) (hT : TabAt 1 Lib.deBruijn64tab w) : Calls Tryd.prog 43 #[] w fun r w' => r = .returned (.bool true) ∧ Below w.heap.size w w' := by
  have HT := Lib.hid hT
  clear hT
  have hlx : rX.length ≤ 4611686018427387903 := by decide
  have HL := Lib.hid hlx
  clear hlx
  go_enter Tryd.func43, Tryd.ntmps43
  have HF := Lib.hid (Below.refl w.heap.size w)
  have HY1 := Lib.hid (HT.out)
  go_wp2_with fail
  refine (chapter24_any _).mono ?_
  rintro e w2 ⟨Ac1, cc1, rfl, hs1, hb3⟩
  have HF4 := Lib.hid (bext HF.out hb3)
  have HY5 := Lib.hid (tab_below' HY1.out hb3)
  clear HF HY1
  clear hb3
  have HY6 := Lib.hid (hs1)
  clear hs1
  go_wp2_with fail
  refine (live_any Ac1 rX cc1 _ HY6.out HL.out).mono ?_
  unfold GivesII
  rw [rX_live, rX_chk]
  rintro e w7 ⟨rfl, hb8⟩
  have HF9 := Lib.hid (bext HF4.out hb8)
  have HY10 := Lib.hid (tab_below' HY5.out hb8)
  have HY11 := Lib.hid (HY6.out.below hb8)
  clear HF4 HY5 HY6
  clear hb8
  go_wp2_with fail
  refine (chapter24_any _).mono ?_
  rintro e w12 ⟨Ac2, cc2, rfl, hs2, hb13⟩
  have HF14 := Lib.hid (bext HF9.out hb13)
  have HY15 := Lib.hid (tab_below' HY10.out hb13)
  clear HF9 HY10
  clear hb13
  have HY16 := Lib.hid (hs2)
  clear hs2
  go_wp2_with fail
  refine (runGet_any Ac2 rX cc2 2 _ HY16.out HL.out HY15.out).mono ?_
  unfold GivesX
  rw [rX_get.1, rX_get.2]
  rintro e w17 ⟨rfl, hb18⟩
  have HF19 := Lib.hid (bext HF14.out hb18)
  have HY20 := Lib.hid (tab_below' HY15.out hb18)
  have HY21 := Lib.hid (HY16.out.below hb18)
  clear HF14 HY15 HY16
  clear hb18
  go_upto_region 3 with fail
  obtain ⟨U22, h24⟩ : ∃ U, w17.alloc (.cells #[.int .i64 e2.key, .int .i64 e2.val, .bool e2.dead] 29) = U := ⟨_, rfl⟩
  have ba25 : Below w17.heap.size w17 U22 := by rw [← h24]; exact (Below.refl _ _).alloc (Nat.le_refl _) _
  have bn26 : Blk U22 w17.heap.size 29 #[.int .i64 e2.key, .int .i64 e2.val, .bool e2.dead] := by rw [← h24]; exact Blk.new _ _ _
  try rw [h24]
  have HF27 := Lib.hid (bext HF19.out ba25)
  have HY28 := Lib.hid (tab_below' HY20.out ba25)
  clear HF19 HY20
  obtain ⟨g23, h29⟩ : ∃ g, w17.heap.size = g := ⟨_, rfl⟩
  rw [h29] at bn26
  try rw [h29]
  have HX30 := Lib.hid bn26
  clear h24 ba25 bn26 h29
  go_wp2_with fail
  refine (chapter24_any _).mono ?_
  rintro e w31 ⟨Ac3, cc3, rfl, hs3, hb32⟩
  have HF33 := Lib.hid (bext HF27.out hb32)
  have HX34 := Lib.hid (HX30.out.below hb32 HX30.out.lt)
  have HY35 := Lib.hid (tab_below' HY28.out hb32)
  clear HF27 HX30 HY28
  clear hb32
  have HY36 := Lib.hid (hs3)
  clear hs3
  go_wp2_with fail
  refine (runNext_any Ac3 rX cc3 2 _ HY36.out HL.out HY35.out).mono ?_
  unfold GivesX
  rw [rX_next.1, rX_next.2]
  rintro e w37 ⟨rfl, hb38⟩
  have HF39 := Lib.hid (bext HF33.out hb38)
  have HX40 := Lib.hid (HX34.out.below hb38 HX34.out.lt)
  have HY41 := Lib.hid (tab_below' HY35.out hb38)
  have HY42 := Lib.hid (HY36.out.below hb38)
  clear HF33 HX34 HY35 HY36
  clear hb38
  go_upto_region 4 with fail
  obtain ⟨U43, h45⟩ : ∃ U, w37.alloc (.cells #[.int .i64 e2.key, .int .i64 e2.val, .bool e2.dead] 29) = U := ⟨_, rfl⟩
  have ba46 : Below w37.heap.size w37 U43 := by rw [← h45]; exact (Below.refl _ _).alloc (Nat.le_refl _) _
  have bn47 : Blk U43 w37.heap.size 29 #[.int .i64 e2.key, .int .i64 e2.val, .bool e2.dead] := by rw [← h45]; exact Blk.new _ _ _
  try rw [h45]
  have HF48 := Lib.hid (bext HF39.out ba46)
  have HX49 := Lib.hid (HX40.out.below ba46 HX40.out.lt)
  have HY50 := Lib.hid (tab_below' HY41.out ba46)
  clear HF39 HX40 HY41
  obtain ⟨g44, h51⟩ : ∃ g, w37.heap.size = g := ⟨_, rfl⟩
  rw [h51] at bn47
  try rw [h51]
  have HX52 := Lib.hid bn47
  clear h45 ba46 bn47 h51
  go_wp2_with fail
  refine (chapter24_any _).mono ?_
  rintro e w53 ⟨Ac4, cc4, rfl, hs4, hb54⟩
  have HF55 := Lib.hid (bext HF48.out hb54)
  have HX56 := Lib.hid (HX49.out.below hb54 HX49.out.lt)
  have HX57 := Lib.hid (HX52.out.below hb54 HX52.out.lt)
  have HY58 := Lib.hid (tab_below' HY50.out hb54)
  clear HF48 HX49 HX52 HY50
  clear hb54
  have HY59 := Lib.hid (hs4)
  clear hs4
  go_wp2_with fail
  refine (runLast_any Ac4 rX cc4 2 _ HY59.out HL.out HY58.out).mono ?_
  unfold GivesX
  rw [rX_last.1, rX_last.2]
  rintro e w60 ⟨rfl, hb61⟩
  have HF62 := Lib.hid (bext HF55.out hb61)
  have HX63 := Lib.hid (HX56.out.below hb61 HX56.out.lt)
  have HX64 := Lib.hid (HX57.out.below hb61 HX57.out.lt)
  have HY65 := Lib.hid (tab_below' HY58.out hb61)
  have HY66 := Lib.hid (HY59.out.below hb61)
  clear HF55 HX56 HX57 HY58 HY59
  clear hb61
  go_upto_region 5 with fail
  obtain ⟨U67, h69⟩ : ∃ U, w60.alloc (.cells #[.int .i64 e1.key, .int .i64 e1.val, .bool e1.dead] 29) = U := ⟨_, rfl⟩
  have ba70 : Below w60.heap.size w60 U67 := by rw [← h69]; exact (Below.refl _ _).alloc (Nat.le_refl _) _
  have bn71 : Blk U67 w60.heap.size 29 #[.int .i64 e1.key, .int .i64 e1.val, .bool e1.dead] := by rw [← h69]; exact Blk.new _ _ _
  try rw [h69]
  have HF72 := Lib.hid (bext HF62.out ba70)
  have HX73 := Lib.hid (HX63.out.below ba70 HX63.out.lt)
  have HX74 := Lib.hid (HX64.out.below ba70 HX64.out.lt)
  have HY75 := Lib.hid (tab_below' HY65.out ba70)
  clear HF62 HX63 HX64 HY65
  obtain ⟨g68, h76⟩ : ∃ g, w60.heap.size = g := ⟨_, rfl⟩
  rw [h76] at bn71
  try rw [h76]
  have HX77 := Lib.hid bn71
  clear h69 ba70 bn71 h76
  go_wp2_with fail
  refine (chapter24_any _).mono ?_
  rintro e w78 ⟨Ac5, cc5, rfl, hs5, hb79⟩
  have HF80 := Lib.hid (bext HF72.out hb79)
  have HX81 := Lib.hid (HX73.out.below hb79 HX73.out.lt)
  have HX82 := Lib.hid (HX74.out.below hb79 HX74.out.lt)
  have HX83 := Lib.hid (HX77.out.below hb79 HX77.out.lt)
  have HY84 := Lib.hid (tab_below' HY75.out hb79)
  clear HF72 HX73 HX74 HX77 HY75
  clear hb79
  have HY85 := Lib.hid (hs5)
  clear hs5
  go_wp2_with fail
  refine (pairs_any Ac5 rX cc5 _ HY85.out HL.out).mono ?_
  rw [rX_pairs, rX_chk]
  rintro e w86 ⟨A6, c6, rfl, ho6, hb87⟩
  have HF88 := Lib.hid (bext HF80.out hb87)
  have HX89 := Lib.hid (HX81.out.below hb87 HX81.out.lt)
  have HX90 := Lib.hid (HX82.out.below hb87 HX82.out.lt)
  have HX91 := Lib.hid (HX83.out.below hb87 HX83.out.lt)
  have HY92 := Lib.hid (tab_below' HY84.out hb87)
  have HY93 := Lib.hid (HY85.out.below hb87)
  clear HF80 HX81 HX82 HX83 HY84 HY85
  clear hb87
  have HY94 := Lib.hid (own_sl ho6)
  clear ho6
  have c95 : w86.cell? ⟨g23, 0, none⟩ = some (.int .i64 e2.key) := HX89.out.cell 0
  have c96 : w86.cell? ⟨g23, 1, none⟩ = some (.int .i64 e2.val) := HX89.out.cell 1
  have c97 : w86.cell? ⟨g23, 2, none⟩ = some (.bool e2.dead) := HX89.out.cell 2
  have l98 : g23 < w86.heap.size := HX89.out.lt
  go_wp2_with fail
  clear c95 c96 c97 l98
  refine (is24_any e2 e2 0 _).mono ?_
  rw [show (decide ((0 : Int) = 0) && eqX e2 e2) = true from by decide]
  rintro e w99 ⟨rfl, hb100⟩
  have HF101 := Lib.hid (bext HF88.out hb100)
  have HX102 := Lib.hid (HX89.out.below hb100 HX89.out.lt)
  have HX103 := Lib.hid (HX90.out.below hb100 HX90.out.lt)
  have HX104 := Lib.hid (HX91.out.below hb100 HX91.out.lt)
  have HY105 := Lib.hid (tab_below' HY92.out hb100)
  have HY106 := Lib.hid (HY94.out.below hb100)
  clear HF88 HX89 HX90 HX91 HY92 HY94
  clear hb100
  have c107 : w99.cell? ⟨g44, 0, none⟩ = some (.int .i64 e2.key) := HX103.out.cell 0
  have c108 : w99.cell? ⟨g44, 1, none⟩ = some (.int .i64 e2.val) := HX103.out.cell 1
  have c109 : w99.cell? ⟨g44, 2, none⟩ = some (.bool e2.dead) := HX103.out.cell 2
  have l110 : g44 < w99.heap.size := HX103.out.lt
  go_wp2_with fail
  clear c107 c108 c109 l110
  refine (is24_any e2 e2 0 _).mono ?_
  rw [show (decide ((0 : Int) = 0) && eqX e2 e2) = true from by decide]
  rintro e w111 ⟨rfl, hb112⟩
  have HF113 := Lib.hid (bext HF101.out hb112)
  have HX114 := Lib.hid (HX102.out.below hb112 HX102.out.lt)
  have HX115 := Lib.hid (HX103.out.below hb112 HX103.out.lt)
  have HX116 := Lib.hid (HX104.out.below hb112 HX104.out.lt)
  have HY117 := Lib.hid (tab_below' HY105.out hb112)
  have HY118 := Lib.hid (HY106.out.below hb112)
  clear HF101 HX102 HX103 HX104 HY105 HY106
  clear hb112
  have c119 : w111.cell? ⟨g68, 0, none⟩ = some (.int .i64 e1.key) := HX116.out.cell 0
  have c120 : w111.cell? ⟨g68, 1, none⟩ = some (.int .i64 e1.val) := HX116.out.cell 1
  have c121 : w111.cell? ⟨g68, 2, none⟩ = some (.bool e1.dead) := HX116.out.cell 2
  have l122 : g68 < w111.heap.size := HX116.out.lt
  go_wp2_with fail
  clear c119 c120 c121 l122
  refine (is24_any e1 e1 0 _).mono ?_
  rw [show (decide ((0 : Int) = 0) && eqX e1 e1) = true from by decide]
  rintro e w123 ⟨rfl, hb124⟩
  have HF125 := Lib.hid (bext HF113.out hb124)
  have HX126 := Lib.hid (HX114.out.below hb124 HX114.out.lt)
  have HX127 := Lib.hid (HX115.out.below hb124 HX115.out.lt)
  have HX128 := Lib.hid (HX116.out.below hb124 HX116.out.lt)
  have HY129 := Lib.hid (tab_below' HY117.out hb124)
  have HY130 := Lib.hid (HY118.out.below hb124)
  clear HF113 HX114 HX115 HX116 HY117 HY118
  clear hb124
  have hbm : Below w123.heap.size w123 (w123.alloc (.cells #[.int .i64 1, .int .i64 10, .int .i64 3, .int .i64 30] 61)) := (Below.refl _ _).alloc (Nat.le_refl _) _
  have HBM := Lib.hid hbm
  clear hbm
  go_wp2_with fail
  refine (samePairs_any A6 (some ⟨w123.heap.size, 0, none⟩) chQ chQ c6 2 _ (HY130.out.below HBM.out) (by exact sl_new1 _ _ _) (by decide) (by decide)).mono ?_
  rw [decide_eq_true rfl]
  rintro e w9 ⟨rfl, hb9⟩
  go_wp2
  go_ret
  exact ⟨rfl, bext HF125.out (bext HBM.out hb9)⟩
  
end Go.Proofs.YtokomclcgegfkaaDoor
