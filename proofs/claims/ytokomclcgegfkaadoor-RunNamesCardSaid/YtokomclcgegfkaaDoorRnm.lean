/- The law RunNames: it returns true. -/
import Derived.Test.YtokomclcgegfkaaDoorRv
import Derived.Test.YtokomclcgegfkaaDoorRw
namespace Go.Proofs.YtokomclcgegfkaaDoor
open Go Go.RowKit
set_option maxRecDepth 100000
def rY : List Ent := [⟨5, 0, true⟩]
theorem r_inord0 : inord 0 0 = [] := by simp [inord]
theorem r_inord1 : inord 1 0 = [0] := by simp [inord]
theorem rY_E : buildE rY = 0 := by decide
theorem rY_L : buildL rY = rY := by unfold buildL; rw [if_pos rY_E]; unfold laid; rw [show rY.length = 1 from rfl]; unfold ranks; rw [r_inord1]; decide
theorem rY_laid : laid rY = rY := by have h := rY_L; unfold buildL at h; rwa [if_pos rY_E] at h
theorem rY_chk : chkE rY = 0 := by rw [← rY_laid]; exact build_chk rY_E
theorem rY_live : lvN rY = 0 := by unfold lvN; rw [if_pos rY_chk]; decide
theorem r_nil_in : inL [] = [] := by unfold inL; rw [show ([] : List Ent).length = 0 from rfl, r_inord0]; rfl
theorem r_nil_chk : chkE [] = 0 := by unfold chkE; rw [r_nil_in]; decide
theorem r_nil_get : gtE [] 0 = 6 ∧ gtX [] 0 = zeroE := by unfold gtE gtX; rw [if_pos r_nil_chk, if_pos r_nil_chk]; decide
theorem r_nil_prs : prL [] = [] := by unfold prL; rw [if_pos r_nil_chk, r_nil_in]; rfl
theorem rX_next4 : nxE rX 4 = 6 ∧ nxX rX 4 = zeroE := by unfold nxE nxX; rw [if_pos rX_chk, if_pos rX_chk, rX_in]; decide
theorem rX_last1 : lsE rX 1 = 6 ∧ lsX rX 1 = zeroE := by unfold lsE lsX; rw [if_pos rX_chk, if_pos rX_chk]; decide
theorem r_c1_chk : chkE ([⟨1, 0, false⟩, ⟨2, 0, false⟩] : List Ent) = 130 := by
  have h : inL ([⟨1, 0, false⟩, ⟨2, 0, false⟩] : List Ent) = ([⟨2, 0, false⟩, ⟨1, 0, false⟩] : List Ent) := by unfold inL; rw [show ([⟨1, 0, false⟩, ⟨2, 0, false⟩] : List Ent).length = 2 from rfl, kinord2]; decide
  unfold chkE; rw [h]; decide
theorem r_c1_live : lvN ([⟨1, 0, false⟩, ⟨2, 0, false⟩] : List Ent) = 0 := by unfold lvN; rw [r_c1_chk]; rfl
/-- a row just made reads as so many times the zero -/
theorem made_prs {W : World} {g n : Nat} {t : TypeId} (h : Blk W g t (madeCells #[.int .i64 0, .int .i64 0] (n * 2))) : Sl W (some ⟨g, 0, none⟩) ((List.replicate n (⟨0, 0⟩ : Pr)).flatMap Pr.cells) := by
  refine h.sl 0 _ fun j u hu => ?_
  have hlen : ((List.replicate n (⟨0, 0⟩ : Pr)).flatMap Pr.cells).length = n * 2 := by rw [flat_length Pr.cells 2 Pr.cells_length]; simp
  have hj : j < n * 2 := by have := (List.getElem?_eq_some_iff.1 hu).1; omega
  have hi : j / 2 < (List.replicate n (⟨0, 0⟩ : Pr)).length := by simp; omega
  have hf := flat_get Pr.cells 2 Pr.cells_length (List.replicate n (⟨0, 0⟩ : Pr)) (j / 2) (j % 2) hi (by omega)
  rw [show j / 2 * 2 + j % 2 = j by omega, hu] at hf
  rw [Nat.zero_add]
  have hm : (madeCells #[Value.int .i64 0, .int .i64 0] (n * 2))[j]? = some ((#[Value.int .i64 0, .int .i64 0] : Array Value)[j % 2]!) := by
    simp [madeCells, hj]
  rw [hm]
  have h3 : j % 2 = 0 ∨ j % 2 = 1 := by omega
  rw [List.getElem_replicate] at hf
  rcases h3 with h3 | h3 <;> (rw [h3] at hf ⊢; simpa [Pr.cells] using hf.symm)
theorem runOf_n (A : Option Addr) (l : List Pr) (n c : Nat) (w : World) (hn : l.length = n) (hA : Sl w A (l.flatMap Pr.cells)) (hl : l.length ≤ 1000000) :
    Calls Tryd.prog 55 #[.slice A n c] w (GivesRun 29 (buildL (l.map aliveE)) (buildE (l.map aliveE)) w) := by subst hn; exact runOf_any A l c w hA hl
theorem live_n (A : Option Addr) (l : List Ent) (n c : Nat) (w : World) (hn : l.length = n) (hA : Sl w A (l.flatMap Ent.cells)) (hl : l.length ≤ 4611686018427387903) :
    Calls Tryd.prog 34 #[.agg #[.slice A n c]] w (GivesII (lvN l) (chkE l) w) := by subst hn; exact live_any A l c w hA hl
theorem get_n (A : Option Addr) (l : List Ent) (n c : Nat) (key : Int) (w : World) (hn : l.length = n) (hA : Sl w A (l.flatMap Ent.cells)) (hl : l.length ≤ 4611686018427387903) (hT : TabAt 1 Lib.deBruijn64tab w) :
    Calls Tryd.prog 32 #[.agg #[.slice A n c], .int .i64 key] w (GivesX (gtX l key) (gtE l key) w) := by subst hn; exact runGet_any A l c key w hA hl hT
theorem pairs_n (A : Option Addr) (l : List Ent) (n c : Nat) (w : World) (hn : l.length = n) (hA : Sl w A (l.flatMap Ent.cells)) (hl : l.length ≤ 4611686018427387903) :
    Calls Tryd.prog 36 #[.agg #[.slice A n c]] w (GivesPrs (prL l) (chkE l) w) := by subst hn; exact pairs_any A l c w hA hl
set_option maxHeartbeats 8000000 in
theorem runNames_any (w : World) (hT : TabAt 1 Lib.deBruijn64tab w) : Calls Tryd.prog 13 #[] w fun r w' => r = .returned (.bool true) ∧ Below w.heap.size w w' := by
  have HT := Lib.hid hT
  clear hT
  obtain ⟨ti0, hi, hz0, hz1, hz2⟩ := info_parts pr_info
  obtain ⟨N, hN⟩ : ∃ N : Nat, 65537 = N := ⟨_, rfl⟩
  have hmk0 := fun W => run_make_rowN (P := Tryd.prog) 54 61 ti0 _ Tryd.underlying54 hi hz0 N (by rw [hz2]; omega) (by omega) W
  rw [hz1] at hmk0
  have hNI : (N : Int) = 65537 := by omega
  rw [hNI] at hmk0
  have HN := Lib.hid hN
  have hmk := Lib.hid hmk0
  clear hi hz0 hz1 hz2 hNI hN hmk0
  have hlx : rX.length ≤ 4611686018427387903 := by decide
  have hly : rY.length ≤ 4611686018427387903 := by decide
  have HLX := Lib.hid hlx
  have HLY := Lib.hid hly
  clear hlx hly
  go_enter Tryd.func13, Tryd.ntmps13
  have HF := Lib.hid (Below.refl w.heap.size w)
  have HY1 := Lib.hid (HT.out)
  go_wp2_with fail
  refine (runOne_any ⟨0, 1, true⟩ _).mono ?_
  rw [show buildE [(⟨0, 1, true⟩ : Ent)] = 8 by decide, show buildL [(⟨0, 1, true⟩ : Ent)] = [] by rfl]
  rintro e w2 ⟨A1, c1, rfl, -, hb3⟩
  have HF4 := Lib.hid (bext HF.out hb3)
  have HY5 := Lib.hid (tab_below' HY1.out hb3)
  clear HF HY1
  clear hb3
  go_upto_region 2 with fail
  obtain ⟨U6, h8⟩ : ∃ U, w2.alloc (.cells #[.slice A1 0 c1] 24) = U := ⟨_, rfl⟩
  have ba9 : Below w2.heap.size w2 U6 := by rw [← h8]; exact (Below.refl _ _).alloc (Nat.le_refl _) _
  have bn10 : Blk U6 w2.heap.size 24 #[.slice A1 0 c1] := by rw [← h8]; exact Blk.new _ _ _
  try rw [h8]
  have HF11 := Lib.hid (bext HF4.out ba9)
  have HY12 := Lib.hid (tab_below' HY5.out ba9)
  clear HF4 HY5
  obtain ⟨g7, h13⟩ : ∃ g, w2.heap.size = g := ⟨_, rfl⟩
  rw [h13] at bn10
  try rw [h13]
  have HX14 := Lib.hid bn10
  clear h8 ba9 bn10 h13
  go_wp2_with fail
  refine (runOne_any ⟨5, 0, true⟩ _).mono ?_
  rw [show [(⟨5, 0, true⟩ : Ent)] = rY from rfl, rY_E, rY_L]
  rintro e w15 ⟨A2, c2, rfl, ho2, hb16⟩
  have HF17 := Lib.hid (bext HF11.out hb16)
  have HX18 := Lib.hid (HX14.out.below hb16 HX14.out.lt)
  have HY19 := Lib.hid (tab_below' HY12.out hb16)
  clear HF11 HX14 HY12
  clear hb16
  have HY20 := Lib.hid (own_sl ho2)
  clear ho2
  go_upto_region 3 with fail
  obtain ⟨U21, h23⟩ : ∃ U, w15.alloc (.cells #[.slice A2 rY.length c2] 24) = U := ⟨_, rfl⟩
  have ba24 : Below w15.heap.size w15 U21 := by rw [← h23]; exact (Below.refl _ _).alloc (Nat.le_refl _) _
  have bn25 : Blk U21 w15.heap.size 24 #[.slice A2 rY.length c2] := by rw [← h23]; exact Blk.new _ _ _
  try rw [h23]
  have HF26 := Lib.hid (bext HF17.out ba24)
  have HX27 := Lib.hid (HX18.out.below ba24 HX18.out.lt)
  have HY28 := Lib.hid (tab_below' HY19.out ba24)
  have HY29 := Lib.hid (HY20.out.below ba24)
  clear HF17 HX18 HY19 HY20
  obtain ⟨g22, h30⟩ : ∃ g, w15.heap.size = g := ⟨_, rfl⟩
  rw [h30] at bn25
  try rw [h30]
  have HX31 := Lib.hid bn25
  clear h23 ba24 bn25 h30
  have c32 : U21.cell? ⟨g22, 0, none⟩ = some (.slice A2 rY.length c2) := HX31.out.cell 0
  have l33 : g22 < U21.heap.size := HX31.out.lt
  go_wp2_with fail
  clear c32 l33
  refine (live_any A2 rY c2 _ HY29.out HLY.out).mono ?_
  unfold GivesII
  rw [rY_live, rY_chk]
  rintro e w34 ⟨rfl, hb35⟩
  have HF36 := Lib.hid (bext HF26.out hb35)
  have HX37 := Lib.hid (HX27.out.below hb35 HX27.out.lt)
  have HX38 := Lib.hid (HX31.out.below hb35 HX31.out.lt)
  have HY39 := Lib.hid (tab_below' HY28.out hb35)
  have HY40 := Lib.hid (HY29.out.below hb35)
  clear HF26 HX27 HX31 HY28 HY29
  clear hb35
  have q41 : Below w34.heap.size w34 (w34.alloc (.cells #[.int .i64 2, .int .i64 0, .int .i64 1, .int .i64 0] 61)) := (Below.refl _ _).alloc (Nat.le_refl _) _
  have HQ42 := Lib.hid q41
  clear q41
  go_wp2_with fail
  refine (runOf_n (some ⟨w34.heap.size, 0, none⟩) ([⟨2, 0⟩, ⟨1, 0⟩] : List Pr) 2 2 _ rfl (by exact sl_new1 _ _ _) (by decide)).mono ?_
  rw [show buildE (([⟨2, 0⟩, ⟨1, 0⟩] : List Pr).map aliveE) = 130 by decide, show buildL (([⟨2, 0⟩, ⟨1, 0⟩] : List Pr).map aliveE) = [] by rfl]
  rintro e w43 ⟨A4, c4, rfl, -, hb44⟩
  have hb45 := bext HQ42.out hb44
  have HF46 := Lib.hid (bext HF36.out hb45)
  have HX47 := Lib.hid (HX37.out.below hb45 HX37.out.lt)
  have HX48 := Lib.hid (HX38.out.below hb45 HX38.out.lt)
  have HY49 := Lib.hid (tab_below' HY39.out hb45)
  have HY50 := Lib.hid (HY40.out.below hb45)
  clear HF36 HX37 HX38 HY39 HY40
  clear hb44 hb45
  go_upto_region 5 with fail
  obtain ⟨U51, h53⟩ : ∃ U, w43.alloc (.cells #[.slice A4 0 c4] 24) = U := ⟨_, rfl⟩
  have ba54 : Below w43.heap.size w43 U51 := by rw [← h53]; exact (Below.refl _ _).alloc (Nat.le_refl _) _
  have bn55 : Blk U51 w43.heap.size 24 #[.slice A4 0 c4] := by rw [← h53]; exact Blk.new _ _ _
  try rw [h53]
  have HF56 := Lib.hid (bext HF46.out ba54)
  have HX57 := Lib.hid (HX47.out.below ba54 HX47.out.lt)
  have HX58 := Lib.hid (HX48.out.below ba54 HX48.out.lt)
  have HY59 := Lib.hid (tab_below' HY49.out ba54)
  have HY60 := Lib.hid (HY50.out.below ba54)
  clear HF46 HX47 HX48 HY49 HY50
  obtain ⟨g52, h61⟩ : ∃ g, w43.heap.size = g := ⟨_, rfl⟩
  rw [h61] at bn55
  try rw [h61]
  have HX62 := Lib.hid bn55
  clear h53 ba54 bn55 h61
  go_wp2_with fail
  refine (runOf_n none [] 0 0 _ rfl (.inl rfl) (by decide)).mono ?_
  rw [show buildE (([] : List Pr).map aliveE) = 0 by decide, show buildL (([] : List Pr).map aliveE) = [] by rfl]
  rintro e w63 ⟨A5, c5, rfl, -, hb64⟩
  have HF65 := Lib.hid (bext HF56.out hb64)
  have HX66 := Lib.hid (HX57.out.below hb64 HX57.out.lt)
  have HX67 := Lib.hid (HX58.out.below hb64 HX58.out.lt)
  have HX68 := Lib.hid (HX62.out.below hb64 HX62.out.lt)
  have HY69 := Lib.hid (tab_below' HY59.out hb64)
  have HY70 := Lib.hid (HY60.out.below hb64)
  clear HF56 HX57 HX58 HX62 HY59 HY60
  clear hb64
  go_upto_region 6 with fail
  obtain ⟨U71, h73⟩ : ∃ U, w63.alloc (.cells #[.slice A5 0 c5] 24) = U := ⟨_, rfl⟩
  have ba74 : Below w63.heap.size w63 U71 := by rw [← h73]; exact (Below.refl _ _).alloc (Nat.le_refl _) _
  have bn75 : Blk U71 w63.heap.size 24 #[.slice A5 0 c5] := by rw [← h73]; exact Blk.new _ _ _
  try rw [h73]
  have HF76 := Lib.hid (bext HF65.out ba74)
  have HX77 := Lib.hid (HX66.out.below ba74 HX66.out.lt)
  have HX78 := Lib.hid (HX67.out.below ba74 HX67.out.lt)
  have HX79 := Lib.hid (HX68.out.below ba74 HX68.out.lt)
  have HY80 := Lib.hid (tab_below' HY69.out ba74)
  have HY81 := Lib.hid (HY70.out.below ba74)
  clear HF65 HX66 HX67 HX68 HY69 HY70
  obtain ⟨g72, h82⟩ : ∃ g, w63.heap.size = g := ⟨_, rfl⟩
  rw [h82] at bn75
  try rw [h82]
  have HX83 := Lib.hid bn75
  clear h73 ba74 bn75 h82
  have c84 : U71.cell? ⟨g72, 0, none⟩ = some (.slice A5 0 c5) := HX83.out.cell 0
  have l85 : g72 < U71.heap.size := HX83.out.lt
  go_wp2_with fail
  clear c84 l85
  refine (get_n A5 [] 0 c5 0 _ rfl (.inl rfl) (by decide) HY80.out).mono ?_
  unfold GivesX
  rw [r_nil_get.1, r_nil_get.2]
  rintro e w86 ⟨rfl, hb87⟩
  have HF88 := Lib.hid (bext HF76.out hb87)
  have HX89 := Lib.hid (HX77.out.below hb87 HX77.out.lt)
  have HX90 := Lib.hid (HX78.out.below hb87 HX78.out.lt)
  have HX91 := Lib.hid (HX79.out.below hb87 HX79.out.lt)
  have HX92 := Lib.hid (HX83.out.below hb87 HX83.out.lt)
  have HY93 := Lib.hid (tab_below' HY80.out hb87)
  have HY94 := Lib.hid (HY81.out.below hb87)
  clear HF76 HX77 HX78 HX79 HX83 HY80 HY81
  clear hb87
  go_upto_region 7 with fail
  obtain ⟨U95, h97⟩ : ∃ U, w86.alloc (.cells #[.int .i64 zeroE.key, .int .i64 zeroE.val, .bool zeroE.dead] 29) = U := ⟨_, rfl⟩
  have ba98 : Below w86.heap.size w86 U95 := by rw [← h97]; exact (Below.refl _ _).alloc (Nat.le_refl _) _
  have bn99 : Blk U95 w86.heap.size 29 #[.int .i64 zeroE.key, .int .i64 zeroE.val, .bool zeroE.dead] := by rw [← h97]; exact Blk.new _ _ _
  try rw [h97]
  have HF100 := Lib.hid (bext HF88.out ba98)
  have HX101 := Lib.hid (HX89.out.below ba98 HX89.out.lt)
  have HX102 := Lib.hid (HX90.out.below ba98 HX90.out.lt)
  have HX103 := Lib.hid (HX91.out.below ba98 HX91.out.lt)
  have HX104 := Lib.hid (HX92.out.below ba98 HX92.out.lt)
  have HY105 := Lib.hid (tab_below' HY93.out ba98)
  have HY106 := Lib.hid (HY94.out.below ba98)
  clear HF88 HX89 HX90 HX91 HX92 HY93 HY94
  obtain ⟨g96, h107⟩ : ∃ g, w86.heap.size = g := ⟨_, rfl⟩
  rw [h107] at bn99
  try rw [h107]
  have HX108 := Lib.hid bn99
  clear h97 ba98 bn99 h107
  go_wp2_with fail
  refine (chapter24_any _).mono ?_
  rintro e w109 ⟨Ac1, cc1, rfl, hs1, hb110⟩
  have HF111 := Lib.hid (bext HF100.out hb110)
  have HX112 := Lib.hid (HX101.out.below hb110 HX101.out.lt)
  have HX113 := Lib.hid (HX102.out.below hb110 HX102.out.lt)
  have HX114 := Lib.hid (HX103.out.below hb110 HX103.out.lt)
  have HX115 := Lib.hid (HX104.out.below hb110 HX104.out.lt)
  have HX116 := Lib.hid (HX108.out.below hb110 HX108.out.lt)
  have HY117 := Lib.hid (tab_below' HY105.out hb110)
  have HY118 := Lib.hid (HY106.out.below hb110)
  clear HF100 HX101 HX102 HX103 HX104 HX108 HY105 HY106
  clear hb110
  have HY119 := Lib.hid (hs1)
  clear hs1
  go_wp2_with fail
  refine (runNext_any Ac1 rX cc1 4 _ HY119.out HLX.out HY117.out).mono ?_
  unfold GivesX
  rw [rX_next4.1, rX_next4.2]
  rintro e w120 ⟨rfl, hb121⟩
  have HF122 := Lib.hid (bext HF111.out hb121)
  have HX123 := Lib.hid (HX112.out.below hb121 HX112.out.lt)
  have HX124 := Lib.hid (HX113.out.below hb121 HX113.out.lt)
  have HX125 := Lib.hid (HX114.out.below hb121 HX114.out.lt)
  have HX126 := Lib.hid (HX115.out.below hb121 HX115.out.lt)
  have HX127 := Lib.hid (HX116.out.below hb121 HX116.out.lt)
  have HY128 := Lib.hid (tab_below' HY117.out hb121)
  have HY129 := Lib.hid (HY118.out.below hb121)
  have HY130 := Lib.hid (HY119.out.below hb121)
  clear HF111 HX112 HX113 HX114 HX115 HX116 HY117 HY118 HY119
  clear hb121
  go_upto_region 8 with fail
  obtain ⟨U131, h133⟩ : ∃ U, w120.alloc (.cells #[.int .i64 zeroE.key, .int .i64 zeroE.val, .bool zeroE.dead] 29) = U := ⟨_, rfl⟩
  have ba134 : Below w120.heap.size w120 U131 := by rw [← h133]; exact (Below.refl _ _).alloc (Nat.le_refl _) _
  have bn135 : Blk U131 w120.heap.size 29 #[.int .i64 zeroE.key, .int .i64 zeroE.val, .bool zeroE.dead] := by rw [← h133]; exact Blk.new _ _ _
  try rw [h133]
  have HF136 := Lib.hid (bext HF122.out ba134)
  have HX137 := Lib.hid (HX123.out.below ba134 HX123.out.lt)
  have HX138 := Lib.hid (HX124.out.below ba134 HX124.out.lt)
  have HX139 := Lib.hid (HX125.out.below ba134 HX125.out.lt)
  have HX140 := Lib.hid (HX126.out.below ba134 HX126.out.lt)
  have HX141 := Lib.hid (HX127.out.below ba134 HX127.out.lt)
  have HY142 := Lib.hid (tab_below' HY128.out ba134)
  have HY143 := Lib.hid (HY129.out.below ba134)
  have HY144 := Lib.hid (HY130.out.below ba134)
  clear HF122 HX123 HX124 HX125 HX126 HX127 HY128 HY129 HY130
  obtain ⟨g132, h145⟩ : ∃ g, w120.heap.size = g := ⟨_, rfl⟩
  rw [h145] at bn135
  try rw [h145]
  have HX146 := Lib.hid bn135
  clear h133 ba134 bn135 h145
  go_wp2_with fail
  refine (chapter24_any _).mono ?_
  rintro e w147 ⟨Ac2, cc2, rfl, hs2, hb148⟩
  have HF149 := Lib.hid (bext HF136.out hb148)
  have HX150 := Lib.hid (HX137.out.below hb148 HX137.out.lt)
  have HX151 := Lib.hid (HX138.out.below hb148 HX138.out.lt)
  have HX152 := Lib.hid (HX139.out.below hb148 HX139.out.lt)
  have HX153 := Lib.hid (HX140.out.below hb148 HX140.out.lt)
  have HX154 := Lib.hid (HX141.out.below hb148 HX141.out.lt)
  have HX155 := Lib.hid (HX146.out.below hb148 HX146.out.lt)
  have HY156 := Lib.hid (tab_below' HY142.out hb148)
  have HY157 := Lib.hid (HY143.out.below hb148)
  have HY158 := Lib.hid (HY144.out.below hb148)
  clear HF136 HX137 HX138 HX139 HX140 HX141 HX146 HY142 HY143 HY144
  clear hb148
  have HY159 := Lib.hid (hs2)
  clear hs2
  go_wp2_with fail
  refine (runLast_any Ac2 rX cc2 1 _ HY159.out HLX.out HY156.out).mono ?_
  unfold GivesX
  rw [rX_last1.1, rX_last1.2]
  rintro e w160 ⟨rfl, hb161⟩
  have HF162 := Lib.hid (bext HF149.out hb161)
  have HX163 := Lib.hid (HX150.out.below hb161 HX150.out.lt)
  have HX164 := Lib.hid (HX151.out.below hb161 HX151.out.lt)
  have HX165 := Lib.hid (HX152.out.below hb161 HX152.out.lt)
  have HX166 := Lib.hid (HX153.out.below hb161 HX153.out.lt)
  have HX167 := Lib.hid (HX154.out.below hb161 HX154.out.lt)
  have HX168 := Lib.hid (HX155.out.below hb161 HX155.out.lt)
  have HY169 := Lib.hid (tab_below' HY156.out hb161)
  have HY170 := Lib.hid (HY157.out.below hb161)
  have HY171 := Lib.hid (HY158.out.below hb161)
  have HY172 := Lib.hid (HY159.out.below hb161)
  clear HF149 HX150 HX151 HX152 HX153 HX154 HX155 HY156 HY157 HY158 HY159
  clear hb161
  go_upto_region 9 with fail
  obtain ⟨U173, h175⟩ : ∃ U, w160.alloc (.cells #[.int .i64 zeroE.key, .int .i64 zeroE.val, .bool zeroE.dead] 29) = U := ⟨_, rfl⟩
  have ba176 : Below w160.heap.size w160 U173 := by rw [← h175]; exact (Below.refl _ _).alloc (Nat.le_refl _) _
  have bn177 : Blk U173 w160.heap.size 29 #[.int .i64 zeroE.key, .int .i64 zeroE.val, .bool zeroE.dead] := by rw [← h175]; exact Blk.new _ _ _
  try rw [h175]
  have HF178 := Lib.hid (bext HF162.out ba176)
  have HX179 := Lib.hid (HX163.out.below ba176 HX163.out.lt)
  have HX180 := Lib.hid (HX164.out.below ba176 HX164.out.lt)
  have HX181 := Lib.hid (HX165.out.below ba176 HX165.out.lt)
  have HX182 := Lib.hid (HX166.out.below ba176 HX166.out.lt)
  have HX183 := Lib.hid (HX167.out.below ba176 HX167.out.lt)
  have HX184 := Lib.hid (HX168.out.below ba176 HX168.out.lt)
  have HY185 := Lib.hid (tab_below' HY169.out ba176)
  have HY186 := Lib.hid (HY170.out.below ba176)
  have HY187 := Lib.hid (HY171.out.below ba176)
  have HY188 := Lib.hid (HY172.out.below ba176)
  clear HF162 HX163 HX164 HX165 HX166 HX167 HX168 HY169 HY170 HY171 HY172
  obtain ⟨g174, h189⟩ : ∃ g, w160.heap.size = g := ⟨_, rfl⟩
  rw [h189] at bn177
  try rw [h189]
  have HX190 := Lib.hid bn177
  clear h175 ba176 bn177 h189
  have c191 : U173.cell? ⟨g72, 0, none⟩ = some (.slice A5 0 c5) := HX182.out.cell 0
  have l192 : g72 < U173.heap.size := HX182.out.lt
  go_wp2_with fail
  clear c191 l192
  refine (pairs_n A5 [] 0 c5 _ rfl (.inl rfl) (by decide)).mono ?_
  rw [r_nil_prs, r_nil_chk]
  rintro e w193 ⟨A9, c9, rfl, -, hb194⟩
  have HF195 := Lib.hid (bext HF178.out hb194)
  have HX196 := Lib.hid (HX179.out.below hb194 HX179.out.lt)
  have HX197 := Lib.hid (HX180.out.below hb194 HX180.out.lt)
  have HX198 := Lib.hid (HX181.out.below hb194 HX181.out.lt)
  have HX199 := Lib.hid (HX182.out.below hb194 HX182.out.lt)
  have HX200 := Lib.hid (HX183.out.below hb194 HX183.out.lt)
  have HX201 := Lib.hid (HX184.out.below hb194 HX184.out.lt)
  have HX202 := Lib.hid (HX190.out.below hb194 HX190.out.lt)
  have HY203 := Lib.hid (tab_below' HY185.out hb194)
  have HY204 := Lib.hid (HY186.out.below hb194)
  have HY205 := Lib.hid (HY187.out.below hb194)
  have HY206 := Lib.hid (HY188.out.below hb194)
  clear HF178 HX179 HX180 HX181 HX182 HX183 HX184 HX190 HY185 HY186 HY187 HY188
  clear hb194
  have q207 : Below w193.heap.size w193 (w193.alloc (.cells #[.int .i64 1, .int .i64 0, .bool false, .int .i64 2, .int .i64 0, .bool false] 29)) := (Below.refl _ _).alloc (Nat.le_refl _) _
  have HQ208 := Lib.hid q207
  clear q207
  go_wp2_with fail
  refine (live_n (some ⟨w193.heap.size, 0, none⟩) ([⟨1, 0, false⟩, ⟨2, 0, false⟩] : List Ent) 2 2 _ rfl (by exact sl_new1 _ _ _) (by decide)).mono ?_
  unfold GivesII
  rw [r_c1_live, r_c1_chk]
  rintro e w209 ⟨rfl, hb210⟩
  have hb211 := bext HQ208.out hb210
  have HF212 := Lib.hid (bext HF195.out hb211)
  have HY213 := Lib.hid (tab_below' HY203.out hb211)
  clear HF195 HY203
  clear hb210 hb211
  have q214 : Below w209.heap.size w209 (w209.alloc (.cells (madeCells #[.int .i64 0, .int .i64 0] (N * 2)) 61)) := (Below.refl _ _).alloc (Nat.le_refl _) _
  have HQ215 := Lib.hid q214
  clear q214
  have sl4 := made_prs (Blk.new w209 61 (madeCells #[.int .i64 0, .int .i64 0] (N * 2)))
  have hm3 := hmk.out w209
  have hE4 : buildE ((List.replicate N (⟨0, 0⟩ : Pr)).map aliveE) = 4 := by unfold buildE; rw [if_pos (by rw [List.length_map, List.length_replicate]; have := HN.out; omega)]
  have hL4 : buildL ((List.replicate N (⟨0, 0⟩ : Pr)).map aliveE) = [] := by unfold buildL; rw [hE4]; rfl
  have H4 := Lib.hid (And.intro hE4 hL4)
  have hsl4 := Lib.hid sl4
  clear hE4 hL4 sl4
  go_wp2_with fail
  refine (runOf_n (some ⟨w209.heap.size, 0, none⟩) (List.replicate N (⟨0, 0⟩ : Pr)) N N _ (List.length_replicate) hsl4.out (by rw [List.length_replicate]; have := HN.out; omega)).mono ?_
  rw [H4.out.1, H4.out.2]
  rintro e w216 ⟨A11, c11, rfl, -, hb217⟩
  have hb218 := bext HQ215.out hb217
  have HF219 := Lib.hid (bext HF212.out hb218)
  have HY220 := Lib.hid (tab_below' HY213.out hb218)
  clear HF212 HY213
  clear hb217 hb218
  clear hm3 hsl4
  go_upto_region 12 with fail
  obtain ⟨U221, h223⟩ : ∃ U, w216.alloc (.cells #[.slice A11 0 c11] 24) = U := ⟨_, rfl⟩
  have ba224 : Below w216.heap.size w216 U221 := by rw [← h223]; exact (Below.refl _ _).alloc (Nat.le_refl _) _
  have bn225 : Blk U221 w216.heap.size 24 #[.slice A11 0 c11] := by rw [← h223]; exact Blk.new _ _ _
  try rw [h223]
  have HF226 := Lib.hid (bext HF219.out ba224)
  have HY227 := Lib.hid (tab_below' HY220.out ba224)
  clear HF219 HY220
  obtain ⟨g222, h228⟩ : ∃ g, w216.heap.size = g := ⟨_, rfl⟩
  rw [h228] at bn225
  try rw [h228]
  have HX229 := Lib.hid bn225
  clear h223 ba224 bn225 h228
  go_wp2_with fail
  refine (alive24_any _ HY227.out).mono ?_
  rintro e w230 ⟨rfl, hb231⟩
  have HF232 := Lib.hid (bext HF226.out hb231)
  have HX233 := Lib.hid (HX229.out.below hb231 HX229.out.lt)
  have HY234 := Lib.hid (tab_below' HY227.out hb231)
  clear HF226 HX229 HY227
  clear hb231
  go_wp2
  go_ret
  exact ⟨rfl, HF232.out⟩
end Go.Proofs.YtokomclcgegfkaaDoor
