/- The law RungsNames: it returns true. As a card: math/bits' tables read as their initialisers lay them; no further condition. -/
import Derived.Test.YthdcllnmnmemdaaDoorWb16
import Derived.Test.YthdcllnmnmemdaaDoorWb15
import Derived.Test.YthdcllnmnmemdaaDoorWb13
import Derived.Test.YthdcllnmnmemdaaDoorWb17
/- Plain facts: more examples of levels (RungsNames). No program in sight. -/
namespace Go.Proofs.YthdcllnmnmemdaaDoor
open Go
def n5 : Ent := ⟨5, 0, false⟩
def n9 : Ent := ⟨5, 9, false⟩
def b5 : Ent := ⟨5, 1, true⟩
def k2 : Ent := ⟨2, 0, true⟩
theorem nm1 : letS [] 0 [k5] = ([], 0, 0) := by
  have hE : addE [] k5 = 0 := addE_zero.2 ⟨may_nil, by decide, by decide⟩
  have hc : climbE [] 0 k5 = ([], [], 0) := by unfold climbE; rw [if_pos ⟨rfl, rfl⟩]
  have h := add_is (L := []) hE hc (by decide +kernel) (fat_small (by decide))
  rw [letS, if_pos hE, h.1, h.2, letS]
theorem nm2 : letS [] 0 [b5] = ([], 0, 8) := by
  have hE : addE [] b5 = 8 := by
    have h0 : chkR [] = 0 := chkR_zero.2 may_nil
    unfold addE
    rw [if_neg (by rw [h0]; simp), if_neg (by decide), if_pos (by decide)]
  rw [letS, if_neg (by rw [hE]; decide), hE]
theorem nm3 : letS [] 0 [n5, n9, k5] = ([], 4, 0) := by
  have e1 : addE [] n5 = 0 := addE_zero.2 ⟨may_nil, by decide, by decide⟩
  have a1 : addL [] 0 n5 = [[n5]] ∧ addN [] 0 n5 = 1 := add_is e1 (climb_0 (.inl rfl) (lev_nil _) (by decide)) (by decide +kernel) (fat_small (by decide))
  have m1 : May [[n5]] := by have h := (add_may e1 0).1; rwa [a1.1] at h
  have e2 : addE [[n5]] n9 = 0 := addE_zero.2 ⟨m1, by decide, by decide⟩
  have a2 : addL [[n5]] 1 n9 = [[n9]] ∧ addN [[n5]] 1 n9 = 3 := by
    refine add_is e2 ?_ (a := [[]]) (r := [n9]) (by decide +kernel) (fat_small (by decide))
    have hm : mergeR [[n5]] [n9] = [n9] := by
      unfold mergeR
      rw [show up [n9].length = 0 from up_1]
      exact (mrg2 (lay1 n9) (lay1 n5) (by decide) (by decide) (by decide) (m := [n9]) (by simp [allE, bothE, bareE, liveE, n5, n9, heldB])).trans (lay1 n9)
    rw [climb_1 (rs' := [[]]) (.inl rfl) (by decide) (by decide : IntKind.u64.wrap ((1 : Int) + 1) = 2) hm (by decide : IntKind.u64.wrap ((2 : Int) + ([n9] : List Ent).length) = 3) rfl]
    exact climb_end (.inr (by rw [show up [n9].length = 0 from up_1]; rfl))
  have m2 : May [[n9]] := by have h := (add_may e2 1).1; rwa [a2.1] at h
  have e3 : addE [[n9]] k5 = 0 := addE_zero.2 ⟨m2, by decide, by decide⟩
  have a3 : addL [[n9]] 3 k5 = [] ∧ addN [[n9]] 3 k5 = 4 := by
    refine add_is e3 ?_ (a := [[]]) (r := []) (by decide +kernel) (fat_small (by decide))
    have hm : mergeR [[n9]] [k5] = [] := by
      unfold mergeR
      rw [show up [k5].length = 0 from up_1]
      exact (mrg2 (lay1 k5) (lay1 n9) (by decide) (by decide) (by decide) (m := []) (by simp [allE, bothE, bareE, liveE, k5, n9, heldB])).trans lay0
    rw [climb_1 (rs' := [[]]) (.inr (by simp)) (by decide) (by decide : IntKind.u64.wrap ((3 : Int) + 1) = 4) hm (by decide : IntKind.u64.wrap ((4 : Int) + ([] : List Ent).length) = 4) rfl]
    exact climb_end (.inl rfl)
  rw [letS, if_pos e1, a1.1, a1.2, letS, if_pos e2, a2.1, a2.2, letS, if_pos e3, a3.1, a3.2, letS]
def l3 : List Pr := [⟨1, 0⟩, ⟨2, 0⟩, ⟨3, 0⟩]
def z3 : Lv := ofLr [] l3
theorem up_3 : up 3 = 2 := by decide +kernel
theorem nmE : ofEr [] l3 = 0 := by
  unfold ofEr
  rw [if_neg (by rw [chkR_zero.2 may_nil]; simp)]
  decide
theorem nmN : ofNr [] 4 l3 = 7 := by unfold ofNr; rw [if_pos nmE]; decide
theorem z3_is : z3 = standL [] (laid (l3.map aliveE)) := by unfold z3 ofLr; rw [if_pos nmE]
theorem l3_len : (laid (l3.map aliveE)).length = 3 := by rw [laid_length]; rfl
theorem l3_ne : laid (l3.map aliveE) ≠ [] := fun h => by have := l3_len; rw [h] at this; simp at this
theorem z3_len : z3.length = 3 := by
  rw [z3_is, stand_len, if_neg l3_ne, l3_len, up_3]
  rfl
theorem z3_chk : chkR z3 = 0 ∧ prR z3 = l3 := of_pairs nmE
theorem z3_tot : tot z3 = 3 := by rw [z3_is, alone_tot, l3_len]
theorem nm4 : ofEr [] [⟨1, 0⟩, ⟨1, 0⟩] = 130 ∧ ofLr [] [⟨1, 0⟩, ⟨1, 0⟩] = [] ∧ ofNr [] 4 [⟨1, 0⟩, ⟨1, 0⟩] = 0 := by
  have h : ofEr [] [⟨1, 0⟩, ⟨1, 0⟩] = 130 := by
    unfold ofEr
    rw [if_neg (by rw [chkR_zero.2 may_nil]; simp)]
    decide
  exact ⟨h, by unfold ofLr; rw [if_neg (by rw [h]; decide)], by unfold ofNr; rw [if_neg (by rw [h]; decide)]⟩
theorem z3_new (k : Int) : newest z3 k = look (l3.map aliveE) k := by
  have hb : buildE (l3.map aliveE) = 0 := by decide
  rw [z3_is, alone_newest, look_in (build_chk hb), in_laid]
theorem z3_lev0 : lev z3 0 = [] := by
  rw [z3_is, lev_alone, if_neg]
  rintro ⟨_, h⟩
  rw [l3_len, up_3] at h
  cases h
def a3 : Lv := standL z3 [k2]
theorem a3_new (k : Int) : newest a3 k = (look [k2] k).or (look (l3.map aliveE) k) := by
  unfold a3
  rw [newest_stand k (by simp) (fun j hj => by rw [show up [k2].length = 0 from up_1] at hj; omega) (by rw [show up [k2].length = 0 from up_1]; exact z3_lev0), z3_new]
theorem nm5E : addE z3 k2 = 0 := addE_zero.2 ⟨chkR_zero.1 z3_chk.1, by rw [z3_tot]; decide, by decide⟩
theorem z3_ne : z3 ≠ [] := fun h => by have := z3_len; rw [h] at this; simp at this
theorem a3_top : Top a3 := stand_top ((chkR_zero.1 z3_chk.1).top)
theorem a3_tot : tot a3 = 4 := by
  unfold a3
  rw [tot_stand (.inr (by rw [show up [k2].length = 0 from up_1]; exact z3_lev0)), z3_tot]
  rfl
theorem a3_mE : mE (letL z3 7 k2) = 0 := letL_mE (chkR_zero.1 z3_chk.1) (by decide) (by rw [z3_tot]; decide) 7
theorem a3_let : letL z3 7 k2 = a3 := by
  unfold letL
  rw [climb_0 (n1 := 8) (.inr z3_ne) z3_lev0 (by decide)]
  exact cut_id a3_top
theorem a3_fat : fat a3 = false := by
  refine decide_eq_false ?_
  have h : look (allL a3) 1 = some ⟨1, 0, false⟩ := by
    have hm := a3_mE
    rw [a3_let] at hm
    rw [allL_look hm, a3_new]
    decide
  have h2 := (look_key h).2
  have h3 := List.length_pos_of_mem h2
  rw [a3_tot]
  omega
theorem nm5 : letS z3 7 [k2] = (a3, 8, 0) := by
  have h := add_is nm5E (climb_0 (n := 7) (n1 := 8) (.inr z3_ne) z3_lev0 (by decide)) (cut_id a3_top) a3_fat
  rw [letS, if_pos nm5E, h.1, h.2, letS]
  rfl
theorem a3_chk : chkR a3 = 0 := by
  have h := add_is nm5E (climb_0 (n := 7) (n1 := 8) (.inr z3_ne) z3_lev0 (by decide)) (cut_id a3_top) a3_fat
  have h2 := (add_may nm5E 7).1
  rw [h.1] at h2
  exact chkR_zero.2 h2
theorem nm6 : gxR a3 2 = k2 ∧ geR a3 2 = 0 ∧ gxR a3 4 = zeroE ∧ geR a3 4 = 6 := by
  unfold gxR geR
  rw [if_pos a3_chk, if_pos a3_chk, if_pos a3_chk, if_pos a3_chk, a3_new, a3_new]
  decide
theorem bad1 : chkR [[]] = 8 := by unfold chkR; rw [if_neg (by rw [mayB_end (by decide)]; simp)]
theorem bad2 : chkR [[⟨0, 0, true⟩]] = 8 := by
  unfold chkR
  rw [if_neg]
  rw [mayB_bad (k := 0) (by decide) (by unfold okLv; rw [show deadE (lev [[(⟨0, 0, true⟩ : Ent)]] 0) = true from rfl]; simp)]
  simp
theorem bad3 : chkR [[], [⟨0, 0, false⟩]] = 8 := by
  unfold chkR
  rw [if_neg]
  rw [mayB_bad (k := 1) (by decide) (by unfold okLv; rw [show lev [[], [(⟨0, 0, false⟩ : Ent)]] 1 = [⟨0, 0, false⟩] from rfl, show up [(⟨0, 0, false⟩ : Ent)].length = 0 from up_1]; simp)]
  simp
theorem good0 : chkR [] = 0 := chkR_zero.2 may_nil
end Go.Proofs.YthdcllnmnmemdaaDoor

/- The law RungsNames: it returns true. -/
namespace Go.Proofs.YthdcllnmnmemdaaDoor
open Go Go.RowKit
set_option maxRecDepth 100000
theorem rungs_new {W : World} {B : Option Addr} (Rs : List Rm) (h : Sl W B (Rs.map Rm.v)) (h2 : ∀ r ∈ Rs, r.Ok W) : RunsAt W B Rs := ⟨h, h2⟩
theorem ok_nil {W : World} : (⟨[], none, 0⟩ : Rm).Ok W := ⟨.inl rfl, Nat.zero_le _, Nat.zero_le _⟩
set_option maxHeartbeats 16000000 in
theorem rungsNames_any (w : World) (hTb : TabAt 1 Lib.deBruijn64tab w) : Calls Tryd.prog 6 #[] w fun r w' => r = .returned (.bool true) ∧ Below w.heap.size w w' := by
  have HT0 := Lib.hid hTb
  clear hTb
  go_enter Tryd.func6, Tryd.ntmps6
  have HF := Lib.hid (Below.refl w.heap.size w)
  have HY1 := Lib.hid (HT0.out)
  go_wp2_with fail
  obtain ⟨U2, h3⟩ : ∃ U, w.alloc (.cells #[.int .i64 5, .int .i64 0, .bool true] 27) = U := ⟨_, rfl⟩
  have ba4 : Below w.heap.size w U2 := by rw [← h3]; exact (Below.refl _ _).alloc (Nat.le_refl _) _
  have sl5 : Sl U2 (some ⟨w.heap.size, 0, none⟩) (([k5] : List Ent).flatMap Ent.cells) := by rw [← h3]; exact sl_new1 _ _ _
  try rw [h3]
  have HF8 := Lib.hid (bext HF.out ba4)
  have HY9 := Lib.hid (tab_below' HY1.out ba4)
  clear HF HY1
  obtain ⟨g6, h7⟩ : ∃ g, w.heap.size = g := ⟨_, rfl⟩
  rw [h7] at sl5
  try rw [h7]
  have HY10 := Lib.hid (sl5)
  clear h3 ba4 sl5 h7
  have hlet := fun W hB hA => let_any none (some ⟨g6, 0, none⟩) [] 0 1 0 [k5] W hB (by decide) (by decide) hA (by decide)
  have hq : lvs [] = [] := rfl
  rw [hq] at hlet
  clear hq
  rw [nm1] at hlet
  have HLET := Lib.hid hlet
  clear hlet
  refine (HLET.out _ (OwnRs.nil _ 0).runsAt HY10.out).mono ?_
  rintro e w11 ⟨Ba, ca, Ra, hra, hla, hoa, hb12⟩
  obtain rfl := hra
  dsimp only at hla
  have hna : Ra.length = 0 := by rw [rs_len hla]; rfl
  rw [hna]
  have KNa := Lib.hid hna
  have KLa := Lib.hid hla
  have KSa := Lib.hid (rs_of (T := 10) hla (by decide) (by decide))
  clear hna hla
  have HF13 := Lib.hid (bext HF8.out hb12)
  have HY14 := Lib.hid (tab_below' HY9.out hb12)
  have HY15 := Lib.hid (HY10.out.below hb12)
  clear HF8 HY9 HY10
  clear hb12
  clear HLET
  have HY16 := Lib.hid (hoa)
  clear hoa
  go_upto_region 2 with fail
  obtain ⟨U17, h19⟩ : ∃ U, w11.alloc (.cells #[.slice Ba 0 ca, .int .u64 0] 25) = U := ⟨_, rfl⟩
  have ba20 : Below w11.heap.size w11 U17 := by rw [← h19]; exact (Below.refl _ _).alloc (Nat.le_refl _) _
  have bn21 : Blk U17 w11.heap.size 25 #[.slice Ba 0 ca, .int .u64 0] := by rw [← h19]; exact Blk.new _ _ _
  try rw [h19]
  have HF22 := Lib.hid (bext HF13.out ba20)
  have HY23 := Lib.hid (tab_below' HY14.out ba20)
  have HY24 := Lib.hid (HY15.out.below ba20)
  have HY25 := Lib.hid (RunsAt.below HY16.out ba20)
  clear HF13 HY14 HY15 HY16
  obtain ⟨g18, h26⟩ : ∃ g, w11.heap.size = g := ⟨_, rfl⟩
  rw [h26] at bn21
  try rw [h26]
  have HX27 := Lib.hid bn21
  clear h19 ba20 bn21 h26
  have c28 : U17.cell? ⟨g18, 0, none⟩ = some (.slice Ba 0 ca) := HX27.out.cell 0
  have c29 : U17.cell? ⟨g18, 1, none⟩ = some (.int .u64 0) := HX27.out.cell 1
  have l30 : g18 < U17.heap.size := HX27.out.lt
  go_wp2_with fail
  clear c28 c29 l30
  obtain ⟨U31, h32⟩ : ∃ U, U17.alloc (.cells #[.int .i64 5, .int .i64 1, .bool true] 27) = U := ⟨_, rfl⟩
  have ba33 : Below U17.heap.size U17 U31 := by rw [← h32]; exact (Below.refl _ _).alloc (Nat.le_refl _) _
  have sl34 : Sl U31 (some ⟨U17.heap.size, 0, none⟩) (([b5] : List Ent).flatMap Ent.cells) := by rw [← h32]; exact sl_new1 _ _ _
  try rw [h32]
  have HF37 := Lib.hid (bext HF22.out ba33)
  have HX38 := Lib.hid (HX27.out.below ba33 HX27.out.lt)
  have HY39 := Lib.hid (tab_below' HY23.out ba33)
  have HY40 := Lib.hid (HY24.out.below ba33)
  have HY41 := Lib.hid (RunsAt.below HY25.out ba33)
  clear HF22 HX27 HY23 HY24 HY25
  obtain ⟨g35, h36⟩ : ∃ g, U17.heap.size = g := ⟨_, rfl⟩
  rw [h36] at sl34
  try rw [h36]
  have HY42 := Lib.hid (sl34)
  clear h32 ba33 sl34 h36
  have hlet := fun W hB hA => let_any Ba (some ⟨g35, 0, none⟩) Ra ca 1 0 [b5] W hB (by rw [KLa.out]; decide) KSa.out.1 hA (by decide)
  rw [KNa.out, KLa.out] at hlet
  rw [nm2] at hlet
  have HLET := Lib.hid hlet
  clear hlet
  refine (HLET.out _ HY41.out HY42.out).mono ?_
  rintro e w43 ⟨Bb, cb, Rb, hrb, hlb, hob, hb44⟩
  obtain rfl := hrb
  dsimp only at hlb
  have hnb : Rb.length = 0 := by rw [rs_len hlb]; rfl
  rw [hnb]
  have KNb := Lib.hid hnb
  have KLb := Lib.hid hlb
  have KSb := Lib.hid (rs_of (T := 10) hlb (by decide) (by decide))
  clear hnb hlb
  have HF45 := Lib.hid (bext HF37.out hb44)
  have HX46 := Lib.hid (HX38.out.below hb44 HX38.out.lt)
  have HY47 := Lib.hid (tab_below' HY39.out hb44)
  have HY48 := Lib.hid (HY42.out.below hb44)
  have HY49 := Lib.hid (RunsAt.below HY41.out hb44)
  clear HF37 HX38 HY39 HY42 HY41
  clear hb44
  clear HLET
  have HY50 := Lib.hid (hob)
  clear hob
  go_upto_region 3 with fail
  obtain ⟨U51, h53⟩ : ∃ U, w43.alloc (.cells #[.slice Bb 0 cb, .int .u64 0] 25) = U := ⟨_, rfl⟩
  have ba54 : Below w43.heap.size w43 U51 := by rw [← h53]; exact (Below.refl _ _).alloc (Nat.le_refl _) _
  have bn55 : Blk U51 w43.heap.size 25 #[.slice Bb 0 cb, .int .u64 0] := by rw [← h53]; exact Blk.new _ _ _
  try rw [h53]
  have HF56 := Lib.hid (bext HF45.out ba54)
  have HX57 := Lib.hid (HX46.out.below ba54 HX46.out.lt)
  have HY58 := Lib.hid (tab_below' HY47.out ba54)
  have HY59 := Lib.hid (HY48.out.below ba54)
  have HY60 := Lib.hid (RunsAt.below HY49.out ba54)
  have HY61 := Lib.hid (RunsAt.below HY50.out ba54)
  clear HF45 HX46 HY47 HY48 HY49 HY50
  obtain ⟨g52, h62⟩ : ∃ g, w43.heap.size = g := ⟨_, rfl⟩
  rw [h62] at bn55
  try rw [h62]
  have HX63 := Lib.hid bn55
  clear h53 ba54 bn55 h62
  go_wp2_with fail
  obtain ⟨U64, h65⟩ : ∃ U, U51.alloc (.cells #[.int .i64 5, .int .i64 0, .bool false, .int .i64 5, .int .i64 9, .bool false, .int .i64 5, .int .i64 0, .bool true] 27) = U := ⟨_, rfl⟩
  have ba66 : Below U51.heap.size U51 U64 := by rw [← h65]; exact (Below.refl _ _).alloc (Nat.le_refl _) _
  have sl67 : Sl U64 (some ⟨U51.heap.size, 0, none⟩) (([n5, n9, k5] : List Ent).flatMap Ent.cells) := by rw [← h65]; exact sl_new1 _ _ _
  try rw [h65]
  have HF70 := Lib.hid (bext HF56.out ba66)
  have HX71 := Lib.hid (HX57.out.below ba66 HX57.out.lt)
  have HX72 := Lib.hid (HX63.out.below ba66 HX63.out.lt)
  have HY73 := Lib.hid (tab_below' HY58.out ba66)
  have HY74 := Lib.hid (HY59.out.below ba66)
  have HY75 := Lib.hid (RunsAt.below HY60.out ba66)
  have HY76 := Lib.hid (RunsAt.below HY61.out ba66)
  clear HF56 HX57 HX63 HY58 HY59 HY60 HY61
  obtain ⟨g68, h69⟩ : ∃ g, U51.heap.size = g := ⟨_, rfl⟩
  rw [h69] at sl67
  try rw [h69]
  have HY77 := Lib.hid (sl67)
  clear h65 ba66 sl67 h69
  have hlet := fun W hB hA => let_any none (some ⟨g68, 0, none⟩) [] 0 3 0 [n5, n9, k5] W hB (by decide) (by decide) hA (by decide)
  have hq : lvs [] = [] := rfl
  rw [hq] at hlet
  clear hq
  rw [nm3] at hlet
  have HLET := Lib.hid hlet
  clear hlet
  refine (HLET.out _ (OwnRs.nil _ 0).runsAt HY77.out).mono ?_
  rintro e w78 ⟨By, cy, Ry, hry, hly, hoy, hb79⟩
  obtain rfl := hry
  dsimp only at hly
  have hny : Ry.length = 0 := by rw [rs_len hly]; rfl
  rw [hny]
  have KNy := Lib.hid hny
  have KLy := Lib.hid hly
  have KSy := Lib.hid (rs_of (T := 10) hly (by decide) (by decide))
  clear hny hly
  have HF80 := Lib.hid (bext HF70.out hb79)
  have HX81 := Lib.hid (HX71.out.below hb79 HX71.out.lt)
  have HX82 := Lib.hid (HX72.out.below hb79 HX72.out.lt)
  have HY83 := Lib.hid (tab_below' HY73.out hb79)
  have HY84 := Lib.hid (HY77.out.below hb79)
  have HY85 := Lib.hid (RunsAt.below HY75.out hb79)
  have HY86 := Lib.hid (RunsAt.below HY76.out hb79)
  clear HF70 HX71 HX72 HY73 HY77 HY75 HY76
  clear hb79
  clear HLET
  have HY87 := Lib.hid (hoy)
  clear hoy
  go_upto_region 4 with fail
  obtain ⟨U88, h90⟩ : ∃ U, w78.alloc (.cells #[.slice By 0 cy, .int .u64 4] 25) = U := ⟨_, rfl⟩
  have ba91 : Below w78.heap.size w78 U88 := by rw [← h90]; exact (Below.refl _ _).alloc (Nat.le_refl _) _
  have bn92 : Blk U88 w78.heap.size 25 #[.slice By 0 cy, .int .u64 4] := by rw [← h90]; exact Blk.new _ _ _
  try rw [h90]
  have HF93 := Lib.hid (bext HF80.out ba91)
  have HX94 := Lib.hid (HX81.out.below ba91 HX81.out.lt)
  have HX95 := Lib.hid (HX82.out.below ba91 HX82.out.lt)
  have HY96 := Lib.hid (tab_below' HY83.out ba91)
  have HY97 := Lib.hid (HY84.out.below ba91)
  have HY98 := Lib.hid (RunsAt.below HY85.out ba91)
  have HY99 := Lib.hid (RunsAt.below HY86.out ba91)
  have HY100 := Lib.hid (RunsAt.below HY87.out ba91)
  clear HF80 HX81 HX82 HY83 HY84 HY85 HY86 HY87
  obtain ⟨g89, h101⟩ : ∃ g, w78.heap.size = g := ⟨_, rfl⟩
  rw [h101] at bn92
  try rw [h101]
  have HX102 := Lib.hid bn92
  clear h90 ba91 bn92 h101
  have c103 : U88.cell? ⟨g89, 0, none⟩ = some (.slice By 0 cy) := HX102.out.cell 0
  have c104 : U88.cell? ⟨g89, 1, none⟩ = some (.int .u64 4) := HX102.out.cell 1
  have l105 : g89 < U88.heap.size := HX102.out.lt
  go_wp2_with fail
  clear c103 c104 l105
  obtain ⟨U106, h107⟩ : ∃ U, U88.alloc (.cells #[.int .i64 1, .int .i64 0, .int .i64 2, .int .i64 0, .int .i64 3, .int .i64 0] 56) = U := ⟨_, rfl⟩
  have ba108 : Below U88.heap.size U88 U106 := by rw [← h107]; exact (Below.refl _ _).alloc (Nat.le_refl _) _
  have sl109 : Sl U106 (some ⟨U88.heap.size, 0, none⟩) ((l3 : List Pr).flatMap Pr.cells) := by rw [← h107]; exact sl_new1 _ _ _
  try rw [h107]
  have HF112 := Lib.hid (bext HF93.out ba108)
  have HX113 := Lib.hid (HX94.out.below ba108 HX94.out.lt)
  have HX114 := Lib.hid (HX95.out.below ba108 HX95.out.lt)
  have HX115 := Lib.hid (HX102.out.below ba108 HX102.out.lt)
  have HY116 := Lib.hid (tab_below' HY96.out ba108)
  have HY117 := Lib.hid (HY97.out.below ba108)
  have HY118 := Lib.hid (RunsAt.below HY98.out ba108)
  have HY119 := Lib.hid (RunsAt.below HY99.out ba108)
  have HY120 := Lib.hid (RunsAt.below HY100.out ba108)
  clear HF93 HX94 HX95 HX102 HY96 HY97 HY98 HY99 HY100
  obtain ⟨g110, h111⟩ : ∃ g, U88.heap.size = g := ⟨_, rfl⟩
  rw [h111] at sl109
  try rw [h111]
  have HY121 := Lib.hid (sl109)
  clear h107 ba108 sl109 h111
  have hof := fun W hB hA => ofR_any By (some ⟨g110, 0, none⟩) Ry l3 cy 3 4 W hB (by rw [KLy.out]; decide) KSy.out.1 hA (by decide)
  rw [KNy.out, KLy.out] at hof
  have hq : ofLr [] l3 = z3 := rfl
  rw [hq, nmN, nmE] at hof
  clear hq
  have HOF := Lib.hid hof
  clear hof
  refine (HOF.out _ HY120.out HY121.out).mono ?_
  rintro e w122 ⟨Bz, cz, Rz, rfl, hlz, hoz, hb123⟩
  have hnz : Rz.length = 3 := by rw [rs_len hlz]; exact z3_len
  rw [hnz]
  have KNz := Lib.hid hnz
  have KLz := Lib.hid hlz
  have KSz := Lib.hid (rs_of (T := 10) hlz (by rw [z3_tot]; decide) (by rw [z3_len]; decide))
  have hrz := hoz.runsAt
  clear hnz hlz hoz
  have HF124 := Lib.hid (bext HF112.out hb123)
  have HX125 := Lib.hid (HX113.out.below hb123 HX113.out.lt)
  have HX126 := Lib.hid (HX114.out.below hb123 HX114.out.lt)
  have HX127 := Lib.hid (HX115.out.below hb123 HX115.out.lt)
  have HY128 := Lib.hid (tab_below' HY116.out hb123)
  have HY129 := Lib.hid (HY121.out.below hb123)
  have HY130 := Lib.hid (RunsAt.below HY118.out hb123)
  have HY131 := Lib.hid (RunsAt.below HY119.out hb123)
  have HY132 := Lib.hid (RunsAt.below HY120.out hb123)
  clear HF112 HX113 HX114 HX115 HY116 HY121 HY118 HY119 HY120
  clear hb123
  clear HOF
  have HY133 := Lib.hid (hrz)
  clear hrz
  go_upto_region 5 with fail
  obtain ⟨U134, h136⟩ : ∃ U, w122.alloc (.cells #[.slice Bz 3 cz, .int .u64 7] 25) = U := ⟨_, rfl⟩
  have ba137 : Below w122.heap.size w122 U134 := by rw [← h136]; exact (Below.refl _ _).alloc (Nat.le_refl _) _
  have bn138 : Blk U134 w122.heap.size 25 #[.slice Bz 3 cz, .int .u64 7] := by rw [← h136]; exact Blk.new _ _ _
  try rw [h136]
  have HF139 := Lib.hid (bext HF124.out ba137)
  have HX140 := Lib.hid (HX125.out.below ba137 HX125.out.lt)
  have HX141 := Lib.hid (HX126.out.below ba137 HX126.out.lt)
  have HX142 := Lib.hid (HX127.out.below ba137 HX127.out.lt)
  have HY143 := Lib.hid (tab_below' HY128.out ba137)
  have HY144 := Lib.hid (HY129.out.below ba137)
  have HY145 := Lib.hid (RunsAt.below HY130.out ba137)
  have HY146 := Lib.hid (RunsAt.below HY131.out ba137)
  have HY147 := Lib.hid (RunsAt.below HY132.out ba137)
  have HY148 := Lib.hid (RunsAt.below HY133.out ba137)
  clear HF124 HX125 HX126 HX127 HY128 HY129 HY130 HY131 HY132 HY133
  obtain ⟨g135, h149⟩ : ∃ g, w122.heap.size = g := ⟨_, rfl⟩
  rw [h149] at bn138
  try rw [h149]
  have HX150 := Lib.hid bn138
  clear h136 ba137 bn138 h149
  have hcn := fun W hW => countR_any Bz Rz cz 7 W hW (by rw [KLz.out, z3_tot]; decide) KSz.out.1
  rw [KNz.out, KLz.out, z3_chk.1, z3_chk.2, z3_tot, if_pos rfl] at hcn
  have HCN := Lib.hid hcn
  clear hcn
  have c151 : U134.cell? ⟨g135, 0, none⟩ = some (.slice Bz 3 cz) := HX150.out.cell 0
  have c152 : U134.cell? ⟨g135, 1, none⟩ = some (.int .u64 7) := HX150.out.cell 1
  have l153 : g135 < U134.heap.size := HX150.out.lt
  go_wp2_with fail
  clear c151 c152 l153
  refine (HCN.out _ HY148.out).mono ?_
  rintro e w154 ⟨rfl, hb155⟩
  have HF156 := Lib.hid (bext HF139.out hb155)
  have HX157 := Lib.hid (HX140.out.below hb155 HX140.out.lt)
  have HX158 := Lib.hid (HX141.out.below hb155 HX141.out.lt)
  have HX159 := Lib.hid (HX142.out.below hb155 HX142.out.lt)
  have HX160 := Lib.hid (HX150.out.below hb155 HX150.out.lt)
  have HY161 := Lib.hid (tab_below' HY143.out hb155)
  have HY162 := Lib.hid (HY144.out.below hb155)
  have HY163 := Lib.hid (RunsAt.below HY145.out hb155)
  have HY164 := Lib.hid (RunsAt.below HY146.out hb155)
  have HY165 := Lib.hid (RunsAt.below HY147.out hb155)
  have HY166 := Lib.hid (RunsAt.below HY148.out hb155)
  clear HF139 HX140 HX141 HX142 HX150 HY143 HY144 HY145 HY146 HY147 HY148
  clear hb155
  clear HCN
  have c167 : w154.cell? ⟨g89, 0, none⟩ = some (.slice By 0 cy) := HX159.out.cell 0
  have c168 : w154.cell? ⟨g89, 1, none⟩ = some (.int .u64 4) := HX159.out.cell 1
  have l169 : g89 < w154.heap.size := HX159.out.lt
  go_wp2_with fail
  clear c167 c168 l169
  obtain ⟨U170, h171⟩ : ∃ U, w154.alloc (.cells #[.int .i64 1, .int .i64 0, .int .i64 1, .int .i64 0] 56) = U := ⟨_, rfl⟩
  have ba172 : Below w154.heap.size w154 U170 := by rw [← h171]; exact (Below.refl _ _).alloc (Nat.le_refl _) _
  have sl173 : Sl U170 (some ⟨w154.heap.size, 0, none⟩) (([⟨1, 0⟩, ⟨1, 0⟩] : List Pr).flatMap Pr.cells) := by rw [← h171]; exact sl_new1 _ _ _
  try rw [h171]
  have HF176 := Lib.hid (bext HF156.out ba172)
  have HX177 := Lib.hid (HX157.out.below ba172 HX157.out.lt)
  have HX178 := Lib.hid (HX158.out.below ba172 HX158.out.lt)
  have HX179 := Lib.hid (HX159.out.below ba172 HX159.out.lt)
  have HX180 := Lib.hid (HX160.out.below ba172 HX160.out.lt)
  have HY181 := Lib.hid (tab_below' HY161.out ba172)
  have HY182 := Lib.hid (HY162.out.below ba172)
  have HY183 := Lib.hid (RunsAt.below HY163.out ba172)
  have HY184 := Lib.hid (RunsAt.below HY164.out ba172)
  have HY185 := Lib.hid (RunsAt.below HY165.out ba172)
  have HY186 := Lib.hid (RunsAt.below HY166.out ba172)
  clear HF156 HX157 HX158 HX159 HX160 HY161 HY162 HY163 HY164 HY165 HY166
  obtain ⟨g174, h175⟩ : ∃ g, w154.heap.size = g := ⟨_, rfl⟩
  rw [h175] at sl173
  try rw [h175]
  have HY187 := Lib.hid (sl173)
  clear h171 ba172 sl173 h175
  have hof := fun W hB hA => ofR_any By (some ⟨g174, 0, none⟩) Ry [⟨1, 0⟩, ⟨1, 0⟩] cy 2 4 W hB (by rw [KLy.out]; decide) KSy.out.1 hA (by decide)
  rw [KNy.out, KLy.out] at hof
  rw [nm4.1, nm4.2.1, nm4.2.2] at hof
  have HOF := Lib.hid hof
  clear hof
  refine (HOF.out _ HY185.out HY187.out).mono ?_
  rintro e w188 ⟨Bv, cv, Rv, rfl, hlv, hov, hb189⟩
  have hnv : Rv.length = 0 := by rw [rs_len hlv]; rfl
  rw [hnv]
  have KNv := Lib.hid hnv
  have KLv := Lib.hid hlv
  have KSv := Lib.hid (rs_of (T := 10) hlv (by decide) (by decide))
  have hrv := hov.runsAt
  clear hnv hlv hov
  have HF190 := Lib.hid (bext HF176.out hb189)
  have HX191 := Lib.hid (HX177.out.below hb189 HX177.out.lt)
  have HX192 := Lib.hid (HX178.out.below hb189 HX178.out.lt)
  have HX193 := Lib.hid (HX179.out.below hb189 HX179.out.lt)
  have HX194 := Lib.hid (HX180.out.below hb189 HX180.out.lt)
  have HY195 := Lib.hid (tab_below' HY181.out hb189)
  have HY196 := Lib.hid (HY187.out.below hb189)
  have HY197 := Lib.hid (RunsAt.below HY183.out hb189)
  have HY198 := Lib.hid (RunsAt.below HY184.out hb189)
  have HY199 := Lib.hid (RunsAt.below HY185.out hb189)
  have HY200 := Lib.hid (RunsAt.below HY186.out hb189)
  clear HF176 HX177 HX178 HX179 HX180 HY181 HY187 HY183 HY184 HY185 HY186
  clear hb189
  clear HOF
  have HY201 := Lib.hid (hrv)
  clear hrv
  go_upto_region 7 with fail
  obtain ⟨U202, h204⟩ : ∃ U, w188.alloc (.cells #[.slice Bv 0 cv, .int .u64 0] 25) = U := ⟨_, rfl⟩
  have ba205 : Below w188.heap.size w188 U202 := by rw [← h204]; exact (Below.refl _ _).alloc (Nat.le_refl _) _
  have bn206 : Blk U202 w188.heap.size 25 #[.slice Bv 0 cv, .int .u64 0] := by rw [← h204]; exact Blk.new _ _ _
  try rw [h204]
  have HF207 := Lib.hid (bext HF190.out ba205)
  have HX208 := Lib.hid (HX191.out.below ba205 HX191.out.lt)
  have HX209 := Lib.hid (HX192.out.below ba205 HX192.out.lt)
  have HX210 := Lib.hid (HX193.out.below ba205 HX193.out.lt)
  have HX211 := Lib.hid (HX194.out.below ba205 HX194.out.lt)
  have HY212 := Lib.hid (tab_below' HY195.out ba205)
  have HY213 := Lib.hid (HY196.out.below ba205)
  have HY214 := Lib.hid (RunsAt.below HY197.out ba205)
  have HY215 := Lib.hid (RunsAt.below HY198.out ba205)
  have HY216 := Lib.hid (RunsAt.below HY199.out ba205)
  have HY217 := Lib.hid (RunsAt.below HY200.out ba205)
  have HY218 := Lib.hid (RunsAt.below HY201.out ba205)
  clear HF190 HX191 HX192 HX193 HX194 HY195 HY196 HY197 HY198 HY199 HY200 HY201
  obtain ⟨g203, h219⟩ : ∃ g, w188.heap.size = g := ⟨_, rfl⟩
  rw [h219] at bn206
  try rw [h219]
  have HX220 := Lib.hid bn206
  clear h204 ba205 bn206 h219
  have c221 : U202.cell? ⟨g135, 0, none⟩ = some (.slice Bz 3 cz) := HX211.out.cell 0
  have c222 : U202.cell? ⟨g135, 1, none⟩ = some (.int .u64 7) := HX211.out.cell 1
  have l223 : g135 < U202.heap.size := HX211.out.lt
  go_wp2_with fail
  clear c221 c222 l223
  obtain ⟨U224, h225⟩ : ∃ U, U202.alloc (.cells #[.int .i64 2, .int .i64 0, .bool true] 27) = U := ⟨_, rfl⟩
  have ba226 : Below U202.heap.size U202 U224 := by rw [← h225]; exact (Below.refl _ _).alloc (Nat.le_refl _) _
  have sl227 : Sl U224 (some ⟨U202.heap.size, 0, none⟩) (([k2] : List Ent).flatMap Ent.cells) := by rw [← h225]; exact sl_new1 _ _ _
  try rw [h225]
  have HF230 := Lib.hid (bext HF207.out ba226)
  have HX231 := Lib.hid (HX208.out.below ba226 HX208.out.lt)
  have HX232 := Lib.hid (HX209.out.below ba226 HX209.out.lt)
  have HX233 := Lib.hid (HX210.out.below ba226 HX210.out.lt)
  have HX234 := Lib.hid (HX211.out.below ba226 HX211.out.lt)
  have HX235 := Lib.hid (HX220.out.below ba226 HX220.out.lt)
  have HY236 := Lib.hid (tab_below' HY212.out ba226)
  have HY237 := Lib.hid (HY213.out.below ba226)
  have HY238 := Lib.hid (RunsAt.below HY214.out ba226)
  have HY239 := Lib.hid (RunsAt.below HY215.out ba226)
  have HY240 := Lib.hid (RunsAt.below HY216.out ba226)
  have HY241 := Lib.hid (RunsAt.below HY217.out ba226)
  have HY242 := Lib.hid (RunsAt.below HY218.out ba226)
  clear HF207 HX208 HX209 HX210 HX211 HX220 HY212 HY213 HY214 HY215 HY216 HY217 HY218
  obtain ⟨g228, h229⟩ : ∃ g, U202.heap.size = g := ⟨_, rfl⟩
  rw [h229] at sl227
  try rw [h229]
  have HY243 := Lib.hid (sl227)
  clear h225 ba226 sl227 h229
  have hlet := fun W hB hA => let_any Bz (some ⟨g228, 0, none⟩) Rz cz 1 7 [k2] W hB (by rw [KLz.out]; rw [z3_tot]; decide) KSz.out.1 hA (by decide)
  rw [KNz.out, KLz.out] at hlet
  rw [nm5] at hlet
  have HLET := Lib.hid hlet
  clear hlet
  refine (HLET.out _ HY241.out HY243.out).mono ?_
  rintro e w244 ⟨Bk, ck, Rk, hrk, hlk, hok, hb245⟩
  obtain rfl := hrk
  dsimp only at hlk
  have hnk : Rk.length = 3 := by rw [rs_len hlk]; (show a3.length = 3); unfold a3; rw [stand_len, if_neg (by simp), z3_len]; decide
  rw [hnk]
  have KNk := Lib.hid hnk
  have KLk := Lib.hid hlk
  have KSk := Lib.hid (rs_of (T := 10) hlk (by rw [a3_tot]; decide) (by (show a3.length ≤ 17); unfold a3; rw [stand_len, if_neg (by simp), z3_len]; decide))
  clear hnk hlk
  have HF246 := Lib.hid (bext HF230.out hb245)
  have HX247 := Lib.hid (HX231.out.below hb245 HX231.out.lt)
  have HX248 := Lib.hid (HX232.out.below hb245 HX232.out.lt)
  have HX249 := Lib.hid (HX233.out.below hb245 HX233.out.lt)
  have HX250 := Lib.hid (HX234.out.below hb245 HX234.out.lt)
  have HX251 := Lib.hid (HX235.out.below hb245 HX235.out.lt)
  have HY252 := Lib.hid (tab_below' HY236.out hb245)
  have HY253 := Lib.hid (HY243.out.below hb245)
  have HY254 := Lib.hid (RunsAt.below HY238.out hb245)
  have HY255 := Lib.hid (RunsAt.below HY239.out hb245)
  have HY256 := Lib.hid (RunsAt.below HY240.out hb245)
  have HY257 := Lib.hid (RunsAt.below HY241.out hb245)
  have HY258 := Lib.hid (RunsAt.below HY242.out hb245)
  clear HF230 HX231 HX232 HX233 HX234 HX235 HY236 HY243 HY238 HY239 HY240 HY241 HY242
  clear hb245
  clear HLET
  have HY259 := Lib.hid (hok)
  clear hok
  go_upto_region 8 with fail
  obtain ⟨U260, h262⟩ : ∃ U, w244.alloc (.cells #[.slice Bk 3 ck, .int .u64 8] 25) = U := ⟨_, rfl⟩
  have ba263 : Below w244.heap.size w244 U260 := by rw [← h262]; exact (Below.refl _ _).alloc (Nat.le_refl _) _
  have bn264 : Blk U260 w244.heap.size 25 #[.slice Bk 3 ck, .int .u64 8] := by rw [← h262]; exact Blk.new _ _ _
  try rw [h262]
  have HF265 := Lib.hid (bext HF246.out ba263)
  have HX266 := Lib.hid (HX247.out.below ba263 HX247.out.lt)
  have HX267 := Lib.hid (HX248.out.below ba263 HX248.out.lt)
  have HX268 := Lib.hid (HX249.out.below ba263 HX249.out.lt)
  have HX269 := Lib.hid (HX250.out.below ba263 HX250.out.lt)
  have HX270 := Lib.hid (HX251.out.below ba263 HX251.out.lt)
  have HY271 := Lib.hid (tab_below' HY252.out ba263)
  have HY272 := Lib.hid (HY253.out.below ba263)
  have HY273 := Lib.hid (RunsAt.below HY254.out ba263)
  have HY274 := Lib.hid (RunsAt.below HY255.out ba263)
  have HY275 := Lib.hid (RunsAt.below HY256.out ba263)
  have HY276 := Lib.hid (RunsAt.below HY257.out ba263)
  have HY277 := Lib.hid (RunsAt.below HY258.out ba263)
  have HY278 := Lib.hid (RunsAt.below HY259.out ba263)
  clear HF246 HX247 HX248 HX249 HX250 HX251 HY252 HY253 HY254 HY255 HY256 HY257 HY258 HY259
  obtain ⟨g261, h279⟩ : ∃ g, w244.heap.size = g := ⟨_, rfl⟩
  rw [h279] at bn264
  try rw [h279]
  have HX280 := Lib.hid bn264
  clear h262 ba263 bn264 h279
  have hgt := fun W hW hq => getR_any Bk Rk ck 8 2 W hW (by rw [KLk.out, a3_tot]; decide) KSk.out.1 hq
  rw [KNk.out, KLk.out, nm6.1, nm6.2.1] at hgt
  have HGT := Lib.hid hgt
  clear hgt
  have c281 : U260.cell? ⟨g261, 0, none⟩ = some (.slice Bk 3 ck) := HX280.out.cell 0
  have c282 : U260.cell? ⟨g261, 1, none⟩ = some (.int .u64 8) := HX280.out.cell 1
  have l283 : g261 < U260.heap.size := HX280.out.lt
  go_wp2_with fail
  clear c281 c282 l283
  refine (HGT.out _ HY278.out HY271.out).mono ?_
  rintro e w284 ⟨rfl, hb285⟩
  have HF286 := Lib.hid (bext HF265.out hb285)
  have HX287 := Lib.hid (HX266.out.below hb285 HX266.out.lt)
  have HX288 := Lib.hid (HX267.out.below hb285 HX267.out.lt)
  have HX289 := Lib.hid (HX268.out.below hb285 HX268.out.lt)
  have HX290 := Lib.hid (HX269.out.below hb285 HX269.out.lt)
  have HX291 := Lib.hid (HX270.out.below hb285 HX270.out.lt)
  have HX292 := Lib.hid (HX280.out.below hb285 HX280.out.lt)
  have HY293 := Lib.hid (tab_below' HY271.out hb285)
  have HY294 := Lib.hid (HY272.out.below hb285)
  have HY295 := Lib.hid (RunsAt.below HY273.out hb285)
  have HY296 := Lib.hid (RunsAt.below HY274.out hb285)
  have HY297 := Lib.hid (RunsAt.below HY275.out hb285)
  have HY298 := Lib.hid (RunsAt.below HY276.out hb285)
  have HY299 := Lib.hid (RunsAt.below HY277.out hb285)
  have HY300 := Lib.hid (RunsAt.below HY278.out hb285)
  clear HF265 HX266 HX267 HX268 HX269 HX270 HX280 HY271 HY272 HY273 HY274 HY275 HY276 HY277 HY278
  clear hb285
  clear HGT
  go_upto_region 9 with fail
  obtain ⟨U301, h303⟩ : ∃ U, w284.alloc (.cells #[.int .i64 k2.key, .int .i64 k2.val, .bool k2.dead] 27) = U := ⟨_, rfl⟩
  have ba304 : Below w284.heap.size w284 U301 := by rw [← h303]; exact (Below.refl _ _).alloc (Nat.le_refl _) _
  have bn305 : Blk U301 w284.heap.size 27 #[.int .i64 k2.key, .int .i64 k2.val, .bool k2.dead] := by rw [← h303]; exact Blk.new _ _ _
  try rw [h303]
  have HF306 := Lib.hid (bext HF286.out ba304)
  have HX307 := Lib.hid (HX287.out.below ba304 HX287.out.lt)
  have HX308 := Lib.hid (HX288.out.below ba304 HX288.out.lt)
  have HX309 := Lib.hid (HX289.out.below ba304 HX289.out.lt)
  have HX310 := Lib.hid (HX290.out.below ba304 HX290.out.lt)
  have HX311 := Lib.hid (HX291.out.below ba304 HX291.out.lt)
  have HX312 := Lib.hid (HX292.out.below ba304 HX292.out.lt)
  have HY313 := Lib.hid (tab_below' HY293.out ba304)
  have HY314 := Lib.hid (HY294.out.below ba304)
  have HY315 := Lib.hid (RunsAt.below HY295.out ba304)
  have HY316 := Lib.hid (RunsAt.below HY296.out ba304)
  have HY317 := Lib.hid (RunsAt.below HY297.out ba304)
  have HY318 := Lib.hid (RunsAt.below HY298.out ba304)
  have HY319 := Lib.hid (RunsAt.below HY299.out ba304)
  have HY320 := Lib.hid (RunsAt.below HY300.out ba304)
  clear HF286 HX287 HX288 HX289 HX290 HX291 HX292 HY293 HY294 HY295 HY296 HY297 HY298 HY299 HY300
  obtain ⟨g302, h321⟩ : ∃ g, w284.heap.size = g := ⟨_, rfl⟩
  rw [h321] at bn305
  try rw [h321]
  have HX322 := Lib.hid bn305
  clear h303 ba304 bn305 h321
  have hgt := fun W hW hq => getR_any Bk Rk ck 8 4 W hW (by rw [KLk.out, a3_tot]; decide) KSk.out.1 hq
  rw [KNk.out, KLk.out, nm6.2.2.1, nm6.2.2.2] at hgt
  have HGT := Lib.hid hgt
  clear hgt
  have c323 : U301.cell? ⟨g261, 0, none⟩ = some (.slice Bk 3 ck) := HX312.out.cell 0
  have c324 : U301.cell? ⟨g261, 1, none⟩ = some (.int .u64 8) := HX312.out.cell 1
  have l325 : g261 < U301.heap.size := HX312.out.lt
  go_wp2_with fail
  clear c323 c324 l325
  refine (HGT.out _ HY320.out HY313.out).mono ?_
  rintro e w326 ⟨rfl, hb327⟩
  have HF328 := Lib.hid (bext HF306.out hb327)
  have HX329 := Lib.hid (HX307.out.below hb327 HX307.out.lt)
  have HX330 := Lib.hid (HX308.out.below hb327 HX308.out.lt)
  have HX331 := Lib.hid (HX309.out.below hb327 HX309.out.lt)
  have HX332 := Lib.hid (HX310.out.below hb327 HX310.out.lt)
  have HX333 := Lib.hid (HX311.out.below hb327 HX311.out.lt)
  have HX334 := Lib.hid (HX312.out.below hb327 HX312.out.lt)
  have HX335 := Lib.hid (HX322.out.below hb327 HX322.out.lt)
  have HY336 := Lib.hid (tab_below' HY313.out hb327)
  have HY337 := Lib.hid (HY314.out.below hb327)
  have HY338 := Lib.hid (RunsAt.below HY315.out hb327)
  have HY339 := Lib.hid (RunsAt.below HY316.out hb327)
  have HY340 := Lib.hid (RunsAt.below HY317.out hb327)
  have HY341 := Lib.hid (RunsAt.below HY318.out hb327)
  have HY342 := Lib.hid (RunsAt.below HY319.out hb327)
  have HY343 := Lib.hid (RunsAt.below HY320.out hb327)
  clear HF306 HX307 HX308 HX309 HX310 HX311 HX312 HX322 HY313 HY314 HY315 HY316 HY317 HY318 HY319 HY320
  clear hb327
  clear HGT
  go_upto_region 10 with fail
  obtain ⟨U344, h346⟩ : ∃ U, w326.alloc (.cells #[.int .i64 zeroE.key, .int .i64 zeroE.val, .bool zeroE.dead] 27) = U := ⟨_, rfl⟩
  have ba347 : Below w326.heap.size w326 U344 := by rw [← h346]; exact (Below.refl _ _).alloc (Nat.le_refl _) _
  have bn348 : Blk U344 w326.heap.size 27 #[.int .i64 zeroE.key, .int .i64 zeroE.val, .bool zeroE.dead] := by rw [← h346]; exact Blk.new _ _ _
  try rw [h346]
  have HF349 := Lib.hid (bext HF328.out ba347)
  have HX350 := Lib.hid (HX329.out.below ba347 HX329.out.lt)
  have HX351 := Lib.hid (HX330.out.below ba347 HX330.out.lt)
  have HX352 := Lib.hid (HX331.out.below ba347 HX331.out.lt)
  have HX353 := Lib.hid (HX332.out.below ba347 HX332.out.lt)
  have HX354 := Lib.hid (HX333.out.below ba347 HX333.out.lt)
  have HX355 := Lib.hid (HX334.out.below ba347 HX334.out.lt)
  have HX356 := Lib.hid (HX335.out.below ba347 HX335.out.lt)
  have HY357 := Lib.hid (tab_below' HY336.out ba347)
  have HY358 := Lib.hid (HY337.out.below ba347)
  have HY359 := Lib.hid (RunsAt.below HY338.out ba347)
  have HY360 := Lib.hid (RunsAt.below HY339.out ba347)
  have HY361 := Lib.hid (RunsAt.below HY340.out ba347)
  have HY362 := Lib.hid (RunsAt.below HY341.out ba347)
  have HY363 := Lib.hid (RunsAt.below HY342.out ba347)
  have HY364 := Lib.hid (RunsAt.below HY343.out ba347)
  clear HF328 HX329 HX330 HX331 HX332 HX333 HX334 HX335 HY336 HY337 HY338 HY339 HY340 HY341 HY342 HY343
  obtain ⟨g345, h365⟩ : ∃ g, w326.heap.size = g := ⟨_, rfl⟩
  rw [h365] at bn348
  try rw [h365]
  have HX366 := Lib.hid bn348
  clear h346 ba347 bn348 h365
  go_wp2_with fail
  obtain ⟨U367, h368⟩ : ∃ U, U344.alloc (.cells #[.slice none 0 0] 61) = U := ⟨_, rfl⟩
  have ba369 : Below U344.heap.size U344 U367 := by rw [← h368]; exact (Below.refl _ _).alloc (Nat.le_refl _) _
  have sl370 : Sl U367 (some ⟨U344.heap.size, 0, none⟩) (([⟨[], none, 0⟩] : List Rm).map Rm.v) := by rw [← h368]; exact sl_new1 _ _ _
  try rw [h368]
  have HF373 := Lib.hid (bext HF349.out ba369)
  have HX374 := Lib.hid (HX350.out.below ba369 HX350.out.lt)
  have HX375 := Lib.hid (HX351.out.below ba369 HX351.out.lt)
  have HX376 := Lib.hid (HX352.out.below ba369 HX352.out.lt)
  have HX377 := Lib.hid (HX353.out.below ba369 HX353.out.lt)
  have HX378 := Lib.hid (HX354.out.below ba369 HX354.out.lt)
  have HX379 := Lib.hid (HX355.out.below ba369 HX355.out.lt)
  have HX380 := Lib.hid (HX356.out.below ba369 HX356.out.lt)
  have HX381 := Lib.hid (HX366.out.below ba369 HX366.out.lt)
  have HY382 := Lib.hid (tab_below' HY357.out ba369)
  have HY383 := Lib.hid (HY358.out.below ba369)
  have HY384 := Lib.hid (RunsAt.below HY359.out ba369)
  have HY385 := Lib.hid (RunsAt.below HY360.out ba369)
  have HY386 := Lib.hid (RunsAt.below HY361.out ba369)
  have HY387 := Lib.hid (RunsAt.below HY362.out ba369)
  have HY388 := Lib.hid (RunsAt.below HY363.out ba369)
  have HY389 := Lib.hid (RunsAt.below HY364.out ba369)
  clear HF349 HX350 HX351 HX352 HX353 HX354 HX355 HX356 HX366 HY357 HY358 HY359 HY360 HY361 HY362 HY363 HY364
  obtain ⟨g371, h372⟩ : ∃ g, U344.heap.size = g := ⟨_, rfl⟩
  rw [h372] at sl370
  try rw [h372]
  have HY390 := Lib.hid (sl370)
  clear h368 ba369 sl370 h372
  have hck := fun W hW => checkR_any (some ⟨g371, 0, none⟩) [⟨[], none, 0⟩] 1 0 W hW (by first | decide | simp [tot, lvs]) (by first | decide | simp)
  rw [show lvs [⟨[], none, 0⟩] = [[]] from rfl, bad1] at hck
  have HCK := Lib.hid hck
  clear hck
  refine (HCK.out _ (rungs_new _ HY390.out (fun r hr => by simp at hr; subst hr; exact ok_nil))).mono ?_
  rintro e w391 ⟨rfl, hb392⟩
  have HF393 := Lib.hid (bext HF373.out hb392)
  have HX394 := Lib.hid (HX374.out.below hb392 HX374.out.lt)
  have HX395 := Lib.hid (HX375.out.below hb392 HX375.out.lt)
  have HX396 := Lib.hid (HX376.out.below hb392 HX376.out.lt)
  have HX397 := Lib.hid (HX377.out.below hb392 HX377.out.lt)
  have HX398 := Lib.hid (HX378.out.below hb392 HX378.out.lt)
  have HX399 := Lib.hid (HX379.out.below hb392 HX379.out.lt)
  have HX400 := Lib.hid (HX380.out.below hb392 HX380.out.lt)
  have HX401 := Lib.hid (HX381.out.below hb392 HX381.out.lt)
  have HY402 := Lib.hid (tab_below' HY382.out hb392)
  have HY403 := Lib.hid (HY383.out.below hb392)
  have HY404 := Lib.hid (RunsAt.below HY384.out hb392)
  have HY405 := Lib.hid (RunsAt.below HY385.out hb392)
  have HY406 := Lib.hid (RunsAt.below HY386.out hb392)
  have HY407 := Lib.hid (RunsAt.below HY387.out hb392)
  have HY408 := Lib.hid (RunsAt.below HY388.out hb392)
  have HY409 := Lib.hid (RunsAt.below HY389.out hb392)
  have HY410 := Lib.hid (HY390.out.below hb392)
  clear HF373 HX374 HX375 HX376 HX377 HX378 HX379 HX380 HX381 HY382 HY383 HY384 HY385 HY386 HY387 HY388 HY389 HY390
  clear hb392
  clear HCK
  go_wp2_with fail
  obtain ⟨U411, h412⟩ : ∃ U, (w391.alloc (.cells #[.int .i64 0, .int .i64 0, .bool true] 27)).alloc (.cells #[.slice (some ⟨w391.heap.size, 0, none⟩) 1 1] 61) = U := ⟨_, rfl⟩
  have ba413 : Below w391.heap.size w391 U411 := by rw [← h412]; exact ((Below.refl _ _).alloc (Nat.le_refl _) _).alloc (by simp) _
  have sl414 : Sl U411 (some ⟨w391.heap.size, 0, none⟩) (([⟨0, 0, true⟩] : List Ent).flatMap Ent.cells) := by rw [← h412]; exact sl_old _ _ _ _
  have sl415 : Sl U411 (some ⟨w391.heap.size + 1, 0, none⟩) (([⟨[⟨0, 0, true⟩], (some ⟨w391.heap.size, 0, none⟩), 1⟩] : List Rm).map Rm.v) := by rw [← h412]; exact sl_new2 _ _ _ _
  try rw [h412]
  have HF420 := Lib.hid (bext HF393.out ba413)
  have HX421 := Lib.hid (HX394.out.below ba413 HX394.out.lt)
  have HX422 := Lib.hid (HX395.out.below ba413 HX395.out.lt)
  have HX423 := Lib.hid (HX396.out.below ba413 HX396.out.lt)
  have HX424 := Lib.hid (HX397.out.below ba413 HX397.out.lt)
  have HX425 := Lib.hid (HX398.out.below ba413 HX398.out.lt)
  have HX426 := Lib.hid (HX399.out.below ba413 HX399.out.lt)
  have HX427 := Lib.hid (HX400.out.below ba413 HX400.out.lt)
  have HX428 := Lib.hid (HX401.out.below ba413 HX401.out.lt)
  have HY429 := Lib.hid (tab_below' HY402.out ba413)
  have HY430 := Lib.hid (HY403.out.below ba413)
  have HY431 := Lib.hid (RunsAt.below HY404.out ba413)
  have HY432 := Lib.hid (RunsAt.below HY405.out ba413)
  have HY433 := Lib.hid (RunsAt.below HY406.out ba413)
  have HY434 := Lib.hid (RunsAt.below HY407.out ba413)
  have HY435 := Lib.hid (RunsAt.below HY408.out ba413)
  have HY436 := Lib.hid (RunsAt.below HY409.out ba413)
  have HY437 := Lib.hid (HY410.out.below ba413)
  clear HF393 HX394 HX395 HX396 HX397 HX398 HX399 HX400 HX401 HY402 HY403 HY404 HY405 HY406 HY407 HY408 HY409 HY410
  clear h412 ba413
  obtain ⟨g418, h419⟩ : ∃ g, w391.heap.size + 1 = g := ⟨_, rfl⟩
  rw [h419] at sl415
  try rw [h419]
  obtain ⟨g416, h417⟩ : ∃ g, w391.heap.size = g := ⟨_, rfl⟩
  rw [h417] at sl414
  rw [h417] at sl415
  try rw [h417]
  have HY438 := Lib.hid (sl414)
  have HY439 := Lib.hid (sl415)
  clear sl414 sl415 h417 h419
  have hck := fun W hW => checkR_any (some ⟨g418, 0, none⟩) [⟨[⟨0, 0, true⟩], (some ⟨g416, 0, none⟩), 1⟩] 1 0 W hW (by first | decide | simp [tot, lvs]) (by first | decide | simp)
  rw [show lvs [⟨[⟨0, 0, true⟩], (some ⟨g416, 0, none⟩), 1⟩] = [[⟨0, 0, true⟩]] from rfl, bad2] at hck
  have HCK := Lib.hid hck
  clear hck
  refine (HCK.out _ (rungs_new _ HY439.out (fun r hr => by simp at hr; subst hr; exact ⟨HY438.out, Nat.le_refl _, (by unfold maxLen; omega : 1 ≤ maxLen)⟩))).mono ?_
  rintro e w440 ⟨rfl, hb441⟩
  have HF442 := Lib.hid (bext HF420.out hb441)
  have HX443 := Lib.hid (HX421.out.below hb441 HX421.out.lt)
  have HX444 := Lib.hid (HX422.out.below hb441 HX422.out.lt)
  have HX445 := Lib.hid (HX423.out.below hb441 HX423.out.lt)
  have HX446 := Lib.hid (HX424.out.below hb441 HX424.out.lt)
  have HX447 := Lib.hid (HX425.out.below hb441 HX425.out.lt)
  have HX448 := Lib.hid (HX426.out.below hb441 HX426.out.lt)
  have HX449 := Lib.hid (HX427.out.below hb441 HX427.out.lt)
  have HX450 := Lib.hid (HX428.out.below hb441 HX428.out.lt)
  have HY451 := Lib.hid (tab_below' HY429.out hb441)
  have HY452 := Lib.hid (HY430.out.below hb441)
  have HY453 := Lib.hid (RunsAt.below HY431.out hb441)
  have HY454 := Lib.hid (RunsAt.below HY432.out hb441)
  have HY455 := Lib.hid (RunsAt.below HY433.out hb441)
  have HY456 := Lib.hid (RunsAt.below HY434.out hb441)
  have HY457 := Lib.hid (RunsAt.below HY435.out hb441)
  have HY458 := Lib.hid (RunsAt.below HY436.out hb441)
  have HY459 := Lib.hid (HY437.out.below hb441)
  have HY460 := Lib.hid (HY438.out.below hb441)
  have HY461 := Lib.hid (HY439.out.below hb441)
  clear HF420 HX421 HX422 HX423 HX424 HX425 HX426 HX427 HX428 HY429 HY430 HY431 HY432 HY433 HY434 HY435 HY436 HY437 HY438 HY439
  clear hb441
  clear HCK
  go_wp2_with fail
  obtain ⟨U462, h463⟩ : ∃ U, (w440.alloc (.cells #[.int .i64 0, .int .i64 0, .bool false] 27)).alloc (.cells #[.slice none 0 0, .slice (some ⟨w440.heap.size, 0, none⟩) 1 1] 61) = U := ⟨_, rfl⟩
  have ba464 : Below w440.heap.size w440 U462 := by rw [← h463]; exact ((Below.refl _ _).alloc (Nat.le_refl _) _).alloc (by simp) _
  have sl465 : Sl U462 (some ⟨w440.heap.size, 0, none⟩) (([⟨0, 0, false⟩] : List Ent).flatMap Ent.cells) := by rw [← h463]; exact sl_old _ _ _ _
  have sl466 : Sl U462 (some ⟨w440.heap.size + 1, 0, none⟩) (([⟨[], none, 0⟩, ⟨[⟨0, 0, false⟩], (some ⟨w440.heap.size, 0, none⟩), 1⟩] : List Rm).map Rm.v) := by rw [← h463]; exact sl_new2 _ _ _ _
  try rw [h463]
  have HF471 := Lib.hid (bext HF442.out ba464)
  have HX472 := Lib.hid (HX443.out.below ba464 HX443.out.lt)
  have HX473 := Lib.hid (HX444.out.below ba464 HX444.out.lt)
  have HX474 := Lib.hid (HX445.out.below ba464 HX445.out.lt)
  have HX475 := Lib.hid (HX446.out.below ba464 HX446.out.lt)
  have HX476 := Lib.hid (HX447.out.below ba464 HX447.out.lt)
  have HX477 := Lib.hid (HX448.out.below ba464 HX448.out.lt)
  have HX478 := Lib.hid (HX449.out.below ba464 HX449.out.lt)
  have HX479 := Lib.hid (HX450.out.below ba464 HX450.out.lt)
  have HY480 := Lib.hid (tab_below' HY451.out ba464)
  have HY481 := Lib.hid (HY452.out.below ba464)
  have HY482 := Lib.hid (RunsAt.below HY453.out ba464)
  have HY483 := Lib.hid (RunsAt.below HY454.out ba464)
  have HY484 := Lib.hid (RunsAt.below HY455.out ba464)
  have HY485 := Lib.hid (RunsAt.below HY456.out ba464)
  have HY486 := Lib.hid (RunsAt.below HY457.out ba464)
  have HY487 := Lib.hid (RunsAt.below HY458.out ba464)
  have HY488 := Lib.hid (HY459.out.below ba464)
  have HY489 := Lib.hid (HY460.out.below ba464)
  have HY490 := Lib.hid (HY461.out.below ba464)
  clear HF442 HX443 HX444 HX445 HX446 HX447 HX448 HX449 HX450 HY451 HY452 HY453 HY454 HY455 HY456 HY457 HY458 HY459 HY460 HY461
  clear h463 ba464
  obtain ⟨g469, h470⟩ : ∃ g, w440.heap.size + 1 = g := ⟨_, rfl⟩
  rw [h470] at sl466
  try rw [h470]
  obtain ⟨g467, h468⟩ : ∃ g, w440.heap.size = g := ⟨_, rfl⟩
  rw [h468] at sl465
  rw [h468] at sl466
  try rw [h468]
  have HY491 := Lib.hid (sl465)
  have HY492 := Lib.hid (sl466)
  clear sl465 sl466 h468 h470
  have hck := fun W hW => checkR_any (some ⟨g469, 0, none⟩) [⟨[], none, 0⟩, ⟨[⟨0, 0, false⟩], (some ⟨g467, 0, none⟩), 1⟩] 2 0 W hW (by first | decide | simp [tot, lvs]) (by first | decide | simp)
  rw [show lvs [⟨[], none, 0⟩, ⟨[⟨0, 0, false⟩], (some ⟨g467, 0, none⟩), 1⟩] = [[], [⟨0, 0, false⟩]] from rfl, bad3] at hck
  have HCK := Lib.hid hck
  clear hck
  refine (HCK.out _ (rungs_new _ HY492.out (fun r hr => by simp at hr; rcases hr with rfl | rfl; exact ok_nil; exact ⟨HY491.out, Nat.le_refl _, (by unfold maxLen; omega : 1 ≤ maxLen)⟩))).mono ?_
  rintro e w493 ⟨rfl, hb494⟩
  have HF495 := Lib.hid (bext HF471.out hb494)
  have HX496 := Lib.hid (HX472.out.below hb494 HX472.out.lt)
  have HX497 := Lib.hid (HX473.out.below hb494 HX473.out.lt)
  have HX498 := Lib.hid (HX474.out.below hb494 HX474.out.lt)
  have HX499 := Lib.hid (HX475.out.below hb494 HX475.out.lt)
  have HX500 := Lib.hid (HX476.out.below hb494 HX476.out.lt)
  have HX501 := Lib.hid (HX477.out.below hb494 HX477.out.lt)
  have HX502 := Lib.hid (HX478.out.below hb494 HX478.out.lt)
  have HX503 := Lib.hid (HX479.out.below hb494 HX479.out.lt)
  have HY504 := Lib.hid (tab_below' HY480.out hb494)
  have HY505 := Lib.hid (HY481.out.below hb494)
  have HY506 := Lib.hid (RunsAt.below HY482.out hb494)
  have HY507 := Lib.hid (RunsAt.below HY483.out hb494)
  have HY508 := Lib.hid (RunsAt.below HY484.out hb494)
  have HY509 := Lib.hid (RunsAt.below HY485.out hb494)
  have HY510 := Lib.hid (RunsAt.below HY486.out hb494)
  have HY511 := Lib.hid (RunsAt.below HY487.out hb494)
  have HY512 := Lib.hid (HY488.out.below hb494)
  have HY513 := Lib.hid (HY489.out.below hb494)
  have HY514 := Lib.hid (HY490.out.below hb494)
  have HY515 := Lib.hid (HY491.out.below hb494)
  have HY516 := Lib.hid (HY492.out.below hb494)
  clear HF471 HX472 HX473 HX474 HX475 HX476 HX477 HX478 HX479 HY480 HY481 HY482 HY483 HY484 HY485 HY486 HY487 HY488 HY489 HY490 HY491 HY492
  clear hb494
  clear HCK
  have hck := fun W hW => checkR_any none [] 0 0 W hW (by first | decide | simp [tot, lvs]) (by first | decide | simp)
  rw [show lvs [] = [] from rfl, good0] at hck
  have HCK := Lib.hid hck
  clear hck
  go_wp2_with fail
  refine (HCK.out _ (OwnRs.nil _ 0).runsAt).mono ?_
  rintro e w517 ⟨rfl, hb518⟩
  have HF519 := Lib.hid (bext HF495.out hb518)
  have HX520 := Lib.hid (HX496.out.below hb518 HX496.out.lt)
  have HX521 := Lib.hid (HX497.out.below hb518 HX497.out.lt)
  have HX522 := Lib.hid (HX498.out.below hb518 HX498.out.lt)
  have HX523 := Lib.hid (HX499.out.below hb518 HX499.out.lt)
  have HX524 := Lib.hid (HX500.out.below hb518 HX500.out.lt)
  have HX525 := Lib.hid (HX501.out.below hb518 HX501.out.lt)
  have HX526 := Lib.hid (HX502.out.below hb518 HX502.out.lt)
  have HX527 := Lib.hid (HX503.out.below hb518 HX503.out.lt)
  have HY528 := Lib.hid (tab_below' HY504.out hb518)
  have HY529 := Lib.hid (HY505.out.below hb518)
  have HY530 := Lib.hid (RunsAt.below HY506.out hb518)
  have HY531 := Lib.hid (RunsAt.below HY507.out hb518)
  have HY532 := Lib.hid (RunsAt.below HY508.out hb518)
  have HY533 := Lib.hid (RunsAt.below HY509.out hb518)
  have HY534 := Lib.hid (RunsAt.below HY510.out hb518)
  have HY535 := Lib.hid (RunsAt.below HY511.out hb518)
  have HY536 := Lib.hid (HY512.out.below hb518)
  have HY537 := Lib.hid (HY513.out.below hb518)
  have HY538 := Lib.hid (HY514.out.below hb518)
  have HY539 := Lib.hid (HY515.out.below hb518)
  have HY540 := Lib.hid (HY516.out.below hb518)
  clear HF495 HX496 HX497 HX498 HX499 HX500 HX501 HX502 HX503 HY504 HY505 HY506 HY507 HY508 HY509 HY510 HY511 HY512 HY513 HY514 HY515 HY516
  clear hb518
  clear HCK
  go_wp2_with fail
  refine (alive26_any _).mono ?_
  rintro e w541 ⟨rfl, hb542⟩
  have HF543 := Lib.hid (bext HF519.out hb542)
  have HX544 := Lib.hid (HX520.out.below hb542 HX520.out.lt)
  have HX545 := Lib.hid (HX521.out.below hb542 HX521.out.lt)
  have HX546 := Lib.hid (HX522.out.below hb542 HX522.out.lt)
  have HX547 := Lib.hid (HX523.out.below hb542 HX523.out.lt)
  have HX548 := Lib.hid (HX524.out.below hb542 HX524.out.lt)
  have HX549 := Lib.hid (HX525.out.below hb542 HX525.out.lt)
  have HX550 := Lib.hid (HX526.out.below hb542 HX526.out.lt)
  have HX551 := Lib.hid (HX527.out.below hb542 HX527.out.lt)
  have HY552 := Lib.hid (tab_below' HY528.out hb542)
  have HY553 := Lib.hid (HY529.out.below hb542)
  have HY554 := Lib.hid (RunsAt.below HY530.out hb542)
  have HY555 := Lib.hid (RunsAt.below HY531.out hb542)
  have HY556 := Lib.hid (RunsAt.below HY532.out hb542)
  have HY557 := Lib.hid (RunsAt.below HY533.out hb542)
  have HY558 := Lib.hid (RunsAt.below HY534.out hb542)
  have HY559 := Lib.hid (RunsAt.below HY535.out hb542)
  have HY560 := Lib.hid (HY536.out.below hb542)
  have HY561 := Lib.hid (HY537.out.below hb542)
  have HY562 := Lib.hid (HY538.out.below hb542)
  have HY563 := Lib.hid (HY539.out.below hb542)
  have HY564 := Lib.hid (HY540.out.below hb542)
  clear HF519 HX520 HX521 HX522 HX523 HX524 HX525 HX526 HX527 HY528 HY529 HY530 HY531 HY532 HY533 HY534 HY535 HY536 HY537 HY538 HY539 HY540
  clear hb542
  have c565 : w541.cell? ⟨g18, 0, none⟩ = some (.slice Ba 0 ca) := HX544.out.cell 0
  have c566 : w541.cell? ⟨g18, 1, none⟩ = some (.int .u64 0) := HX544.out.cell 1
  have l567 : g18 < w541.heap.size := HX544.out.lt
  have c568 : w541.cell? ⟨g89, 0, none⟩ = some (.slice By 0 cy) := HX546.out.cell 0
  have c569 : w541.cell? ⟨g89, 1, none⟩ = some (.int .u64 4) := HX546.out.cell 1
  have l570 : g89 < w541.heap.size := HX546.out.lt
  have c571 : w541.cell? ⟨g135, 0, none⟩ = some (.slice Bz 3 cz) := HX547.out.cell 0
  have c572 : w541.cell? ⟨g135, 1, none⟩ = some (.int .u64 7) := HX547.out.cell 1
  have l573 : g135 < w541.heap.size := HX547.out.lt
  have c574 : w541.cell? ⟨g302, 0, none⟩ = some (.int .i64 k2.key) := HX550.out.cell 0
  have c575 : w541.cell? ⟨g302, 1, none⟩ = some (.int .i64 k2.val) := HX550.out.cell 1
  have c576 : w541.cell? ⟨g302, 2, none⟩ = some (.bool k2.dead) := HX550.out.cell 2
  have l577 : g302 < w541.heap.size := HX550.out.lt
  go_wp2_with fail
  go_ret
  refine ⟨?_, HF543.out⟩
  rfl
end Go.Proofs.YthdcllnmnmemdaaDoor

namespace Go.Proofs.YthdcllnmnmemdaaDoor
open Go Go.ChangeShapes Go.WideShapes Go.ChangeAt Go.RowKit
set_option maxRecDepth 100000

theorem rungsNames_contract (H : Type) (enc : TypeId × Value → H) (W : World) (base : Nat) (args : Array Value) (ds gs : List (DataW H)) (before : List MemPlace)
    (hval0 : ∀ (j : Nat) t v, Tryd.f6.params[j]? = some t → args[j]? = some v → Value.okWide Tryd.prog W .any base t v)
    (hW : DataW.Whole enc Tryd.prog Tryd.f6.params.toList Rows.rungsNamesSpec.vars false W args.toList ds gs before) (hL : laidMetH Tryd.prog Rows.rungsNamesRow.laid W) :
    Calls Tryd.prog 6 args W fun e W' => ∃ v, e = .returned v ∧ Rows.rungsNamesSpec.post enc Tryd.prog Tryd.f6 false true false false W args v W' := by
  have hval : ∀ (j : Nat) t v, Tryd.f6.params[j]? = some t → args[j]? = some v → Value.okWide Tryd.prog W .any base t v := hval0
  have hT := tab_at hL
  have hW' := hW
  obtain ⟨p, q, hA0, hV, rfl, hfz, hnd⟩ := hW
  have hA : DataW.TrodAll enc Tryd.prog W 0 (fun _ => true) true Tryd.f6.params.toList args.toList ds p := hA0
  rw [Tryd.params6] at hA hval
  obtain ⟨hargs, rfl, rfl⟩ := trodAll_nil hA
  obtain rfl : args = #[] := by cases args; simp_all
  obtain ⟨rfl, rfl⟩ := trodVars_none hV

  refine (rungsNames_any W hT).mono fun e W' ⟨he, hb⟩ => ?_
  subst he
  exact ⟨_, rfl, law_post (tb := 4) laidOut (by intro t ht; rw [Tryd.params6] at ht; simp at ht) rfl hW' rfl rfl rfl (by kernel_rfl) Tryd.underlying4 hb⟩

theorem rungsNames_met (os : Os) : laidMet Tryd.prog Rows.rungsNamesRow.laid ((laidWorld os).forCall (fun _ _ => 0) ⟨#[], #[], []⟩).memory :=
  laidMet_of_run' 8 (by kernel_rfl) (by kernel_rfl)
theorem rungsNames_reads (os : Os) {H : Type} (enc : TypeId × Value → H) : ∃ places, DataW.whole enc Tryd.prog ((laidWorld os).forCall (fun _ _ => 0) ⟨#[], #[], []⟩).memory Tryd.f6.params.toList Rows.rungsNamesSpec.vars false (#[] : Array Value).toList 8 = some ([], [], places) :=
  ⟨[], by kernel_rfl⟩
theorem rungsNames_lifted (os : Os) (started : os.Started) (H : Type) (enc : TypeId × Value → H) (F : Stop.Interp) :
    ReturnsInHanded {} Tryd.checked os 6 .any ((OpenSpec.ofChange Rows.rungsNamesSpec).preRow enc Tryd.prog Tryd.f6 Rows.rungsNamesRow.domain false Rows.rungsNamesRow.laid) (((OpenSpec.ofChange Rows.rungsNamesSpec).at F).post enc Tryd.prog Tryd.f6 false true false false) := by
  obtain ⟨places, hx⟩ := rungsNames_reads os enc
  refine returnsInHanded_of_row (C := Tryd.checked) (s := OpenSpec.ofChange Rows.rungsNamesSpec) own started (by kernel_rfl) Tryd.func6
    (witness_row_at (enc := enc) (C := Tryd.checked) false (laidWorld os) #[] rfl (by kernel_rfl) (by kernel_rfl) (by kernel_rfl)
      (OpenSpec.preRow_of_cond 8 hx (by kernel_rfl) (fun k hk => by cases hk) (by kernel_rfl) (rungsNames_met os))) ?_
  intro W base args ds gs before hval hW _ _ _ hL _ _
  exact rungsNames_contract H enc W base args ds gs before hval hW hL
theorem rungsNames_said : Rows.RungsNamesSaid :=
  OpenClaim.holds_of_cond 6 Tryd.f6 rfl rfl rfl rfl rfl rfl rfl ⟨rfl, rfl, rfl, rfl, rfl⟩ rfl rfl rfl rfl rfl (by kernel_rfl) Tryd.func6 (by kernel_rfl)
    (of_decide_eq_true (by kernel_rfl)) (by unfold Func.isWrapper; first | (rw [if_pos (by decide +kernel)]; kernel_rfl) | (rw [if_neg (by decide +kernel)]; exact ⟨rfl, rfl⟩))
    (fun os started H enc _ F => by rw [OpenClaim.pre_eq_preRow]; exact rungsNames_lifted os started H enc F)
theorem rungsNames_plain (f : FuncId) (fn : Func) (hf : Tryd.pinned.checked.prog.funcNamed "shelfmark/shelfmarklaw26.RungsNames" = some f) (hfn : Tryd.pinned.checked.prog.funcs[f]? = some fn) :
    false = Tryd.pinned.checked.prog.looks [] ∧ ∀ (j : Nat) t, fn.params[j]? = some t → Tryd.pinned.checked.prog.wantsStandIn t = false := by
  obtain rfl : f = 6 := Option.some.inj ((show Tryd.prog.funcNamed "shelfmark/shelfmarklaw26.RungsNames" = some 6 by kernel_rfl).symm.trans hf) |>.symm
  obtain rfl : fn = Tryd.f6 := (Option.some.inj (Tryd.func6.symm.trans hfn)).symm
  refine ⟨by kernel_rfl, fun j t ht => ?_⟩
  rw [Tryd.params6] at ht
  simp at ht

/-- the card -/
theorem rungsNames_card : Rows.RungsNamesCardSaid :=
  Claim7.holds_tied_plain_at .later [] _ _ _ _ rungsNames_said (fun _ h => by cases h) (by kernel_rfl) (fun _ h => by cases h) rungsNames_row_tie rfl ⟨rfl, rfl⟩ (by kernel_rfl) rfl rungsNames_plain (by kernel_rfl)
end Go.Proofs.YthdcllnmnmemdaaDoor
