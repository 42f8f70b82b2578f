/- The law RungsPairs: for every levels, key and pairs it returns true; its arguments stay as they were. As a card: math/bits' tables read as their initialisers lay them; no further condition. -/
import Derived.Test.YthdcllnmnmemdaaDoorWb16
import Derived.Test.YthdcllnmnmemdaaDoorWb13
import Derived.Test.YthdcllnmnmemdaaDoorWb3
import Derived.BigQuiet
import Derived.Test.YthdcllnmnmemdaaDoorWb17
/- The law RungsPairs: for every levels, key and pairs it returns true; its arguments stay as they were. -/
namespace Go.Proofs.YthdcllnmnmemdaaDoor
open Go Go.RowKit
set_option maxRecDepth 100000
set_option maxHeartbeats 8000000 in
theorem rungsPairs_any (B A : Option Addr) (Rs : List Rm) (c cq : Nat) (n : Int) (key : Int) (l : List Pr) (w : World) (hB : RunsAt w B Rs) (hA : Sl w A (l.flatMap Pr.cells)) (hTb : TabAt 1 Lib.deBruijn64tab w) :
    Calls Tryd.prog 5 #[.agg #[.slice B Rs.length c, .int .u64 n], .int .i64 key, .slice A l.length cq] w fun r w' => r = .returned (.bool true) ∧ Below w.heap.size w w' := by
  have HB0 := Lib.hid hB
  have HA0 := Lib.hid hA
  have HT0 := Lib.hid hTb
  clear hB hA hTb
  go_enter Tryd.func5, Tryd.ntmps5
  have HF := Lib.hid (Below.refl w.heap.size w)
  have HY1 := Lib.hid (HB0.out)
  have HY2 := Lib.hid (HT0.out)
  have HY3 := Lib.hid (HA0.out)
  go_upto_region 1 with fail
  obtain ⟨U4, h5⟩ : ∃ U, w.alloc (.cells #[.slice B Rs.length c, .int .u64 n] 25) = U := ⟨_, rfl⟩
  have ba6 : Below w.heap.size w U4 := by rw [← h5]; exact (Below.refl _ _).alloc (by first | (simp; done) | (simp; omega)) _
  have bn7 : Blk U4 (w.heap.size) 25 #[.slice B Rs.length c, .int .u64 n] := by
    rw [← h5]
    have hq := (Blk.new w 25 #[.slice B Rs.length c, .int .u64 n])
    exact hq
  try rw [h5]
  have HF8 := Lib.hid (bext HF.out ba6)
  have HY9 := Lib.hid (RunsAt.below HY1.out ba6)
  have HY10 := Lib.hid (tab_below' HY2.out ba6)
  have HY11 := Lib.hid (HY3.out.below ba6)
  clear HF HY1 HY2 HY3
  obtain ⟨g12, h13⟩ : ∃ g, (w.heap.size) = g := ⟨_, rfl⟩
  rw [h13] at bn7
  try rw [h13]
  have HX14 := Lib.hid bn7
  clear bn7 h13
  clear h5 ba6
  go_wp2_with fail
  refine (alive26_any _).mono ?_
  rintro e w15 ⟨rfl, hb16⟩
  have HF17 := Lib.hid (bext HF8.out hb16)
  have HX18 := Lib.hid (HX14.out.below hb16 HX14.out.lt)
  have HY19 := Lib.hid (RunsAt.below HY9.out hb16)
  have HY20 := Lib.hid (tab_below' HY10.out hb16)
  have HY21 := Lib.hid (HY11.out.below hb16)
  clear HF8 HX14 HY9 HY10 HY11
  clear hb16
  have c22 : w15.cell? ⟨g12, 0, none⟩ = some (.slice B Rs.length c) := HX18.out.cell 0
  have c23 : w15.cell? ⟨g12, 1, none⟩ = some (.int .u64 n) := HX18.out.cell 1
  have l24 : g12 < w15.heap.size := HX18.out.lt
  go_wp2_with fail
  clear c22 c23 l24
  refine (great26_any B Rs c 300 n _ HY19.out (by omega)).mono ?_
  rintro e w25 ⟨G, rfl, hG, hb26⟩
  have HF27 := Lib.hid (bext HF17.out hb26)
  have HX28 := Lib.hid (HX18.out.below hb26 HX18.out.lt)
  have HY29 := Lib.hid (RunsAt.below HY19.out hb26)
  have HY30 := Lib.hid (tab_below' HY20.out hb26)
  have HY31 := Lib.hid (HY21.out.below hb26)
  clear HF17 HX18 HY19 HY20 HY21
  clear hb26
  cases G with
  | true =>
    clear hG
    go_wp2
    go_ret
    exact ⟨rfl, HF27.out⟩
  | false =>
  have hG2 := hG rfl
  clear hG
  have hT3 : tot (lvs Rs) ≤ 300 := by omega
  have hR3 : Rs.length ≤ 300 := by omega
  clear hG2
  by_cases hl : l.length > 300
  · have g1 : (300 : Int) < (l.length : Int) := by omega
    go_wp2
    go_ret
    exact ⟨rfl, HF27.out⟩
  have g1 : ¬ (300 : Int) < (l.length : Int) := by omega
  have hl3 : l.length ≤ 300 := by omega
  obtain ⟨E, hE⟩ : ∃ L, chkR (lvs Rs) = L := ⟨_, rfl⟩
  obtain ⟨P, hP⟩ : ∃ L, prR (lvs Rs) = L := ⟨_, rfl⟩
  obtain ⟨x1, hx1⟩ : ∃ x, gxR (lvs Rs) key = x := ⟨_, rfl⟩
  obtain ⟨e1, he1⟩ : ∃ x, geR (lvs Rs) key = x := ⟨_, rfl⟩
  obtain ⟨LO, hLO⟩ : ∃ L, ofLr (lvs Rs) l = L := ⟨_, rfl⟩
  obtain ⟨NO, hNO⟩ : ∃ L, ofNr (lvs Rs) n l = L := ⟨_, rfl⟩
  obtain ⟨EO, hEO⟩ : ∃ L, ofEr (lvs Rs) l = L := ⟨_, rfl⟩
  have HBAD := Lib.hid (show E ≠ 0 → P = [] ∧ e1 = E ∧ EO = E from fun h => by
    have h0 : ¬ chkR (lvs Rs) = 0 := by rw [hE]; exact h
    exact ⟨by rw [← hP]; exact prR_bad h0, by rw [← he1, (gR_bad key h0).2, hE], by rw [← hEO, of_err h0, hE]⟩)
  have HMEM := Lib.hid (show E = 0 → decide ((⟨key, x1.val⟩ : Pr) ∈ P) = (decide (e1 = 0) && !x1.dead) from fun h => by
    have h1 := prR_mem (hE.trans h) key
    unfold isB at h1
    rw [hx1, he1, hP] at h1
    exact h1)
  have HPL := Lib.hid (show P.length ≤ 300 from by
    rw [← hP]
    by_cases h : chkR (lvs Rs) = 0
    · rw [prR_len h]; exact Nat.le_trans allL_le hT3
    · rw [prR_bad h]; simp)
  have HNO := Lib.hid (show EO ≠ 0 → LO = [] from fun h => by rw [← hLO]; unfold ofLr; rw [if_neg (by rw [hEO]; exact h)])
  have HOK := Lib.hid (show EO = 0 → chkR LO = 0 ∧ prR LO = l ∧ IntKind.u64.wrap (n + (l.length : Int)) = NO from fun h => by
    have h1 := of_pairs (hEO.trans h)
    rw [hLO] at h1
    refine ⟨h1.1, h1.2, ?_⟩
    rw [← hNO]; unfold ofNr; rw [if_pos (hEO.trans h)])
  have HPR := Lib.hid (show ∀ W, RunsAt W B Rs → Calls Tryd.prog 17 #[.agg #[.slice B Rs.length c, .int .u64 n]] W (GivesPrs P E W) from fun W hW => by
    have h8 := pairsR_any B Rs c n W hW (by omega) (by omega)
    rw [hE, hP] at h8
    exact h8)
  have HGT := Lib.hid (show ∀ W, RunsAt W B Rs → TabAt 1 Lib.deBruijn64tab W → Calls Tryd.prog 13 #[.agg #[.slice B Rs.length c, .int .u64 n], .int .i64 key] W (GivesX x1 e1 W) from fun W hW hq => by
    have h8 := getR_any B Rs c n key W hW (by omega) (by omega) hq
    rw [hx1, he1] at h8
    exact h8)
  have HOF := Lib.hid (show ∀ W, RunsAt W B Rs → Sl W A (l.flatMap Pr.cells) → Calls Tryd.prog 27 #[.agg #[.slice B Rs.length c, .int .u64 n], .slice A l.length cq] W (GivesRgE LO NO EO W) from fun W hW hq => by
    have h8 := ofR_any B A Rs l c cq n W hW (by omega) (by omega) hq (by omega)
    rw [hLO, hNO, hEO] at h8
    exact h8)
  clear hE hP hx1 he1 hLO hNO hEO hT3 hR3 hl
  have c32 : w25.cell? ⟨g12, 0, none⟩ = some (.slice B Rs.length c) := HX28.out.cell 0
  have c33 : w25.cell? ⟨g12, 1, none⟩ = some (.int .u64 n) := HX28.out.cell 1
  have l34 : g12 < w25.heap.size := HX28.out.lt
  go_wp2_with fail
  clear c32 c33 l34
  refine (HPR.out _ HY29.out).mono ?_
  rintro e w35 ⟨A2, c2, rfl, ho2, hb36⟩
  have HF37 := Lib.hid (bext HF27.out hb36)
  have HX38 := Lib.hid (HX28.out.below hb36 HX28.out.lt)
  have HY39 := Lib.hid (RunsAt.below HY29.out hb36)
  have HY40 := Lib.hid (tab_below' HY30.out hb36)
  have HY41 := Lib.hid (HY31.out.below hb36)
  clear HF27 HX28 HY29 HY30 HY31
  clear hb36
  have HY42 := Lib.hid (own_sl ho2)
  clear ho2 g1
  have c43 : w35.cell? ⟨g12, 0, none⟩ = some (.slice B Rs.length c) := HX38.out.cell 0
  have c44 : w35.cell? ⟨g12, 1, none⟩ = some (.int .u64 n) := HX38.out.cell 1
  have l45 : g12 < w35.heap.size := HX38.out.lt
  go_wp2_with fail
  clear c43 c44 l45
  refine (HGT.out _ HY39.out HY40.out).mono ?_
  rintro e w46 ⟨rfl, hb47⟩
  have HF48 := Lib.hid (bext HF37.out hb47)
  have HX49 := Lib.hid (HX38.out.below hb47 HX38.out.lt)
  have HY50 := Lib.hid (RunsAt.below HY39.out hb47)
  have HY51 := Lib.hid (tab_below' HY40.out hb47)
  have HY52 := Lib.hid (HY41.out.below hb47)
  have HY53 := Lib.hid (HY42.out.below hb47)
  clear HF37 HX38 HY39 HY40 HY41 HY42
  clear hb47
  go_upto_region 6 with fail
  obtain ⟨U54, h56⟩ : ∃ U, w46.alloc (.cells #[.int .i64 x1.key, .int .i64 x1.val, .bool x1.dead] 27) = U := ⟨_, rfl⟩
  have ba57 : Below w46.heap.size w46 U54 := by rw [← h56]; exact (Below.refl _ _).alloc (Nat.le_refl _) _
  have bn58 : Blk U54 w46.heap.size 27 #[.int .i64 x1.key, .int .i64 x1.val, .bool x1.dead] := by rw [← h56]; exact Blk.new _ _ _
  try rw [h56]
  have HF59 := Lib.hid (bext HF48.out ba57)
  have HX60 := Lib.hid (HX49.out.below ba57 HX49.out.lt)
  have HY61 := Lib.hid (RunsAt.below HY50.out ba57)
  have HY62 := Lib.hid (tab_below' HY51.out ba57)
  have HY63 := Lib.hid (HY52.out.below ba57)
  have HY64 := Lib.hid (HY53.out.below ba57)
  clear HF48 HX49 HY50 HY51 HY52 HY53
  obtain ⟨g55, h65⟩ : ∃ g, w46.heap.size = g := ⟨_, rfl⟩
  rw [h65] at bn58
  try rw [h65]
  have HX66 := Lib.hid bn58
  clear h56 ba57 bn58 h65
  have c67 : U54.cell? ⟨g12, 0, none⟩ = some (.slice B Rs.length c) := HX60.out.cell 0
  have c68 : U54.cell? ⟨g12, 1, none⟩ = some (.int .u64 n) := HX60.out.cell 1
  have l69 : g12 < U54.heap.size := HX60.out.lt
  go_wp2_with fail
  clear c67 c68 l69
  refine (HOF.out _ HY61.out HY63.out).mono ?_
  rintro e w70 ⟨B3, c3, R3, rfl, hl4, ho4, hb71⟩
  have HO4 := Lib.hid ho4.runsAt
  have HL4 := Lib.hid hl4
  obtain ⟨N3, hN3⟩ : ∃ N, R3.length = N := ⟨_, rfl⟩
  rw [hN3]
  have HN3 := Lib.hid hN3
  clear hl4 ho4 hN3
  have HF72 := Lib.hid (bext HF59.out hb71)
  have HX73 := Lib.hid (HX60.out.below hb71 HX60.out.lt)
  have HX74 := Lib.hid (HX66.out.below hb71 HX66.out.lt)
  have HY75 := Lib.hid (RunsAt.below HY61.out hb71)
  have HY76 := Lib.hid (tab_below' HY62.out hb71)
  have HY77 := Lib.hid (HY63.out.below hb71)
  have HY78 := Lib.hid (HY64.out.below hb71)
  clear HF59 HX60 HX66 HY61 HY62 HY63 HY64
  clear hb71
  have HY79 := Lib.hid (HO4.out)
  go_upto_region 7 with fail
  obtain ⟨U80, h82⟩ : ∃ U, w70.alloc (.cells #[.slice B3 N3 c3, .int .u64 NO] 25) = U := ⟨_, rfl⟩
  have ba83 : Below w70.heap.size w70 U80 := by rw [← h82]; exact (Below.refl _ _).alloc (Nat.le_refl _) _
  have bn84 : Blk U80 w70.heap.size 25 #[.slice B3 N3 c3, .int .u64 NO] := by rw [← h82]; exact Blk.new _ _ _
  try rw [h82]
  have HF85 := Lib.hid (bext HF72.out ba83)
  have HX86 := Lib.hid (HX73.out.below ba83 HX73.out.lt)
  have HX87 := Lib.hid (HX74.out.below ba83 HX74.out.lt)
  have HY88 := Lib.hid (RunsAt.below HY75.out ba83)
  have HY89 := Lib.hid (tab_below' HY76.out ba83)
  have HY90 := Lib.hid (HY77.out.below ba83)
  have HY91 := Lib.hid (HY78.out.below ba83)
  have HY92 := Lib.hid (RunsAt.below HY79.out ba83)
  clear HF72 HX73 HX74 HY75 HY76 HY77 HY78 HY79
  obtain ⟨g81, h93⟩ : ∃ g, w70.heap.size = g := ⟨_, rfl⟩
  rw [h93] at bn84
  try rw [h93]
  have HX94 := Lib.hid bn84
  clear h82 ba83 bn84 h93
  by_cases hE0 : E = 0
  case neg =>
    obtain ⟨h4, h5, h6⟩ := HBAD.out hE0
    subst h5 h6
    have h1 : (EO != 0) = true := by simpa using hE0
    clear hE0 h4
    go_wp2_with fail
    go_ret
    refine ⟨?_, HF85.out⟩
    rfl
  case pos =>
  subst hE0
  clear HBAD
  obtain ⟨q, hq⟩ : ∃ q : Pr, (⟨key, x1.val⟩ : Pr) = q := ⟨_, rfl⟩
  have HQ := Lib.hid hq
  have HM2 := Lib.hid (HMEM.out rfl)
  clear hq HMEM
  go_wp2_with fail
  go_loopw [14, 15] (fun v i wr => ∃ k : Nat, k ≤ P.length ∧ i = .int .i64 k ∧ v = .bool (decide (q ∈ P.take k)) ∧ Below U80.heap.size U80 wr) (fun _ i _ => P.length - (intOf i).toNat)
  case atStart => exact ⟨0, Nat.zero_le _, rfl, by simp, Below.refl _ _⟩
  case round =>
    obtain ⟨k, hk, rfl, rfl, hb⟩ := hrel
    by_cases hlt : k < P.length
    case pos =>
      obtain ⟨b, off, rfl, hbl, c1', c2'⟩ := HY91.out.prB hb k hlt
      have by_ := HX87.out.below hb HX87.out.lt
      have cy : wr.cell? ⟨g55, 1, none⟩ = some (.int .i64 x1.val) := by_.cell 1
      have hs := met_succ hlt q
      obtain ⟨p, hp⟩ : ∃ p, P[k]'hlt = p := ⟨_, rfl⟩
      rw [hp] at c1' c2' hs
      have i0 : (0 : Int) ≤ (k : Int) := by omega
      have i1 : (k : Int) < (P.length : Int) := by omega
      have hpp := fun w => run_eql_pr p ⟨key, x1.val⟩ w
      dsimp only at hpp
      rw [HQ.out] at hpp
      have HB := Lib.hid hb
      have hmx := HPL.out
      clear hp hb by_
      cases hd : decide (q ∈ P.take k)
      all_goals
        rw [hd] at hs
        have HS := Lib.hid hs
        clear hs hd
        go_wp2_with fail
        go_region
        all_goals
          go_wp2
          go_roundw
          case rel => exact ⟨k + 1, by omega, by go_num, by rw [HS.out]; rfl, HB.out.drew⟩
          case measure => simp [intOf]; omega
    case neg =>
    have hkm : P.take k = P := List.take_of_length_le (by omega)
    rw [hkm]
    have hm2 := HM2.out
    rw [HQ.out] at hm2
    rw [hm2]
    clear hkm hk hm2
    have HF95 := Lib.hid (bext HF85.out hb)
    have HX96 := Lib.hid (HX86.out.below hb HX86.out.lt)
    have HX97 := Lib.hid (HX87.out.below hb HX87.out.lt)
    have HX98 := Lib.hid (HX94.out.below hb HX94.out.lt)
    have HY99 := Lib.hid (RunsAt.below HY88.out hb)
    have HY100 := Lib.hid (tab_below' HY89.out hb)
    have HY101 := Lib.hid (HY90.out.below hb)
    have HY102 := Lib.hid (HY91.out.below hb)
    have HY103 := Lib.hid (RunsAt.below HY92.out hb)
    clear HF85 HX86 HX87 HX94 HY88 HY89 HY90 HY91 HY92
    clear hb
    have c104 : wr.cell? ⟨g55, 0, none⟩ = some (.int .i64 x1.key) := HX97.out.cell 0
    have c105 : wr.cell? ⟨g55, 1, none⟩ = some (.int .i64 x1.val) := HX97.out.cell 1
    have c106 : wr.cell? ⟨g55, 2, none⟩ = some (.bool x1.dead) := HX97.out.cell 2
    have l107 : g55 < wr.heap.size := HX97.out.lt
    by_cases h1 : e1 = 0
    · subst h1
      cases hd : x1.dead
      · simp only [decide_true, Bool.not_false, Bool.and_true]
        go_upto_region 16 with fail
        by_cases hO0 : EO = 0
        case neg =>
          have h1 : (EO != 0) = true := by simpa using hO0
          have hz : N3 = 0 := by rw [← HN3.out, rs_len HL4.out, HNO.out hO0]; rfl
          subst hz
          have cn : wr.cell? ⟨g81, 0, none⟩ = some (.slice B3 0 c3) := HX98.out.cell 0
          clear hO0
          go_wp2_with fail
          go_ret
          refine ⟨?_, HF95.out⟩
          rfl
        case pos =>
        subst hO0
        obtain ⟨hck, hpl, hwn⟩ := HOK.out rfl
        have hmy := chkR_zero.1 hck
        have HZS := Lib.hid (show tot (lvs R3) ≤ 1000000 ∧ R3.length ≤ 1000000 by rw [HL4.out, rs_len HL4.out]; have := hmy.size; have := hmy.len; omega)
        have HP3 := Lib.hid (show ∀ W, RunsAt W B3 R3 → Calls Tryd.prog 17 #[.agg #[.slice B3 N3 c3, .int .u64 NO]] W (GivesPrs l 0 W) from fun W hW => by
          have h8 := pairsR_any B3 R3 c3 NO W hW HZS.out.1 HZS.out.2
          rw [HL4.out, hck, hpl, HN3.out] at h8
          exact h8)
        have HC3 := Lib.hid (show ∀ W, RunsAt W B3 R3 → Calls Tryd.prog 14 #[.agg #[.slice B3 N3 c3, .int .u64 NO]] W (fun r w' => r = .returned (.int .i64 0) ∧ Below W.heap.size W w') from fun W hW => by
          have h8 := checkR_any B3 R3 c3 NO W hW HZS.out.1 HZS.out.2
          rw [HL4.out, hck, HN3.out] at h8
          exact h8)
        have HWN := Lib.hid hwn
        clear hck hpl hwn hmy
        have c108 : wr.cell? ⟨g81, 0, none⟩ = some (.slice B3 N3 c3) := HX98.out.cell 0
        have c109 : wr.cell? ⟨g81, 1, none⟩ = some (.int .u64 NO) := HX98.out.cell 1
        have l110 : g81 < wr.heap.size := HX98.out.lt
        go_wp2_with fail
        clear c108 c109 l110
        refine (HP3.out _ HY103.out).mono ?_
        rintro e w111 ⟨A4, c4, rfl, ho5, hb112⟩
        have HF113 := Lib.hid (bext HF95.out hb112)
        have HX114 := Lib.hid (HX96.out.below hb112 HX96.out.lt)
        have HX115 := Lib.hid (HX97.out.below hb112 HX97.out.lt)
        have HX116 := Lib.hid (HX98.out.below hb112 HX98.out.lt)
        have HY117 := Lib.hid (RunsAt.below HY99.out hb112)
        have HY118 := Lib.hid (tab_below' HY100.out hb112)
        have HY119 := Lib.hid (HY101.out.below hb112)
        have HY120 := Lib.hid (HY102.out.below hb112)
        have HY121 := Lib.hid (RunsAt.below HY103.out hb112)
        clear HF95 HX96 HX97 HX98 HY99 HY100 HY101 HY102 HY103
        clear hb112
        have HY122 := Lib.hid (own_sl ho5)
        clear ho5
        go_wp2_with fail
        refine (samePairs_any A4 A l l c4 cq _ HY122.out HY119.out (by omega) (by omega)).mono ?_
        rw [decide_eq_true rfl]
        rintro e w123 ⟨rfl, hb124⟩
        have HF125 := Lib.hid (bext HF113.out hb124)
        have HX126 := Lib.hid (HX114.out.below hb124 HX114.out.lt)
        have HX127 := Lib.hid (HX115.out.below hb124 HX115.out.lt)
        have HX128 := Lib.hid (HX116.out.below hb124 HX116.out.lt)
        have HY129 := Lib.hid (RunsAt.below HY117.out hb124)
        have HY130 := Lib.hid (tab_below' HY118.out hb124)
        have HY131 := Lib.hid (HY119.out.below hb124)
        have HY132 := Lib.hid (HY120.out.below hb124)
        have HY133 := Lib.hid (RunsAt.below HY121.out hb124)
        have HY134 := Lib.hid (HY122.out.below hb124)
        clear HF113 HX114 HX115 HX116 HY117 HY118 HY119 HY120 HY121 HY122
        clear hb124
        have c135 : w123.cell? ⟨g81, 0, none⟩ = some (.slice B3 N3 c3) := HX128.out.cell 0
        have c136 : w123.cell? ⟨g81, 1, none⟩ = some (.int .u64 NO) := HX128.out.cell 1
        have l137 : g81 < w123.heap.size := HX128.out.lt
        go_wp2_with fail
        clear c135 c136 l137
        refine (HC3.out _ HY133.out).mono ?_
        rintro e w138 ⟨rfl, hb139⟩
        have HF140 := Lib.hid (bext HF125.out hb139)
        have HX141 := Lib.hid (HX126.out.below hb139 HX126.out.lt)
        have HX142 := Lib.hid (HX127.out.below hb139 HX127.out.lt)
        have HX143 := Lib.hid (HX128.out.below hb139 HX128.out.lt)
        have HY144 := Lib.hid (RunsAt.below HY129.out hb139)
        have HY145 := Lib.hid (tab_below' HY130.out hb139)
        have HY146 := Lib.hid (HY131.out.below hb139)
        have HY147 := Lib.hid (HY132.out.below hb139)
        have HY148 := Lib.hid (RunsAt.below HY133.out hb139)
        have HY149 := Lib.hid (HY134.out.below hb139)
        clear HF125 HX126 HX127 HX128 HY129 HY130 HY131 HY132 HY133 HY134
        clear hb139
        have c150 : w138.cell? ⟨g81, 0, none⟩ = some (.slice B3 N3 c3) := HX143.out.cell 0
        have c151 : w138.cell? ⟨g81, 1, none⟩ = some (.int .u64 NO) := HX143.out.cell 1
        have l152 : g81 < w138.heap.size := HX143.out.lt
        have c153 : w138.cell? ⟨g12, 0, none⟩ = some (.slice B Rs.length c) := HX141.out.cell 0
        have c154 : w138.cell? ⟨g12, 1, none⟩ = some (.int .u64 n) := HX141.out.cell 1
        have l155 : g12 < w138.heap.size := HX141.out.lt
        have hwl : IntKind.u64.wrap (l.length : Int) = (l.length : Int) := IntWalk.u64_in _ (by omega)
        have hwn := HWN.out
        go_wp2_with fail
        go_ret
        refine ⟨?_, HF140.out⟩
        rfl
      · simp only [decide_true, Bool.not_true, Bool.and_false]
        go_upto_region 16 with fail
        by_cases hO0 : EO = 0
        case neg =>
          have h1 : (EO != 0) = true := by simpa using hO0
          have hz : N3 = 0 := by rw [← HN3.out, rs_len HL4.out, HNO.out hO0]; rfl
          subst hz
          have cn : wr.cell? ⟨g81, 0, none⟩ = some (.slice B3 0 c3) := HX98.out.cell 0
          clear hO0
          go_wp2_with fail
          go_ret
          refine ⟨?_, HF95.out⟩
          rfl
        case pos =>
        subst hO0
        obtain ⟨hck, hpl, hwn⟩ := HOK.out rfl
        have hmy := chkR_zero.1 hck
        have HZS := Lib.hid (show tot (lvs R3) ≤ 1000000 ∧ R3.length ≤ 1000000 by rw [HL4.out, rs_len HL4.out]; have := hmy.size; have := hmy.len; omega)
        have HP3 := Lib.hid (show ∀ W, RunsAt W B3 R3 → Calls Tryd.prog 17 #[.agg #[.slice B3 N3 c3, .int .u64 NO]] W (GivesPrs l 0 W) from fun W hW => by
          have h8 := pairsR_any B3 R3 c3 NO W hW HZS.out.1 HZS.out.2
          rw [HL4.out, hck, hpl, HN3.out] at h8
          exact h8)
        have HC3 := Lib.hid (show ∀ W, RunsAt W B3 R3 → Calls Tryd.prog 14 #[.agg #[.slice B3 N3 c3, .int .u64 NO]] W (fun r w' => r = .returned (.int .i64 0) ∧ Below W.heap.size W w') from fun W hW => by
          have h8 := checkR_any B3 R3 c3 NO W hW HZS.out.1 HZS.out.2
          rw [HL4.out, hck, HN3.out] at h8
          exact h8)
        have HWN := Lib.hid hwn
        clear hck hpl hwn hmy
        have c108 : wr.cell? ⟨g81, 0, none⟩ = some (.slice B3 N3 c3) := HX98.out.cell 0
        have c109 : wr.cell? ⟨g81, 1, none⟩ = some (.int .u64 NO) := HX98.out.cell 1
        have l110 : g81 < wr.heap.size := HX98.out.lt
        go_wp2_with fail
        clear c108 c109 l110
        refine (HP3.out _ HY103.out).mono ?_
        rintro e w111 ⟨A4, c4, rfl, ho5, hb112⟩
        have HF113 := Lib.hid (bext HF95.out hb112)
        have HX114 := Lib.hid (HX96.out.below hb112 HX96.out.lt)
        have HX115 := Lib.hid (HX97.out.below hb112 HX97.out.lt)
        have HX116 := Lib.hid (HX98.out.below hb112 HX98.out.lt)
        have HY117 := Lib.hid (RunsAt.below HY99.out hb112)
        have HY118 := Lib.hid (tab_below' HY100.out hb112)
        have HY119 := Lib.hid (HY101.out.below hb112)
        have HY120 := Lib.hid (HY102.out.below hb112)
        have HY121 := Lib.hid (RunsAt.below HY103.out hb112)
        clear HF95 HX96 HX97 HX98 HY99 HY100 HY101 HY102 HY103
        clear hb112
        have HY122 := Lib.hid (own_sl ho5)
        clear ho5
        go_wp2_with fail
        refine (samePairs_any A4 A l l c4 cq _ HY122.out HY119.out (by omega) (by omega)).mono ?_
        rw [decide_eq_true rfl]
        rintro e w123 ⟨rfl, hb124⟩
        have HF125 := Lib.hid (bext HF113.out hb124)
        have HX126 := Lib.hid (HX114.out.below hb124 HX114.out.lt)
        have HX127 := Lib.hid (HX115.out.below hb124 HX115.out.lt)
        have HX128 := Lib.hid (HX116.out.below hb124 HX116.out.lt)
        have HY129 := Lib.hid (RunsAt.below HY117.out hb124)
        have HY130 := Lib.hid (tab_below' HY118.out hb124)
        have HY131 := Lib.hid (HY119.out.below hb124)
        have HY132 := Lib.hid (HY120.out.below hb124)
        have HY133 := Lib.hid (RunsAt.below HY121.out hb124)
        have HY134 := Lib.hid (HY122.out.below hb124)
        clear HF113 HX114 HX115 HX116 HY117 HY118 HY119 HY120 HY121 HY122
        clear hb124
        have c135 : w123.cell? ⟨g81, 0, none⟩ = some (.slice B3 N3 c3) := HX128.out.cell 0
        have c136 : w123.cell? ⟨g81, 1, none⟩ = some (.int .u64 NO) := HX128.out.cell 1
        have l137 : g81 < w123.heap.size := HX128.out.lt
        go_wp2_with fail
        clear c135 c136 l137
        refine (HC3.out _ HY133.out).mono ?_
        rintro e w138 ⟨rfl, hb139⟩
        have HF140 := Lib.hid (bext HF125.out hb139)
        have HX141 := Lib.hid (HX126.out.below hb139 HX126.out.lt)
        have HX142 := Lib.hid (HX127.out.below hb139 HX127.out.lt)
        have HX143 := Lib.hid (HX128.out.below hb139 HX128.out.lt)
        have HY144 := Lib.hid (RunsAt.below HY129.out hb139)
        have HY145 := Lib.hid (tab_below' HY130.out hb139)
        have HY146 := Lib.hid (HY131.out.below hb139)
        have HY147 := Lib.hid (HY132.out.below hb139)
        have HY148 := Lib.hid (RunsAt.below HY133.out hb139)
        have HY149 := Lib.hid (HY134.out.below hb139)
        clear HF125 HX126 HX127 HX128 HY129 HY130 HY131 HY132 HY133 HY134
        clear hb139
        have c150 : w138.cell? ⟨g81, 0, none⟩ = some (.slice B3 N3 c3) := HX143.out.cell 0
        have c151 : w138.cell? ⟨g81, 1, none⟩ = some (.int .u64 NO) := HX143.out.cell 1
        have l152 : g81 < w138.heap.size := HX143.out.lt
        have c153 : w138.cell? ⟨g12, 0, none⟩ = some (.slice B Rs.length c) := HX141.out.cell 0
        have c154 : w138.cell? ⟨g12, 1, none⟩ = some (.int .u64 n) := HX141.out.cell 1
        have l155 : g12 < w138.heap.size := HX141.out.lt
        have hwl : IntKind.u64.wrap (l.length : Int) = (l.length : Int) := IntWalk.u64_in _ (by omega)
        have hwn := HWN.out
        go_wp2_with fail
        go_ret
        refine ⟨?_, HF140.out⟩
        rfl
    · have p1 : (e1 == 0) = false := by simpa using h1
      rw [show (decide (e1 = 0) && !x1.dead) = false by rw [decide_eq_false h1]; rfl]
      clear h1
      go_upto_region 16 with fail
      by_cases hO0 : EO = 0
      case neg =>
        have h1 : (EO != 0) = true := by simpa using hO0
        have hz : N3 = 0 := by rw [← HN3.out, rs_len HL4.out, HNO.out hO0]; rfl
        subst hz
        have cn : wr.cell? ⟨g81, 0, none⟩ = some (.slice B3 0 c3) := HX98.out.cell 0
        clear hO0
        go_wp2_with fail
        go_ret
        refine ⟨?_, HF95.out⟩
        rfl
      case pos =>
      subst hO0
      obtain ⟨hck, hpl, hwn⟩ := HOK.out rfl
      have hmy := chkR_zero.1 hck
      have HZS := Lib.hid (show tot (lvs R3) ≤ 1000000 ∧ R3.length ≤ 1000000 by rw [HL4.out, rs_len HL4.out]; have := hmy.size; have := hmy.len; omega)
      have HP3 := Lib.hid (show ∀ W, RunsAt W B3 R3 → Calls Tryd.prog 17 #[.agg #[.slice B3 N3 c3, .int .u64 NO]] W (GivesPrs l 0 W) from fun W hW => by
        have h8 := pairsR_any B3 R3 c3 NO W hW HZS.out.1 HZS.out.2
        rw [HL4.out, hck, hpl, HN3.out] at h8
        exact h8)
      have HC3 := Lib.hid (show ∀ W, RunsAt W B3 R3 → Calls Tryd.prog 14 #[.agg #[.slice B3 N3 c3, .int .u64 NO]] W (fun r w' => r = .returned (.int .i64 0) ∧ Below W.heap.size W w') from fun W hW => by
        have h8 := checkR_any B3 R3 c3 NO W hW HZS.out.1 HZS.out.2
        rw [HL4.out, hck, HN3.out] at h8
        exact h8)
      have HWN := Lib.hid hwn
      clear hck hpl hwn hmy
      have c108 : wr.cell? ⟨g81, 0, none⟩ = some (.slice B3 N3 c3) := HX98.out.cell 0
      have c109 : wr.cell? ⟨g81, 1, none⟩ = some (.int .u64 NO) := HX98.out.cell 1
      have l110 : g81 < wr.heap.size := HX98.out.lt
      go_wp2_with fail
      clear c108 c109 l110
      refine (HP3.out _ HY103.out).mono ?_
      rintro e w111 ⟨A4, c4, rfl, ho5, hb112⟩
      have HF113 := Lib.hid (bext HF95.out hb112)
      have HX114 := Lib.hid (HX96.out.below hb112 HX96.out.lt)
      have HX115 := Lib.hid (HX97.out.below hb112 HX97.out.lt)
      have HX116 := Lib.hid (HX98.out.below hb112 HX98.out.lt)
      have HY117 := Lib.hid (RunsAt.below HY99.out hb112)
      have HY118 := Lib.hid (tab_below' HY100.out hb112)
      have HY119 := Lib.hid (HY101.out.below hb112)
      have HY120 := Lib.hid (HY102.out.below hb112)
      have HY121 := Lib.hid (RunsAt.below HY103.out hb112)
      clear HF95 HX96 HX97 HX98 HY99 HY100 HY101 HY102 HY103
      clear hb112
      have HY122 := Lib.hid (own_sl ho5)
      clear ho5
      go_wp2_with fail
      refine (samePairs_any A4 A l l c4 cq _ HY122.out HY119.out (by omega) (by omega)).mono ?_
      rw [decide_eq_true rfl]
      rintro e w123 ⟨rfl, hb124⟩
      have HF125 := Lib.hid (bext HF113.out hb124)
      have HX126 := Lib.hid (HX114.out.below hb124 HX114.out.lt)
      have HX127 := Lib.hid (HX115.out.below hb124 HX115.out.lt)
      have HX128 := Lib.hid (HX116.out.below hb124 HX116.out.lt)
      have HY129 := Lib.hid (RunsAt.below HY117.out hb124)
      have HY130 := Lib.hid (tab_below' HY118.out hb124)
      have HY131 := Lib.hid (HY119.out.below hb124)
      have HY132 := Lib.hid (HY120.out.below hb124)
      have HY133 := Lib.hid (RunsAt.below HY121.out hb124)
      have HY134 := Lib.hid (HY122.out.below hb124)
      clear HF113 HX114 HX115 HX116 HY117 HY118 HY119 HY120 HY121 HY122
      clear hb124
      have c135 : w123.cell? ⟨g81, 0, none⟩ = some (.slice B3 N3 c3) := HX128.out.cell 0
      have c136 : w123.cell? ⟨g81, 1, none⟩ = some (.int .u64 NO) := HX128.out.cell 1
      have l137 : g81 < w123.heap.size := HX128.out.lt
      go_wp2_with fail
      clear c135 c136 l137
      refine (HC3.out _ HY133.out).mono ?_
      rintro e w138 ⟨rfl, hb139⟩
      have HF140 := Lib.hid (bext HF125.out hb139)
      have HX141 := Lib.hid (HX126.out.below hb139 HX126.out.lt)
      have HX142 := Lib.hid (HX127.out.below hb139 HX127.out.lt)
      have HX143 := Lib.hid (HX128.out.below hb139 HX128.out.lt)
      have HY144 := Lib.hid (RunsAt.below HY129.out hb139)
      have HY145 := Lib.hid (tab_below' HY130.out hb139)
      have HY146 := Lib.hid (HY131.out.below hb139)
      have HY147 := Lib.hid (HY132.out.below hb139)
      have HY148 := Lib.hid (RunsAt.below HY133.out hb139)
      have HY149 := Lib.hid (HY134.out.below hb139)
      clear HF125 HX126 HX127 HX128 HY129 HY130 HY131 HY132 HY133 HY134
      clear hb139
      have c150 : w138.cell? ⟨g81, 0, none⟩ = some (.slice B3 N3 c3) := HX143.out.cell 0
      have c151 : w138.cell? ⟨g81, 1, none⟩ = some (.int .u64 NO) := HX143.out.cell 1
      have l152 : g81 < w138.heap.size := HX143.out.lt
      have c153 : w138.cell? ⟨g12, 0, none⟩ = some (.slice B Rs.length c) := HX141.out.cell 0
      have c154 : w138.cell? ⟨g12, 1, none⟩ = some (.int .u64 n) := HX141.out.cell 1
      have l155 : g12 < w138.heap.size := HX141.out.lt
      have hwl : IntKind.u64.wrap (l.length : Int) = (l.length : Int) := IntWalk.u64_in _ (by omega)
      have hwn := HWN.out
      go_wp2_with fail
      go_ret
      refine ⟨?_, HF140.out⟩
      rfl
end Go.Proofs.YthdcllnmnmemdaaDoor

namespace Go.Proofs.YthdcllnmnmemdaaDoor
open Go Go.ChangeShapes Go.WideShapes Go.ChangeAt Go.RowKit
set_option maxRecDepth 100000

theorem rungsPairs_contract (H : Type) (enc : TypeId × Value → H) (W : World) (base : Nat) (args : Array Value) (ds gs : List (DataW H)) (before : List MemPlace)
    (hval0 : ∀ (j : Nat) t v, Tryd.f5.params[j]? = some t → args[j]? = some v → Value.okWide Tryd.prog W .any base t v)
    (hW : DataW.Whole enc Tryd.prog Tryd.f5.params.toList Rows.rungsPairsSpec.vars false W args.toList ds gs before) (hL : laidMetH Tryd.prog Rows.rungsPairsRow.laid W) :
    Calls Tryd.prog 5 args W fun e W' => ∃ v, e = .returned v ∧ Rows.rungsPairsSpec.post enc Tryd.prog Tryd.f5 false true false false W args v W' := by
  have hval : ∀ (j : Nat) t v, Tryd.f5.params[j]? = some t → args[j]? = some v → Value.okWide Tryd.prog W .any base t v := hval0
  have hT := tab_at hL
  have hW' := hW
  obtain ⟨p, q, hA0, hV, rfl, hfz, hnd⟩ := hW
  have hA : DataW.TrodAll enc Tryd.prog W 0 (fun _ => true) true Tryd.f5.params.toList args.toList ds p := hA0
  rw [Tryd.params5] at hA hval
  obtain ⟨v0, v1, v2, d0, d1, d2, p0, p1, p2, rfl, rfl, rfl, h0, h1, h2⟩ := trodAll_three hA
  obtain ⟨rfl, rfl⟩ := trodVars_none hV
  obtain ⟨B, Rs, c, n, rfl, _, _, hs, _, _⟩ := read_rungs (hval 0 25 v0 rfl rfl) h0
  obtain ⟨key, rfl⟩ := okWide_int Tryd.underlying2 (hval 1 2 v1 rfl rfl)
  obtain ⟨A, l, ca, rfl, _, _, hs2⟩ := read_prs (hval 2 38 v2 rfl rfl) h2
  refine (rungsPairs_any B A Rs c ca n key l W hs hs2 hT).mono fun e W' ⟨he, hb⟩ => ?_
  subst he
  exact ⟨_, rfl, law_post (tb := 4) laidOut (by intro t ht; rw [Tryd.params5] at ht; simp at ht; rcases ht with rfl | rfl | rfl <;> exact ⟨by kernel_rfl, of_decide_eq_true (by kernel_rfl)⟩) rfl hW' rfl rfl rfl (by kernel_rfl) Tryd.underlying4 hb⟩

theorem rungsPairs_met (os : Os) : laidMet Tryd.prog Rows.rungsPairsRow.laid ((laidWorld os).forCall (fun _ _ => 0) ⟨#[], #[.agg #[.slice none 0 0, .int .u64 0], .int .i64 0, .slice none 0 0], []⟩).memory :=
  laidMet_of_run' 8 (by kernel_rfl) (by kernel_rfl)
theorem rungsPairs_reads (os : Os) {H : Type} (enc : TypeId × Value → H) : ∃ places, DataW.whole enc Tryd.prog ((laidWorld os).forCall (fun _ _ => 0) ⟨#[], #[.agg #[.slice none 0 0, .int .u64 0], .int .i64 0, .slice none 0 0], []⟩).memory Tryd.f5.params.toList Rows.rungsPairsSpec.vars false (#[.agg #[.slice none 0 0, .int .u64 0], .int .i64 0, .slice none 0 0] : Array Value).toList 8 = some ([.agg [.nil, .lit (.int .u64 0)], .lit (.int .i64 0), .nil], [], places) :=
  ⟨[], by kernel_rfl⟩
theorem rungsPairs_lifted (os : Os) (started : os.Started) (H : Type) (enc : TypeId × Value → H) (F : Stop.Interp) :
    ReturnsInHanded {} Tryd.checked os 5 .any ((OpenSpec.ofChange Rows.rungsPairsSpec).preRow enc Tryd.prog Tryd.f5 Rows.rungsPairsRow.domain false Rows.rungsPairsRow.laid) (((OpenSpec.ofChange Rows.rungsPairsSpec).at F).post enc Tryd.prog Tryd.f5 false true false false) := by
  obtain ⟨places, hx⟩ := rungsPairs_reads os enc
  refine returnsInHanded_of_row (C := Tryd.checked) (s := OpenSpec.ofChange Rows.rungsPairsSpec) own started (by kernel_rfl) Tryd.func5
    (witness_row_at (enc := enc) (C := Tryd.checked) false (laidWorld os) #[.agg #[.slice none 0 0, .int .u64 0], .int .i64 0, .slice none 0 0] rfl (by kernel_rfl) (by kernel_rfl) (by kernel_rfl)
      (OpenSpec.preRow_of_cond 8 hx (by kernel_rfl) (fun k hk => by cases hk) (by kernel_rfl) (rungsPairs_met os))) ?_
  intro W base args ds gs before hval hW _ _ _ hL _ _
  exact rungsPairs_contract H enc W base args ds gs before hval hW hL
theorem rungsPairs_said : Rows.RungsPairsSaid :=
  OpenClaim.holds_of_cond 5 Tryd.f5 rfl rfl rfl rfl rfl rfl rfl ⟨rfl, rfl, rfl, rfl, rfl⟩ rfl rfl rfl rfl rfl (by kernel_rfl) Tryd.func5 (by kernel_rfl)
    (of_decide_eq_true (by kernel_rfl)) (by unfold Func.isWrapper; first | (rw [if_pos (by decide +kernel)]; kernel_rfl) | (rw [if_neg (by decide +kernel)]; exact ⟨rfl, rfl⟩))
    (fun os started H enc _ F => by rw [OpenClaim.pre_eq_preRow]; exact rungsPairs_lifted os started H enc F)
theorem rungsPairs_plain (f : FuncId) (fn : Func) (hf : Tryd.pinned.checked.prog.funcNamed "shelfmark/shelfmarklaw26.RungsPairs" = some f) (hfn : Tryd.pinned.checked.prog.funcs[f]? = some fn) :
    false = Tryd.pinned.checked.prog.looks [] ∧ ∀ (j : Nat) t, fn.params[j]? = some t → Tryd.pinned.checked.prog.wantsStandIn t = false := by
  obtain rfl : f = 5 := Option.some.inj ((show Tryd.prog.funcNamed "shelfmark/shelfmarklaw26.RungsPairs" = some 5 by kernel_rfl).symm.trans hf) |>.symm
  obtain rfl : fn = Tryd.f5 := (Option.some.inj (Tryd.func5.symm.trans hfn)).symm
  refine ⟨by kernel_rfl, fun j t ht => ?_⟩
  rw [Tryd.params5] at ht
  have : t = 25 ∨ t = 2 ∨ t = 38 := by
    have := Array.mem_of_getElem? ht
    simpa using this
  rcases this with rfl | rfl | rfl <;> first | exact (show Tryd.prog.wantsStandIn 25 = false by kernel_rfl) | exact (show Tryd.prog.wantsStandIn 2 = false by kernel_rfl) | exact (show Tryd.prog.wantsStandIn 38 = false by kernel_rfl)

/-- the card -/
theorem rungsPairs_card : Rows.RungsPairsCardSaid :=
  Claim7.holds_tied_plain_at .later [] _ _ _ _ rungsPairs_said (fun _ h => by cases h) (by kernel_rfl) (fun _ h => by cases h) rungsPairs_row_tie rfl ⟨rfl, rfl⟩ (by kernel_rfl) rfl rungsPairs_plain (by kernel_rfl)
end Go.Proofs.YthdcllnmnmemdaaDoor
