/- Dd: texts of the claim, in this order. -/
import Derived.Test.YthbppblmecdekaaGreatDoorWg19
import Derived.Test.YthbppblmecdekaaGreatDoorWt1
/- Contracts: what ladder.Next and Last ask of a run; beside. -/
namespace Go.Proofs.YthbppblmecdekaaGreatDoor
open Go Go.RowKit
set_option maxRecDepth 100000
theorem tab_below2 {g : Nat} {w w' : World} (h : TabAt g Lib.deBruijn64tab w) (hb : Below w.heap.size w w') : TabAt g Lib.deBruijn64tab w' := tab_below (tab_lt h) h hb
structure BesI (w : World) (ok : Int → Bool) (lt : Int → Int → Bool) (Rs : List Rm) (k : Nat) (o : Option Ent) (wr : World) : Prop where
  bel : Below w.heap.size w wr
  bb : Blk wr w.heap.size 71 #[.int .i64 (o.getD zeroE).key, .int .i64 (o.getD zeroE).val, .bool (o.getD zeroE).dead]
  best : BestOk ok lt ((lvs Rs).take k) o
set_option maxHeartbeats 4000000 in
theorem next1_any (A : Option Addr) (l : List Ent) (cl gk : Nat) (key : Int) (w : World) (hA : Sl w A (l.flatMap Ent.cells)) (hl : l.length ≤ 4611686018427387903) (hK : w.cell? ⟨gk, 0, none⟩ = some (.int .i64 key)) (hT : TabAt 1 Lib.deBruijn64tab w) :
    Calls Tryz.prog 46 #[.agg #[.slice A l.length cl], .pointer (some ⟨gk, 0, none⟩)] w (GivesX (nxX l key) (nxE l key) w) := by
  obtain ⟨W0, hW0⟩ : ∃ W0, (w.alloc (.cells #[.slice A l.length cl] 74)).alloc (.cells #[.int .i64 0, .int .i64 0, .bool false] 71) = W0 := ⟨_, rfl⟩
  have hb0 : Below w.heap.size w W0 := by rw [← hW0]; exact ((Below.refl _ _).alloc (Nat.le_refl _) _).alloc (by simp) _
  have bX0 : Blk W0 w.heap.size 74 #[.slice A l.length cl] := by rw [← hW0]; exact (Blk.new _ _ _).alloc _
  have bR0 : Blk W0 (w.heap.size + 1) 71 #[.int .i64 0, .int .i64 0, .bool false] := by
    rw [← hW0]
    have := Blk.new (w.alloc (.cells #[.slice A l.length cl] 74)) 71 #[.int .i64 0, .int .i64 0, .bool false]
    rwa [World.size_alloc] at this
  have cX0 : W0.cell? ⟨w.heap.size, 0, none⟩ = some (.slice A l.length cl) := bX0.cell 0
  have hkl := World.block_lt_of_cell? w _ hK
  have cK0 : W0.cell? ⟨gk, 0, none⟩ = some (.int .i64 key) := (hb0.cell (p := ⟨gk, 0, none⟩) hkl).trans hK
  have HC := Lib.hid (runNext_any A l cl key W0 (hA.below hb0) hl (tab_below2 hT hb0))
  obtain ⟨p, hp⟩ : ∃ p, nxX l key = p := ⟨_, rfl⟩
  obtain ⟨G, hG⟩ : ∃ p, nxE l key = p := ⟨_, rfl⟩
  have hc := HC.out
  rw [hp, hG] at hc
  rw [hp, hG]
  have HC2 := Lib.hid hc
  have HW0 := Lib.hid hW0
  clear hW0 hc HC hp hG hA hT hK hkl
  go_enter Tryz.func46, Tryz.ntmps46
  go_upto_region 1 with fail
  rw [HW0.out]
  go_wp2_with fail
  refine HC2.out.mono ?_
  rintro e w1 ⟨rfl, hb1⟩
  have bR1 := bR0.below hb1 bR0.lt
  have hb01 := bext hb0 hb1
  have d0 : w1.cell? ⟨w.heap.size + 1, 0, none⟩ = some (.int .i64 0) := bR1.cell 0
  have d1 : w1.cell? ⟨w.heap.size + 1, 1, none⟩ = some (.int .i64 0) := bR1.cell 1
  have d2 : w1.cell? ⟨w.heap.size + 1, 2, none⟩ = some (.bool false) := bR1.cell 2
  have f0 := bR1.frozen 0
  have f1 := bR1.frozen 1
  have f2 := bR1.frozen 2
  clear cX0 cK0
  go_wp2_with fail
  have bFy := put3 bR1 (.int .i64 p.key) (.int .i64 p.val) (.bool p.dead)
  have e0y := bFy.cell 0
  have e1y := bFy.cell 1
  have e2y := bFy.cell 2
  simp only [List.getElem?_toArray, List.getElem?_cons_zero, List.getElem?_cons_succ] at e0y e1y e2y
  refine bodyPost_ret (v := .tuple #[.agg #[.int .i64 p.key, .int .i64 p.val, .bool p.dead], .int .i64 G]) (by simp [results, Tryz.results46, go_sem, e0y, e1y, e2y]) rfl ?_
  exact ⟨rfl, below3 hb01 (Nat.le_succ _) _ _ _⟩
theorem next2_any (a b : Int) (w : World) : Calls Tryz.prog 48 #[.int .i64 a, .int .i64 b] w fun r w' => r = .returned (.bool (ltN a b)) ∧ w' = w := by
  go_enter Tryz.func48, Tryz.ntmps48
  go_wp2
  go_ret
  exact ⟨rfl, rfl⟩
set_option maxHeartbeats 16000000 in
theorem besideNext_any (B : Option Addr) (Rs : List Rm) (k gu gk : Nat) (c : Cfg) (n key : Int) (w : World) (hB : RunsAt w B Rs) (hM : May (lvs Rs)) (hU : Blk w gu 89 (lrow c B Rs.length k n)) (hK : w.cell? ⟨gk, 0, none⟩ = some (.int .i64 key)) (hT : TabAt 1 Lib.deBruijn64tab w) :
    Calls Tryz.prog 45 #[.pointer (some ⟨gu, 0, none⟩), .func (.func 46) #[] #[.pointer (some ⟨gk, 0, none⟩)], .func (.func 48) #[] #[]] w fun r w' =>
      ∃ o : Option Ent, r = .returned (.tuple #[.agg #[.int .i64 (o.getD zeroE).key, .int .i64 (o.getD zeroE).val, .bool (o.getD zeroE).dead], .int .i64 (isE o)]) ∧ BestOk (fun q => decide (key ≤ q)) ltN (lvs Rs) o ∧ Below w.heap.size w w' := by
  obtain ⟨W0, hW0⟩ : ∃ W0, w.alloc (.cells #[.int .i64 0, .int .i64 0, .bool false] 71) = W0 := ⟨_, rfl⟩
  have hb0 : Below w.heap.size w W0 := by rw [← hW0]; exact (Below.refl _ _).alloc (Nat.le_refl _) _
  have bb0 : Blk W0 w.heap.size 71 #[.int .i64 0, .int .i64 0, .bool false] := by rw [← hW0]; exact Blk.new _ _ _
  have bu := hU.below hb0 hU.lt
  have hkl := World.block_lt_of_cell? w _ hK
  have q9 : W0.cell? ⟨gu, 9, none⟩ = some (.slice B Rs.length k) := bu.cell 9
  have HI0 : Hid (BesI w (fun q => decide (key ≤ q)) ltN Rs 0 none W0) := ⟨hb0, bb0, by rw [List.take_zero]; exact best_nil _ _⟩
  have HB := Lib.hid hB
  have HM := Lib.hid hM
  have HK := Lib.hid hK
  have HKL := Lib.hid hkl
  have HT := Lib.hid hT
  have HQ := Lib.hid (rm_le hM)
  have hl17 : Rs.length ≤ 17 := HQ.out.2.1
  have HW0 := Lib.hid hW0
  clear hB hM hU hK hT hW0 hb0 bb0 hkl
  go_enter Tryz.func45, Tryz.ntmps45
  go_upto_region 1 with fail
  rw [HW0.out]
  go_wp2_with fail
  clear q9 bu
  go_loopw [7, 19] (fun v i wr => ∃ (j : Nat) (o : Option Ent), j ≤ Rs.length ∧ i = .int .i64 j ∧ v = .int .i64 (isE o) ∧ Hid (BesI w (fun q => decide (key ≤ q)) ltN Rs j o wr)) (fun _ i _ => Rs.length - (intOf i).toNat)
  case atStart => exact ⟨0, none, Nat.zero_le _, rfl, rfl, HI0.out⟩
  case round =>
    clear HI0
    obtain ⟨j, o, hj, rfl, rfl, hI⟩ := hrel
    by_cases hlt : j < Rs.length
    case pos =>
      obtain ⟨b, off, rfl, hbl, cp⟩ := HB.out.sl.oneB hI.out.bel j hlt
      have hok := (HB.out.ok _ (List.getElem_mem hlt)).below hI.out.bel
      have hrl := HQ.out.1 _ (List.getElem_mem hlt)
      have hlv : lev (lvs Rs) j = (Rs[j]'hlt).l := lvs_lev hlt
      have hck := HM.out.chk j
      rw [hlv] at hck
      have htk : (lvs Rs).take (j + 1) = (lvs Rs).take j ++ [(Rs[j]'hlt).l] := by
        rw [List.take_succ_eq_append_getElem (by rw [lvs_len]; exact hlt)]
        congr 2
        simp [lvs]
      obtain ⟨r, hr⟩ : ∃ r, Rs[j]'hlt = r := ⟨_, rfl⟩
      rw [hr] at cp hok hrl hck htk
      obtain ⟨l, Al, cl⟩ := r
      have cp1 : wr.cell? ⟨b, off + j, none⟩ = some (.slice Al l.length cl) := cp
      dsimp only at hrl hck htk
      have hAsk := ask_next hck key
      have hst := best_step ord_N hI.out.best hAsk
      rw [← htk] at hst
      have hcall : ∀ W, Below wr.heap.size wr W → Calls Tryz.prog 46 #[.agg #[.slice Al l.length cl], .pointer (some ⟨gk, 0, none⟩)] W (GivesX (nxX l key) (nxE l key) W) := fun W hW =>
        next1_any Al l cl gk key W (hok.sl.below hW) (by omega) ((hW.cell (p := ⟨gk, 0, none⟩) (Nat.lt_of_lt_of_le HKL.out hI.out.bel.size)).trans ((hI.out.bel.cell (p := ⟨gk, 0, none⟩) HKL.out).trans HK.out)) (tab_below2 (tab_below2 HT.out hI.out.bel) hW)
      have hv := hAsk.vals
      obtain ⟨X, hX⟩ : ∃ X, nxX l key = X := ⟨_, rfl⟩
      obtain ⟨G, hG⟩ : ∃ X, nxE l key = X := ⟨_, rfl⟩
      rw [hX, hG] at hst hcall
      rw [hG] at hv
      have HST := Lib.hid hst
      have HCA := Lib.hid hcall
      have HV := Lib.hid hv
      have ha1 : Below wr.heap.size wr (wr.alloc (.cells #[.slice Al l.length cl] 74)) := (Below.refl _ _).alloc (Nat.le_refl _) _
      have HA1 := Lib.hid ha1
      have i0 : (0 : Int) ≤ (j : Int) := by omega
      have i1 : (j : Int) < (Rs.length : Int) := by omega
      clear cp hr hok hck hlv htk hAsk hst hcall hv hX hG ha1 hbl
      go_wp2_with fail
      refine (HCA.out _ HA1.out).mono ?_
      rintro e w2 ⟨rfl, hb2⟩
      clear cp1
      have HB2 := Lib.hid (bext HA1.out hb2)
      go_upto_region 6 with fail
      obtain ⟨W3, hW3⟩ : ∃ W, w2.alloc (.cells #[.int .i64 X.key, .int .i64 X.val, .bool X.dead] 71) = W := ⟨_, rfl⟩
      have b3 : Blk W3 w2.heap.size 71 #[.int .i64 X.key, .int .i64 X.val, .bool X.dead] := by rw [← hW3]; exact Blk.new _ _ _
      have HB3 : Hid (Below wr.heap.size wr W3) := by show Below _ _ _; rw [← hW3]; exact bext HB2.out ((Below.refl _ _).alloc (Nat.le_refl _) _)
      try rw [hW3]
      have HBW := Lib.hid (bext hI.out.bel HB3.out)
      have bb3 := hI.out.bb.below HB3.out hI.out.bb.lt
      have HBB := Lib.hid bb3
      obtain ⟨x, hx⟩ : ∃ x, o.getD zeroE = x := ⟨_, rfl⟩
      have HXX := Lib.hid hx
      rw [hx] at bb3
      have y0 : W3.cell? ⟨w2.heap.size, 0, none⟩ = some (.int .i64 X.key) := b3.cell 0
      have y1 : W3.cell? ⟨w2.heap.size, 1, none⟩ = some (.int .i64 X.val) := b3.cell 1
      have y2 : W3.cell? ⟨w2.heap.size, 2, none⟩ = some (.bool X.dead) := b3.cell 2
      have x0 : W3.cell? ⟨w.heap.size, 0, none⟩ = some (.int .i64 x.key) := bb3.cell 0
      have x1 : W3.cell? ⟨w.heap.size, 1, none⟩ = some (.int .i64 x.val) := bb3.cell 1
      have x2 : W3.cell? ⟨w.heap.size, 2, none⟩ = some (.bool x.dead) := bb3.cell 2
      have fx0 := bb3.frozen 0
      have fx1 := bb3.frozen 1
      have fx2 := bb3.frozen 2
      clear hW3 b3 bb3 hx hb2
      have H2 := Lib.hid (fun w => next2_any X.key x.key w)
      rcases HV.out with hg | hg
      · subst hg
        cases o with
        | none =>
          have HS : Hid (stepB ltN none 0 X = some X) := by show _ = _; unfold stepB; rw [if_pos ⟨rfl, .inl rfl⟩]
          have hz : isE none = 6 := rfl
          clear H2
          go_wp2_with fail
          go_roundw
          case rel => exact ⟨j + 1, some X, by omega, by go_num, rfl, below3 HBW.out (Nat.le_refl _) _ _ _, put3 HBB.out _ _ _, by rw [← HS.out]; exact HST.out⟩
          case measure => simp [intOf]; omega
        | some b0 =>
          have hz : isE (some b0) = 0 := rfl
          obtain ⟨V, hV⟩ : ∃ V, ltN X.key x.key = V := ⟨_, rfl⟩
          have h2 := H2.out
          rw [hV] at h2
          have HV2 := Lib.hid hV
          have H3 := Lib.hid h2
          clear H2 h2 hV
          go_wp2_with fail
          refine (H3.out _).mono ?_
          rintro e w4 ⟨rfl, hw4⟩
          subst hw4
          have HQX : Hid (x = b0) := HXX.out.symm
          cases V with
          | true =>
            have HS : Hid (stepB ltN (some b0) 0 X = some X) := by
              show _ = _
              unfold stepB
              rw [if_pos ⟨rfl, .inr (by rw [show (some b0).getD zeroE = b0 from rfl, ← HQX.out]; exact HV2.out)⟩]
            go_wp2_with fail
            go_roundw
            case rel => exact ⟨j + 1, some X, by omega, by go_num, rfl, below3 HBW.out (Nat.le_refl _) _ _ _, put3 HBB.out _ _ _, by rw [← HS.out]; exact HST.out⟩
            case measure => simp [intOf]; omega
          | false =>
            have HS : Hid (stepB ltN (some b0) 0 X = some b0) := by
              show _ = _
              unfold stepB
              rw [if_neg (fun h => by rcases h.2 with h | h; · cases h
                                      · rw [show (some b0).getD zeroE = b0 from rfl, ← HQX.out, HV2.out] at h; cases h)]
            go_wp2_with fail
            go_roundw
            case rel => exact ⟨j + 1, some b0, by omega, by go_num, by first | rfl | simp [isE], HBW.out, HBB.out, by rw [← HS.out]; exact HST.out⟩
            case measure => simp [intOf]; omega
      · subst hg
        have HS : Hid (stepB ltN o 6 X = o) := by show _ = _; unfold stepB; rw [if_neg (fun h => absurd h.1 (by decide))]
        clear H2
        go_wp2_with fail
        go_roundw
        case rel => exact ⟨j + 1, o, by omega, by go_num, by first | rfl | trivial, HBW.out, HBB.out, by rw [← HS.out]; exact HST.out⟩
        case measure => simp [intOf]; omega
    case neg =>
      have hfin := hI.out.best
      rw [List.take_of_length_le (by rw [lvs_len]; omega)] at hfin
      have HFI := Lib.hid hfin
      obtain ⟨x, hx⟩ : ∃ x, o.getD zeroE = x := ⟨_, rfl⟩
      have HXX := Lib.hid hx
      have bb := hI.out.bb
      rw [hx] at bb
      have x0 : wr.cell? ⟨w.heap.size, 0, none⟩ = some (.int .i64 x.key) := bb.cell 0
      have x1 : wr.cell? ⟨w.heap.size, 1, none⟩ = some (.int .i64 x.val) := bb.cell 1
      have x2 : wr.cell? ⟨w.heap.size, 2, none⟩ = some (.bool x.dead) := bb.cell 2
      have fx0 := bb.frozen 0
      have fx1 := bb.frozen 1
      have fx2 := bb.frozen 2
      have HBB := Lib.hid bb
      obtain ⟨G, hG⟩ : ∃ G, isE o = G := ⟨_, rfl⟩
      rw [hG]
      have HG := Lib.hid hG
      clear hfin hx bb hG
      go_wp2_with fail
      have bFy := put3 HBB.out (.int .i64 x.key) (.int .i64 x.val) (.bool x.dead)
      have e0y := bFy.cell 0
      have e1y := bFy.cell 1
      have e2y := bFy.cell 2
      simp only [List.getElem?_toArray, List.getElem?_cons_zero, List.getElem?_cons_succ] at e0y e1y e2y
      refine bodyPost_ret (v := .tuple #[.agg #[.int .i64 x.key, .int .i64 x.val, .bool x.dead], .int .i64 G]) (by simp [results, Tryz.results45, go_sem, e0y, e1y, e2y]) rfl ?_
      exact ⟨o, by rw [HXX.out, HG.out], HFI.out, below3 hI.out.bel (Nat.le_refl _) _ _ _⟩
set_option maxHeartbeats 4000000 in
theorem last1_any (A : Option Addr) (l : List Ent) (cl gk : Nat) (key : Int) (w : World) (hA : Sl w A (l.flatMap Ent.cells)) (hl : l.length ≤ 4611686018427387903) (hK : w.cell? ⟨gk, 0, none⟩ = some (.int .i64 key)) (hT : TabAt 1 Lib.deBruijn64tab w) :
    Calls Tryz.prog 51 #[.agg #[.slice A l.length cl], .pointer (some ⟨gk, 0, none⟩)] w (GivesX (lsX l key) (lsE l key) w) := by
  obtain ⟨W0, hW0⟩ : ∃ W0, (w.alloc (.cells #[.slice A l.length cl] 74)).alloc (.cells #[.int .i64 0, .int .i64 0, .bool false] 71) = W0 := ⟨_, rfl⟩
  have hb0 : Below w.heap.size w W0 := by rw [← hW0]; exact ((Below.refl _ _).alloc (Nat.le_refl _) _).alloc (by simp) _
  have bX0 : Blk W0 w.heap.size 74 #[.slice A l.length cl] := by rw [← hW0]; exact (Blk.new _ _ _).alloc _
  have bR0 : Blk W0 (w.heap.size + 1) 71 #[.int .i64 0, .int .i64 0, .bool false] := by
    rw [← hW0]
    have := Blk.new (w.alloc (.cells #[.slice A l.length cl] 74)) 71 #[.int .i64 0, .int .i64 0, .bool false]
    rwa [World.size_alloc] at this
  have cX0 : W0.cell? ⟨w.heap.size, 0, none⟩ = some (.slice A l.length cl) := bX0.cell 0
  have hkl := World.block_lt_of_cell? w _ hK
  have cK0 : W0.cell? ⟨gk, 0, none⟩ = some (.int .i64 key) := (hb0.cell (p := ⟨gk, 0, none⟩) hkl).trans hK
  have HC := Lib.hid (runLast_any A l cl key W0 (hA.below hb0) hl (tab_below2 hT hb0))
  obtain ⟨p, hp⟩ : ∃ p, lsX l key = p := ⟨_, rfl⟩
  obtain ⟨G, hG⟩ : ∃ p, lsE l key = p := ⟨_, rfl⟩
  have hc := HC.out
  rw [hp, hG] at hc
  rw [hp, hG]
  have HC2 := Lib.hid hc
  have HW0 := Lib.hid hW0
  clear hW0 hc HC hp hG hA hT hK hkl
  go_enter Tryz.func51, Tryz.ntmps51
  go_upto_region 1 with fail
  rw [HW0.out]
  go_wp2_with fail
  refine HC2.out.mono ?_
  rintro e w1 ⟨rfl, hb1⟩
  have bR1 := bR0.below hb1 bR0.lt
  have hb01 := bext hb0 hb1
  have d0 : w1.cell? ⟨w.heap.size + 1, 0, none⟩ = some (.int .i64 0) := bR1.cell 0
  have d1 : w1.cell? ⟨w.heap.size + 1, 1, none⟩ = some (.int .i64 0) := bR1.cell 1
  have d2 : w1.cell? ⟨w.heap.size + 1, 2, none⟩ = some (.bool false) := bR1.cell 2
  have f0 := bR1.frozen 0
  have f1 := bR1.frozen 1
  have f2 := bR1.frozen 2
  clear cX0 cK0
  go_wp2_with fail
  have bFy := put3 bR1 (.int .i64 p.key) (.int .i64 p.val) (.bool p.dead)
  have e0y := bFy.cell 0
  have e1y := bFy.cell 1
  have e2y := bFy.cell 2
  simp only [List.getElem?_toArray, List.getElem?_cons_zero, List.getElem?_cons_succ] at e0y e1y e2y
  refine bodyPost_ret (v := .tuple #[.agg #[.int .i64 p.key, .int .i64 p.val, .bool p.dead], .int .i64 G]) (by simp [results, Tryz.results51, go_sem, e0y, e1y, e2y]) rfl ?_
  exact ⟨rfl, below3 hb01 (Nat.le_succ _) _ _ _⟩
theorem last2_any (a b : Int) (w : World) : Calls Tryz.prog 53 #[.int .i64 a, .int .i64 b] w fun r w' => r = .returned (.bool (ltL a b)) ∧ w' = w := by
  go_enter Tryz.func53, Tryz.ntmps53
  go_wp2
  go_ret
  exact ⟨rfl, rfl⟩
set_option maxHeartbeats 16000000 in
theorem besideLast_any (B : Option Addr) (Rs : List Rm) (k gu gk : Nat) (c : Cfg) (n key : Int) (w : World) (hB : RunsAt w B Rs) (hM : May (lvs Rs)) (hU : Blk w gu 89 (lrow c B Rs.length k n)) (hK : w.cell? ⟨gk, 0, none⟩ = some (.int .i64 key)) (hT : TabAt 1 Lib.deBruijn64tab w) :
    Calls Tryz.prog 45 #[.pointer (some ⟨gu, 0, none⟩), .func (.func 51) #[] #[.pointer (some ⟨gk, 0, none⟩)], .func (.func 53) #[] #[]] w fun r w' =>
      ∃ o : Option Ent, r = .returned (.tuple #[.agg #[.int .i64 (o.getD zeroE).key, .int .i64 (o.getD zeroE).val, .bool (o.getD zeroE).dead], .int .i64 (isE o)]) ∧ BestOk (fun q => decide (q < key)) ltL (lvs Rs) o ∧ Below w.heap.size w w' := by
  obtain ⟨W0, hW0⟩ : ∃ W0, w.alloc (.cells #[.int .i64 0, .int .i64 0, .bool false] 71) = W0 := ⟨_, rfl⟩
  have hb0 : Below w.heap.size w W0 := by rw [← hW0]; exact (Below.refl _ _).alloc (Nat.le_refl _) _
  have bb0 : Blk W0 w.heap.size 71 #[.int .i64 0, .int .i64 0, .bool false] := by rw [← hW0]; exact Blk.new _ _ _
  have bu := hU.below hb0 hU.lt
  have hkl := World.block_lt_of_cell? w _ hK
  have q9 : W0.cell? ⟨gu, 9, none⟩ = some (.slice B Rs.length k) := bu.cell 9
  have HI0 : Hid (BesI w (fun q => decide (q < key)) ltL Rs 0 none W0) := ⟨hb0, bb0, by rw [List.take_zero]; exact best_nil _ _⟩
  have HB := Lib.hid hB
  have HM := Lib.hid hM
  have HK := Lib.hid hK
  have HKL := Lib.hid hkl
  have HT := Lib.hid hT
  have HQ := Lib.hid (rm_le hM)
  have hl17 : Rs.length ≤ 17 := HQ.out.2.1
  have HW0 := Lib.hid hW0
  clear hB hM hU hK hT hW0 hb0 bb0 hkl
  go_enter Tryz.func45, Tryz.ntmps45
  go_upto_region 1 with fail
  rw [HW0.out]
  go_wp2_with fail
  clear q9 bu
  go_loopw [7, 19] (fun v i wr => ∃ (j : Nat) (o : Option Ent), j ≤ Rs.length ∧ i = .int .i64 j ∧ v = .int .i64 (isE o) ∧ Hid (BesI w (fun q => decide (q < key)) ltL Rs j o wr)) (fun _ i _ => Rs.length - (intOf i).toNat)
  case atStart => exact ⟨0, none, Nat.zero_le _, rfl, rfl, HI0.out⟩
  case round =>
    clear HI0
    obtain ⟨j, o, hj, rfl, rfl, hI⟩ := hrel
    by_cases hlt : j < Rs.length
    case pos =>
      obtain ⟨b, off, rfl, hbl, cp⟩ := HB.out.sl.oneB hI.out.bel j hlt
      have hok := (HB.out.ok _ (List.getElem_mem hlt)).below hI.out.bel
      have hrl := HQ.out.1 _ (List.getElem_mem hlt)
      have hlv : lev (lvs Rs) j = (Rs[j]'hlt).l := lvs_lev hlt
      have hck := HM.out.chk j
      rw [hlv] at hck
      have htk : (lvs Rs).take (j + 1) = (lvs Rs).take j ++ [(Rs[j]'hlt).l] := by
        rw [List.take_succ_eq_append_getElem (by rw [lvs_len]; exact hlt)]
        congr 2
        simp [lvs]
      obtain ⟨r, hr⟩ : ∃ r, Rs[j]'hlt = r := ⟨_, rfl⟩
      rw [hr] at cp hok hrl hck htk
      obtain ⟨l, Al, cl⟩ := r
      have cp1 : wr.cell? ⟨b, off + j, none⟩ = some (.slice Al l.length cl) := cp
      dsimp only at hrl hck htk
      have hAsk := ask_last hck key
      have hst := best_step ord_L hI.out.best hAsk
      rw [← htk] at hst
      have hcall : ∀ W, Below wr.heap.size wr W → Calls Tryz.prog 51 #[.agg #[.slice Al l.length cl], .pointer (some ⟨gk, 0, none⟩)] W (GivesX (lsX l key) (lsE l key) W) := fun W hW =>
        last1_any Al l cl gk key W (hok.sl.below hW) (by omega) ((hW.cell (p := ⟨gk, 0, none⟩) (Nat.lt_of_lt_of_le HKL.out hI.out.bel.size)).trans ((hI.out.bel.cell (p := ⟨gk, 0, none⟩) HKL.out).trans HK.out)) (tab_below2 (tab_below2 HT.out hI.out.bel) hW)
      have hv := hAsk.vals
      obtain ⟨X, hX⟩ : ∃ X, lsX l key = X := ⟨_, rfl⟩
      obtain ⟨G, hG⟩ : ∃ X, lsE l key = X := ⟨_, rfl⟩
      rw [hX, hG] at hst hcall
      rw [hG] at hv
      have HST := Lib.hid hst
      have HCA := Lib.hid hcall
      have HV := Lib.hid hv
      have ha1 : Below wr.heap.size wr (wr.alloc (.cells #[.slice Al l.length cl] 74)) := (Below.refl _ _).alloc (Nat.le_refl _) _
      have HA1 := Lib.hid ha1
      have i0 : (0 : Int) ≤ (j : Int) := by omega
      have i1 : (j : Int) < (Rs.length : Int) := by omega
      clear cp hr hok hck hlv htk hAsk hst hcall hv hX hG ha1 hbl
      go_wp2_with fail
      refine (HCA.out _ HA1.out).mono ?_
      rintro e w2 ⟨rfl, hb2⟩
      clear cp1
      have HB2 := Lib.hid (bext HA1.out hb2)
      go_upto_region 6 with fail
      obtain ⟨W3, hW3⟩ : ∃ W, w2.alloc (.cells #[.int .i64 X.key, .int .i64 X.val, .bool X.dead] 71) = W := ⟨_, rfl⟩
      have b3 : Blk W3 w2.heap.size 71 #[.int .i64 X.key, .int .i64 X.val, .bool X.dead] := by rw [← hW3]; exact Blk.new _ _ _
      have HB3 : Hid (Below wr.heap.size wr W3) := by show Below _ _ _; rw [← hW3]; exact bext HB2.out ((Below.refl _ _).alloc (Nat.le_refl _) _)
      try rw [hW3]
      have HBW := Lib.hid (bext hI.out.bel HB3.out)
      have bb3 := hI.out.bb.below HB3.out hI.out.bb.lt
      have HBB := Lib.hid bb3
      obtain ⟨x, hx⟩ : ∃ x, o.getD zeroE = x := ⟨_, rfl⟩
      have HXX := Lib.hid hx
      rw [hx] at bb3
      have y0 : W3.cell? ⟨w2.heap.size, 0, none⟩ = some (.int .i64 X.key) := b3.cell 0
      have y1 : W3.cell? ⟨w2.heap.size, 1, none⟩ = some (.int .i64 X.val) := b3.cell 1
      have y2 : W3.cell? ⟨w2.heap.size, 2, none⟩ = some (.bool X.dead) := b3.cell 2
      have x0 : W3.cell? ⟨w.heap.size, 0, none⟩ = some (.int .i64 x.key) := bb3.cell 0
      have x1 : W3.cell? ⟨w.heap.size, 1, none⟩ = some (.int .i64 x.val) := bb3.cell 1
      have x2 : W3.cell? ⟨w.heap.size, 2, none⟩ = some (.bool x.dead) := bb3.cell 2
      have fx0 := bb3.frozen 0
      have fx1 := bb3.frozen 1
      have fx2 := bb3.frozen 2
      clear hW3 b3 bb3 hx hb2
      have H2 := Lib.hid (fun w => last2_any X.key x.key w)
      rcases HV.out with hg | hg
      · subst hg
        cases o with
        | none =>
          have HS : Hid (stepB ltL none 0 X = some X) := by show _ = _; unfold stepB; rw [if_pos ⟨rfl, .inl rfl⟩]
          have hz : isE none = 6 := rfl
          clear H2
          go_wp2_with fail
          go_roundw
          case rel => exact ⟨j + 1, some X, by omega, by go_num, rfl, below3 HBW.out (Nat.le_refl _) _ _ _, put3 HBB.out _ _ _, by rw [← HS.out]; exact HST.out⟩
          case measure => simp [intOf]; omega
        | some b0 =>
          have hz : isE (some b0) = 0 := rfl
          obtain ⟨V, hV⟩ : ∃ V, ltL X.key x.key = V := ⟨_, rfl⟩
          have h2 := H2.out
          rw [hV] at h2
          have HV2 := Lib.hid hV
          have H3 := Lib.hid h2
          clear H2 h2 hV
          go_wp2_with fail
          refine (H3.out _).mono ?_
          rintro e w4 ⟨rfl, hw4⟩
          subst hw4
          have HQX : Hid (x = b0) := HXX.out.symm
          cases V with
          | true =>
            have HS : Hid (stepB ltL (some b0) 0 X = some X) := by
              show _ = _
              unfold stepB
              rw [if_pos ⟨rfl, .inr (by rw [show (some b0).getD zeroE = b0 from rfl, ← HQX.out]; exact HV2.out)⟩]
            go_wp2_with fail
            go_roundw
            case rel => exact ⟨j + 1, some X, by omega, by go_num, rfl, below3 HBW.out (Nat.le_refl _) _ _ _, put3 HBB.out _ _ _, by rw [← HS.out]; exact HST.out⟩
            case measure => simp [intOf]; omega
          | false =>
            have HS : Hid (stepB ltL (some b0) 0 X = some b0) := by
              show _ = _
              unfold stepB
              rw [if_neg (fun h => by rcases h.2 with h | h; · cases h
                                      · rw [show (some b0).getD zeroE = b0 from rfl, ← HQX.out, HV2.out] at h; cases h)]
            go_wp2_with fail
            go_roundw
            case rel => exact ⟨j + 1, some b0, by omega, by go_num, by first | rfl | simp [isE], HBW.out, HBB.out, by rw [← HS.out]; exact HST.out⟩
            case measure => simp [intOf]; omega
      · subst hg
        have HS : Hid (stepB ltL o 6 X = o) := by show _ = _; unfold stepB; rw [if_neg (fun h => absurd h.1 (by decide))]
        clear H2
        go_wp2_with fail
        go_roundw
        case rel => exact ⟨j + 1, o, by omega, by go_num, by first | rfl | trivial, HBW.out, HBB.out, by rw [← HS.out]; exact HST.out⟩
        case measure => simp [intOf]; omega
    case neg =>
      have hfin := hI.out.best
      rw [List.take_of_length_le (by rw [lvs_len]; omega)] at hfin
      have HFI := Lib.hid hfin
      obtain ⟨x, hx⟩ : ∃ x, o.getD zeroE = x := ⟨_, rfl⟩
      have HXX := Lib.hid hx
      have bb := hI.out.bb
      rw [hx] at bb
      have x0 : wr.cell? ⟨w.heap.size, 0, none⟩ = some (.int .i64 x.key) := bb.cell 0
      have x1 : wr.cell? ⟨w.heap.size, 1, none⟩ = some (.int .i64 x.val) := bb.cell 1
      have x2 : wr.cell? ⟨w.heap.size, 2, none⟩ = some (.bool x.dead) := bb.cell 2
      have fx0 := bb.frozen 0
      have fx1 := bb.frozen 1
      have fx2 := bb.frozen 2
      have HBB := Lib.hid bb
      obtain ⟨G, hG⟩ : ∃ G, isE o = G := ⟨_, rfl⟩
      rw [hG]
      have HG := Lib.hid hG
      clear hfin hx bb hG
      go_wp2_with fail
      have bFy := put3 HBB.out (.int .i64 x.key) (.int .i64 x.val) (.bool x.dead)
      have e0y := bFy.cell 0
      have e1y := bFy.cell 1
      have e2y := bFy.cell 2
      simp only [List.getElem?_toArray, List.getElem?_cons_zero, List.getElem?_cons_succ] at e0y e1y e2y
      refine bodyPost_ret (v := .tuple #[.agg #[.int .i64 x.key, .int .i64 x.val, .bool x.dead], .int .i64 G]) (by simp [results, Tryz.results45, go_sem, e0y, e1y, e2y]) rfl ?_
      exact ⟨o, by rw [HXX.out, HG.out], HFI.out, below3 hI.out.bel (Nat.le_refl _) _ _ _⟩
end Go.Proofs.YthbppblmecdekaaGreatDoor
