/- Ho Gs Hs: texts of the claim, in this order. -/
import Derived.Test.YthdcllnmnmemdaaRt12
import Derived.Test.YthdcllnmnmemdaaRt15
import Derived.Test.YthdcllnmnmemdaaRt9
import Derived.BigRegion
/- Contracts: rungs.Of; the reference's Of, Add, Same. -/
namespace Go.Proofs.Ythdcllnmnmemdaa
open Go Go.RowKit
set_option maxRecDepth 100000
def ofEr (rs : Lv) (l : List Pr) : Int := if chkR rs ≠ 0 then chkR rs else buildE (l.map aliveE)
def ofLr (rs : Lv) (l : List Pr) : Lv := if ofEr rs l = 0 then standL [] (laid (l.map aliveE)) else []
def ofNr (rs : Lv) (n : Int) (l : List Pr) : Int := if ofEr rs l = 0 then IntKind.u64.wrap (n + l.length) else 0
theorem of_no {rs : Lv} {n : Int} {l : List Pr} {e : Int} (h : ofEr rs l = e) (he : e ≠ 0) : ofNr rs n l = 0 ∧ ofEr rs l = e ∧ ofLr rs l = [] := by
  unfold ofNr ofLr
  rw [if_neg (by rw [h]; exact he), if_neg (by rw [h]; exact he)]
  exact ⟨rfl, h, rfl⟩
theorem chkR_may (rs : Lv) : chkR rs = if mayB rs = true then 0 else 8 := rfl
set_option maxHeartbeats 8000000 in
theorem ofR_any (B A : Option Addr) (Rs : List Rm) (l : List Pr) (c ca : Nat) (n : Int) (w : World) (hB : RunsAt w B Rs) (hT : tot (lvs Rs) ≤ 1000000) (hl : Rs.length ≤ 1000000) (hA : Sl w A (l.flatMap Pr.cells)) (hl6 : l.length ≤ 65536) :
    Calls Try.prog 9 #[.agg #[.slice B Rs.length c, .int .u64 n], .slice A l.length ca] w (GivesRgE (ofLr (lvs Rs) l) (ofNr (lvs Rs) n l) (ofEr (lvs Rs) l) w) := by
  obtain ⟨W0, hW0⟩ : ∃ W0, (w.alloc (.cells #[.slice B Rs.length c, .int .u64 n] 25)).alloc (.cells #[.slice none 0 0, .int .u64 0] 25) = W0 := ⟨_, rfl⟩
  have hb0 : Below w.heap.size w W0 := by rw [← hW0]; exact ((Below.refl _ _).alloc (Nat.le_refl _) _).alloc (by simp) _
  have hs0 : W0.heap.size = w.heap.size + 2 := by rw [← hW0]; simp
  have b20 : Blk W0 w.heap.size 25 #[.slice B Rs.length c, .int .u64 n] := by rw [← hW0]; exact (Blk.new _ _ _).alloc _
  have b40 : Blk W0 (w.heap.size + 1) 25 #[.slice none 0 0, .int .u64 0] := by
    rw [← hW0]
    have := Blk.new (w.alloc (.cells #[.slice B Rs.length c, .int .u64 n] 25)) 25 #[.slice none 0 0, .int .u64 0]
    rwa [World.size_alloc] at this
  have HW0 := Lib.hid hW0
  have HS0 := Lib.hid hs0
  have HB := Lib.hid (hB.below hb0)
  have HA := Lib.hid (hA.below hb0)
  clear hW0 hB hA hs0
  go_enter Try.func9, Try.ntmps9
  go_wp2_with fail
  rw [HW0.out]
  refine (checkR_any B Rs c n _ HB.out hT hl).mono ?_
  rintro e w1 ⟨rfl, hb1⟩
  have hb01 := bext hb0 hb1
  have b21 := b20.below hb1 b20.lt
  have b41 := b40.below hb1 b40.lt
  obtain ⟨E, hE⟩ : ∃ E, chkR (lvs Rs) = E := ⟨_, rfl⟩
  rw [hE]
  by_cases hE0 : E = 0
  case neg =>
    have hadd : ofEr (lvs Rs) l = E := by unfold ofEr; rw [if_pos (by rw [hE]; exact hE0), hE]
    have HADD := Lib.hid (of_no (n := n) hadd hE0)
    have c40 : w1.cell? ⟨w.heap.size + 1, 0, none⟩ = some (.slice none 0 0) := b41.cell 0
    have c41 : w1.cell? ⟨w.heap.size + 1, 1, none⟩ = some (.int .u64 0) := b41.cell 1
    have f40 := b41.frozen 0
    have f41 := b41.frozen 1
    have l4 := b41.lt
    clear hadd hE
    go_wp2
    have hbz := box2 b41 (.slice none 0 0) (.int .u64 0)
    have z0 : ((w1.setCell ⟨w.heap.size + 1, 0, none⟩ (.slice none 0 0)).setCell ⟨w.heap.size + 1, 1, none⟩ (.int .u64 0)).cell? ⟨w.heap.size + 1, 0, none⟩ = some (.slice none 0 0) := hbz.cell 0
    have z1 : ((w1.setCell ⟨w.heap.size + 1, 0, none⟩ (.slice none 0 0)).setCell ⟨w.heap.size + 1, 1, none⟩ (.int .u64 0)).cell? ⟨w.heap.size + 1, 1, none⟩ = some (.int .u64 0) := hbz.cell 1
    refine bodyPost_ret (v := .tuple #[.agg #[.slice none 0 0, .int .u64 0], .int .i64 E]) (by simp [results, Try.results9, go_sem, z0, z1]) rfl ?_
    exact ⟨none, 0, [], by rw [HADD.out.1, HADD.out.2.1]; rfl, by rw [HADD.out.2.2]; rfl, OwnRs.nil _ _, below2 hb01 (by omega) _ _⟩
  case pos =>
  have HE := Lib.hid hE
  have HE0 := Lib.hid hE0
  subst hE0
  clear hE
  go_wp2_with fail
  refine (runOf_any A l ca _ (HA.out.below hb1) (by omega)).mono ?_
  rintro e w2 ⟨A2, c2, rfl, ho2, hb2⟩
  have hb02 := bext hb01 hb2
  have b22 := b21.below hb2 b21.lt
  have b42 := b41.below hb2 b41.lt
  have hs2 := hb2.size
  have hs1 := hb01.size
  obtain ⟨E2, hE2⟩ : ∃ E2, buildE (l.map aliveE) = E2 := ⟨_, rfl⟩
  obtain ⟨LB, hLB⟩ : ∃ LB, buildL (l.map aliveE) = LB := ⟨_, rfl⟩
  rw [hLB] at ho2 ⊢
  rw [hE2]
  have HO2 := Lib.hid (own_mono (B' := w.heap.size) ho2 (by omega))
  have hLBn : LB.length ≤ 65536 := by rw [← hLB]; have := buildL_le (l.map aliveE); rw [List.length_map] at this; omega
  obtain ⟨M, hM⟩ : ∃ M, LB.length = M := ⟨_, rfl⟩
  rw [hM] at HO2 hLBn ⊢
  have HMM := Lib.hid hM
  have HLB := Lib.hid hLB
  clear ho2 hM hLB
  obtain ⟨W3, hW3⟩ : ∃ W3, w2.alloc (.cells #[.slice A2 M c2] 49) = W3 := ⟨_, rfl⟩
  have hb3 : Below w2.heap.size w2 W3 := by rw [← hW3]; exact (Below.refl _ _).alloc (Nat.le_refl _) _
  have b73 : Blk W3 w2.heap.size 49 #[.slice A2 M c2] := by rw [← hW3]; exact Blk.new _ _ _
  have b23 := b22.below hb3 b22.lt
  have b43 := b42.below hb3 b42.lt
  have hb03 := bext hb02 hb3
  have HO3 := Lib.hid (own_below HO2.out hb3)
  have HW3 := Lib.hid hW3
  clear hW3
  go_upto_region 5 with fail
  rw [HW3.out]
  by_cases hE20 : E2 = 0
  case neg =>
    have hadd : ofEr (lvs Rs) l = E2 := by unfold ofEr; rw [if_neg (by rw [HE.out]; simp), hE2]
    have HADD := Lib.hid (of_no (n := n) hadd hE20)
    have c40 : W3.cell? ⟨w.heap.size + 1, 0, none⟩ = some (.slice none 0 0) := b43.cell 0
    have c41 : W3.cell? ⟨w.heap.size + 1, 1, none⟩ = some (.int .u64 0) := b43.cell 1
    have f40 := b43.frozen 0
    have f41 := b43.frozen 1
    have l4 := b43.lt
    clear hadd hE2
    go_wp2
    have hbz := box2 b43 (.slice none 0 0) (.int .u64 0)
    have z0 : ((W3.setCell ⟨w.heap.size + 1, 0, none⟩ (.slice none 0 0)).setCell ⟨w.heap.size + 1, 1, none⟩ (.int .u64 0)).cell? ⟨w.heap.size + 1, 0, none⟩ = some (.slice none 0 0) := hbz.cell 0
    have z1 : ((W3.setCell ⟨w.heap.size + 1, 0, none⟩ (.slice none 0 0)).setCell ⟨w.heap.size + 1, 1, none⟩ (.int .u64 0)).cell? ⟨w.heap.size + 1, 1, none⟩ = some (.int .u64 0) := hbz.cell 1
    refine bodyPost_ret (v := .tuple #[.agg #[.slice none 0 0, .int .u64 0], .int .i64 E2]) (by simp [results, Try.results9, go_sem, z0, z1]) rfl ?_
    exact ⟨none, 0, [], by rw [HADD.out.1, HADD.out.2.1]; rfl, by rw [HADD.out.2.2]; rfl, OwnRs.nil _ _, below2 hb03 (by omega) _ _⟩
  case pos =>
  have hof0 : ofEr (lvs Rs) l = 0 := by unfold ofEr; rw [if_neg (by rw [HE.out]; simp), hE2, hE20]
  have hLBe : LB = laid (l.map aliveE) := by rw [← HLB.out]; unfold buildL; rw [if_pos (by rw [hE2, hE20])]
  have HOF0 := Lib.hid hof0
  have HLBE := Lib.hid hLBe
  subst hE20
  clear hE2 hof0 hLBe
  have c21 : W3.cell? ⟨w.heap.size, 1, none⟩ = some (.int .u64 n) := b23.cell 1
  have c70 : W3.cell? ⟨w2.heap.size, 0, none⟩ = some (.slice A2 M c2) := b73.cell 0
  have hcv : IntKind.u64.wrap (l.length : Int) = (l.length : Int) := IntWalk.u64_in _ (by omega)
  have l73 := b73.lt
  go_wp2_with fail
  obtain ⟨W4, hW4⟩ : ∃ W4, W3.alloc (.cells #[.slice A2 M c2] 49) = W4 := ⟨_, rfl⟩
  rw [hW4]
  have hb34 : Below W3.heap.size W3 W4 := by rw [← hW4]; exact (Below.refl _ _).alloc (Nat.le_refl _) _
  have hs3 := hb03.size
  have bS : Blk W4 W3.heap.size 49 #[.slice A2 M c2] := by rw [← hW4]; exact Blk.new _ _ _
  have b44 := b43.below hb34 b43.lt
  have hO1 : OwnRs W4 w.heap.size (some ⟨W3.heap.size, 0, none⟩) 1 [⟨LB, A2, c2⟩] := by
    refine ⟨⟨rfl, .inr ⟨W3.heap.size, 1, _, rfl, by omega, bS, Nat.le_refl _, by unfold maxLen; omega, rfl, ?_⟩⟩, ?_⟩
    · simp [Rm.v, HMM.out]
    · intro r hr
      obtain rfl : r = ⟨LB, A2, c2⟩ := by simpa using hr
      show W4.ownsRow _ _ _ (.slice A2 LB.length c2) LB.length _
      rw [HMM.out]
      exact own_below HO3.out hb34
  have hof := of_any (IntKind.u64.wrap (n + l.length)) (some ⟨W3.heap.size, 0, none⟩) [⟨LB, A2, c2⟩] 1 W4 hO1.runsAt (by simp) (by
    intro r hr
    obtain rfl : r = ⟨LB, A2, c2⟩ := by simpa using hr
    show LB.length ≤ 65536
    rw [HMM.out]; exact hLBn)
  have HO1 := Lib.hid hO1
  have hs4 := hb34.size
  clear hO1 hW4
  refine hof.mono ?_
  clear hof
  rintro e w5 ⟨A5, d5, Ts, rfl, ht1, ht2, ht3, hb5⟩
  have b45 := b44.below hb5 b44.lt
  have HOX := Lib.hid (OwnRs.sub (HO1.out.below hb5) (own_mono ht2 (by omega)) ht3 : OwnRs w5 w.heap.size A5 d5 Ts)
  have HT1 := Lib.hid ht1
  have HB5 := Lib.hid (bext (bext hb03 hb34) hb5)
  have c40 : w5.cell? ⟨w.heap.size + 1, 0, none⟩ = some (.slice none 0 0) := b45.cell 0
  have c41 : w5.cell? ⟨w.heap.size + 1, 1, none⟩ = some (.int .u64 0) := b45.cell 1
  have f40 := b45.frozen 0
  have f41 := b45.frozen 1
  have l4 := b45.lt
  clear ht1 ht2 ht3 hb5 c21 c70 hcv
  go_wp2
  have hbx := box2 b45 (.slice A5 Ts.length d5) (.int .u64 (IntKind.u64.wrap (n + l.length)))
  have e0 : ((w5.setCell ⟨w.heap.size + 1, 0, none⟩ (.slice A5 Ts.length d5)).setCell ⟨w.heap.size + 1, 1, none⟩ (.int .u64 (IntKind.u64.wrap (n + l.length)))).cell? ⟨w.heap.size + 1, 0, none⟩ = some (.slice A5 Ts.length d5) := hbx.cell 0
  have e1 : ((w5.setCell ⟨w.heap.size + 1, 0, none⟩ (.slice A5 Ts.length d5)).setCell ⟨w.heap.size + 1, 1, none⟩ (.int .u64 (IntKind.u64.wrap (n + l.length)))).cell? ⟨w.heap.size + 1, 1, none⟩ = some (.int .u64 (IntKind.u64.wrap (n + l.length))) := hbx.cell 1
  refine bodyPost_ret (v := .tuple #[.agg #[.slice A5 Ts.length d5, .int .u64 (IntKind.u64.wrap (n + l.length))], .int .i64 0]) (by simp [results, Try.results9, go_sem, e0, e1]) rfl ?_
  have hN : ofNr (lvs Rs) n l = IntKind.u64.wrap (n + l.length) := by unfold ofNr; rw [if_pos HOF0.out]
  have hL : ofLr (lvs Rs) l = lvs Ts := by
    unfold ofLr
    rw [if_pos HOF0.out, HT1.out, ← HLBE.out]
    rfl
  exact ⟨A5, d5, Ts, by rw [hN, HOF0.out], hL.symm, HOX.out.set2 b45 (by decide) (by decide) _ _, below2 HB5.out (by omega) _ _⟩
set_option maxHeartbeats 8000000 in
theorem of26_any (B A : Option Addr) (Rs : List Rm) (l : List Pr) (c ca : Nat) (n : Int) (w : World) (hB : RunsAt w B Rs) (hT : tot (lvs Rs) ≤ 1000000) (hl : Rs.length ≤ 1000000) (hA : Sl w A (l.flatMap Pr.cells)) (hl6 : l.length ≤ 65536) :
    Calls Try.prog 10 #[.agg #[.slice B Rs.length c, .int .u64 n], .slice A l.length ca] w (GivesRgE (ofLr (lvs Rs) l) (ofNr (lvs Rs) n l) (ofEr (lvs Rs) l) w) := by
  obtain ⟨W0, hW0⟩ : ∃ W0, (w.alloc (.cells #[.slice B Rs.length c, .int .u64 n] 25)).alloc (.cells #[.slice none 0 0, .int .u64 0] 25) = W0 := ⟨_, rfl⟩
  have hb0 : Below w.heap.size w W0 := by rw [← hW0]; exact ((Below.refl _ _).alloc (Nat.le_refl _) _).alloc (by simp) _
  have hs0 : W0.heap.size = w.heap.size + 2 := by rw [← hW0]; simp
  have b20 : Blk W0 w.heap.size 25 #[.slice B Rs.length c, .int .u64 n] := by rw [← hW0]; exact (Blk.new _ _ _).alloc _
  have b40 : Blk W0 (w.heap.size + 1) 25 #[.slice none 0 0, .int .u64 0] := by
    rw [← hW0]
    have := Blk.new (w.alloc (.cells #[.slice B Rs.length c, .int .u64 n] 25)) 25 #[.slice none 0 0, .int .u64 0]
    rwa [World.size_alloc] at this
  have HW0 := Lib.hid hW0
  have HS0 := Lib.hid hs0
  have HB := Lib.hid (hB.below hb0)
  have HA := Lib.hid (hA.below hb0)
  clear hW0 hB hA hs0
  go_enter Try.func10, Try.ntmps10
  go_wp2_with fail
  rw [HW0.out]
  refine (may26_any B Rs c n _ HB.out hT hl).mono ?_
  rintro e w1 ⟨rfl, hb1⟩
  have hb01 := bext hb0 hb1
  have b21 := b20.below hb1 b20.lt
  have b41 := b40.below hb1 b40.lt
  cases hM : mayB (lvs Rs) with
  | false =>
    have hE : chkR (lvs Rs) = 8 := by rw [chkR_may, hM]; rfl
    have hadd : ofEr (lvs Rs) l = 8 := by unfold ofEr; rw [if_pos (by rw [hE]; decide), hE]
    have HADD := Lib.hid (of_no (n := n) hadd (by decide))
    have c40 : w1.cell? ⟨w.heap.size + 1, 0, none⟩ = some (.slice none 0 0) := b41.cell 0
    have c41 : w1.cell? ⟨w.heap.size + 1, 1, none⟩ = some (.int .u64 0) := b41.cell 1
    have f40 := b41.frozen 0
    have f41 := b41.frozen 1
    have l4 := b41.lt
    clear hadd hE hM
    go_wp2
    have hbz := box2 b41 (.slice none 0 0) (.int .u64 0)
    have z0 : ((w1.setCell ⟨w.heap.size + 1, 0, none⟩ (.slice none 0 0)).setCell ⟨w.heap.size + 1, 1, none⟩ (.int .u64 0)).cell? ⟨w.heap.size + 1, 0, none⟩ = some (.slice none 0 0) := hbz.cell 0
    have z1 : ((w1.setCell ⟨w.heap.size + 1, 0, none⟩ (.slice none 0 0)).setCell ⟨w.heap.size + 1, 1, none⟩ (.int .u64 0)).cell? ⟨w.heap.size + 1, 1, none⟩ = some (.int .u64 0) := hbz.cell 1
    refine bodyPost_ret (v := .tuple #[.agg #[.slice none 0 0, .int .u64 0], .int .i64 8]) (by simp [results, Try.results10, go_sem, z0, z1]) rfl ?_
    exact ⟨none, 0, [], by rw [HADD.out.1, HADD.out.2.1]; rfl, by rw [HADD.out.2.2]; rfl, OwnRs.nil _ _, below2 hb01 (by omega) _ _⟩
  | true =>
  have HE : Hid (chkR (lvs Rs) = 0) := by show _ = _; rw [chkR_may, hM]; rfl
  clear hM
  go_wp2_with fail
  refine (refOf_any A l ca _ (HA.out.below hb1) hl6).mono ?_
  rintro e w2 ⟨A2, c2, rfl, ho2, hb2⟩
  have hb02 := bext hb01 hb2
  have hb12 := bext hb1 hb2
  have b22 := b21.below hb2 b21.lt
  have b42 := b41.below hb2 b41.lt
  have hs2 := hb02.size
  obtain ⟨E2, hE2⟩ : ∃ E2, buildE (l.map aliveE) = E2 := ⟨_, rfl⟩
  obtain ⟨M, hM⟩ : ∃ M, (buildL (l.map aliveE)).length = M := ⟨_, rfl⟩
  rw [hE2, hM]
  clear ho2 hM
  obtain ⟨W3, hW3⟩ : ∃ W3, w2.alloc (.cells #[.slice A2 M c2] 49) = W3 := ⟨_, rfl⟩
  have hb3 : Below w2.heap.size w2 W3 := by rw [← hW3]; exact (Below.refl _ _).alloc (Nat.le_refl _) _
  have b23 := b22.below hb3 b22.lt
  have b43 := b42.below hb3 b42.lt
  have hb03 := bext hb02 hb3
  have hb13 := bext hb12 hb3
  have HW3 := Lib.hid hW3
  clear hW3
  go_upto_if 18 with fail
  rw [HW3.out]
  by_cases hE20 : E2 = 0
  case neg =>
    have hadd : ofEr (lvs Rs) l = E2 := by unfold ofEr; rw [if_neg (by rw [HE.out]; simp), hE2]
    have HADD := Lib.hid (of_no (n := n) hadd hE20)
    have c40 : W3.cell? ⟨w.heap.size + 1, 0, none⟩ = some (.slice none 0 0) := b43.cell 0
    have c41 : W3.cell? ⟨w.heap.size + 1, 1, none⟩ = some (.int .u64 0) := b43.cell 1
    have f40 := b43.frozen 0
    have f41 := b43.frozen 1
    have l4 := b43.lt
    clear hadd hE2
    go_wp2
    have hbz := box2 b43 (.slice none 0 0) (.int .u64 0)
    have z0 : ((W3.setCell ⟨w.heap.size + 1, 0, none⟩ (.slice none 0 0)).setCell ⟨w.heap.size + 1, 1, none⟩ (.int .u64 0)).cell? ⟨w.heap.size + 1, 0, none⟩ = some (.slice none 0 0) := hbz.cell 0
    have z1 : ((W3.setCell ⟨w.heap.size + 1, 0, none⟩ (.slice none 0 0)).setCell ⟨w.heap.size + 1, 1, none⟩ (.int .u64 0)).cell? ⟨w.heap.size + 1, 1, none⟩ = some (.int .u64 0) := hbz.cell 1
    refine bodyPost_ret (v := .tuple #[.agg #[.slice none 0 0, .int .u64 0], .int .i64 E2]) (by simp [results, Try.results10, go_sem, z0, z1]) rfl ?_
    exact ⟨none, 0, [], by rw [HADD.out.1, HADD.out.2.1]; rfl, by rw [HADD.out.2.2]; rfl, OwnRs.nil _ _, below2 hb03 (by omega) _ _⟩
  case pos =>
  have hof0 : ofEr (lvs Rs) l = 0 := by unfold ofEr; rw [if_neg (by rw [HE.out]; simp), hE2, hE20]
  have HOF0 := Lib.hid hof0
  subst hE20
  clear hE2 hof0
  have c21 : W3.cell? ⟨w.heap.size, 1, none⟩ = some (.int .u64 n) := b23.cell 1
  go_wp2_with fail
  refine (alone26_any A l ca n _ (HA.out.below hb13) hl6).mono ?_
  rintro e w5 ⟨A5, d5, Ts, rfl, ht1, ho5, hb5⟩
  have b45 := b43.below hb5 b43.lt
  have HOX := Lib.hid (ho5.mono (B1 := w.heap.size) (by have := hb03.size; omega))
  have HT1 := Lib.hid ht1
  have HB5 := Lib.hid (bext hb03 hb5)
  have c40 : w5.cell? ⟨w.heap.size + 1, 0, none⟩ = some (.slice none 0 0) := b45.cell 0
  have c41 : w5.cell? ⟨w.heap.size + 1, 1, none⟩ = some (.int .u64 0) := b45.cell 1
  have f40 := b45.frozen 0
  have f41 := b45.frozen 1
  have l4 := b45.lt
  clear ht1 ho5 hb5 c21
  go_wp2
  have hbx := box2 b45 (.slice A5 Ts.length d5) (.int .u64 (IntKind.u64.wrap (n + l.length)))
  have e0 : ((w5.setCell ⟨w.heap.size + 1, 0, none⟩ (.slice A5 Ts.length d5)).setCell ⟨w.heap.size + 1, 1, none⟩ (.int .u64 (IntKind.u64.wrap (n + l.length)))).cell? ⟨w.heap.size + 1, 0, none⟩ = some (.slice A5 Ts.length d5) := hbx.cell 0
  have e1 : ((w5.setCell ⟨w.heap.size + 1, 0, none⟩ (.slice A5 Ts.length d5)).setCell ⟨w.heap.size + 1, 1, none⟩ (.int .u64 (IntKind.u64.wrap (n + l.length)))).cell? ⟨w.heap.size + 1, 1, none⟩ = some (.int .u64 (IntKind.u64.wrap (n + l.length))) := hbx.cell 1
  refine bodyPost_ret (v := .tuple #[.agg #[.slice A5 Ts.length d5, .int .u64 (IntKind.u64.wrap (n + l.length))], .int .i64 0]) (by simp [results, Try.results10, go_sem, e0, e1]) rfl ?_
  have hN : ofNr (lvs Rs) n l = IntKind.u64.wrap (n + l.length) := by unfold ofNr; rw [if_pos HOF0.out]
  have hL : ofLr (lvs Rs) l = lvs Ts := by
    unfold ofLr
    rw [if_pos HOF0.out, HT1.out]
  exact ⟨A5, d5, Ts, by rw [hN, HOF0.out], hL.symm, HOX.out.set2 b45 (by decide) (by decide) _ _, below2 HB5.out (by omega) _ _⟩
set_option maxHeartbeats 8000000 in
theorem add26_any (B : Option Addr) (Rs : List Rm) (c : Nat) (n : Int) (y : Ent) (w : World) (hB : RunsAt w B Rs) (hT : tot (lvs Rs) ≤ 1000000) (hl : Rs.length ≤ 1000000) (hn : 0 ≤ n ∧ n ≤ 18446744073709551615) :
    Calls Try.prog 8 #[.agg #[.slice B Rs.length c, .int .u64 n], .agg #[.int .i64 y.key, .int .i64 y.val, .bool y.dead]] w (GivesRgE (addL (lvs Rs) n y) (addN (lvs Rs) n y) (addE (lvs Rs) y) w) := by
  obtain ⟨W0, hW0⟩ : ∃ W0, ((w.alloc (.cells #[.slice B Rs.length c, .int .u64 n] 25)).alloc (.cells #[.int .i64 y.key, .int .i64 y.val, .bool y.dead] 27)).alloc (.cells #[.slice none 0 0, .int .u64 0] 25) = W0 := ⟨_, rfl⟩
  have hb0 : Below w.heap.size w W0 := by rw [← hW0]; exact (((Below.refl _ _).alloc (Nat.le_refl _) _).alloc (by simp) _).alloc (by simp; omega) _
  have b20 : Blk W0 w.heap.size 25 #[.slice B Rs.length c, .int .u64 n] := by rw [← hW0]; exact ((Blk.new _ _ _).alloc _).alloc _
  have b30 : Blk W0 (w.heap.size + 1) 27 #[.int .i64 y.key, .int .i64 y.val, .bool y.dead] := by
    rw [← hW0]
    have := Blk.new (w.alloc (.cells #[.slice B Rs.length c, .int .u64 n] 25)) 27 #[.int .i64 y.key, .int .i64 y.val, .bool y.dead]
    rw [World.size_alloc] at this
    exact this.alloc _
  have b40 : Blk W0 (w.heap.size + 1 + 1) 25 #[.slice none 0 0, .int .u64 0] := by
    rw [← hW0]
    have := Blk.new ((w.alloc (.cells #[.slice B Rs.length c, .int .u64 n] 25)).alloc (.cells #[.int .i64 y.key, .int .i64 y.val, .bool y.dead] 27)) 25 #[.slice none 0 0, .int .u64 0]
    rwa [World.size_alloc, World.size_alloc] at this
  have HW0 := Lib.hid hW0
  have HB := Lib.hid (hB.below hb0)
  have HNR := Lib.hid hn
  clear hW0 hB hn
  go_enter Try.func8, Try.ntmps8
  go_wp2_with fail
  rw [HW0.out]
  refine (may26_any B Rs c n _ HB.out hT hl).mono ?_
  rintro e w1 ⟨rfl, hb1⟩
  have hb01 := bext hb0 hb1
  have b21 := b20.below hb1 b20.lt
  have b31 := b30.below hb1 b30.lt
  have b41 := b40.below hb1 b40.lt
  cases hM : mayB (lvs Rs) with
  | false =>
    have hE : chkR (lvs Rs) = 8 := by rw [chkR_may, hM]; rfl
    have hadd : addE (lvs Rs) y = 8 := by unfold addE; rw [if_pos (by rw [hE]; decide), hE]
    have HADD := Lib.hid (add_no (n := n) hadd (by decide))
    have c40 : w1.cell? ⟨w.heap.size + 1 + 1, 0, none⟩ = some (.slice none 0 0) := b41.cell 0
    have c41 : w1.cell? ⟨w.heap.size + 1 + 1, 1, none⟩ = some (.int .u64 0) := b41.cell 1
    have f40 := b41.frozen 0
    have f41 := b41.frozen 1
    have l4 := b41.lt
    clear hadd hE hM
    go_wp2
    have hbz := box2 b41 (.slice none 0 0) (.int .u64 0)
    have z0 : ((w1.setCell ⟨w.heap.size + 1 + 1, 0, none⟩ (.slice none 0 0)).setCell ⟨w.heap.size + 1 + 1, 1, none⟩ (.int .u64 0)).cell? ⟨w.heap.size + 1 + 1, 0, none⟩ = some (.slice none 0 0) := hbz.cell 0
    have z1 : ((w1.setCell ⟨w.heap.size + 1 + 1, 0, none⟩ (.slice none 0 0)).setCell ⟨w.heap.size + 1 + 1, 1, none⟩ (.int .u64 0)).cell? ⟨w.heap.size + 1 + 1, 1, none⟩ = some (.int .u64 0) := hbz.cell 1
    refine bodyPost_ret (v := .tuple #[.agg #[.slice none 0 0, .int .u64 0], .int .i64 8]) (by simp [results, Try.results8, go_sem, z0, z1]) rfl ?_
    exact ⟨none, 0, [], by rw [HADD.out.1, HADD.out.2.1]; rfl, by rw [HADD.out.2.2]; rfl, OwnRs.nil _ _, below2 hb01 (by omega) _ _⟩
  | true =>
  have HE : Hid (chkR (lvs Rs) = 0) := by show _ = _; rw [chkR_may, hM]; rfl
  have HM : Hid (May (lvs Rs)) := (may_iff _).1 hM
  clear hM
  have c20 : w1.cell? ⟨w.heap.size, 0, none⟩ = some (.slice B Rs.length c) := b21.cell 0
  have c21 : w1.cell? ⟨w.heap.size, 1, none⟩ = some (.int .u64 n) := b21.cell 1
  go_wp2_with fail
  refine (entries26_any B Rs c n _ (HB.out.below hb1) hT hl).mono ?_
  rintro e w2 ⟨rfl, hb2⟩
  have hb02 := bext hb01 hb2
  have hb12 := bext hb1 hb2
  have b22 := b21.below hb2 b21.lt
  have b32 := b31.below hb2 b31.lt
  have b42 := b41.below hb2 b41.lt
  obtain ⟨T, hTe⟩ : ∃ T, tot (lvs Rs) = T := ⟨_, rfl⟩
  rw [hTe]
  clear c20 c21
  by_cases hT6 : T = 65536
  case pos =>
    have hadd : addE (lvs Rs) y = 4 := by unfold addE; rw [if_neg (by rw [HE.out]; simp), if_pos (by rw [hTe, hT6])]
    have HADD := Lib.hid (add_no (n := n) hadd (by decide))
    have c40 : w2.cell? ⟨w.heap.size + 1 + 1, 0, none⟩ = some (.slice none 0 0) := b42.cell 0
    have c41 : w2.cell? ⟨w.heap.size + 1 + 1, 1, none⟩ = some (.int .u64 0) := b42.cell 1
    have f40 := b42.frozen 0
    have f41 := b42.frozen 1
    have l4 := b42.lt
    clear hadd hTe hT
    subst hT6
    go_wp2
    have hbz := box2 b42 (.slice none 0 0) (.int .u64 0)
    have z0 : ((w2.setCell ⟨w.heap.size + 1 + 1, 0, none⟩ (.slice none 0 0)).setCell ⟨w.heap.size + 1 + 1, 1, none⟩ (.int .u64 0)).cell? ⟨w.heap.size + 1 + 1, 0, none⟩ = some (.slice none 0 0) := hbz.cell 0
    have z1 : ((w2.setCell ⟨w.heap.size + 1 + 1, 0, none⟩ (.slice none 0 0)).setCell ⟨w.heap.size + 1 + 1, 1, none⟩ (.int .u64 0)).cell? ⟨w.heap.size + 1 + 1, 1, none⟩ = some (.int .u64 0) := hbz.cell 1
    refine bodyPost_ret (v := .tuple #[.agg #[.slice none 0 0, .int .u64 0], .int .i64 4]) (by simp [results, Try.results8, go_sem, z0, z1]) rfl ?_
    exact ⟨none, 0, [], by rw [HADD.out.1, HADD.out.2.1]; rfl, by rw [HADD.out.2.2]; rfl, OwnRs.nil _ _, below2 hb02 (by omega) _ _⟩
  case neg =>
  have g1 : ¬ ((T : Int) = 65536) := by omega
  have HT6 : Hid (tot (lvs Rs) ≠ 65536) := by show _ ≠ _; rw [hTe]; exact hT6
  clear hTe hT hT6
  have c30 : w2.cell? ⟨w.heap.size + 1, 0, none⟩ = some (.int .i64 y.key) := b32.cell 0
  have c31 : w2.cell? ⟨w.heap.size + 1, 1, none⟩ = some (.int .i64 y.val) := b32.cell 1
  have c32 : w2.cell? ⟨w.heap.size + 1, 2, none⟩ = some (.bool y.dead) := b32.cell 2
  have l32 := b32.lt
  go_wp2_with fail
  obtain ⟨W3, hW3⟩ : ∃ W3, w2.alloc (.cells #[.int .i64 y.key, .int .i64 y.val, .bool y.dead] 27) = W3 := ⟨_, rfl⟩
  rw [hW3]
  have hb3 : Below w2.heap.size w2 W3 := by rw [← hW3]; exact (Below.refl _ _).alloc (Nat.le_refl _) _
  have bE : Blk W3 w2.heap.size 27 #[.int .i64 y.key, .int .i64 y.val, .bool y.dead] := by rw [← hW3]; exact Blk.new _ _ _
  have hb03 := bext hb02 hb3
  have hb13 := bext hb12 hb3
  have b23 := b22.below hb3 b22.lt
  have b33 := b32.below hb3 b32.lt
  have b43 := b42.below hb3 b42.lt
  clear hW3
  refine (refFair_any (some ⟨w2.heap.size, 0, none⟩) [y] 1 W3 (bE.sl 0 _ (by intro j u hu; simpa [Ent.cells] using hu)) (by simp)).mono ?_
  rintro e w4 ⟨rfl, rfl⟩
  have hany : ([y].any badEnt) = badEnt y := by simp
  rw [hany]
  clear hany c30 c31 c32
  cases hbad : badEnt y with
  | true =>
    have hadd : addE (lvs Rs) y = 8 := by unfold addE; rw [if_neg (by rw [HE.out]; simp), if_neg HT6.out, if_pos hbad]
    have HADD := Lib.hid (add_no (n := n) hadd (by decide))
    have c40 : W3.cell? ⟨w.heap.size + 1 + 1, 0, none⟩ = some (.slice none 0 0) := b43.cell 0
    have c41 : W3.cell? ⟨w.heap.size + 1 + 1, 1, none⟩ = some (.int .u64 0) := b43.cell 1
    have f40 := b43.frozen 0
    have f41 := b43.frozen 1
    have l4 := b43.lt
    clear hadd hbad
    go_wp2
    have hbz := box2 b43 (.slice none 0 0) (.int .u64 0)
    have z0 : ((W3.setCell ⟨w.heap.size + 1 + 1, 0, none⟩ (.slice none 0 0)).setCell ⟨w.heap.size + 1 + 1, 1, none⟩ (.int .u64 0)).cell? ⟨w.heap.size + 1 + 1, 0, none⟩ = some (.slice none 0 0) := hbz.cell 0
    have z1 : ((W3.setCell ⟨w.heap.size + 1 + 1, 0, none⟩ (.slice none 0 0)).setCell ⟨w.heap.size + 1 + 1, 1, none⟩ (.int .u64 0)).cell? ⟨w.heap.size + 1 + 1, 1, none⟩ = some (.int .u64 0) := hbz.cell 1
    refine bodyPost_ret (v := .tuple #[.agg #[.slice none 0 0, .int .u64 0], .int .i64 8]) (by simp [results, Try.results8, go_sem, z0, z1]) rfl ?_
    exact ⟨none, 0, [], by rw [HADD.out.1, HADD.out.2.1]; rfl, by rw [HADD.out.2.2]; rfl, OwnRs.nil _ _, below2 hb03 (by omega) _ _⟩
  | false =>
  have hadd0 : addE (lvs Rs) y = 0 := addE_zero.2 ⟨HM.out, HT6.out, hbad⟩
  have HADD0 := Lib.hid hadd0
  have HBF := Lib.hid hbad
  clear hadd0 hbad
  have c20 : W3.cell? ⟨w.heap.size, 0, none⟩ = some (.slice B Rs.length c) := b23.cell 0
  have c21 : W3.cell? ⟨w.heap.size, 1, none⟩ = some (.int .u64 n) := b23.cell 1
  have c30 : W3.cell? ⟨w.heap.size + 1, 0, none⟩ = some (.int .i64 y.key) := b33.cell 0
  have c31 : W3.cell? ⟨w.heap.size + 1, 1, none⟩ = some (.int .i64 y.val) := b33.cell 1
  have c32 : W3.cell? ⟨w.heap.size + 1, 2, none⟩ = some (.bool y.dead) := b33.cell 2
  go_wp2_with fail
  refine (in26_any B Rs c n y _ (HB.out.below hb13) HM.out HBF.out HT6.out HNR.out).mono ?_
  rintro e w5 ⟨A5, d5, Ts, rfl, ht1, ho5, hb5⟩
  have b45 := b43.below hb5 b43.lt
  have HOX := Lib.hid (ho5.mono (B1 := w.heap.size) (by have := hb03.size; omega))
  have HT1 := Lib.hid ht1
  have HB5 := Lib.hid (bext hb03 hb5)
  have hN : addN (lvs Rs) n y = slimN (letL (lvs Rs) n y) (letN (lvs Rs) n y) := by unfold addN; rw [if_pos HADD0.out]
  have hL : addL (lvs Rs) n y = slimL (letL (lvs Rs) n y) := by unfold addL; rw [if_pos HADD0.out]
  obtain ⟨n5, hn5⟩ : ∃ n5, slimN (letL (lvs Rs) n y) (letN (lvs Rs) n y) = n5 := ⟨_, rfl⟩
  rw [hn5] at hN ⊢
  have HN := Lib.hid hN
  have HL := Lib.hid hL
  have c40 : w5.cell? ⟨w.heap.size + 1 + 1, 0, none⟩ = some (.slice none 0 0) := b45.cell 0
  have c41 : w5.cell? ⟨w.heap.size + 1 + 1, 1, none⟩ = some (.int .u64 0) := b45.cell 1
  have f40 := b45.frozen 0
  have f41 := b45.frozen 1
  have l4 := b45.lt
  clear ht1 ho5 hb5 c20 c21 c30 c31 c32 hN hL hn5
  go_wp2
  have hbx := box2 b45 (.slice A5 Ts.length d5) (.int .u64 n5)
  have e0 : ((w5.setCell ⟨w.heap.size + 1 + 1, 0, none⟩ (.slice A5 Ts.length d5)).setCell ⟨w.heap.size + 1 + 1, 1, none⟩ (.int .u64 n5)).cell? ⟨w.heap.size + 1 + 1, 0, none⟩ = some (.slice A5 Ts.length d5) := hbx.cell 0
  have e1 : ((w5.setCell ⟨w.heap.size + 1 + 1, 0, none⟩ (.slice A5 Ts.length d5)).setCell ⟨w.heap.size + 1 + 1, 1, none⟩ (.int .u64 n5)).cell? ⟨w.heap.size + 1 + 1, 1, none⟩ = some (.int .u64 n5) := hbx.cell 1
  refine bodyPost_ret (v := .tuple #[.agg #[.slice A5 Ts.length d5, .int .u64 n5], .int .i64 0]) (by simp [results, Try.results8, go_sem, e0, e1]) rfl ?_
  exact ⟨A5, d5, Ts, by rw [HN.out, HADD0.out], by rw [HL.out, HT1.out], HOX.out.set2 b45 (by decide) (by decide) _ _, below2 HB5.out (by omega) _ _⟩
set_option maxHeartbeats 1000000 in
theorem same26_yes (B D : Option Addr) (Rs Ts : List Rm) (nr nt c d : Nat) (n : Int) (w : World) (hnr : Rs.length = nr) (hnt : Ts.length = nt) (hB : RunsAt w B Rs) (hD : RunsAt w D Ts) (he : lvs Ts = lvs Rs) (hl : Rs.length ≤ 1000000) (hrs : ∀ r ∈ Rs, r.l.length ≤ 1000000) :
    Calls Try.prog 11 #[.agg #[.slice D nt d, .int .u64 n], .agg #[.slice B nr c, .int .u64 n]] w fun r w' => r = .returned (.bool true) ∧ Below w.heap.size w w' := by
  have hb0 : Below w.heap.size w ((w.alloc (.cells #[.slice D nt d, .int .u64 n] 25)).alloc (.cells #[.slice B nr c, .int .u64 n] 25)) := ((Below.refl _ _).alloc (Nat.le_refl _) _).alloc (by simp) _
  have hsa := fun W (hW : Below w.heap.size w W) => sameAll_yes B D Rs Ts nt c d W hnt (hB.below hW) (hD.below hW) he hl hrs
  rw [hnr] at hsa
  have HSA := Lib.hid hsa
  clear hsa hB hD he hrs
  go_enter Try.func11, Try.ntmps11
  go_wp2_with fail
  refine (HSA.out _ hb0).mono ?_
  rintro e w1 ⟨rfl, hb1⟩
  go_wp2
  go_ret
  exact ⟨rfl, bext hb0 hb1⟩
end Go.Proofs.Ythdcllnmnmemdaa

/- Levels that are written over: what stays so that the walk may go on. No walk. -/
namespace Go.Proofs.Ythdcllnmnmemdaa
open Go Go.RowKit
set_option maxRecDepth 100000
def KeyRow (w : World) (B0 E : Nat) (A : Option Addr) (m : Nat) : Prop := m = 0 ∨ ∃ g cs, A = some ⟨g, 0, none⟩ ∧ (B0 ≤ g ∧ g < E) ∧ Blk w g 27 cs ∧ ∀ q, q < m → ∃ k, cs[q * 3]? = some (.int .i64 k)
structure LvRow (w : World) (B0 E g n : Nat) (cs : Array Value) : Prop where
  blk : Blk w g 49 cs
  base : B0 ≤ g ∧ g < E
  row : ∀ j, j < n → ∃ A m c, cs[j]? = some (.slice A m c) ∧ m ≤ 1000000 ∧ KeyRow w B0 E A m
section
variable {w w' : World} {B0 E g g2 n m i : Nat} {A : Option Addr} {cs : Array Value}
theorem KeyRow.get (h : KeyRow w B0 E A m) {q : Nat} (hq : q < m) : ∃ g k, A = some ⟨g, 0, none⟩ ∧ (B0 ≤ g ∧ g < E) ∧ w.cell? ⟨g, q * 3, none⟩ = some (.int .i64 k) ∧ w.frozen? ⟨g, q * 3, none⟩ = false ∧ ∃ cs, Blk w g 27 cs := by
  rcases h with h0 | ⟨g, cs, h1, h2, h3, h4⟩
  · omega
  · obtain ⟨k, hk⟩ := h4 q hq
    exact ⟨g, k, h1, h2, (h3.cell _).trans hk, h3.frozen _, cs, h3⟩
theorem KeyRow.setKey (h : KeyRow w B0 E A m) (g i : Nat) (k : Int) : KeyRow (w.setCell ⟨g, i, none⟩ (.int .i64 k)) B0 E A m := by
  rcases h with h0 | ⟨g', cs, h1, h2, h4, h5⟩
  · exact .inl h0
  · by_cases e : g' = g
    · subst e
      refine .inr ⟨g', _, h1, h2, h4.set_ i _, fun j hj => ?_⟩
      obtain ⟨k', hk'⟩ := h5 j hj
      rw [Array.getElem?_setIfInBounds]
      by_cases e2 : i = j * 3
      · rw [if_pos e2]
        have hlt : i < cs.size := by rw [e2]; exact (Array.getElem?_eq_some_iff.1 hk').1
        rw [if_pos hlt]
        exact ⟨k, rfl⟩
      · rw [if_neg e2]
        exact ⟨k', hk'⟩
    · exact .inr ⟨g', cs, h1, h2, h4.far (p := ⟨g, i, none⟩) e _, h5⟩
theorem KeyRow.setRow (h : KeyRow w B0 E A m) (hB : Blk w g 49 cs) (i : Nat) (u : Value) : KeyRow (w.setCell ⟨g, i, none⟩ u) B0 E A m := by
  rcases h with h0 | ⟨g', cs', h1, h2, h4, h5⟩
  · exact .inl h0
  · refine .inr ⟨g', cs', h1, h2, h4.far (p := ⟨g, i, none⟩) ?_ _, h5⟩
    intro e
    have e2 : g' = g := e
    subst e2
    have := h4.symm.trans hB
    simp at this
theorem KeyRow.below (h : KeyRow w B0 E A m) (hb : Below w.heap.size w w') : KeyRow w' B0 E A m := by
  rcases h with h0 | ⟨g', cs', h1, h2, h4, h5⟩
  · exact .inl h0
  · exact .inr ⟨g', cs', h1, h2, h4.below hb h4.lt, h5⟩
theorem LvRow.below (h : LvRow w B0 E g n cs) (hb : Below w.heap.size w w') : LvRow w' B0 E g n cs :=
  ⟨h.blk.below hb h.blk.lt, h.base, fun j hj => by obtain ⟨A, m, c, h1, h2, h3⟩ := h.row j hj; exact ⟨A, m, c, h1, h2, h3.below hb⟩⟩
theorem LvRow.setKey {cs2 : Array Value} (h : LvRow w B0 E g n cs) (h2 : Blk w g2 27 cs2) (i : Nat) (k : Int) : LvRow (w.setCell ⟨g2, i, none⟩ (.int .i64 k)) B0 E g n cs := by
  refine ⟨h.blk.far (p := ⟨g2, i, none⟩) ?_ _, h.base, fun j hj => ?_⟩
  · intro e
    have e2 : g = g2 := e
    subst e2
    have := h.blk.symm.trans h2
    simp at this
  · obtain ⟨A, m, c, h1, h3, h4⟩ := h.row j hj
    exact ⟨A, m, c, h1, h3, h4.setKey _ _ _⟩
theorem LvRow.clear (h : LvRow w B0 E g n cs) (i : Nat) : LvRow (w.setCell ⟨g, i, none⟩ (.slice none 0 0)) B0 E g n (cs.setIfInBounds i (.slice none 0 0)) := by
  refine ⟨h.blk.set_ i _, h.base, fun j hj => ?_⟩
  obtain ⟨A, m, c, h1, h3, h4⟩ := h.row j hj
  by_cases e : i = j
  · subst e
    have hlt : i < cs.size := (Array.getElem?_eq_some_iff.1 h1).1
    exact ⟨none, 0, 0, by rw [Array.getElem?_setIfInBounds, if_pos rfl, if_pos hlt], by omega, .inl rfl⟩
  · exact ⟨A, m, c, by rw [Array.getElem?_setIfInBounds, if_neg e]; exact h1, h3, h4.setRow h.blk _ _⟩
theorem OwnRs.lvRow {w0 : World} {B : Option Addr} {c : Nat} {Rs : List Rm} (h0 : OwnRs w0 B0 B c Rs) (h : OwnRs w B0 B c Rs) (hn : 0 < Rs.length) (hm : ∀ r ∈ Rs, r.l.length ≤ 1000000) : ∃ g cs, B = some ⟨g, 0, none⟩ ∧ LvRow w B0 w0.heap.size g Rs.length cs := by
  obtain ⟨g, cur, h1, h2, h3, h4, h5⟩ := h.at hn
  have hg0 := (h0.row.lt g (by rw [h1]; simp [Value.ownBlock])).2
  refine ⟨g, cur, h1, h3, ⟨h2, hg0⟩, fun j hj => ?_⟩
  have h6 := h5 j hj
  rw [h3.cell] at h6
  have hmem := List.getElem_mem hj
  refine ⟨_, _, _, h6, hm _ hmem, ?_⟩
  have h7 := h.ent _ hmem
  have h8 := h0.ent _ hmem
  by_cases hz : (Rs[j]'hj).l.length = 0
  · exact .inl hz
  · obtain ⟨g', cap, cur', hv, hg, hb, hn', _, hs, ht⟩ := own_blk h7 (by omega)
    have hg1 := (h8.lt g' (by rw [hv]; simp [Value.ownBlock])).2
    refine .inr ⟨g', cur', ?_, ⟨hg, hg1⟩, hb, fun q hq => ⟨((Rs[j]'hj).l[q]'hq).key, ?_⟩⟩
    · have := hv
      unfold Rm.v at this
      injection this
    · have hc := flat_get Ent.cells 3 Ent.cells_length (Rs[j]'hj).l q 0 hq (by omega)
      rw [← ht, List.getElem?_take, if_pos (by omega)] at hc
      simpa [Ent.cells] using hc
end
end Go.Proofs.Ythdcllnmnmemdaa

/- Contract: levels written over (shelfmarklaw26.spoil). -/
namespace Go.Proofs.Ythdcllnmnmemdaa
open Go Go.RowKit
set_option maxRecDepth 100000
theorem KeyRow.drew {w : World} {B0 E m : Nat} {A : Option Addr} (h : KeyRow w B0 E A m) : KeyRow w.drew B0 E A m := h
theorem LvRow.drew {w : World} {B0 E g n : Nat} {cs : Array Value} (h : LvRow w B0 E g n cs) : LvRow w.drew B0 E g n cs := ⟨h.blk, h.base, h.row⟩
set_option maxHeartbeats 4000000 in
theorem spoil26_any (B : Option Addr) (Rs : List Rm) (c B0 : Nat) (n : Int) (w0 w : World) (hO0 : OwnRs w0 B0 B c Rs) (hO : OwnRs w B0 B c Rs) (hsw : w0.heap.size ≤ w.heap.size) (hl : Rs.length ≤ 1000000) (hm : ∀ r ∈ Rs, r.l.length ≤ 1000000) :
    Calls Try.prog 12 #[.agg #[.slice B Rs.length c, .int .u64 n]] w fun r w' => (∃ v, r = .returned v) ∧ Mod (fun b => B0 ≤ b ∧ b < w0.heap.size) w w' := by
  obtain ⟨W0, hW0⟩ : ∃ W0, w.alloc (.cells #[.slice B Rs.length c, .int .u64 n] 25) = W0 := ⟨_, rfl⟩
  have hb0 : Below w.heap.size w W0 := by rw [← hW0]; exact (Below.refl _ _).alloc (Nat.le_refl _) _
  have b1 : Blk W0 w.heap.size 25 #[.slice B Rs.length c, .int .u64 n] := by rw [← hW0]; exact Blk.new _ _ _
  have hbB : Hid (Mod (fun b => B0 ≤ b ∧ b < w0.heap.size) w W0) := Mod.of_ext hb0
  have hlw : w.heap.size ≤ W0.heap.size := hb0.size
  have HW0 := Lib.hid hW0
  have HO := Lib.hid (hO.below hb0)
  have HO0 := Lib.hid hO0
  clear hW0 hO hO0
  by_cases h0 : Rs.length = 0
  · have c10 : W0.cell? ⟨w.heap.size, 0, none⟩ = some (.slice B Rs.length c) := b1.cell 0
    rw [h0] at c10
    rw [h0] at HW0 ⊢
    clear h0 HO b1
    go_enter Try.func12, Try.ntmps12
    go_wp2
    rw [HW0.out]
    refine wp_loop_rounds 1 ?_
    rw [rounds_succ]
    go_wp2
    first
    | (go_end0; exact ⟨⟨_, rfl⟩, hbB.out⟩)
    | fail "no end"
  · obtain ⟨g, cs, rfl, hrow⟩ := HO0.out.lvRow HO.out (by omega) hm
    obtain ⟨N, hN⟩ : ∃ N, Rs.length = N := ⟨_, rfl⟩
    have HROW := Lib.hid hrow
    rw [hN] at b1 HW0 HROW hl h0 ⊢
    clear hrow hm HO hN
    go_enter Try.func12, Try.ntmps12
    go_wp2
    rw [HW0.out]
    go_loopw [2] (fun i wr => ∃ (k : Nat) (cs : Array Value), k ≤ N ∧ i = .int .i64 k ∧ Blk wr w.heap.size 25 #[.slice (some ⟨g, 0, none⟩) N c, .int .u64 n] ∧ Hid (Mod (fun b => B0 ≤ b ∧ b < w0.heap.size) w wr ∧ LvRow wr B0 w0.heap.size g N cs)) (fun i _ => N - (intOf i).toNat)
    case atStart => exact ⟨0, cs, Nat.zero_le _, rfl, b1, hbB.out, HROW.out⟩
    case round =>
      obtain ⟨k, cs, hk, rfl, bX, hH⟩ := hrel
      have c10 : wr.cell? ⟨w.heap.size, 0, none⟩ = some (.slice (some ⟨g, 0, none⟩) N c) := bX.cell 0
      have c11 : wr.cell? ⟨w.heap.size, 1, none⟩ = some (.int .u64 n) := bX.cell 1
      by_cases hlt : k < N
      · obtain ⟨A, m, c2, hc1, hm1, hkr⟩ := hH.out.2.row k hlt
        have hki : (0 : Int) ≤ (k : Int) := by omega
        have hki2 : (k : Int) < (N : Int) := by omega
        have HC1 := Lib.hid hc1
        have HKR := Lib.hid hkr
        have HBX := Lib.hid bX
        clear hc1 hkr bX
        go_wp2_with fail
        clear c10 c11
        go_loopw [3] (fun i wq => ∃ q : Nat, q ≤ m ∧ i = .int .i64 q ∧ Blk wq w.heap.size 25 #[.slice (some ⟨g, 0, none⟩) N c, .int .u64 n] ∧ Hid (Mod (fun b => B0 ≤ b ∧ b < w0.heap.size) w wq ∧ LvRow wq B0 w0.heap.size g N cs ∧ KeyRow wq B0 w0.heap.size A m)) (fun i _ => m - (intOf i).toNat)
        case atStart => exact ⟨0, Nat.zero_le _, rfl, HBX.out, hH.out.1, hH.out.2, HKR.out⟩
        case round =>
          obtain ⟨q, hq, rfl, bY, hI⟩ := hrel
          have c10 : wr.cell? ⟨w.heap.size, 0, none⟩ = some (.slice (some ⟨g, 0, none⟩) N c) := bY.cell 0
          have c11 : wr.cell? ⟨w.heap.size, 1, none⟩ = some (.int .u64 n) := bY.cell 1
          have c20 : wr.cell? ⟨g, k, none⟩ = some (.slice A m c2) := (hI.out.2.1.blk.cell k).trans HC1.out
          have f20 : wr.frozen? ⟨g, k, none⟩ = false := hI.out.2.1.blk.frozen k
          by_cases hqm : q < m
          · obtain ⟨g2, kk, rfl, hg2, ck, fk, cs2, b2⟩ := hI.out.2.2.get hqm
            have i0 : (0 : Int) ≤ (q : Int) := by omega
            have i1 : (q : Int) < (m : Int) := by omega
            have HB2 := Lib.hid b2
            have HBY := Lib.hid bY
            have hneX : Hid (w.heap.size ≠ g2) := (blk_ne b2 bY (by decide)).symm
            clear b2 bY
            go_upto_region 7 with fail
            go_region
            all_goals
              go_wp2
              go_roundw
              case rel =>
                exact ⟨q + 1, by omega, by go_num, HBY.out.far (p := ⟨g2, q * 3, none⟩) hneX.out _, (hI.out.1.setCell (p := ⟨g2, q * 3, none⟩) hg2 _).drew, (hI.out.2.1.setKey HB2.out (q * 3) _).drew, (hI.out.2.2.setKey g2 (q * 3) _).drew⟩
              case measure => simp [intOf]; omega
          · have hqf : ¬ (q : Int) < (m : Int) := by omega
            have lg := hI.out.2.1.blk.lt
            have HBY := Lib.hid bY
            have hneX : Hid (w.heap.size ≠ g) := (blk_ne hI.out.2.1.blk bY (by decide)).symm
            clear bY
            go_wp2
            go_roundw
            case rel =>
              have hHo := hI.out
              exact ⟨k + 1, cs.setIfInBounds k (.slice none 0 0), by omega, by go_num, HBY.out.far (p := ⟨g, k, none⟩) hneX.out _, hHo.1.setCell (p := ⟨g, k, none⟩) hHo.2.1.base _, hHo.2.1.clear k⟩
            case measure => simp [intOf]; omega
      · have hkf : ¬ (k : Int) < (N : Int) := by omega
        go_wp2
        first
        | (go_end0; exact ⟨⟨_, rfl⟩, hH.out.1⟩)
        | fail "no end"
end Go.Proofs.Ythdcllnmnmemdaa
