/- Ho Ia Ib: texts of the claim, in this order. -/
import Derived.Test.YthdcllnmnmemdaaRs12
import Derived.Test.YthdcllnmnmemdaaRs15
import Derived.Test.YthdcllnmnmemdaaRs9
import Derived.Test.YthdcllnmnmemdaaRs10
/- Contracts: rungs.Of; the reference's Of, Add, Same. -/
namespace Go.Proofs.Ythdcllnmnmemdaa
open Go Go.RowKit
set_option maxRecDepth 100000
def ofEr (rs : Lv) (l : List Pr) : Int := if chkR rs ≠ 0 then chkR rs else buildE (l.map aliveE)
def ofLr (rs : Lv) (l : List Pr) : Lv := if ofEr rs l = 0 then standL [] (laid (l.map aliveE)) else []
def ofNr (rs : Lv) (n : Int) (l : List Pr) : Int := if ofEr rs l = 0 then IntKind.u64.wrap (n + l.length) else 0
theorem of_no {rs : Lv} {n : Int} {l : List Pr} {e : Int} (h : ofEr rs l = e) (he : e ≠ 0) : ofNr rs n l = 0 ∧ ofEr rs l = e ∧ ofLr rs l = [] := by
  unfold ofNr ofLr
  rw [if_neg (by rw [h]; exact he), if_neg (by rw [h]; exact he)]
  exact ⟨rfl, h, rfl⟩
theorem chkR_may (rs : Lv) : chkR rs = if mayB rs = true then 0 else 8 := rfl
set_option maxHeartbeats 8000000 in
theorem ofR_any (B A : Option Addr) (Rs : List Rm) (l : List Pr) (c ca : Nat) (n : Int) (w : World) (hB : RunsAt w B Rs) (hT : tot (lvs Rs) ≤ 1000000) (hl : Rs.length ≤ 1000000) (hA : Sl w A (l.flatMap Pr.cells)) (hl6 : l.length ≤ 65536) :
    Calls Try.prog 9 #[.agg #[.slice B Rs.length c, .int .u64 n], .slice A l.length ca] w (GivesRgE (ofLr (lvs Rs) l) (ofNr (lvs Rs) n l) (ofEr (lvs Rs) l) w) := by
  obtain ⟨W0, hW0⟩ : ∃ W0, (w.alloc (.cells #[.slice B Rs.length c, .int .u64 n] 25)).alloc (.cells #[.slice none 0 0, .int .u64 0] 25) = W0 := ⟨_, rfl⟩
  have hb0 : Below w.heap.size w W0 := by rw [← hW0]; exact ((Below.refl _ _).alloc (Nat.le_refl _) _).alloc (by simp) _
  have hs0 : W0.heap.size = w.heap.size + 2 := by rw [← hW0]; simp
  have b20 : Blk W0 w.heap.size 25 #[.slice B Rs.length c, .int .u64 n] := by rw [← hW0]; exact (Blk.new _ _ _).alloc _
  have b40 : Blk W0 (w.heap.size + 1) 25 #[.slice none 0 0, .int .u64 0] := by
    rw [← hW0]
    have := Blk.new (w.alloc (.cells #[.slice B Rs.length c, .int .u64 n] 25)) 25 #[.slice none 0 0, .int .u64 0]
    rwa [World.size_alloc] at this
  have HW0 := Lib.hid hW0
  have HS0 := Lib.hid hs0
  have HB := Lib.hid (hB.below hb0)
  have HA := Lib.hid (hA.below hb0)
  clear hW0 hB hA hs0
  go_enter Try.func9, Try.ntmps9
  go_wp2_with fail
  rw [HW0.out]
  refine (checkR_any B Rs c n _ HB.out hT hl).mono ?_
  rintro e w1 ⟨rfl, hb1⟩
  have hb01 := bext hb0 hb1
  have b21 := b20.below hb1 b20.lt
  have b41 := b40.below hb1 b40.lt
  obtain ⟨E, hE⟩ : ∃ E, chkR (lvs Rs) = E := ⟨_, rfl⟩
  rw [hE]
  by_cases hE0 : E = 0
  case neg =>
    have hadd : ofEr (lvs Rs) l = E := by unfold ofEr; rw [if_pos (by rw [hE]; exact hE0), hE]
    have HADD := Lib.hid (of_no (n := n) hadd hE0)
    have c40 : w1.cell? ⟨w.heap.size + 1, 0, none⟩ = some (.slice none 0 0) := b41.cell 0
    have c41 : w1.cell? ⟨w.heap.size + 1, 1, none⟩ = some (.int .u64 0) := b41.cell 1
    have f40 := b41.frozen 0
    have f41 := b41.frozen 1
    have l4 := b41.lt
    clear hadd hE
    go_wp2
    have hbz := box2 b41 (.slice none 0 0) (.int .u64 0)
    have z0 : ((w1.setCell ⟨w.heap.size + 1, 0, none⟩ (.slice none 0 0)).setCell ⟨w.heap.size + 1, 1, none⟩ (.int .u64 0)).cell? ⟨w.heap.size + 1, 0, none⟩ = some (.slice none 0 0) := hbz.cell 0
    have z1 : ((w1.setCell ⟨w.heap.size + 1, 0, none⟩ (.slice none 0 0)).setCell ⟨w.heap.size + 1, 1, none⟩ (.int .u64 0)).cell? ⟨w.heap.size + 1, 1, none⟩ = some (.int .u64 0) := hbz.cell 1
    refine bodyPost_ret (v := .tuple #[.agg #[.slice none 0 0, .int .u64 0], .int .i64 E]) (by simp [results, Try.results9, go_sem, z0, z1]) rfl ?_
    exact ⟨none, 0, [], by rw [HADD.out.1, HADD.out.2.1]; rfl, by rw [HADD.out.2.2]; rfl, OwnRs.nil _ _, below2 hb01 (by omega) _ _⟩
  case pos =>
  have HE := Lib.hid hE
  have HE0 := Lib.hid hE0
  subst hE0
  clear hE
  go_wp2_with fail
  refine (runOf_any A l ca _ (HA.out.below hb1) (by omega)).mono ?_
  rintro e w2 ⟨A2, c2, rfl, ho2, hb2⟩
  have hb02 := bext hb01 hb2
  have b22 := b21.below hb2 b21.lt
  have b42 := b41.below hb2 b41.lt
  have hs2 := hb2.size
  have hs1 := hb01.size
  obtain ⟨E2, hE2⟩ : ∃ E2, buildE (l.map aliveE) = E2 := ⟨_, rfl⟩
  obtain ⟨LB, hLB⟩ : ∃ LB, buildL (l.map aliveE) = LB := ⟨_, rfl⟩
  rw [hLB] at ho2 ⊢
  rw [hE2]
  have HO2 := Lib.hid (own_mono (B' := w.heap.size) ho2 (by omega))
  have hLBn : LB.length ≤ 65536 := by rw [← hLB]; have := buildL_le (l.map aliveE); rw [List.length_map] at this; omega
  obtain ⟨M, hM⟩ : ∃ M, LB.length = M := ⟨_, rfl⟩
  rw [hM] at HO2 hLBn ⊢
  have HMM := Lib.hid hM
  have HLB := Lib.hid hLB
  clear ho2 hM hLB
  obtain ⟨W3, hW3⟩ : ∃ W3, w2.alloc (.cells #[.slice A2 M c2] 49) = W3 := ⟨_, rfl⟩
  have hb3 : Below w2.heap.size w2 W3 := by rw [← hW3]; exact (Below.refl _ _).alloc (Nat.le_refl _) _
  have b73 : Blk W3 w2.heap.size 49 #[.slice A2 M c2] := by rw [← hW3]; exact Blk.new _ _ _
  have b23 := b22.below hb3 b22.lt
  have b43 := b42.below hb3 b42.lt
  have hb03 := bext hb02 hb3
  have HO3 := Lib.hid (own_below HO2.out hb3)
  have HW3 := Lib.hid hW3
  clear hW3
  go_upto_region 5 with fail
  rw [HW3.out]
  by_cases hE20 : E2 = 0
  case neg =>
    have hadd : ofEr (lvs Rs) l = E2 := by unfold ofEr; rw [if_neg (by rw [HE.out]; simp), hE2]
    have HADD := Lib.hid (of_no (n := n) hadd hE20)
    have c40 : W3.cell? ⟨w.heap.size + 1, 0, none⟩ = some (.slice none 0 0) := b43.cell 0
    have c41 : W3.cell? ⟨w.heap.size + 1, 1, none⟩ = some (.int .u64 0) := b43.cell 1
    have f40 := b43.frozen 0
    have f41 := b43.frozen 1
    have l4 := b43.lt
    clear hadd hE2
    go_wp2
    have hbz := box2 b43 (.slice none 0 0) (.int .u64 0)
    have z0 : ((W3.setCell ⟨w.heap.size + 1, 0, none⟩ (.slice none 0 0)).setCell ⟨w.heap.size + 1, 1, none⟩ (.int .u64 0)).cell? ⟨w.heap.size + 1, 0, none⟩ = some (.slice none 0 0) := hbz.cell 0
    have z1 : ((W3.setCell ⟨w.heap.size + 1, 0, none⟩ (.slice none 0 0)).setCell ⟨w.heap.size + 1, 1, none⟩ (.int .u64 0)).cell? ⟨w.heap.size + 1, 1, none⟩ = some (.int .u64 0) := hbz.cell 1
    refine bodyPost_ret (v := .tuple #[.agg #[.slice none 0 0, .int .u64 0], .int .i64 E2]) (by simp [results, Try.results9, go_sem, z0, z1]) rfl ?_
    exact ⟨none, 0, [], by rw [HADD.out.1, HADD.out.2.1]; rfl, by rw [HADD.out.2.2]; rfl, OwnRs.nil _ _, below2 hb03 (by omega) _ _⟩
  case pos =>
  have hof0 : ofEr (lvs Rs) l = 0 := by unfold ofEr; rw [if_neg (by rw [HE.out]; simp), hE2, hE20]
  have hLBe : LB = laid (l.map aliveE) := by rw [← HLB.out]; unfold buildL; rw [if_pos (by rw [hE2, hE20])]
  have HOF0 := Lib.hid hof0
  have HLBE := Lib.hid hLBe
  subst hE20
  clear hE2 hof0 hLBe
  have c21 : W3.cell? ⟨w.heap.size, 1, none⟩ = some (.int .u64 n) := b23.cell 1
  have c70 : W3.cell? ⟨w2.heap.size, 0, none⟩ = some (.slice A2 M c2) := b73.cell 0
  have hcv : IntKind.u64.wrap (l.length : Int) = (l.length : Int) := IntWalk.u64_in _ (by omega)
  have l73 := b73.lt
  go_wp2_with fail
  obtain ⟨W4, hW4⟩ : ∃ W4, W3.alloc (.cells #[.slice A2 M c2] 49) = W4 := ⟨_, rfl⟩
  rw [hW4]
  have hb34 : Below W3.heap.size W3 W4 := by rw [← hW4]; exact (Below.refl _ _).alloc (Nat.le_refl _) _
  have hs3 := hb03.size
  have bS : Blk W4 W3.heap.size 49 #[.slice A2 M c2] := by rw [← hW4]; exact Blk.new _ _ _
  have b44 := b43.below hb34 b43.lt
  have hO1 : OwnRs W4 w.heap.size (some ⟨W3.heap.size, 0, none⟩) 1 [⟨LB, A2, c2⟩] := by
    refine ⟨⟨rfl, .inr ⟨W3.heap.size, 1, _, rfl, by omega, bS, Nat.le_refl _, by unfold maxLen; omega, rfl, ?_⟩⟩, ?_⟩
    · simp [Rm.v, HMM.out]
    · intro r hr
      obtain rfl : r = ⟨LB, A2, c2⟩ := by simpa using hr
      show W4.ownsRow _ _ _ (.slice A2 LB.length c2) LB.length _
      rw [HMM.out]
      exact own_below HO3.out hb34
  have hof := of_any (IntKind.u64.wrap (n + l.length)) (some ⟨W3.heap.size, 0, none⟩) [⟨LB, A2, c2⟩] 1 W4 hO1.runsAt (by simp) (by
    intro r hr
    obtain rfl : r = ⟨LB, A2, c2⟩ := by simpa using hr
    show LB.length ≤ 65536
    rw [HMM.out]; exact hLBn)
  have HO1 := Lib.hid hO1
  have hs4 := hb34.size
  clear hO1 hW4
  refine hof.mono ?_
  clear hof
  rintro e w5 ⟨A5, d5, Ts, rfl, ht1, ht2, ht3, hb5⟩
  have b45 := b44.below hb5 b44.lt
  have HOX := Lib.hid (OwnRs.sub (HO1.out.below hb5) (own_mono ht2 (by omega)) ht3 : OwnRs w5 w.heap.size A5 d5 Ts)
  have HT1 := Lib.hid ht1
  have HB5 := Lib.hid (bext (bext hb03 hb34) hb5)
  have c40 : w5.cell? ⟨w.heap.size + 1, 0, none⟩ = some (.slice none 0 0) := b45.cell 0
  have c41 : w5.cell? ⟨w.heap.size + 1, 1, none⟩ = some (.int .u64 0) := b45.cell 1
  have f40 := b45.frozen 0
  have f41 := b45.frozen 1
  have l4 := b45.lt
  clear ht1 ht2 ht3 hb5 c21 c70 hcv
  go_wp2
  have hbx := box2 b45 (.slice A5 Ts.length d5) (.int .u64 (IntKind.u64.wrap (n + l.length)))
  have e0 : ((w5.setCell ⟨w.heap.size + 1, 0, none⟩ (.slice A5 Ts.length d5)).setCell ⟨w.heap.size + 1, 1, none⟩ (.int .u64 (IntKind.u64.wrap (n + l.length)))).cell? ⟨w.heap.size + 1, 0, none⟩ = some (.slice A5 Ts.length d5) := hbx.cell 0
  have e1 : ((w5.setCell ⟨w.heap.size + 1, 0, none⟩ (.slice A5 Ts.length d5)).setCell ⟨w.heap.size + 1, 1, none⟩ (.int .u64 (IntKind.u64.wrap (n + l.length)))).cell? ⟨w.heap.size + 1, 1, none⟩ = some (.int .u64 (IntKind.u64.wrap (n + l.length))) := hbx.cell 1
  refine bodyPost_ret (v := .tuple #[.agg #[.slice A5 Ts.length d5, .int .u64 (IntKind.u64.wrap (n + l.length))], .int .i64 0]) (by simp [results, Try.results9, go_sem, e0, e1]) rfl ?_
  have hN : ofNr (lvs Rs) n l = IntKind.u64.wrap (n + l.length) := by unfold ofNr; rw [if_pos HOF0.out]
  have hL : ofLr (lvs Rs) l = lvs Ts := by
    unfold ofLr
    rw [if_pos HOF0.out, HT1.out, ← HLBE.out]
    rfl
  exact ⟨A5, d5, Ts, by rw [hN, HOF0.out], hL.symm, HOX.out.set2 b45 (by decide) (by decide) _ _, below2 HB5.out (by omega) _ _⟩
set_option maxHeartbeats 8000000 in
theorem of26_any (B A : Option Addr) (Rs : List Rm) (l : List Pr) (c ca : Nat) (n : Int) (w : World) (hB : RunsAt w B Rs) (hT : tot (lvs Rs) ≤ 1000000) (hl : Rs.length ≤ 1000000) (hA : Sl w A (l.flatMap Pr.cells)) (hl6 : l.length ≤ 65536) :
    Calls Try.prog 10 #[.agg #[.slice B Rs.length c, .int .u64 n], .slice A l.length ca] w (GivesRgE (ofLr (lvs Rs) l) (ofNr (lvs Rs) n l) (ofEr (lvs Rs) l) w) := by
  obtain ⟨W0, hW0⟩ : ∃ W0, (w.alloc (.cells #[.slice B Rs.length c, .int .u64 n] 25)).alloc (.cells #[.slice none 0 0, .int .u64 0] 25) = W0 := ⟨_, rfl⟩
  have hb0 : Below w.heap.size w W0 := by rw [← hW0]; exact ((Below.refl _ _).alloc (Nat.le_refl _) _).alloc (by simp) _
  have hs0 : W0.heap.size = w.heap.size + 2 := by rw [← hW0]; simp
  have b20 : Blk W0 w.heap.size 25 #[.slice B Rs.length c, .int .u64 n] := by rw [← hW0]; exact (Blk.new _ _ _).alloc _
  have b40 : Blk W0 (w.heap.size + 1) 25 #[.slice none 0 0, .int .u64 0] := by
    rw [← hW0]
    have := Blk.new (w.alloc (.cells #[.slice B Rs.length c, .int .u64 n] 25)) 25 #[.slice none 0 0, .int .u64 0]
    rwa [World.size_alloc] at this
  have HW0 := Lib.hid hW0
  have HS0 := Lib.hid hs0
  have HB := Lib.hid (hB.below hb0)
  have HA := Lib.hid (hA.below hb0)
  clear hW0 hB hA hs0
  go_enter Try.func10, Try.ntmps10
  go_wp2_with fail
  rw [HW0.out]
  refine (may26_any B Rs c n _ HB.out hT hl).mono ?_
  rintro e w1 ⟨rfl, hb1⟩
  have hb01 := bext hb0 hb1
  have b21 := b20.below hb1 b20.lt
  have b41 := b40.below hb1 b40.lt
  cases hM : mayB (lvs Rs) with
  | false =>
    have hE : chkR (lvs Rs) = 8 := by rw [chkR_may, hM]; rfl
    have hadd : ofEr (lvs Rs) l = 8 := by unfold ofEr; rw [if_pos (by rw [hE]; decide), hE]
    have HADD := Lib.hid (of_no (n := n) hadd (by decide))
    have c40 : w1.cell? ⟨w.heap.size + 1, 0, none⟩ = some (.slice none 0 0) := b41.cell 0
    have c41 : w1.cell? ⟨w.heap.size + 1, 1, none⟩ = some (.int .u64 0) := b41.cell 1
    have f40 := b41.frozen 0
    have f41 := b41.frozen 1
    have l4 := b41.lt
    clear hadd hE hM
    go_wp2
    have hbz := box2 b41 (.slice none 0 0) (.int .u64 0)
    have z0 : ((w1.setCell ⟨w.heap.size + 1, 0, none⟩ (.slice none 0 0)).setCell ⟨w.heap.size + 1, 1, none⟩ (.int .u64 0)).cell? ⟨w.heap.size + 1, 0, none⟩ = some (.slice none 0 0) := hbz.cell 0
    have z1 : ((w1.setCell ⟨w.heap.size + 1, 0, none⟩ (.slice none 0 0)).setCell ⟨w.heap.size + 1, 1, none⟩ (.int .u64 0)).cell? ⟨w.heap.size + 1, 1, none⟩ = some (.int .u64 0) := hbz.cell 1
    refine bodyPost_ret (v := .tuple #[.agg #[.slice none 0 0, .int .u64 0], .int .i64 8]) (by simp [results, Try.results10, go_sem, z0, z1]) rfl ?_
    exact ⟨none, 0, [], by rw [HADD.out.1, HADD.out.2.1]; rfl, by rw [HADD.out.2.2]; rfl, OwnRs.nil _ _, below2 hb01 (by omega) _ _⟩
  | true =>
  have HE : Hid (chkR (lvs Rs) = 0) := by show _ = _; rw [chkR_may, hM]; rfl
  clear hM
  go_wp2_with fail
  refine (refOf_any A l ca _ (HA.out.below hb1) hl6).mono ?_
  rintro e w2 ⟨A2, c2, rfl, ho2, hb2⟩
  have hb02 := bext hb01 hb2
  have hb12 := bext hb1 hb2
  have b22 := b21.below hb2 b21.lt
  have b42 := b41.below hb2 b41.lt
  have hs2 := hb02.size
  obtain ⟨E2, hE2⟩ : ∃ E2, buildE (l.map aliveE) = E2 := ⟨_, rfl⟩
  obtain ⟨M, hM⟩ : ∃ M, (buildL (l.map aliveE)).length = M := ⟨_, rfl⟩
  rw [hE2, hM]
  clear ho2 hM
  obtain ⟨W3, hW3⟩ : ∃ W3, w2.alloc (.cells #[.slice A2 M c2] 49) = W3 := ⟨_, rfl⟩
  have hb3 : Below w2.heap.size w2 W3 := by rw [← hW3]; exact (Below.refl _ _).alloc (Nat.le_refl _) _
  have b23 := b22.below hb3 b22.lt
  have b43 := b42.below hb3 b42.lt
  have hb03 := bext hb02 hb3
  have hb13 := bext hb12 hb3
  have HW3 := Lib.hid hW3
  clear hW3
  go_upto_if 18 with fail
  rw [HW3.out]
  by_cases hE20 : E2 = 0
  case neg =>
    have hadd : ofEr (lvs Rs) l = E2 := by unfold ofEr; rw [if_neg (by rw [HE.out]; simp), hE2]
    have HADD := Lib.hid (of_no (n := n) hadd hE20)
    have c40 : W3.cell? ⟨w.heap.size + 1, 0, none⟩ = some (.slice none 0 0) := b43.cell 0
    have c41 : W3.cell? ⟨w.heap.size + 1, 1, none⟩ = some (.int .u64 0) := b43.cell 1
    have f40 := b43.frozen 0
    have f41 := b43.frozen 1
    have l4 := b43.lt
    clear hadd hE2
    go_wp2
    have hbz := box2 b43 (.slice none 0 0) (.int .u64 0)
    have z0 : ((W3.setCell ⟨w.heap.size + 1, 0, none⟩ (.slice none 0 0)).setCell ⟨w.heap.size + 1, 1, none⟩ (.int .u64 0)).cell? ⟨w.heap.size + 1, 0, none⟩ = some (.slice none 0 0) := hbz.cell 0
    have z1 : ((W3.setCell ⟨w.heap.size + 1, 0, none⟩ (.slice none 0 0)).setCell ⟨w.heap.size + 1, 1, none⟩ (.int .u64 0)).cell? ⟨w.heap.size + 1, 1, none⟩ = some (.int .u64 0) := hbz.cell 1
    refine bodyPost_ret (v := .tuple #[.agg #[.slice none 0 0, .int .u64 0], .int .i64 E2]) (by simp [results, Try.results10, go_sem, z0, z1]) rfl ?_
    exact ⟨none, 0, [], by rw [HADD.out.1, HADD.out.2.1]; rfl, by rw [HADD.out.2.2]; rfl, OwnRs.nil _ _, below2 hb03 (by omega) _ _⟩
  case pos =>
  have hof0 : ofEr (lvs Rs) l = 0 := by unfold ofEr; rw [if_neg (by rw [HE.out]; simp), hE2, hE20]
  have HOF0 := Lib.hid hof0
  subst hE20
  clear hE2 hof0
  have c21 : W3.cell? ⟨w.heap.size, 1, none⟩ = some (.int .u64 n) := b23.cell 1
  go_wp2_with fail
  refine (alone26_any A l ca n _ (HA.out.below hb13) hl6).mono ?_
  rintro e w5 ⟨A5, d5, Ts, rfl, ht1, ho5, hb5⟩
  have b45 := b43.below hb5 b43.lt
  have HOX := Lib.hid (ho5.mono (B1 := w.heap.size) (by have := hb03.size; omega))
  have HT1 := Lib.hid ht1
  have HB5 := Lib.hid (bext hb03 hb5)
  have c40 : w5.cell? ⟨w.heap.size + 1, 0, none⟩ = some (.slice none 0 0) := b45.cell 0
  have c41 : w5.cell? ⟨w.heap.size + 1, 1, none⟩ = some (.int .u64 0) := b45.cell 1
  have f40 := b45.frozen 0
  have f41 := b45.frozen 1
  have l4 := b45.lt
  clear ht1 ho5 hb5 c21
  go_wp2
  have hbx := box2 b45 (.slice A5 Ts.length d5) (.int .u64 (IntKind.u64.wrap (n + l.length)))
  have e0 : ((w5.setCell ⟨w.heap.size + 1, 0, none⟩ (.slice A5 Ts.length d5)).setCell ⟨w.heap.size + 1, 1, none⟩ (.int .u64 (IntKind.u64.wrap (n + l.length)))).cell? ⟨w.heap.size + 1, 0, none⟩ = some (.slice A5 Ts.length d5) := hbx.cell 0
  have e1 : ((w5.setCell ⟨w.heap.size + 1, 0, none⟩ (.slice A5 Ts.length d5)).setCell ⟨w.heap.size + 1, 1, none⟩ (.int .u64 (IntKind.u64.wrap (n + l.length)))).cell? ⟨w.heap.size + 1, 1, none⟩ = some (.int .u64 (IntKind.u64.wrap (n + l.length))) := hbx.cell 1
  refine bodyPost_ret (v := .tuple #[.agg #[.slice A5 Ts.length d5, .int .u64 (IntKind.u64.wrap (n + l.length))], .int .i64 0]) (by simp [results, Try.results10, go_sem, e0, e1]) rfl ?_
  have hN : ofNr (lvs Rs) n l = IntKind.u64.wrap (n + l.length) := by unfold ofNr; rw [if_pos HOF0.out]
  have hL : ofLr (lvs Rs) l = lvs Ts := by
    unfold ofLr
    rw [if_pos HOF0.out, HT1.out]
  exact ⟨A5, d5, Ts, by rw [hN, HOF0.out], hL.symm, HOX.out.set2 b45 (by decide) (by decide) _ _, below2 HB5.out (by omega) _ _⟩
set_option maxHeartbeats 8000000 in
theorem add26_any (B : Option Addr) (Rs : List Rm) (c : Nat) (n : Int) (y : Ent) (w : World) (hB : RunsAt w B Rs) (hT : tot (lvs Rs) ≤ 1000000) (hl : Rs.length ≤ 1000000) (hn : 0 ≤ n ∧ n ≤ 18446744073709551615) :
    Calls Try.prog 8 #[.agg #[.slice B Rs.length c, .int .u64 n], .agg #[.int .i64 y.key, .int .i64 y.val, .bool y.dead]] w (GivesRgE (addL (lvs Rs) n y) (addN (lvs Rs) n y) (addE (lvs Rs) y) w) := by
  obtain ⟨W0, hW0⟩ : ∃ W0, ((w.alloc (.cells #[.slice B Rs.length c, .int .u64 n] 25)).alloc (.cells #[.int .i64 y.key, .int .i64 y.val, .bool y.dead] 27)).alloc (.cells #[.slice none 0 0, .int .u64 0] 25) = W0 := ⟨_, rfl⟩
  have hb0 : Below w.heap.size w W0 := by rw [← hW0]; exact (((Below.refl _ _).alloc (Nat.le_refl _) _).alloc (by simp) _).alloc (by simp; omega) _
  have b20 : Blk W0 w.heap.size 25 #[.slice B Rs.length c, .int .u64 n] := by rw [← hW0]; exact ((Blk.new _ _ _).alloc _).alloc _
  have b30 : Blk W0 (w.heap.size + 1) 27 #[.int .i64 y.key, .int .i64 y.val, .bool y.dead] := by
    rw [← hW0]
    have := Blk.new (w.alloc (.cells #[.slice B Rs.length c, .int .u64 n] 25)) 27 #[.int .i64 y.key, .int .i64 y.val, .bool y.dead]
    rw [World.size_alloc] at this
    exact this.alloc _
  have b40 : Blk W0 (w.heap.size + 1 + 1) 25 #[.slice none 0 0, .int .u64 0] := by
    rw [← hW0]
    have := Blk.new ((w.alloc (.cells #[.slice B Rs.length c, .int .u64 n] 25)).alloc (.cells #[.int .i64 y.key, .int .i64 y.val, .bool y.dead] 27)) 25 #[.slice none 0 0, .int .u64 0]
    rwa [World.size_alloc, World.size_alloc] at this
  have HW0 := Lib.hid hW0
  have HB := Lib.hid (hB.below hb0)
  have HNR := Lib.hid hn
  clear hW0 hB hn
  go_enter Try.func8, Try.ntmps8
  go_wp2_with fail
  rw [HW0.out]
  refine (may26_any B Rs c n _ HB.out hT hl).mono ?_
  rintro e w1 ⟨rfl, hb1⟩
  have hb01 := bext hb0 hb1
  have b21 := b20.below hb1 b20.lt
  have b31 := b30.below hb1 b30.lt
  have b41 := b40.below hb1 b40.lt
  cases hM : mayB (lvs Rs) with
  | false =>
    have hE : chkR (lvs Rs) = 8 := by rw [chkR_may, hM]; rfl
    have hadd : addE (lvs Rs) y = 8 := by unfold addE; rw [if_pos (by rw [hE]; decide), hE]
    have HADD := Lib.hid (add_no (n := n) hadd (by decide))
    have c40 : w1.cell? ⟨w.heap.size + 1 + 1, 0, none⟩ = some (.slice none 0 0) := b41.cell 0
    have c41 : w1.cell? ⟨w.heap.size + 1 + 1, 1, none⟩ = some (.int .u64 0) := b41.cell 1
    have f40 := b41.frozen 0
    have f41 := b41.frozen 1
    have l4 := b41.lt
    clear hadd hE hM
    go_wp2
    have hbz := box2 b41 (.slice none 0 0) (.int .u64 0)
    have z0 : ((w1.setCell ⟨w.heap.size + 1 + 1, 0, none⟩ (.slice none 0 0)).setCell ⟨w.heap.size + 1 + 1, 1, none⟩ (.int .u64 0)).cell? ⟨w.heap.size + 1 + 1, 0, none⟩ = some (.slice none 0 0) := hbz.cell 0
    have z1 : ((w1.setCell ⟨w.heap.size + 1 + 1, 0, none⟩ (.slice none 0 0)).setCell ⟨w.heap.size + 1 + 1, 1, none⟩ (.int .u64 0)).cell? ⟨w.heap.size + 1 + 1, 1, none⟩ = some (.int .u64 0) := hbz.cell 1
    refine bodyPost_ret (v := .tuple #[.agg #[.slice none 0 0, .int .u64 0], .int .i64 8]) (by simp [results, Try.results8, go_sem, z0, z1]) rfl ?_
    exact ⟨none, 0, [], by rw [HADD.out.1, HADD.out.2.1]; rfl, by rw [HADD.out.2.2]; rfl, OwnRs.nil _ _, below2 hb01 (by omega) _ _⟩
  | true =>
  have HE : Hid (chkR (lvs Rs) = 0) := by show _ = _; rw [chkR_may, hM]; rfl
  have HM : Hid (May (lvs Rs)) := (may_iff _).1 hM
  clear hM
  have c20 : w1.cell? ⟨w.heap.size, 0, none⟩ = some (.slice B Rs.length c) := b21.cell 0
  have c21 : w1.cell? ⟨w.heap.size, 1, none⟩ = some (.int .u64 n) := b21.cell 1
  go_wp2_with fail
  refine (entries26_any B Rs c n _ (HB.out.below hb1) hT hl).mono ?_
  rintro e w2 ⟨rfl, hb2⟩
  have hb02 := bext hb01 hb2
  have hb12 := bext hb1 hb2
  have b22 := b21.below hb2 b21.lt
  have b32 := b31.below hb2 b31.lt
  have b42 := b41.below hb2 b41.lt
  obtain ⟨T, hTe⟩ : ∃ T, tot (lvs Rs) = T := ⟨_, rfl⟩
  rw [hTe]
  clear c20 c21
  by_cases hT6 : T = 65536
  case pos =>
    have hadd : addE (lvs Rs) y = 4 := by unfold addE; rw [if_neg (by rw [HE.out]; simp), if_pos (by rw [hTe, hT6])]
    have HADD := Lib.hid (add_no (n := n) hadd (by decide))
    have c40 : w2.cell? ⟨w.heap.size + 1 + 1, 0, none⟩ = some (.slice none 0 0) := b42.cell 0
    have c41 : w2.cell? ⟨w.heap.size + 1 + 1, 1, none⟩ = some (.int .u64 0) := b42.cell 1
    have f40 := b42.frozen 0
    have f41 := b42.frozen 1
    have l4 := b42.lt
    clear hadd hTe hT
    subst hT6
    go_wp2
    have hbz := box2 b42 (.slice none 0 0) (.int .u64 0)
    have z0 : ((w2.setCell ⟨w.heap.size + 1 + 1, 0, none⟩ (.slice none 0 0)).setCell ⟨w.heap.size + 1 + 1, 1, none⟩ (.int .u64 0)).cell? ⟨w.heap.size + 1 + 1, 0, none⟩ = some (.slice none 0 0) := hbz.cell 0
    have z1 : ((w2.setCell ⟨w.heap.size + 1 + 1, 0, none⟩ (.slice none 0 0)).setCell ⟨w.heap.size + 1 + 1, 1, none⟩ (.int .u64 0)).cell? ⟨w.heap.size + 1 + 1, 1, none⟩ = some (.int .u64 0) := hbz.cell 1
    refine bodyPost_ret (v := .tuple #[.agg #[.slice none 0 0, .int .u64 0], .int .i64 4]) (by simp [results, Try.results8, go_sem, z0, z1]) rfl ?_
    exact ⟨none, 0, [], by rw [HADD.out.1, HADD.out.2.1]; rfl, by rw [HADD.out.2.2]; rfl, OwnRs.nil _ _, below2 hb02 (by omega) _ _⟩
  case neg =>
  have g1 : ¬ ((T : Int) = 65536) := by omega
  have HT6 : Hid (tot (lvs Rs) ≠ 65536) := by show _ ≠ _; rw [hTe]; exact hT6
  clear hTe hT hT6
  have c30 : w2.cell? ⟨w.heap.size + 1, 0, none⟩ = some (.int .i64 y.key) := b32.cell 0
  have c31 : w2.cell? ⟨w.heap.size + 1, 1, none⟩ = some (.int .i64 y.val) := b32.cell 1
  have c32 : w2.cell? ⟨w.heap.size + 1, 2, none⟩ = some (.bool y.dead) := b32.cell 2
  have l32 := b32.lt
  go_wp2_with fail
  obtain ⟨W3, hW3⟩ : ∃ W3, w2.alloc (.cells #[.int .i64 y.key, .int .i64 y.val, .bool y.dead] 27) = W3 := ⟨_, rfl⟩
  rw [hW3]
  have hb3 : Below w2.heap.size w2 W3 := by rw [← hW3]; exact (Below.refl _ _).alloc (Nat.le_refl _) _
  have bE : Blk W3 w2.heap.size 27 #[.int .i64 y.key, .int .i64 y.val, .bool y.dead] := by rw [← hW3]; exact Blk.new _ _ _
  have hb03 := bext hb02 hb3
  have hb13 := bext hb12 hb3
  have b23 := b22.below hb3 b22.lt
  have b33 := b32.below hb3 b32.lt
  have b43 := b42.below hb3 b42.lt
  clear hW3
  refine (refFair_any (some ⟨w2.heap.size, 0, none⟩) [y] 1 W3 (bE.sl 0 _ (by intro j u hu; simpa [Ent.cells] using hu)) (by simp)).mono ?_
  rintro e w4 ⟨rfl, rfl⟩
  have hany : ([y].any badEnt) = badEnt y := by simp
  rw [hany]
  clear hany c30 c31 c32
  cases hbad : badEnt y with
  | true =>
    have hadd : addE (lvs Rs) y = 8 := by unfold addE; rw [if_neg (by rw [HE.out]; simp), if_neg HT6.out, if_pos hbad]
    have HADD := Lib.hid (add_no (n := n) hadd (by decide))
    have c40 : W3.cell? ⟨w.heap.size + 1 + 1, 0, none⟩ = some (.slice none 0 0) := b43.cell 0
    have c41 : W3.cell? ⟨w.heap.size + 1 + 1, 1, none⟩ = some (.int .u64 0) := b43.cell 1
    have f40 := b43.frozen 0
    have f41 := b43.frozen 1
    have l4 := b43.lt
    clear hadd hbad
    go_wp2
    have hbz := box2 b43 (.slice none 0 0) (.int .u64 0)
    have z0 : ((W3.setCell ⟨w.heap.size + 1 + 1, 0, none⟩ (.slice none 0 0)).setCell ⟨w.heap.size + 1 + 1, 1, none⟩ (.int .u64 0)).cell? ⟨w.heap.size + 1 + 1, 0, none⟩ = some (.slice none 0 0) := hbz.cell 0
    have z1 : ((W3.setCell ⟨w.heap.size + 1 + 1, 0, none⟩ (.slice none 0 0)).setCell ⟨w.heap.size + 1 + 1, 1, none⟩ (.int .u64 0)).cell? ⟨w.heap.size + 1 + 1, 1, none⟩ = some (.int .u64 0) := hbz.cell 1
    refine bodyPost_ret (v := .tuple #[.agg #[.slice none 0 0, .int .u64 0], .int .i64 8]) (by simp [results, Try.results8, go_sem, z0, z1]) rfl ?_
    exact ⟨none, 0, [], by rw [HADD.out.1, HADD.out.2.1]; rfl, by rw [HADD.out.2.2]; rfl, OwnRs.nil _ _, below2 hb03 (by omega) _ _⟩
  | false =>
  have hadd0 : addE (lvs Rs) y = 0 := addE_zero.2 ⟨HM.out, HT6.out, hbad⟩
  have HADD0 := Lib.hid hadd0
  have HBF := Lib.hid hbad
  clear hadd0 hbad
  have c20 : W3.cell? ⟨w.heap.size, 0, none⟩ = some (.slice B Rs.length c) := b23.cell 0
  have c21 : W3.cell? ⟨w.heap.size, 1, none⟩ = some (.int .u64 n) := b23.cell 1
  have c30 : W3.cell? ⟨w.heap.size + 1, 0, none⟩ = some (.int .i64 y.key) := b33.cell 0
  have c31 : W3.cell? ⟨w.heap.size + 1, 1, none⟩ = some (.int .i64 y.val) := b33.cell 1
  have c32 : W3.cell? ⟨w.heap.size + 1, 2, none⟩ = some (.bool y.dead) := b33.cell 2
  go_wp2_with fail
  refine (in26_any B Rs c n y _ (HB.out.below hb13) HM.out HBF.out HT6.out HNR.out).mono ?_
  rintro e w5 ⟨A5, d5, Ts, rfl, ht1, ho5, hb5⟩
  have b45 := b43.below hb5 b43.lt
  have HOX := Lib.hid (ho5.mono (B1 := w.heap.size) (by have := hb03.size; omega))
  have HT1 := Lib.hid ht1
  have HB5 := Lib.hid (bext hb03 hb5)
  have hN : addN (lvs Rs) n y = slimN (letL (lvs Rs) n y) (letN (lvs Rs) n y) := by unfold addN; rw [if_pos HADD0.out]
  have hL : addL (lvs Rs) n y = slimL (letL (lvs Rs) n y) := by unfold addL; rw [if_pos HADD0.out]
  obtain ⟨n5, hn5⟩ : ∃ n5, slimN (letL (lvs Rs) n y) (letN (lvs Rs) n y) = n5 := ⟨_, rfl⟩
  rw [hn5] at hN ⊢
  have HN := Lib.hid hN
  have HL := Lib.hid hL
  have c40 : w5.cell? ⟨w.heap.size + 1 + 1, 0, none⟩ = some (.slice none 0 0) := b45.cell 0
  have c41 : w5.cell? ⟨w.heap.size + 1 + 1, 1, none⟩ = some (.int .u64 0) := b45.cell 1
  have f40 := b45.frozen 0
  have f41 := b45.frozen 1
  have l4 := b45.lt
  clear ht1 ho5 hb5 c20 c21 c30 c31 c32 hN hL hn5
  go_wp2
  have hbx := box2 b45 (.slice A5 Ts.length d5) (.int .u64 n5)
  have e0 : ((w5.setCell ⟨w.heap.size + 1 + 1, 0, none⟩ (.slice A5 Ts.length d5)).setCell ⟨w.heap.size + 1 + 1, 1, none⟩ (.int .u64 n5)).cell? ⟨w.heap.size + 1 + 1, 0, none⟩ = some (.slice A5 Ts.length d5) := hbx.cell 0
  have e1 : ((w5.setCell ⟨w.heap.size + 1 + 1, 0, none⟩ (.slice A5 Ts.length d5)).setCell ⟨w.heap.size + 1 + 1, 1, none⟩ (.int .u64 n5)).cell? ⟨w.heap.size + 1 + 1, 1, none⟩ = some (.int .u64 n5) := hbx.cell 1
  refine bodyPost_ret (v := .tuple #[.agg #[.slice A5 Ts.length d5, .int .u64 n5], .int .i64 0]) (by simp [results, Try.results8, go_sem, e0, e1]) rfl ?_
  exact ⟨A5, d5, Ts, by rw [HN.out, HADD0.out], by rw [HL.out, HT1.out], HOX.out.set2 b45 (by decide) (by decide) _ _, below2 HB5.out (by omega) _ _⟩
set_option maxHeartbeats 1000000 in
theorem same26_yes (B D : Option Addr) (Rs Ts : List Rm) (nr nt c d : Nat) (n : Int) (w : World) (hnr : Rs.length = nr) (hnt : Ts.length = nt) (hB : RunsAt w B Rs) (hD : RunsAt w D Ts) (he : lvs Ts = lvs Rs) (hl : Rs.length ≤ 1000000) (hrs : ∀ r ∈ Rs, r.l.length ≤ 1000000) :
    Calls Try.prog 11 #[.agg #[.slice D nt d, .int .u64 n], .agg #[.slice B nr c, .int .u64 n]] w fun r w' => r = .returned (.bool true) ∧ Below w.heap.size w w' := by
  have hb0 : Below w.heap.size w ((w.alloc (.cells #[.slice D nt d, .int .u64 n] 25)).alloc (.cells #[.slice B nr c, .int .u64 n] 25)) := ((Below.refl _ _).alloc (Nat.le_refl _) _).alloc (by simp) _
  have hsa := fun W (hW : Below w.heap.size w W) => sameAll_yes B D Rs Ts nt c d W hnt (hB.below hW) (hD.below hW) he hl hrs
  rw [hnr] at hsa
  have HSA := Lib.hid hsa
  clear hsa hB hD he hrs
  go_enter Try.func11, Try.ntmps11
  go_wp2_with fail
  refine (HSA.out _ hb0).mono ?_
  rintro e w1 ⟨rfl, hb1⟩
  go_wp2
  go_ret
  exact ⟨rfl, bext hb0 hb1⟩
end Go.Proofs.Ythdcllnmnmemdaa

/- Contracts: rungs.Pairs, rungs.Count. -/
namespace Go.Proofs.Ythdcllnmnmemdaa
open Go Go.RowKit
set_option maxRecDepth 100000
theorem rm_le {Rs : List Rm} (h : May (lvs Rs)) : (∀ r ∈ Rs, r.l.length ≤ 65536) ∧ Rs.length ≤ 17 ∧ (Rs.map (fun r => r.l.length)).sum ≤ 65536 := by
  have h1 := h.size
  have h2 := h.len
  rw [lvs_len] at h2
  have h3 : (Rs.map (fun r => r.l.length)).sum = tot (lvs Rs) := by unfold tot lvs; rw [List.map_map]; rfl
  refine ⟨fun r hr => ?_, h2, by omega⟩
  have h4 := le_sum (List.mem_map.2 ⟨r, hr, rfl⟩ : r.l.length ∈ Rs.map (fun r => r.l.length))
  omega
set_option maxHeartbeats 8000000 in
theorem pairsR_any (B : Option Addr) (Rs : List Rm) (c : Nat) (n : Int) (w : World) (hB : RunsAt w B Rs) (hT : tot (lvs Rs) ≤ 1000000) (hl : Rs.length ≤ 1000000) :
    Calls Try.prog 35 #[.agg #[.slice B Rs.length c, .int .u64 n]] w (GivesPrs (prR (lvs Rs)) (chkR (lvs Rs)) w) := by
  obtain ⟨W0, hW0⟩ : ∃ W0, w.alloc (.cells #[.slice B Rs.length c, .int .u64 n] 25) = W0 := ⟨_, rfl⟩
  have hb0 : Below w.heap.size w W0 := by rw [← hW0]; exact (Below.refl _ _).alloc (Nat.le_refl _) _
  have b20 : Blk W0 w.heap.size 25 #[.slice B Rs.length c, .int .u64 n] := by rw [← hW0]; exact Blk.new _ _ _
  have HW0 := Lib.hid hW0
  have HB := Lib.hid (hB.below hb0)
  clear hW0 hB
  have hck := fun W (hW : Below W0.heap.size W0 W) => checkR_any B Rs c n W (HB.out.below hW) hT hl
  obtain ⟨E, hE⟩ : ∃ E, chkR (lvs Rs) = E := ⟨_, rfl⟩
  obtain ⟨P, hP⟩ : ∃ P, prR (lvs Rs) = P := ⟨_, rfl⟩
  have hp0 : E ≠ 0 → P = [] := fun h => by rw [← hP]; unfold prR; rw [if_neg (by rw [hE]; exact h)]
  rw [hE] at hck
  rw [hE, hP]
  have HCK := Lib.hid hck
  have HE := Lib.hid hE
  have HP := Lib.hid hP
  clear hck hE hP
  go_enter Try.func35, Try.ntmps35
  go_wp2_with fail
  rw [HW0.out]
  refine (HCK.out _ (Below.refl _ _)).mono ?_
  rintro e w1 ⟨rfl, hb1⟩
  have hb01 := bext hb0 hb1
  have b21 := b20.below hb1 b20.lt
  have HB1 := Lib.hid (HB.out.below hb1)
  by_cases hE0 : E = 0
  case neg =>
    have hp := hp0 hE0
    subst hp
    have h1 : (E != 0) = true := by simpa using hE0
    clear hE0 hp0
    go_wp2
    refine bodyPost_ret (v := .tuple #[.slice none 0 0, .int .i64 E]) (by simp [results, Try.results35, go_sem]) rfl ?_
    exact ⟨none, 0, rfl, World.ownsRow_nil _ _ _ _, hb01⟩
  case pos =>
  subst hE0
  clear hp0
  obtain ⟨hp1, hp2⟩ := prR_mL HE.out
  have hM := chkR_zero.1 HE.out
  have hq := rm_le hM
  have hmE := hM.mE
  obtain ⟨M, hMM⟩ : ∃ M, mL (lvs Rs) true = M := ⟨_, rfl⟩
  rw [HP.out] at hp1
  rw [hMM] at hp1 hp2
  have hml : M.length ≤ 65536 := by rw [← hMM]; exact mL_len true (by have := hM.size; unfold tot at this; exact this)
  have HQ := Lib.hid hq
  have HP1 := Lib.hid hp1
  have HP2 := Lib.hid hp2
  have hmg : ∀ W, Below w1.heap.size w1 W → Calls Try.prog 23 #[.slice B Rs.length c, .bool true] W (GivesRun 27 M 0 W) := by
    intro W hW
    have h8 := merge_any B Rs c 65536 true W (HB1.out.below hW) (by have := hq.2.1; omega) (fun r hr => Nat.le_trans (hq.1 r hr) (by omega)) hq.2.2 (by omega)
    rw [mrgL_m, mrgE_m] at h8
    have h9 : Rs.map Rm.l = lvs Rs := rfl
    rw [h9, hMM, hmE] at h8
    exact h8
  have HMG := Lib.hid hmg
  have c20 : w1.cell? ⟨w.heap.size, 0, none⟩ = some (.slice B Rs.length c) := b21.cell 0
  clear hp1 hp2 hM hq hmE hMM hmg
  go_wp2_with fail
  refine (HMG.out _ (Below.refl _ _)).mono ?_
  rintro e w2 ⟨A1, c1, rfl, ho1, hb2⟩
  have HO1 := Lib.hid (own_sl ho1)
  have HB02 := Lib.hid (bext hb01 hb2)
  clear ho1 c20
  go_upto_region 4 with fail
  obtain ⟨W3, hW3⟩ : ∃ W3, w2.alloc (.cells #[.slice A1 M.length c1] 49) = W3 := ⟨_, rfl⟩
  have hb3 : Below w2.heap.size w2 W3 := by rw [← hW3]; exact (Below.refl _ _).alloc (Nat.le_refl _) _
  have b3 : Blk W3 w2.heap.size 49 #[.slice A1 M.length c1] := by rw [← hW3]; exact Blk.new _ _ _
  try rw [hW3]
  have HB03 := Lib.hid (bext HB02.out hb3)
  have HO3 := Lib.hid (HO1.out.below hb3)
  have c30 : W3.cell? ⟨w2.heap.size, 0, none⟩ = some (.slice A1 M.length c1) := b3.cell 0
  clear hW3 hb3
  go_wp2_with fail
  refine (pairs_any A1 M c1 _ HO3.out (by omega)).mono ?_
  rw [HP1.out, HP2.out]
  rintro e w3 ⟨A2, c2, rfl, ho2, hb3⟩
  have HO := Lib.hid (own_mono ho2 HB03.out.size)
  clear ho2 c30
  go_wp2
  refine bodyPost_ret (v := .tuple #[.slice A2 P.length c2, .int .i64 0]) (by simp [results, Try.results35, go_sem]) rfl ?_
  exact ⟨A2, c2, rfl, HO.out, bext HB03.out hb3⟩
set_option maxHeartbeats 8000000 in
theorem countR_any (B : Option Addr) (Rs : List Rm) (c : Nat) (n : Int) (w : World) (hB : RunsAt w B Rs) (hT : tot (lvs Rs) ≤ 1000000) (hl : Rs.length ≤ 1000000) :
    Calls Try.prog 15 #[.agg #[.slice B Rs.length c, .int .u64 n]] w fun r w' => r = .returned (.tuple #[.int .i64 (if chkR (lvs Rs) = 0 then (tot (lvs Rs) : Int) else 0), .int .i64 ((prR (lvs Rs)).length : Nat), .int .i64 (chkR (lvs Rs))]) ∧ Below w.heap.size w w' := by
  obtain ⟨W0, hW0⟩ : ∃ W0, w.alloc (.cells #[.slice B Rs.length c, .int .u64 n] 25) = W0 := ⟨_, rfl⟩
  have hb0 : Below w.heap.size w W0 := by rw [← hW0]; exact (Below.refl _ _).alloc (Nat.le_refl _) _
  have b20 : Blk W0 w.heap.size 25 #[.slice B Rs.length c, .int .u64 n] := by rw [← hW0]; exact Blk.new _ _ _
  have HW0 := Lib.hid hW0
  have HB := Lib.hid (hB.below hb0)
  clear hW0 hB
  have hck := fun W (hW : Below W0.heap.size W0 W) => pairsR_any B Rs c n W (HB.out.below hW) hT hl
  have hen := fun W (hW : Below W0.heap.size W0 W) => entries_any B Rs c n W (HB.out.below hW) hT hl
  obtain ⟨E, hE⟩ : ∃ E, chkR (lvs Rs) = E := ⟨_, rfl⟩
  obtain ⟨P, hP⟩ : ∃ P, prR (lvs Rs) = P := ⟨_, rfl⟩
  obtain ⟨T, hTT⟩ : ∃ T, tot (lvs Rs) = T := ⟨_, rfl⟩
  have hp0 : E ≠ 0 → P = [] := fun h => by rw [← hP]; unfold prR; rw [if_neg (by rw [hE]; exact h)]
  rw [hE, hP] at hck
  rw [hTT] at hen hT
  rw [hE, hP, hTT]
  have HCK := Lib.hid hck
  have HEN := Lib.hid hen
  have hPE : E = 0 → P.length ≤ T := fun h => by
    rw [← hP, ← hTT, prR_len (by rw [hE]; exact h)]
    exact allL_le
  have HPE := Lib.hid hPE
  clear hck hen hE hP hTT hPE
  obtain ⟨V, hV⟩ : ∃ V : Int, (if E = 0 then (T : Int) else 0) = V := ⟨_, rfl⟩
  rw [hV]
  go_enter Try.func15, Try.ntmps15
  go_wp2_with fail
  rw [HW0.out]
  refine (HCK.out _ (Below.refl _ _)).mono ?_
  rintro e w1 ⟨A1, c1, rfl, ho1, hb1⟩
  have b21 := b20.below hb1 b20.lt
  have hb01 := bext hb0 hb1
  clear ho1
  by_cases hE0 : E = 0
  case neg =>
    have hp := hp0 hE0
    subst hp
    rw [if_neg hE0] at hV
    subst hV
    have h1 : (E != 0) = true := by simpa using hE0
    clear hp0
    go_wp2
    refine bodyPost_ret (v := .tuple #[.int .i64 0, .int .i64 0, .int .i64 E]) (by simp [results, Try.results15, go_sem]) rfl ?_
    exact ⟨by first | rfl | simp, hb01⟩
  case pos =>
  subst hE0
  clear hp0
  rw [if_pos rfl] at hV
  subst hV
  have c20 : w1.cell? ⟨w.heap.size, 0, none⟩ = some (.slice B Rs.length c) := b21.cell 0
  have c21 : w1.cell? ⟨w.heap.size, 1, none⟩ = some (.int .u64 n) := b21.cell 1
  go_wp2_with fail
  refine (HEN.out _ hb1).mono ?_
  rintro e w2 ⟨rfl, hb2⟩
  go_wp2
  refine bodyPost_ret (v := .tuple #[.int .i64 (T : Int), .int .i64 (P.length : Int), .int .i64 0]) (by simp [results, Try.results15, go_sem]) rfl ?_
  exact ⟨rfl, bext hb01 hb2⟩
end Go.Proofs.Ythdcllnmnmemdaa

/- Contracts of the laws' helpers of chapter 26: let, stands. -/
namespace Go.Proofs.Ythdcllnmnmemdaa
open Go Go.RowKit
set_option maxRecDepth 100000
/-- levels behind entries were let in one by one -/
def letS (rs : Lv) (n : Int) : List Ent → Lv × Int × Int
  | [] => (rs, n, 0)
  | y :: l => if addE rs y = 0 then letS (addL rs n y) (addN rs n y) l else ([], 0, addE rs y)
theorem letS_up {rs : Lv} {n : Int} {l : List Ent} {k : Nat} (h : k < l.length) (h0 : addE rs (l[k]'h) = 0) : letS rs n (l.drop k) = letS (addL rs n (l[k]'h)) (addN rs n (l[k]'h)) (l.drop (k + 1)) := by
  rw [List.drop_eq_getElem_cons h, letS, if_pos h0]
theorem letS_no {rs : Lv} {n : Int} {l : List Ent} {k : Nat} (h : k < l.length) (h0 : addE rs (l[k]'h) ≠ 0) : letS rs n (l.drop k) = ([], 0, addE rs (l[k]'h)) := by
  rw [List.drop_eq_getElem_cons h, letS, if_neg h0]
theorem letS_end {rs : Lv} {n : Int} {l : List Ent} {k : Nat} (h : ¬ k < l.length) : letS rs n (l.drop k) = (rs, n, 0) := by
  rw [List.drop_eq_nil_of_le (by omega), letS]
def GivesAt (L0 : Lv × Int × Int) (w : World) (r : Ending) (w' : World) : Prop := ∃ B c Rs, r = .returned (.tuple #[.agg #[.slice B Rs.length c, .int .u64 L0.2.1], .int .i64 L0.2.2]) ∧ lvs Rs = L0.1 ∧ RunsAt w' B Rs ∧ Below w.heap.size w w'
structure LetI (w : World) (L0 : Lv × Int × Int) (l : List Ent) (k : Nat) (B : Option Addr) (c : Nat) (Rs : List Rm) (n : Int) (wr : World) : Prop where
  bel : Below w.heap.size w wr
  bx : Blk wr w.heap.size 25 #[.slice B Rs.length c, .int .u64 n]
  br : Blk wr (w.heap.size + 1) 25 #[.slice none 0 0, .int .u64 0]
  at_ : RunsAt w B Rs ∨ OwnRs wr w.heap.size B c Rs
  eq : letS (lvs Rs) n (l.drop k) = L0
  tot : tot (lvs Rs) ≤ 65536
  len : Rs.length ≤ 1000000
theorem LetI.runs {w wr : World} {L0 : Lv × Int × Int} {l : List Ent} {k : Nat} {B : Option Addr} {c : Nat} {Rs : List Rm} {n : Int} (h : LetI w L0 l k B c Rs n wr) : RunsAt wr B Rs := by
  rcases h.at_ with h1 | h1
  · exact h1.below h.bel
  · exact h1.runsAt
/-- behind an entry was let in: what stands in memory -/
structure LetC (w : World) (L : Lv) (N : Int) (gy : Nat) (B : Option Addr) (c : Nat) (Rs : List Rm) (wx : World) : Prop where
  lv : lvs Rs = L
  own : OwnRs wx w.heap.size B c Rs
  by_ : Blk wx gy 25 #[.slice B Rs.length c, .int .u64 N]
  bel : Below w.heap.size w wx
  gy_ : w.heap.size ≤ gy
theorem addL_le {rs : Lv} {n : Int} {y : Ent} (h : addE rs y = 0) : tot (addL rs n y) ≤ 65536 ∧ (addL rs n y).length ≤ 17 := by
  have h1 := (add_may h n).1
  exact ⟨h1.size, h1.len⟩
set_option maxHeartbeats 16000000 in
theorem let_any (B A : Option Addr) (Rs : List Rm) (c cq : Nat) (n : Int) (l : List Ent) (w : World) (hB : RunsAt w B Rs) (hT : tot (lvs Rs) ≤ 65536) (hl : Rs.length ≤ 1000000) (hA : Sl w A (l.flatMap Ent.cells)) (hll : l.length ≤ 100) :
    Calls Try.prog 33 #[.agg #[.slice B Rs.length c, .int .u64 n], .slice A l.length cq] w (GivesAt (letS (lvs Rs) n l) w) := by
  obtain ⟨W0, hW0⟩ : ∃ W0, (w.alloc (.cells #[.slice B Rs.length c, .int .u64 n] 25)).alloc (.cells #[.slice none 0 0, .int .u64 0] 25) = W0 := ⟨_, rfl⟩
  have hb0 : Below w.heap.size w W0 := by rw [← hW0]; exact ((Below.refl _ _).alloc (Nat.le_refl _) _).alloc (by simp) _
  have b20 : Blk W0 w.heap.size 25 #[.slice B Rs.length c, .int .u64 n] := by rw [← hW0]; exact (Blk.new _ _ _).alloc _
  have b40 : Blk W0 (w.heap.size + 1) 25 #[.slice none 0 0, .int .u64 0] := by
    rw [← hW0]
    have := Blk.new (w.alloc (.cells #[.slice B Rs.length c, .int .u64 n] 25)) 25 #[.slice none 0 0, .int .u64 0]
    rwa [World.size_alloc] at this
  have HW0 := Lib.hid hW0
  obtain ⟨L0, hL0⟩ : ∃ L0, letS (lvs Rs) n l = L0 := ⟨_, rfl⟩
  rw [hL0]
  have HI0 : Hid (LetI w L0 l 0 B c Rs n W0) := ⟨hb0, b20, b40, .inl hB, by rw [List.drop_zero]; exact hL0, hT, hl⟩
  have HA := Lib.hid hA
  clear hW0 hB hA hL0 hb0 b20 b40 hT hl
  go_enter Try.func33, Try.ntmps33
  go_wp2_with fail
  rw [HW0.out]
  go_loopw [6] (fun i wr => ∃ (k : Nat) (B1 : Option Addr) (c1 : Nat) (R1 : List Rm) (n1 : Int), k ≤ l.length ∧ i = .int .i64 k ∧ Hid (LetI w L0 l k B1 c1 R1 n1 wr)) (fun i _ => l.length - (intOf i).toNat)
  case atStart => exact ⟨0, B, c, Rs, n, Nat.zero_le _, rfl, HI0.out⟩
  case round =>
    clear HI0
    obtain ⟨k, B1, c1, R1, n1, hk, rfl, hI⟩ := hrel
    have hbx := hI.out.bx
    have hbr := hI.out.br
    by_cases hlt : k < l.length
    case pos =>
      obtain ⟨b, off, rfl, hbl, e1, e2, e3⟩ := HA.out.entB hI.out.bel k hlt
      obtain ⟨y, hy⟩ : ∃ y, l[k]'hlt = y := ⟨_, rfl⟩
      rw [hy] at e1 e2 e3
      obtain ⟨LA, hLA⟩ : ∃ L, addL (lvs R1) n1 y = L := ⟨_, rfl⟩
      obtain ⟨NA, hNA⟩ : ∃ L, addN (lvs R1) n1 y = L := ⟨_, rfl⟩
      obtain ⟨EA, hEA⟩ : ∃ L, addE (lvs R1) y = L := ⟨_, rfl⟩
      have hadd : ∀ W, Below wr.heap.size wr W → Calls Try.prog 7 #[.agg #[.slice B1 R1.length c1, .int .u64 n1], .agg #[.int .i64 y.key, .int .i64 y.val, .bool y.dead]] W (GivesRgE LA NA EA W) := by
        intro W hW
        have h8 := addR_any B1 R1 c1 n1 y W (hI.out.runs.below hW) (by have := hI.out.tot; omega) hI.out.len
        rw [hLA, hNA, hEA] at h8
        exact h8
      have HADD := Lib.hid hadd
      have HUP : Hid (EA = 0 → letS LA NA (l.drop (k + 1)) = L0 ∧ tot LA ≤ 65536 ∧ LA.length ≤ 17) := by
        show _ → _
        intro h0
        have h1 : addE (lvs R1) (l[k]'hlt) = 0 := by rw [hy, hEA]; exact h0
        have h2 := letS_up (n := n1) hlt h1
        have h3 := addL_le (n := n1) h1
        rw [hy, hLA] at h3
        rw [hy, hLA, hNA, hI.out.eq] at h2
        exact ⟨h2.symm, h3⟩
      have HNO : Hid (EA ≠ 0 → L0 = ([], 0, EA)) := by
        show _ → _
        intro h0
        have h1 : addE (lvs R1) (l[k]'hlt) ≠ 0 := by rw [hy, hEA]; exact h0
        have h2 := letS_no (n := n1) hlt h1
        rw [hy, hEA, hI.out.eq] at h2
        exact h2
      have cx0 : wr.cell? ⟨w.heap.size, 0, none⟩ = some (.slice B1 R1.length c1) := hbx.cell 0
      have cx1 : wr.cell? ⟨w.heap.size, 1, none⟩ = some (.int .u64 n1) := hbx.cell 1
      have lx := hbx.lt
      have hbl' : b < wr.heap.size := Nat.lt_of_lt_of_le hbl hI.out.bel.size
      have i0 : (0 : Int) ≤ (k : Int) := by omega
      have i1 : (k : Int) < (l.length : Int) := by omega
      have HS := Lib.hid (show w.heap.size ≤ wr.heap.size from hI.out.bel.size)
      clear hy hLA hNA hEA hadd hbx hbr
      go_upto_region 4 with fail
      go_cut [7, 8] from 15 to 23 (fun y h wx => h = .int .i64 EA ∧ ∃ gy, y = .pointer (some ⟨gy, 0, none⟩) ∧ ∃ B2 c2 R2, Hid (LetC wr LA NA gy B2 c2 R2 wx))
      case first =>
        go_region_with ((go_at_call 7; refine (HADD.out _ (by first | exact (Below.refl _ _).drew | exact Below.refl _ _ | exact ((Below.refl _ _).alloc (Nat.le_refl _) _).drew | exact ((Below.refl _ _).alloc (Nat.le_refl _) _))).mono ?_; rintro e21 v21 ⟨B2, c2, R2, rfl, hl2, ho2, hv21⟩; have HL2 := Lib.hid hl2; have HO2 := Lib.hid ho2; clear hl2 ho2; (try (have bz : Blk v21 wr.heap.size 25 #[.slice none 0 0, .int .u64 0] := ((Blk.drewN (Blk.new wr 25 #[.slice none 0 0, .int .u64 0]) 1).below (w' := v21) hv21 (Blk.drewN (Blk.new wr 25 #[.slice none 0 0, .int .u64 0]) 1).lt); have z0 : v21.cell? ⟨wr.heap.size, 0, none⟩ = some (.slice none 0 0) := bz.cell 0; have z1 : v21.cell? ⟨wr.heap.size, 1, none⟩ = some (.int .u64 0) := bz.cell 1; have z3 := bz.frozen 0; have z4 := bz.frozen 1; have z6 := bz.lt))))
        all_goals
          go_wp2_with fail
          go_meet
          first
          | exact ⟨by simp, _, rfl, B2, c2, R2, HL2.out, (HO2.out.mono (by simp)).alloc _, Blk.new _ _ _, bext (bext ((Below.refl _ _).drew) hv21) ((Below.refl _ _).alloc (Nat.le_refl _) _), hv21.size⟩
          | exact ⟨by simp, _, rfl, B2, c2, R2, HL2.out, (HO2.out.mono (by simp)).set2 bz (by decide) (by decide) _ _, box2 bz _ _, below2 (bext (((Below.refl _ _).alloc (Nat.le_refl _) _).drew) hv21) (Nat.le_refl _) _ _, Nat.le_refl _⟩
      case rest =>
        obtain ⟨rfl, gy, rfl, B2, c2, R2, hC⟩ := hcut
        have hy1 := hC.out.by_
        have hr1 := hI.out.br.below hC.out.bel hI.out.br.lt
        have hx1 := hI.out.bx.below hC.out.bel hI.out.bx.lt
        have hgy : w.heap.size + 1 < gy := Nat.lt_of_lt_of_le hI.out.br.lt hC.out.gy_
        have d0 : wc.cell? ⟨gy, 0, none⟩ = some (.slice B2 R2.length c2) := hy1.cell 0
        have d1 : wc.cell? ⟨gy, 1, none⟩ = some (.int .u64 NA) := hy1.cell 1
        have dx0 : wc.cell? ⟨w.heap.size, 0, none⟩ = some (.slice B1 R1.length c1) := hx1.cell 0
        have dx1 : wc.cell? ⟨w.heap.size, 1, none⟩ = some (.int .u64 n1) := hx1.cell 1
        have dr0 : wc.cell? ⟨w.heap.size + 1, 0, none⟩ = some (.slice none 0 0) := hr1.cell 0
        have dr1 : wc.cell? ⟨w.heap.size + 1, 1, none⟩ = some (.int .u64 0) := hr1.cell 1
        have fx0 := hx1.frozen 0
        have fx1 := hx1.frozen 1
        have fr0 := hr1.frozen 0
        have fr1 := hr1.frozen 1
        have HX1 := Lib.hid hx1
        have HR1 := Lib.hid hr1
        have HBC := Lib.hid (bext hI.out.bel hC.out.bel)
        clear hy1 hr1 hx1 cx0 cx1 e1 e2 e3
        by_cases h0 : EA = 0
        case pos =>
          subst h0
          have HU := Lib.hid (HUP.out rfl)
          clear HUP HNO
          go_wp2_with fail
          go_roundw
          case rel =>
            exact ⟨k + 1, B2, c2, R2, NA, by omega, by go_num, below2 HBC.out (Nat.le_refl _) _ _, box2 HX1.out _ _, (HR1.out.far (p := ⟨w.heap.size, 0, none⟩) (by simp) _).far (p := ⟨w.heap.size, 1, none⟩) (by simp) _,
              .inr ((hC.out.own.mono HS.out).set2 HX1.out (by decide) (by decide) _ _), by rw [hC.out.lv]; exact HU.out.1, by rw [hC.out.lv]; exact HU.out.2.1, by rw [rs_len hC.out.lv]; have := HU.out.2.2; omega⟩
          case measure => simp [intOf]; omega
        case neg =>
          have h1 : (EA != 0) = true := by simpa using h0
          have HN := Lib.hid (HNO.out h0)
          clear HUP HNO
          go_wp2_with fail
          have hbz := box2 HR1.out (.slice none 0 0) (.int .u64 0)
          have z0 : ((wc.setCell ⟨w.heap.size + 1, 0, none⟩ (.slice none 0 0)).setCell ⟨w.heap.size + 1, 1, none⟩ (.int .u64 0)).cell? ⟨w.heap.size + 1, 0, none⟩ = some (.slice none 0 0) := hbz.cell 0
          have z1 : ((wc.setCell ⟨w.heap.size + 1, 0, none⟩ (.slice none 0 0)).setCell ⟨w.heap.size + 1, 1, none⟩ (.int .u64 0)).cell? ⟨w.heap.size + 1, 1, none⟩ = some (.int .u64 0) := hbz.cell 1
          refine bodyPost_ret (v := .tuple #[.agg #[.slice none 0 0, .int .u64 0], .int .i64 EA]) (by simp [results, Try.results33, go_sem, z0, z1]) rfl ?_
          rw [HN.out]
          exact ⟨none, 0, [], rfl, rfl, (OwnRs.nil _ 0).runsAt, below2 HBC.out (Nat.le_succ _) _ _⟩
    case neg =>
      have HE : Hid (L0 = (lvs R1, n1, 0)) := by show _ = _; rw [← hI.out.eq]; exact letS_end hlt
      have cx0 : wr.cell? ⟨w.heap.size, 0, none⟩ = some (.slice B1 R1.length c1) := hbx.cell 0
      have cx1 : wr.cell? ⟨w.heap.size, 1, none⟩ = some (.int .u64 n1) := hbx.cell 1
      have dr0 : wr.cell? ⟨w.heap.size + 1, 0, none⟩ = some (.slice none 0 0) := hbr.cell 0
      have dr1 : wr.cell? ⟨w.heap.size + 1, 1, none⟩ = some (.int .u64 0) := hbr.cell 1
      have fr0 := hbr.frozen 0
      have fr1 := hbr.frozen 1
      have HR1 := Lib.hid hbr
      clear hbx hbr
      go_wp2_with fail
      have hbz := box2 HR1.out (.slice B1 R1.length c1) (.int .u64 n1)
      have z0 : ((wr.setCell ⟨w.heap.size + 1, 0, none⟩ (.slice B1 R1.length c1)).setCell ⟨w.heap.size + 1, 1, none⟩ (.int .u64 n1)).cell? ⟨w.heap.size + 1, 0, none⟩ = some (.slice B1 R1.length c1) := hbz.cell 0
      have z1 : ((wr.setCell ⟨w.heap.size + 1, 0, none⟩ (.slice B1 R1.length c1)).setCell ⟨w.heap.size + 1, 1, none⟩ (.int .u64 n1)).cell? ⟨w.heap.size + 1, 1, none⟩ = some (.int .u64 n1) := hbz.cell 1
      refine bodyPost_ret (v := .tuple #[.agg #[.slice B1 R1.length c1, .int .u64 n1], .int .i64 0]) (by simp [results, Try.results33, go_sem, z0, z1]) rfl ?_
      rw [HE.out]
      refine ⟨B1, c1, R1, rfl, rfl, ?_, below2 hI.out.bel (Nat.le_succ _) _ _⟩
      rcases hI.out.at_ with h1 | h1
      · exact h1.below (below2 hI.out.bel (Nat.le_succ _) _ _)
      · exact (h1.set2 HR1.out (by decide) (by decide) _ _).runsAt
/-- has a level these entries? -/
def standsB (rs : Lv) (k : Nat) (want : List Ent) : Bool := decide (k < rs.length) && (decide (chkE (lev rs k) = 0) && decide (sortL (lev rs k) = want))
set_option maxHeartbeats 8000000 in
theorem stands_any (B A : Option Addr) (Rs : List Rm) (c cq k : Nat) (n : Int) (l : List Ent) (w : World) (hB : RunsAt w B Rs) (_hl : Rs.length ≤ 1000000) (hrs : ∀ r ∈ Rs, r.l.length ≤ 1000000) (hA : Sl w A (l.flatMap Ent.cells)) (hll : l.length ≤ 100) (hk : k ≤ 1000000) :
    Calls Try.prog 34 #[.agg #[.slice B Rs.length c, .int .u64 n], .int .i64 (k : Nat), .slice A l.length cq] w fun r w' => r = .returned (.bool (standsB (lvs Rs) k l)) ∧ Below w.heap.size w w' := by
  obtain ⟨W0, hW0⟩ : ∃ W0, w.alloc (.cells #[.slice B Rs.length c, .int .u64 n] 25) = W0 := ⟨_, rfl⟩
  have hb0 : Below w.heap.size w W0 := by rw [← hW0]; exact (Below.refl _ _).alloc (Nat.le_refl _) _
  have b20 : Blk W0 w.heap.size 25 #[.slice B Rs.length c, .int .u64 n] := by rw [← hW0]; exact Blk.new _ _ _
  have HW0 := Lib.hid hW0
  have HB := Lib.hid (hB.below hb0)
  have HA := Lib.hid (hA.below hb0)
  have c20 : W0.cell? ⟨w.heap.size, 0, none⟩ = some (.slice B Rs.length c) := b20.cell 0
  clear hW0 hB hA
  by_cases hlt : k < Rs.length
  case neg =>
    have hz : standsB (lvs Rs) k l = false := by unfold standsB; rw [decide_eq_false (by rw [lvs_len]; exact hlt)]; rfl
    rw [hz]
    have g1 : (Rs.length : Int) ≤ (k : Int) := by omega
    go_enter Try.func34, Try.ntmps34
    go_wp2_with fail
    rw [HW0.out]
    go_wp2
    go_ret
    exact ⟨rfl, hb0⟩
  case pos =>
    have g1 : ¬ (Rs.length : Int) ≤ (k : Int) := by omega
    have hz : standsB (lvs Rs) k l = (decide (chkE (Rs[k]'hlt).l = 0) && decide (sortL (Rs[k]'hlt).l = l)) := by
      unfold standsB
      rw [decide_eq_true (by rw [lvs_len]; exact hlt), lvs_lev hlt, Bool.true_and]
    rw [hz]
    obtain ⟨b, off, rfl, hbl, cp⟩ := HB.out.sl.oneB (Below.refl _ _) k hlt
    have hok := HB.out.ok _ (List.getElem_mem hlt)
    have hrl := hrs _ (List.getElem_mem hlt)
    obtain ⟨r, hr⟩ : ∃ r, Rs[k]'hlt = r := ⟨_, rfl⟩
    rw [hr] at cp hok hrl ⊢
    obtain ⟨m, Am, cm⟩ := r
    have cp1 : W0.cell? ⟨b, off + k, none⟩ = some (.slice Am m.length cm) := cp
    dsimp only at hrl ⊢
    have hso := fun W (hW : Below W0.heap.size W0 W) => sortedE_any Am m cm W (hok.sl.below hW) (by omega)
    have hsl : (sortL m).length ≤ 1000000 := by
      unfold sortL
      split
      · rw [inL_length]; exact hrl
      · simp
    obtain ⟨E, hE⟩ : ∃ E, chkE m = E := ⟨_, rfl⟩
    obtain ⟨S, hS⟩ : ∃ S, sortL m = S := ⟨_, rfl⟩
    rw [hE, hS] at hso ⊢
    rw [hS] at hsl
    have HSO := Lib.hid hso
    obtain ⟨V, hV⟩ : ∃ V, (decide (E = 0) && decide (S = l)) = V := ⟨_, rfl⟩
    rw [hV]
    have HV := Lib.hid hV
    have i0 : (0 : Int) ≤ (k : Int) := by omega
    have i1 : (k : Int) < (Rs.length : Int) := by omega
    clear hz hr hok cp hso hE hS hV hrs
    go_enter Try.func34, Try.ntmps34
    go_upto_region 1 with fail
    rw [HW0.out]
    go_wp2_with fail
    refine (HSO.out _ (Below.refl _ _)).mono ?_
    rintro e w1 ⟨A2, c2, rfl, ho2, hb2⟩
    have HS2 := Lib.hid (own_sl ho2)
    have HB2 := Lib.hid (bext hb0 hb2)
    have HA2 := Lib.hid (HA.out.below hb2)
    clear ho2 c20 cp1
    by_cases hE0 : E = 0
    · subst hE0
      have HV2 : Hid (decide (S = l) = V) := by have := HV.out; rw [decide_eq_true rfl, Bool.true_and] at this; exact this
      go_wp2_with fail
      refine (sameEntries_any A2 A S l c2 cq _ HS2.out HA2.out (by omega) (by omega)).mono ?_
      rw [HV2.out]
      rintro e w3 ⟨rfl, hb3⟩
      go_wp2
      go_ret
      exact ⟨rfl, bext HB2.out hb3⟩
    · have HV2 : Hid (V = false) := by have := HV.out; rw [decide_eq_false hE0, Bool.false_and] at this; exact this.symm
      have h1 : (E == 0) = false := by simpa using hE0
      clear hE0
      go_wp2
      go_ret
      exact ⟨by rw [HV2.out]; rfl, HB2.out⟩
end Go.Proofs.Ythdcllnmnmemdaa
