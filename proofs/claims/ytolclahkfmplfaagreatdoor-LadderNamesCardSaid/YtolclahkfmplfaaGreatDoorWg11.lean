/- Rr Ip Rv G5 G6 Ga Gu G9 Hb: texts of the claim, in this order. -/
import Derived.Test.YtolclahkfmplfaaGreatDoorWg10
import Derived.Test.YtolclahkfmplfaaGreatDoorWg9
import Derived.Test.YtolclahkfmplfaaGreatDoorWg8
import Derived.Maps.OwnSet
import Derived.Maps.Views
import Derived.Maps.AppendAt
import Derived.Test.YtolclahkfmplfaaGreatDoorWg1
import Derived.Deep.RegionHeld3
import Derived.Deep.LoopGhost
/- Contracts: run.Pairs, Live, Next, Last, and the references'. -/
namespace Go.Proofs.YtolclahkfmplfaaGreatDoor
open Go Go.RowKit
set_option maxRecDepth 100000

/-! ### plain -/
theorem bel_in (l : List Ent) (key : Int) : belK (inL l) key = belK l key := (inL_perm l).countP_eq _
theorem low_is (l : List Ent) (key : Int) : lowK l key = belK l key := lowK_bel l key
def nxE (l : List Ent) (key : Int) : Int := if chkE l = 0 then (if belK l key = l.length then 6 else 0) else chkE l
def nxX (l : List Ent) (key : Int) : Ent := if chkE l = 0 then (inL l).getD (belK l key) zeroE else zeroE
def lsE (l : List Ent) (key : Int) : Int := if chkE l = 0 then (if belK l key = 0 then 6 else 0) else chkE l
def lsX (l : List Ent) (key : Int) : Ent := if chkE l = 0 then (if belK l key = 0 then zeroE else inAt l (belK l key - 1)) else zeroE
def prL (l : List Ent) : List Pr := if chkE l = 0 then plainE (inL l) else []
def lvN (l : List Ent) : Nat := if chkE l = 0 then (liveE l).length else 0
theorem pr_lv (l : List Ent) : (prL l).length = lvN l := by
  unfold prL lvN
  split
  · unfold plainE
    rw [List.length_map]
    exact ((inL_perm l).filter _).length_eq
  · rfl
theorem nx_low (l : List Ent) (key : Int) : nxE l key = lowE l key ∧ (lowE l key = 0 → lowAt l key < l.length ∧ nxX l key = entAt l (lowAt l key)) ∧ (lowE l key ≠ 0 → nxX l key = zeroE) := by
  unfold nxE nxX
  by_cases h : chkE l = 0
  · rw [if_pos h, if_pos h]
    by_cases hk : lowK l key = l.length
    · have h6 := (low_six h hk).1
      rw [low_is] at hk
      rw [if_pos hk, h6]
      refine ⟨rfl, fun hh => by omega, fun _ => ?_⟩
      rw [List.getD_eq_getElem?_getD, List.getElem?_eq_none (by rw [inL_length, hk]; exact Nat.le_refl _)]; rfl
    · have h0 := (low_at h hk).1
      obtain ⟨hlt, h1, h2⟩ := low_inE h hk
      rw [low_is] at hk
      rw [if_neg hk, h0]
      refine ⟨rfl, fun _ => ⟨h2, ?_⟩, fun hh => absurd rfl hh⟩
      rw [h1, ← bel_in, List.getD_eq_getElem?_getD, List.getElem?_eq_getElem hlt]; rfl
  · rw [if_neg h, if_neg h, (low_bad key h).1]
    exact ⟨rfl, fun hh => absurd hh h, fun _ => rfl⟩
/-- hands back pairs of the call's own, and an error -/
def GivesPrs (m : List Pr) (e : Int) (w : World) (r : Ending) (w' : World) : Prop :=
  ∃ A c, r = .returned (.tuple #[.slice A m.length c, .int .i64 e]) ∧ w'.ownsRow w.heap.size 40 2 (.slice A m.length c) m.length (m.flatMap Pr.cells) ∧ Below w.heap.size w w'

set_option maxHeartbeats 1000000 in
theorem runNext_any (A : Option Addr) (l : List Ent) (c : Nat) (key : Int) (w : World) (hA : Sl w A (l.flatMap Ent.cells)) (hl : l.length ≤ 4611686018427387903) (hT : TabAt 1 Lib.deBruijn64tab w) :
    Calls Tryz.prog 31 #[.agg #[.slice A l.length c], .int .i64 key] w (GivesX (nxX l key) (nxE l key) w) := by
  obtain ⟨W0, hW0⟩ : ∃ W0, (w.alloc (.cells #[.slice A l.length c] 49)).alloc (.cells #[.int .i64 0, .int .i64 0, .bool false] 46) = W0 := ⟨_, rfl⟩
  have hb0 : Below w.heap.size w W0 := by rw [← hW0]; exact ((Below.refl _ _).alloc (Nat.le_refl _) _).alloc (by simp) _
  have bX0 : Blk W0 w.heap.size 49 #[.slice A l.length c] := by rw [← hW0]; exact (Blk.new _ _ _).alloc _
  have bR0 : Blk W0 (w.heap.size + 1) 46 #[.int .i64 0, .int .i64 0, .bool false] := by
    rw [← hW0]
    have := Blk.new (w.alloc (.cells #[.slice A l.length c] 49)) 46 #[.int .i64 0, .int .i64 0, .bool false]
    rwa [World.size_alloc] at this
  have cX0 : W0.cell? ⟨w.heap.size, 0, none⟩ = some (.slice A l.length c) := bX0.cell 0
  have hT0 := Lib.hid (tab_below (tab_lt hT) hT hb0)
  have HA := Lib.hid hA
  obtain ⟨g1, g2, g3⟩ := nx_low l key
  obtain ⟨E, hE⟩ : ∃ E, nxE l key = E := ⟨_, rfl⟩
  obtain ⟨at_, hat⟩ : ∃ at_, lowAt l key = at_ := ⟨_, rfl⟩
  obtain ⟨p, hp⟩ : ∃ p, nxX l key = p := ⟨_, rfl⟩
  rw [hE, hp]
  rw [hE] at g1
  rw [← g1, hp, hat] at g2
  rw [← g1, hp] at g3
  have HG := Lib.hid (And.intro g1 (And.intro g2 g3))
  have HAT := Lib.hid hat
  clear hE hat hp g1 g2 g3 hA hT
  go_enter Tryz.func31, Tryz.ntmps31
  go_wp2_with fail
  try rw [hW0]
  clear hW0 cX0
  refine (lower_any A l c key _ (HA.out.below hb0) hl hT0.out).mono ?_
  unfold GivesII
  rw [← HG.out.1, HAT.out]
  rintro e w1 ⟨rfl, hb1⟩
  have bX1 := bX0.below hb1 bX0.lt
  have bR1 := bR0.below hb1 bR0.lt
  have hb01 := bext hb0 hb1
  have cX1 : w1.cell? ⟨w.heap.size, 0, none⟩ = some (.slice A l.length c) := bX1.cell 0
  have d0 : w1.cell? ⟨w.heap.size + 1, 0, none⟩ = some (.int .i64 0) := bR1.cell 0
  have d1 : w1.cell? ⟨w.heap.size + 1, 1, none⟩ = some (.int .i64 0) := bR1.cell 1
  have d2 : w1.cell? ⟨w.heap.size + 1, 2, none⟩ = some (.bool false) := bR1.cell 2
  have f0 := bR1.frozen 0
  have f1 := bR1.frozen 1
  have f2 := bR1.frozen 2
  by_cases h0 : E = 0
  · subst h0
    obtain ⟨hlt, hpe⟩ := HG.out.2.1 rfl
    rw [entAt_get hlt] at hpe
    obtain ⟨b, off, rfl, hbl, c1, c2, c3⟩ := HA.out.entB hb01 at_ hlt
    rw [← hpe] at c1 c2 c3
    have i0 : (0 : Int) ≤ (at_ : Int) := by omega
    have i1 : (at_ : Int) < (l.length : Int) := by omega
    clear hpe
    go_wp2_with fail
    have bFy := put3 bR1 (.int .i64 p.key) (.int .i64 p.val) (.bool p.dead)
    have e0y := bFy.cell 0
    have e1y := bFy.cell 1
    have e2y := bFy.cell 2
    simp only [List.getElem?_toArray, List.getElem?_cons_zero, List.getElem?_cons_succ] at e0y e1y e2y
    refine bodyPost_ret (v := .tuple #[.agg #[.int .i64 p.key, .int .i64 p.val, .bool p.dead], .int .i64 0]) (by simp [results, Tryz.results31, go_sem, e0y, e1y, e2y]) rfl ?_
    exact ⟨rfl, below3 hb01 (Nat.le_succ _) _ _ _⟩
  · have hz := HG.out.2.2 h0
    subst hz
    have h1 : (E != 0) = true := by simpa using h0
    clear h0
    go_wp2_with fail
    have bFz := put3 bR1 (.int .i64 0) (.int .i64 0) (.bool false)
    have e0z := bFz.cell 0
    have e1z := bFz.cell 1
    have e2z := bFz.cell 2
    simp only [List.getElem?_toArray, List.getElem?_cons_zero, List.getElem?_cons_succ] at e0z e1z e2z
    refine bodyPost_ret (v := .tuple #[.agg #[.int .i64 0, .int .i64 0, .bool false], .int .i64 E]) (by simp [results, Tryz.results31, go_sem, e0z, e1z, e2z]) rfl ?_
    exact ⟨rfl, below3 hb01 (Nat.le_succ _) _ _ _⟩

set_option maxHeartbeats 1000000 in
theorem all_bad (A : Option Addr) (l : List Ent) (c : Nat) (w : World) (hA : Sl w A (l.flatMap Ent.cells)) (hl : l.length ≤ 4611686018427387903) (hC : ¬ chkE l = 0) :
    Calls Tryz.prog 54 #[.agg #[.slice A l.length c], .func (.func 55) #[] #[], .func (.func 56) #[] #[]] w (GivesPrs [] (chkE l) w) := by
  obtain ⟨E, hE⟩ : ∃ E, chkE l = E := ⟨_, rfl⟩
  rw [hE] at hC ⊢
  have HE := Lib.hid hE
  have h1 : (E != 0) = true := by simpa using hC
  have HA := Lib.hid hA
  clear hE hC hA
  refine calls_of_in (_F := Fence.wide) ?_
  have hdd : ∀ k : Nat, (Fence.wide.depth.isSome = true → 1 ≤ k) := fun k h => by cases h
  have hwf : ∀ f, Fence.wide.fn f := fun _ => trivial
  have hdp : Fence.wide.depth = none := rfl
  have hro : Fence.wide.round = none := rfl
  obtain ⟨W0, hW0⟩ : ∃ W0, (((w.alloc (.cells #[.slice A l.length c] 49)).alloc (.cells #[.func (.func 55) #[] #[]] 96)).alloc (.cells #[.func (.func 56) #[] #[]] 97)).alloc (.cells #[.slice none 0 0] 41) = W0 := ⟨_, rfl⟩
  have hb0 : Below w.heap.size w W0 := by
    rw [← hW0]; exact ((((Below.refl _ w).alloc (Nat.le_refl _) _).alloc (by simp) _).alloc (by simp; omega) _).alloc (by simp; omega) _
  have k3 : Blk W0 w.heap.size 49 #[.slice A l.length c] := by rw [← hW0]; exact (((Blk.new w _ _).alloc _).alloc _).alloc _
  have k6 : Blk W0 (w.heap.size + 1 + 1 + 1) 41 #[.slice none 0 0] := by
    rw [← hW0]
    have := Blk.new (((w.alloc (.cells #[.slice A l.length c] 49)).alloc (.cells #[.func (.func 55) #[] #[]] 96)).alloc (.cells #[.func (.func 56) #[] #[]] 97)) 41 #[.slice none 0 0]
    rwa [World.size_alloc, World.size_alloc, World.size_alloc] at this
  have c3 : W0.cell? ⟨w.heap.size, 0, none⟩ = some (.slice A l.length c) := k3.cell 0
  refine callsIn_of_wp_marks Tryz.func54 rfl (hwf _) ?_ hro
  simp only [Tryz.ntmps54, List.size_toArray, List.length_cons, List.length_nil, Nat.reduceAdd, Nat.reduceSub, Array.replicate_succ, Array.replicate_zero, List.push_toArray, List.append_toArray, List.nil_append, List.cons_append]
  gi_wp2_with fail
  try rw [hW0]
  clear hW0
  (try first | refine ⟨hdp, ?_⟩ | refine ⟨hdd _, ?_⟩)
  refine (callsIn_wide.2 (check_any A l c _ (HA.out.below hb0) hl)).mono ?_
  rw [HE.out]
  rintro e w1 ⟨rfl, hb1⟩
  have hb01 := bext hb0 hb1
  have k61 := k6.below hb1 k6.lt
  have c6 : w1.cell? ⟨w.heap.size + 1 + 1 + 1, 0, none⟩ = some (.slice none 0 0) := k61.cell 0
  have f6 := k61.frozen 0
  have e6 : (w1.setCell ⟨w.heap.size + 1 + 1 + 1, 0, none⟩ (.slice none 0 0)).cell? ⟨w.heap.size + 1 + 1 + 1, 0, none⟩ = some (.slice none 0 0) := (k61.set_ 0 _).cell 0
  clear c3 k3 k6
  gi_wp2_with fail
  refine ⟨.tuple #[.slice none 0 0, .int .i64 E], by simp [results, Tryz.results54, go_sem, e6], none, 0, rfl, World.ownsRow_nil _ _ _ _, ?_⟩
  exact hb01.setCell (p := ⟨w.heap.size + 1 + 1 + 1, 0, none⟩) (by show w.heap.size ≤ w.heap.size + 1 + 1 + 1; omega) _
set_option maxHeartbeats 1000000 in
theorem pairs_any (A : Option Addr) (l : List Ent) (c : Nat) (w : World) (hA : Sl w A (l.flatMap Ent.cells)) (hl : l.length ≤ 4611686018427387903) :
    Calls Tryz.prog 28 #[.agg #[.slice A l.length c]] w (GivesPrs (prL l) (chkE l) w) := by
  have hb0 : Below w.heap.size w (w.alloc (.cells #[.slice A l.length c] 49)) := (Below.refl _ _).alloc (Nat.le_refl _) _
  have hall : ∀ W, Below w.heap.size w W → Calls Tryz.prog 54 #[.agg #[.slice A l.length c], .func (.func 55) #[] #[], .func (.func 56) #[] #[]] W (GivesPrs (prL l) (chkE l) W) := by
    intro W hW
    by_cases hC : chkE l = 0
    · have h := all_ok A l c W (hA.below hW) hC
      have h2 : prL l = plainE (inL l) := by unfold prL; rw [if_pos hC]
      rw [h2, hC]
      exact h
    · have h2 : prL l = [] := by unfold prL; rw [if_neg hC]
      rw [h2]
      exact all_bad A l c W (hA.below hW) hl hC
  have HALL := Lib.hid hall
  obtain ⟨E, hE⟩ : ∃ E, chkE l = E := ⟨_, rfl⟩
  obtain ⟨m, hm⟩ : ∃ m, prL l = m := ⟨_, rfl⟩
  rw [hE, hm]
  rw [hE, hm] at HALL
  clear hE hm hall
  go_enter Tryz.func28, Tryz.ntmps28
  go_wp2_with fail
  refine (HALL.out _ hb0).mono ?_
  rintro e w1 ⟨A1, c1, rfl, ho1, hb1⟩
  have HO := Lib.hid (own_mono ho1 hb0.size)
  clear ho1
  go_wp2
  refine bodyPost_ret (v := .tuple #[.slice A1 m.length c1, .int .i64 E]) (by simp [results, Tryz.results28, go_sem]) rfl ?_
  exact ⟨A1, c1, rfl, HO.out, bext hb0 hb1⟩

set_option maxHeartbeats 1000000 in
theorem live_any (A : Option Addr) (l : List Ent) (c : Nat) (w : World) (hA : Sl w A (l.flatMap Ent.cells)) (hl : l.length ≤ 4611686018427387903) :
    Calls Tryz.prog 64 #[.agg #[.slice A l.length c]] w (GivesII (lvN l) (chkE l) w) := by
  have hb0 : Below w.heap.size w (w.alloc (.cells #[.slice A l.length c] 49)) := (Below.refl _ _).alloc (Nat.le_refl _) _
  have bX := Blk.new w 49 #[.slice A l.length c]
  have HA := Lib.hid hA
  obtain ⟨E, hE⟩ : ∃ E, chkE l = E := ⟨_, rfl⟩
  have HE := Lib.hid hE
  rw [hE]
  obtain ⟨N, hN⟩ : ∃ N, lvN l = N := ⟨_, rfl⟩
  have HN := Lib.hid hN
  rw [hN]
  clear hA hE hN
  go_enter Tryz.func64, Tryz.ntmps64
  go_wp2_with fail
  refine (check_any A l c _ (HA.out.below hb0) hl).mono ?_
  rw [HE.out]
  rintro e w1 ⟨rfl, hb1⟩
  have hb01 := bext hb0 hb1
  have bX1 := bX.below hb1 bX.lt
  have c0 : w1.cell? ⟨w.heap.size, 0, none⟩ = some (.slice A l.length c) := bX1.cell 0
  clear bX
  by_cases h0 : E = 0
  · subst h0
    have HNL : Hid (N = (liveE l).length) := by show _ = _; rw [← HN.out]; unfold lvN; rw [if_pos HE.out]
    go_wp2
    go_loopw [2, 15] (fun v i wr => ∃ k s : Nat, k ≤ l.length ∧ i = .int .i64 k ∧ v = .int .i64 s ∧ Below w1.heap.size w1 wr ∧ Hid (s = (liveE (l.take k)).length)) (fun _ i _ => l.length - (intOf i).toNat)
    case atStart => exact ⟨0, 0, Nat.zero_le _, rfl, rfl, Below.refl _ _, rfl⟩
    case round =>
      clear c0
      obtain ⟨k, s, hk, rfl, rfl, hb, hs⟩ := hrel
      have hsk : s ≤ k := by rw [hs.out]; have := live_le (l.take k); simp at this; omega
      by_cases hlt : k < l.length
      · obtain ⟨b, off, rfl, hbl, c1, c2, c3⟩ := HA.out.entB (bext hb01 hb) k hlt
        have hls := live_succ hlt
        obtain ⟨x, hx⟩ : ∃ x, l[k]'hlt = x := ⟨_, rfl⟩
        rw [hx] at c1 c2 c3 hls
        have i0 : (0 : Int) ≤ (k : Int) := by omega
        have i1 : (k : Int) < (l.length : Int) := by omega
        have ba : Below wr.heap.size wr (wr.alloc (.cells #[.int .i64 x.key, .int .i64 x.val, .bool x.dead] 46)) := (Below.refl _ _).alloc (Nat.le_refl _) _
        have HBA := Lib.hid ba
        clear ba hx
        cases hd : x.dead
        · rw [hd] at c3 hls HBA
          have HLS : Hid (s + 1 = (liveE (l.take (k + 1))).length) := by show _ = _; rw [hls, hs.out]; simp
          clear hls hd
          go_wp2_with fail
          go_roundw
          case rel => exact ⟨k + 1, s + 1, by omega, by go_num, by go_num, bext hb HBA.out, HLS⟩
          case measure => simp [intOf]; omega
        · rw [hd] at c3 hls HBA
          have HLS : Hid (s = (liveE (l.take (k + 1))).length) := by show _ = _; rw [hls, hs.out]; simp
          clear hls hd
          go_wp2_with fail
          go_roundw
          case rel => exact ⟨k + 1, s, by omega, by go_num, rfl, bext hb HBA.out, HLS⟩
          case measure => simp [intOf]; omega
      · have HS : Hid (s = N) := by show _ = _; rw [HNL.out, hs.out, List.take_of_length_le (by omega)]
        go_wp2
        refine bodyPost_ret (v := .tuple #[.int .i64 (s : Nat), .int .i64 0]) (by simp [results, Tryz.results64, go_sem]) rfl ?_
        rw [← HS.out]
        exact ⟨rfl, bext hb01 hb⟩
  · have h1 : (E != 0) = true := by simpa using h0
    have HNL : Hid (N = 0) := by show _ = _; rw [← HN.out]; unfold lvN; rw [HE.out, if_neg h0]
    clear h0 c0
    go_wp2
    refine bodyPost_ret (v := .tuple #[.int .i64 0, .int .i64 E]) (by simp [results, Tryz.results64, go_sem]) rfl ?_
    rw [HNL.out]
    exact ⟨rfl, hb01⟩




set_option maxHeartbeats 1000000 in
theorem runLast_any (A : Option Addr) (l : List Ent) (c : Nat) (key : Int) (w : World) (hA : Sl w A (l.flatMap Ent.cells)) (hl : l.length ≤ 4611686018427387903) (hT : TabAt 1 Lib.deBruijn64tab w) :
    Calls Tryz.prog 35 #[.agg #[.slice A l.length c], .int .i64 key] w (GivesX (lsX l key) (lsE l key) w) := by
  obtain ⟨W0, hW0⟩ : ∃ W0, (w.alloc (.cells #[.slice A l.length c] 49)).alloc (.cells #[.int .i64 0, .int .i64 0, .bool false] 46) = W0 := ⟨_, rfl⟩
  have hb0 : Below w.heap.size w W0 := by rw [← hW0]; exact ((Below.refl _ _).alloc (Nat.le_refl _) _).alloc (by simp) _
  have bX0 : Blk W0 w.heap.size 49 #[.slice A l.length c] := by rw [← hW0]; exact (Blk.new _ _ _).alloc _
  have bR0 : Blk W0 (w.heap.size + 1) 46 #[.int .i64 0, .int .i64 0, .bool false] := by
    rw [← hW0]
    have := Blk.new (w.alloc (.cells #[.slice A l.length c] 49)) 46 #[.int .i64 0, .int .i64 0, .bool false]
    rwa [World.size_alloc] at this
  have HA := Lib.hid hA
  have hT0 := Lib.hid (tab_below (tab_lt hT) hT hb0)
  have cX0 : W0.cell? ⟨w.heap.size, 0, none⟩ = some (.slice A l.length c) := bX0.cell 0
  obtain ⟨E, hE⟩ : ∃ E, chkE l = E := ⟨_, rfl⟩
  obtain ⟨K, hK⟩ : ∃ K, rkN l key = K := ⟨_, rfl⟩
  obtain ⟨X1, hX1⟩ : ∃ X1, lsX l key = X1 := ⟨_, rfl⟩
  obtain ⟨G1, hG1⟩ : ∃ G1, lsE l key = G1 := ⟨_, rfl⟩
  rw [hX1, hG1]
  have HE := Lib.hid hE
  have HK := Lib.hid hK
  have HX1 := Lib.hid hX1
  have HG1 := Lib.hid hG1
  clear hA hT hE hK hX1 hG1
  go_enter Tryz.func35, Tryz.ntmps35
  go_wp2_with fail
  try rw [hW0]
  clear hW0 cX0
  refine (rank_any A l c key _ (HA.out.below hb0) hl hT0.out).mono ?_
  unfold GivesII
  rw [HE.out, HK.out]
  rintro e w1 ⟨rfl, hb1⟩
  have bR1 := bR0.below hb1 bR0.lt
  have bX1 := bX0.below hb1 bX0.lt
  have hb01 := bext hb0 hb1
  by_cases h0 : E = 0
  · subst h0
    have hl6 := (chk_ok HE.out).2.2
    have hKl : belK l key = K := by rw [← HK.out]; unfold rkN; rw [if_pos HE.out, low_is]
    have hKm : K ≤ l.length := by rw [← hKl]; exact belK_le l key
    have HKL := Lib.hid hKl
    clear hKl
    by_cases hend : K = 0
    · have hq : ((K : Int) == 0) = true := by simp [hend]
      have HXZ : Hid (X1 = zeroE) := by
        show _ = _
        rw [← HX1.out]; unfold lsX
        rw [if_pos HE.out, HKL.out, if_pos hend]
      have HGZ : Hid (G1 = 6) := by
        show _ = _
        rw [← HG1.out]; unfold lsE
        rw [if_pos HE.out, HKL.out, if_pos hend]
      have d0 : w1.cell? ⟨w.heap.size + 1, 0, none⟩ = some (.int .i64 0) := bR1.cell 0
      have d1 : w1.cell? ⟨w.heap.size + 1, 1, none⟩ = some (.int .i64 0) := bR1.cell 1
      have d2 : w1.cell? ⟨w.heap.size + 1, 2, none⟩ = some (.bool false) := bR1.cell 2
      have f0 := bR1.frozen 0
      have f1 := bR1.frozen 1
      have f2 := bR1.frozen 2
      clear hend
      go_wp2_with fail
      have bFz := put3 bR1 (.int .i64 0) (.int .i64 0) (.bool false)
      have e0z := bFz.cell 0
      have e1z := bFz.cell 1
      have e2z := bFz.cell 2
      simp only [List.getElem?_toArray, List.getElem?_cons_zero, List.getElem?_cons_succ] at e0z e1z e2z
      refine bodyPost_ret (v := .tuple #[.agg #[.int .i64 0, .int .i64 0, .bool false], .int .i64 6]) (by simp [results, Tryz.results35, go_sem, e0z, e1z, e2z]) rfl ?_
      rw [HXZ.out, HGZ.out]
      exact ⟨rfl, below3 hb01 (Nat.le_succ _) _ _ _⟩
    · obtain ⟨J, rfl⟩ : ∃ J, K = J + 1 := ⟨K - 1, by omega⟩
      have hJ : J < l.length := by omega
      have hJl : J < (inord l.length 0).length := by rw [inord_length]; exact hJ
      obtain ⟨x, hx⟩ : ∃ x, (inord l.length 0)[J]? = some x := ⟨_, List.getElem?_eq_getElem hJl⟩
      have hxn : x < l.length := inord_lt (List.mem_of_getElem? hx)
      have hgd : (inord l.length 0).getD J 0 = x := by simp [List.getD, hx]
      have hat := inAt_get hx hxn
      have HXZ : Hid (X1 = inAt l J) := by
        show _ = _
        rw [← HX1.out]; unfold lsX
        rw [if_pos HE.out, HKL.out, if_neg hend, Nat.add_sub_cancel]
      have HGZ : Hid (G1 = 0) := by
        show _ = _
        rw [← HG1.out]; unfold lsE
        rw [if_pos HE.out, HKL.out, if_neg hend]
      have hq : (((J + 1 : Nat) : Int) == 0) = false := beq_eq_false_iff_ne.2 (by omega)
      have hw5 : wrap64 (J : Int) = (J : Int) := IntWalk.wrap64_in (J : Int) (by omega)
      have cX1 : w1.cell? ⟨w.heap.size, 0, none⟩ = some (.slice A l.length c) := bX1.cell 0
      have HGD := Lib.hid hgd
      have HAT := Lib.hid hat
      clear hx hgd hat hend
      go_wp2_with fail
      refine (place_ok l.length J hl6 hJ _).mono ?_
      rw [HGD.out]
      rintro e w2 ⟨rfl, hb2⟩
      have bR1 := bR1.below hb2 bR1.lt
      have bX1 := bX1.below hb2 bX1.lt
      have hb02 := bext hb01 hb2
      obtain ⟨b, off, rfl, hbl, c1', c2', c3'⟩ := HA.out.entB hb02 x hxn
      rw [← HAT.out] at c1' c2' c3'
      obtain ⟨p, hp⟩ : ∃ p, inAt l J = p := ⟨_, rfl⟩
      rw [hp] at c1' c2' c3' HXZ
      clear cX1 hp
      have cX1 : w2.cell? ⟨w.heap.size, 0, none⟩ = some (.slice (some ⟨b, off, none⟩) l.length c) := bX1.cell 0
      have d0 : w2.cell? ⟨w.heap.size + 1, 0, none⟩ = some (.int .i64 0) := bR1.cell 0
      have d1 : w2.cell? ⟨w.heap.size + 1, 1, none⟩ = some (.int .i64 0) := bR1.cell 1
      have d2 : w2.cell? ⟨w.heap.size + 1, 2, none⟩ = some (.bool false) := bR1.cell 2
      have f0 := bR1.frozen 0
      have f1 := bR1.frozen 1
      have f2 := bR1.frozen 2
      have i0 : (0 : Int) ≤ (x : Int) := by omega
      have i1 : (x : Int) < (l.length : Int) := by omega
      go_wp2_with fail
      have bFy := put3 bR1 (.int .i64 p.key) (.int .i64 p.val) (.bool p.dead)
      have e0y := bFy.cell 0
      have e1y := bFy.cell 1
      have e2y := bFy.cell 2
      simp only [List.getElem?_toArray, List.getElem?_cons_zero, List.getElem?_cons_succ] at e0y e1y e2y
      refine bodyPost_ret (v := .tuple #[.agg #[.int .i64 p.key, .int .i64 p.val, .bool p.dead], .int .i64 0]) (by simp [results, Tryz.results35, go_sem, e0y, e1y, e2y]) rfl ?_
      rw [HXZ.out, HGZ.out]
      exact ⟨rfl, below3 hb02 (Nat.le_succ _) _ _ _⟩
  · have h1 : (E != 0) = true := by simpa using h0
    have HXZ : Hid (X1 = zeroE) := by show _ = _; rw [← HX1.out]; unfold lsX; rw [HE.out, if_neg h0]
    have HGZ : Hid (G1 = E) := by show _ = _; rw [← HG1.out]; unfold lsE; rw [HE.out, if_neg h0]
    have d0 : w1.cell? ⟨w.heap.size + 1, 0, none⟩ = some (.int .i64 0) := bR1.cell 0
    have d1 : w1.cell? ⟨w.heap.size + 1, 1, none⟩ = some (.int .i64 0) := bR1.cell 1
    have d2 : w1.cell? ⟨w.heap.size + 1, 2, none⟩ = some (.bool false) := bR1.cell 2
    have f0 := bR1.frozen 0
    have f1 := bR1.frozen 1
    have f2 := bR1.frozen 2
    clear h0
    go_wp2_with fail
    have bFw := put3 bR1 (.int .i64 0) (.int .i64 0) (.bool false)
    have e0w := bFw.cell 0
    have e1w := bFw.cell 1
    have e2w := bFw.cell 2
    simp only [List.getElem?_toArray, List.getElem?_cons_zero, List.getElem?_cons_succ] at e0w e1w e2w
    refine bodyPost_ret (v := .tuple #[.agg #[.int .i64 0, .int .i64 0, .bool false], .int .i64 E]) (by simp [results, Tryz.results35, go_sem, e0w, e1w, e2w]) rfl ?_
    rw [HXZ.out, HGZ.out]
    exact ⟨rfl, below3 hb01 (Nat.le_succ _) _ _ _⟩
end Go.Proofs.YtolclahkfmplfaaGreatDoor

/- Plain facts: how many entries and levels there are behind an entry was let in; the pairs of levels. No program in sight. -/
namespace Go.Proofs.YtolclahkfmplfaaGreatDoor
open Go
/-- the live pairs of levels -/
def prR (rs : Lv) : List Pr := if chkR rs = 0 then plainE (allL rs) else []
theorem live_live (l : List Ent) : liveE (liveE l) = liveE l := by unfold liveE; rw [List.filter_filter]; simp
theorem plain_live_len {rs : Lv} : (plainE (allL rs)).length = (allL rs).length := by
  unfold plainE allL
  rw [List.length_map, live_live]
theorem prR_mL {rs : Lv} (h : chkR rs = 0) : prL (mL rs true) = prR rs ∧ chkE (mL rs true) = 0 := by
  have hm := chkR_zero.1 h
  have h1 := mL_chk true hm.mE
  refine ⟨?_, h1⟩
  unfold prL prR
  rw [if_pos h1, if_pos h, mL_in true hm.mE]
  rfl
theorem prR_len {rs : Lv} (h : chkR rs = 0) : (prR rs).length = (allL rs).length := by unfold prR; rw [if_pos h, plain_live_len]
theorem short_level {rs : Lv} (h : May rs) {i : Nat} (hi : i < rs.length) : i ≤ 16 ∧ (lev rs i).length ≤ 2 ^ i ∧ ((lev rs i).length = 0 ∨ i = 0 ∨ 2 ^ i < 2 * (lev rs i).length) := by
  have h1 := h.len
  refine ⟨by omega, ?_⟩
  rcases h.stood i with h2 | h2
  · rw [h2]
    exact ⟨Nat.zero_le _, .inl rfl⟩
  · by_cases h0 : (lev rs i).length = 0
    · exact ⟨by rw [h0]; exact Nat.zero_le _, .inl h0⟩
    have h3 := up_spec (n := (lev rs i).length) (by omega)
    rw [h2] at h3
    refine ⟨h3.1, ?_⟩
    by_cases hz : i = 0
    · exact .inr (.inl hz)
    have h4 := h3.2 (by omega)
    refine .inr (.inr ?_)
    have h5 : 2 ^ i = 2 * 2 ^ (i - 1) := by
      rw [← Nat.pow_succ']
      congr 1
      omega
    omega
theorem short_len {rs : Lv} (h : May rs) (_h0 : tot rs ≠ 0) : rs.length ≤ up (tot rs) + 1 := by
  rcases h.top with h1 | h1
  · rw [h1]; exact Nat.zero_le _
  rcases h.stood (rs.length - 1) with h2 | h2
  · exact absurd h2 h1
  have h3 := up_mono (tot_lev rs (rs.length - 1))
  rw [h2] at h3
  omega
theorem short_none {rs : Lv} (h : May rs) (h0 : tot rs = 0) : rs.length = 0 := by
  rcases h.top with h1 | h1
  · rw [h1]; rfl
  have h2 := tot_lev rs (rs.length - 1)
  exact absurd (List.eq_nil_of_length_eq_zero (by omega)) h1
end Go.Proofs.YtolclahkfmplfaaGreatDoor

/- The plain law behind RunWhole: what Get, Pairs, Next and Last answer together. -/
namespace Go.Proofs.YtolclahkfmplfaaGreatDoor
open Go Go.RowKit
set_option maxRecDepth 100000

theorem ris_le {m : List Ent} (h : RisE m) {i j : Nat} (hij : i ≤ j) (hj : j < m.length) : (m[i]'(by omega)).key ≤ (m[j]'hj).key := by
  by_cases he : i = j
  · subst he; exact Int.le_refl _
  · exact Int.le_of_lt (List.pairwise_iff_getElem.1 h i j (by omega) hj (by omega))
theorem nx_yes {l : List Ent} {key : Int} (h : chkE l = 0) (hB : belK (inL l) key < (inL l).length) : nxE l key = 0 ∧ nxX l key = (inL l)[belK (inL l) key]'hB := by
  have hl := inL_length l
  rw [← hl] at *
  unfold nxE nxX
  rw [if_pos h, if_pos h, ← bel_in, if_neg (by rw [← inL_length l]; omega), List.getD_eq_getElem?_getD, List.getElem?_eq_getElem hB]
  exact ⟨rfl, rfl⟩
theorem nx_no {l : List Ent} {key : Int} (h : chkE l = 0) (hB : ¬ belK (inL l) key < (inL l).length) : nxE l key = 6 ∧ nxX l key = zeroE := by
  have hB2 := belK_le (inL l) key
  unfold nxE nxX
  rw [if_pos h, if_pos h, ← bel_in, if_pos (by rw [← inL_length l]; omega), List.getD_eq_getElem?_getD, List.getElem?_eq_none (by omega)]
  exact ⟨rfl, rfl⟩
theorem ls_yes {l : List Ent} {key : Int} (h : chkE l = 0) (hB : 0 < belK (inL l) key) : lsE l key = 0 ∧ lsX l key = (inL l)[belK (inL l) key - 1]'(by have := belK_le (inL l) key; omega) := by
  have hB2 := belK_le (inL l) key
  unfold lsE lsX inAt
  rw [if_pos h, if_pos h, ← bel_in, if_neg (by omega), if_neg (by omega), List.getD_eq_getElem?_getD, List.getElem?_eq_getElem (by omega)]
  exact ⟨rfl, rfl⟩
theorem ls_no {l : List Ent} {key : Int} (h : chkE l = 0) (hB : ¬ 0 < belK (inL l) key) : lsE l key = 6 := by
  unfold lsE
  rw [if_pos h, ← bel_in, if_pos (by omega)]
theorem gt_in {l : List Ent} (h : chkE l = 0) (key : Int) : gtE l key = (if (look (inL l) key).isSome then 0 else 6) ∧ gtX l key = (look (inL l) key).getD zeroE := by
  unfold gtE gtX
  rw [if_pos h, if_pos h, look_in h]
  exact ⟨rfl, rfl⟩
/-- an entry's rank says whether its key is below -/
theorem in_rank {l : List Ent} (h : chkE l = 0) (key : Int) {i : Nat} (hi : i < l.length) : ∃ (j : Nat) (hj : j < (inL l).length), (inL l)[j]'hj = l[i]'hi ∧ ((l[i]'hi).key < key ↔ j < belK (inL l) key) := by
  have hm : l[i]'hi ∈ inL l := (inL_perm l).mem_iff.2 (List.getElem_mem hi)
  obtain ⟨j, hj, he⟩ := List.getElem_of_mem hm
  exact ⟨j, hj, he, by rw [← he]; exact ris_count key (chk_ris h) j hj⟩
theorem mem_plain {m : List Ent} {k v : Int} : (⟨k, v⟩ : Pr) ∈ plainE m ↔ (⟨k, v, false⟩ : Ent) ∈ m := by
  unfold plainE liveE
  rw [List.mem_map]
  constructor
  · rintro ⟨⟨k', v', d'⟩, he, hq⟩
    obtain ⟨h1, h2⟩ := List.mem_filter.1 he
    injection hq with h3 h4
    subst h3 h4
    cases d'
    · exact h1
    · simp at h2
  · intro hq
    exact ⟨_, List.mem_filter.2 ⟨hq, rfl⟩, rfl⟩
structure WholeOk (l : List Ent) (key : Int) : Prop where
  lo : ∀ i (h : i < l.length), key ≤ (l[i]'h).key → nxE l key = 0 ∧ (nxX l key).key ≤ (l[i]'h).key
  hi : ∀ i (h : i < l.length), (l[i]'h).key < key → lsE l key = 0 ∧ (l[i]'h).key ≤ (lsX l key).key
  met : decide ((⟨key, (gtX l key).val⟩ : Pr) ∈ prL l) = (decide (gtE l key = 0) && !(gtX l key).dead)
  there : decide (gtE l key = 0) = (decide (nxE l key = 0) && decide ((nxX l key).key = key))
  same : gtE l key = 0 → gtX l key = nxX l key
  last : lsE l key = 0 → (lsX l key).key < key
theorem whole {l : List Ent} (h : chkE l = 0) (key : Int) : WholeOk l key := by
  have hr := chk_ris h
  have hBl := belK_le (inL l) key
  have hiff : ((⟨key, (gtX l key).val⟩ : Pr) ∈ prL l) ↔ (gtE l key = 0 ∧ (gtX l key).dead = false) := by
    obtain ⟨h1, h2⟩ := gt_in h key
    rw [h1, h2]
    unfold prL
    rw [if_pos h, mem_plain]
    cases ho : look (inL l) key with
    | none =>
      have hn := look_isNone ho
      exact ⟨fun hm => absurd rfl (hn _ hm), fun hm => by simp at hm⟩
    | some e =>
      obtain ⟨hk, hm⟩ := look_key ho
      obtain ⟨k, v, d⟩ := e
      obtain rfl : k = key := hk
      refine ⟨fun hx => ⟨rfl, ?_⟩, fun hx => ?_⟩
      · have := look_mem hr hx
        rw [show (⟨k, ((some ⟨k, v, d⟩).getD zeroE : Ent).val, false⟩ : Ent).key = k from rfl, ho] at this
        simp at this
        exact this
      · have : d = false := hx.2
        subst this
        exact hm
  have hmet : decide ((⟨key, (gtX l key).val⟩ : Pr) ∈ prL l) = (decide (gtE l key = 0) && !(gtX l key).dead) := by
    rw [Bool.eq_iff_iff]
    simp [hiff]
  refine ⟨fun i hi hk => ?_, fun i hi hk => ?_, hmet, ?_, fun hg => ?_, fun hg => ?_⟩
  · obtain ⟨j, hj, he, hi2⟩ := in_rank h key hi
    have hB : belK (inL l) key ≤ j := by
      by_cases hx : j < belK (inL l) key
      · have := hi2.2 hx; omega
      · omega
    obtain ⟨h1, h2⟩ := nx_yes (key := key) h (by omega)
    exact ⟨h1, by rw [h2, ← he]; exact ris_le hr hB hj⟩
  · obtain ⟨j, hj, he, hi2⟩ := in_rank h key hi
    have hB := hi2.1 hk
    obtain ⟨h1, h2⟩ := ls_yes (key := key) h (by omega)
    exact ⟨h1, by rw [h2, ← he]; exact ris_le hr (by omega) (by omega)⟩
  · obtain ⟨h1, _⟩ := gt_in h key
    rw [h1]
    cases ho : look (inL l) key with
    | none =>
      have hn := look_isNone ho
      by_cases hB : belK (inL l) key < (inL l).length
      · obtain ⟨h3, h4⟩ := nx_yes (key := key) h hB
        rw [h3, h4, decide_eq_false (hn _ (List.getElem_mem hB))]
        rfl
      · rw [(nx_no (key := key) h hB).1]; rfl
    | some e =>
      obtain ⟨hk, hm⟩ := look_key ho
      obtain ⟨j, hj, he⟩ := List.getElem_of_mem hm
      have h5 := ris_count key hr j hj
      rw [he, hk] at h5
      have h6 : belK (inL l) key ≤ j := by
        by_cases hx : j < belK (inL l) key
        · have := h5.2 hx; omega
        · omega
      have hB : belK (inL l) key < (inL l).length := by omega
      obtain ⟨h3, h4⟩ := nx_yes (key := key) h hB
      have h7 := ris_le hr h6 hj
      have h8 := ris_count key hr _ hB
      rw [he, hk] at h7
      have h9 : ((inL l)[belK (inL l) key]'hB).key = key := by omega
      rw [h3, h4, decide_eq_true h9]
      rfl
  · obtain ⟨h1, h2⟩ := gt_in h key
    rw [h1] at hg
    rw [h2]
    cases ho : look (inL l) key with
    | none => rw [ho] at hg; simp at hg
    | some e =>
      obtain ⟨hk, hm⟩ := look_key ho
      obtain ⟨j, hj, he⟩ := List.getElem_of_mem hm
      have h5 := ris_count key hr j hj
      rw [he, hk] at h5
      have h6 : belK (inL l) key ≤ j := by
        by_cases hx : j < belK (inL l) key
        · have := h5.2 hx; omega
        · omega
      have hB : belK (inL l) key < (inL l).length := by omega
      obtain ⟨h3, h4⟩ := nx_yes (key := key) h hB
      rw [h4]
      have h8 := ris_count key hr _ hB
      have hjB : belK (inL l) key = j := by
        by_cases hx : belK (inL l) key = j
        · exact hx
        · have := List.pairwise_iff_getElem.1 hr (belK (inL l) key) j hB hj (by omega)
          rw [he, hk] at this
          omega
      show e = _
      rw [← he]
      congr 1
      exact hjB.symm
  · by_cases hB : 0 < belK (inL l) key
    · obtain ⟨h3, h4⟩ := ls_yes (key := key) h hB
      rw [h4]
      exact (ris_count key hr _ _).2 (by omega)
    · rw [ls_no h hB] at hg; cases hg
theorem ls_bad {l : List Ent} {key : Int} (h : ¬ chkE l = 0) : gtE l key = chkE l ∧ prL l = [] := by
  unfold gtE prL
  rw [if_neg h, if_neg h]
  exact ⟨rfl, rfl⟩
end Go.Proofs.YtolclahkfmplfaaGreatDoor

/- Contracts: which levels may be (rungs.Check), how many entries there are. -/
namespace Go.Proofs.YtolclahkfmplfaaGreatDoor
open Go Go.RowKit
set_option maxRecDepth 100000

/-- levels, their runs in memory -/
abbrev lvs (Rs : List Rm) : Lv := Rs.map Rm.l
theorem lvs_len (Rs : List Rm) : (lvs Rs).length = Rs.length := by simp
theorem lvs_lev {Rs : List Rm} {k : Nat} (h : k < Rs.length) : lev (lvs Rs) k = (Rs[k]'h).l := by rw [lev_lt (by simpa using h)]; simp
theorem tot_take_succ {rs : Lv} {k : Nat} (h : k < rs.length) : tot (rs.take (k + 1)) = tot (rs.take k) + (lev rs k).length := by
  rw [List.take_succ_eq_append_getElem h, tot_snoc, lev_lt h]
theorem tot_take_le : ∀ (rs : Lv) (k : Nat), tot (rs.take k) ≤ tot rs
  | [], k => by simp [tot]
  | l :: rs, 0 => by simp [tot]
  | l :: rs, k + 1 => by
    have := tot_take_le rs k
    rw [List.take_succ_cons, tot_cons, tot_cons]; omega
theorem tot_rs (Rs : List Rm) : tot (lvs Rs) = (Rs.map (fun r => r.l.length)).sum := by unfold tot lvs; rw [List.map_map]; rfl
theorem live_dead {l : List Ent} (h : chkE l = 0) : lvN l = l.length ↔ deadE l = false := by
  unfold lvN deadE
  rw [if_pos h]
  constructor
  · intro he
    rw [List.any_eq_false]
    intro e hm
    have h1 : liveE l = l := by
      unfold liveE at he ⊢
      exact List.filter_eq_self.2 (fun a ha => by
        have := List.length_filter_eq_length_iff.1 he a ha
        exact this)
    rw [← h1] at hm
    have := (List.mem_filter.1 hm).2
    simpa using this
  · intro hd
    rw [List.any_eq_false] at hd
    unfold liveE
    congr 1
    exact List.filter_eq_self.2 (fun a ha => by simpa using hd a ha)
theorem chkR_bad {rs : Lv} {k : Nat} (h : k < rs.length) (hb : okLv rs.length k (lev rs k) = false) : chkR rs = 8 := by
  unfold chkR
  rw [if_neg]
  unfold mayB allOk
  intro hx
  simp only [Bool.and_eq_true, decide_eq_true_eq] at hx
  rw [hx.1.2 k h] at hb
  cases hb
theorem chkR_end {rs : Lv} (h : endOk rs = false) : chkR rs = 8 := by unfold chkR mayB; rw [h]; rfl
theorem chkR_all {rs : Lv} (h : endOk rs = true) (h2 : allOk rs rs.length = true) : chkR rs = if 65536 < tot rs then 8 else 0 := by
  unfold chkR mayB
  rw [h, h2]
  by_cases h3 : 65536 < tot rs
  · rw [if_pos h3, if_neg (by simp; omega)]
  · rw [if_neg h3, if_pos (by simp; omega)]
set_option maxHeartbeats 1000000 in
theorem entries_any (B : Option Addr) (Rs : List Rm) (c : Nat) (n : Int) (w : World) (hB : RunsAt w B Rs) (hT : tot (lvs Rs) ≤ 1000000) (hl : Rs.length ≤ 1000000) :
    Calls Tryz.prog 45 #[.agg #[.slice B Rs.length c, .int .u64 n]] w fun r w' => r = .returned (.int .i64 (tot (lvs Rs) : Nat)) ∧ Below w.heap.size w w' := by
  have hb0 : Below w.heap.size w (w.alloc (.cells #[.slice B Rs.length c, .int .u64 n] 27)) := (Below.refl _ _).alloc (Nat.le_refl _) _
  go_enter Tryz.func45, Tryz.ntmps45
  go_wp2
  go_loopw [2, 8] (fun a i wr => ∃ k m : Nat, k ≤ Rs.length ∧ i = .int .i64 k ∧ a = .int .i64 m ∧ Below w.heap.size w wr ∧ m ≤ 1000000 ∧ Hid (m = tot ((lvs Rs).take k))) (fun _ i _ => Rs.length - (intOf i).toNat)
  case atStart => exact ⟨0, 0, Nat.zero_le _, rfl, rfl, hb0, by omega, rfl⟩
  case round =>
    obtain ⟨k, m, hk, rfl, rfl, hb, hm, hd⟩ := hrel
    by_cases hlt : k < Rs.length
    · obtain ⟨b, off, rfl, hbl, cp⟩ := hB.sl.oneB hb k hlt
      have hs := tot_take_succ (rs := lvs Rs) (k := k) (by simpa using hlt)
      rw [lvs_lev hlt] at hs
      have hle := tot_take_le (lvs Rs) (k + 1)
      obtain ⟨r, hr⟩ : ∃ r, Rs[k]'hlt = r := ⟨_, rfl⟩
      rw [hr] at cp hs
      obtain ⟨l, A, cl⟩ := r
      have cp1 : wr.cell? ⟨b, off + k, none⟩ = some (.slice A l.length cl) := cp
      dsimp only at hs
      have hki : (0 : Int) ≤ (k : Int) := by omega
      have hki2 : (k : Int) < (Rs.length : Int) := by omega
      have hsum : m + l.length ≤ 1000000 := by have := hd.out; omega
      have hw : IntKind.i64.wrap ((m : Int) + (l.length : Int)) = ((m + l.length : Nat) : Int) := (IntWalk.i64_in _ (by omega)).trans (by omega)
      have HS := Lib.hid hs
      have hbs := hb.size
      clear cp hr hs hle
      go_wp2
      go_roundw
      case rel => exact ⟨k + 1, m + l.length, by omega, by go_num, by go_num, hb.alloc hbs _, hsum, by show _ = _; rw [HS.out, hd.out]⟩
      case measure => simp [intOf]; omega
    · have hkn : k = Rs.length := by omega
      have hf : m = tot (lvs Rs) := by rw [hd.out, List.take_of_length_le (by simp; omega)]
      have HF := Lib.hid hf
      clear hkn hf
      go_wp2
      go_ret
      exact ⟨ret_int (by rw [HF.out]), hb⟩
end Go.Proofs.YtolclahkfmplfaaGreatDoor

/- Levels in memory of the call's own; the map of levels that hold a run. No walk. -/
namespace Go.Proofs.YtolclahkfmplfaaGreatDoor
open Go Go.RowKit Go.Maps
set_option maxRecDepth 100000

/-! ### levels in memory of the call's own -/
structure OwnRs (w : World) (B0 : Nat) (B : Option Addr) (c : Nat) (Rs : List Rm) : Prop where
  row : w.ownsRow B0 49 1 (.slice B Rs.length c) Rs.length (Rs.map Rm.v)
  ent : ∀ r ∈ Rs, w.ownsRow B0 46 3 r.v r.l.length (r.l.flatMap Ent.cells)
theorem own_rm {w : World} {B0 : Nat} {r : Rm} (h : w.ownsRow B0 46 3 r.v r.l.length (r.l.flatMap Ent.cells)) : r.Ok w := by
  obtain ⟨A3, c3, h3, h4, h5⟩ := own_form h
  obtain ⟨ls, As, cs⟩ := r
  have h6 : As = A3 ∧ cs = c3 := by simpa [Rm.v] using h3
  obtain ⟨rfl, rfl⟩ := h6
  exact ⟨own_sl h, h4, h5⟩
theorem OwnRs.runsAt {w : World} {B0 : Nat} {B : Option Addr} {c : Nat} {Rs : List Rm} (h : OwnRs w B0 B c Rs) : RunsAt w B Rs := ⟨own_sl h.row, fun r hr => own_rm (h.ent r hr)⟩
theorem OwnRs.le {w : World} {B0 : Nat} {B : Option Addr} {c : Nat} {Rs : List Rm} (h : OwnRs w B0 B c Rs) : Rs.length ≤ c ∧ c ≤ maxLen := by
  obtain ⟨A', c', h4, h5, h6⟩ := own_form h.row
  obtain ⟨rfl, rfl⟩ : B = A' ∧ c = c' := by simpa using h4
  exact ⟨h5, h6⟩
theorem OwnRs.nil (w : World) (B0 : Nat) : OwnRs w B0 none 0 [] := ⟨World.ownsRow_nil _ _ _ _, by simp⟩
theorem OwnRs.below {w w' : World} {B0 : Nat} {B : Option Addr} {c : Nat} {Rs : List Rm} (h : OwnRs w B0 B c Rs) (hb : Below w.heap.size w w') : OwnRs w' B0 B c Rs :=
  ⟨own_below h.row hb, fun r hr => own_below (h.ent r hr) hb⟩
theorem OwnRs.mono {w : World} {B0 B1 : Nat} {B : Option Addr} {c : Nat} {Rs : List Rm} (h : OwnRs w B0 B c Rs) (hb : B1 ≤ B0) : OwnRs w B1 B c Rs :=
  ⟨own_mono h.row hb, fun r hr => own_mono (h.ent r hr) hb⟩
theorem OwnRs.alloc {w : World} {B0 : Nat} {B : Option Addr} {c : Nat} {Rs : List Rm} (h : OwnRs w B0 B c Rs) (o : Obj) : OwnRs (w.alloc o) B0 B c Rs :=
  ⟨h.row.alloc o, fun r hr => (h.ent r hr).alloc o⟩
theorem OwnRs.drew {w : World} {B0 : Nat} {B : Option Addr} {c : Nat} {Rs : List Rm} (h : OwnRs w B0 B c Rs) : OwnRs w.drew B0 B c Rs := ⟨h.row, h.ent⟩
/-- a store into a block of another type -/
theorem own_setT {w : World} {g B s n : Nat} {t e : TypeId} {cur : Array Value} {v : Value} {xs : List Value} (hB : Blk w g t cur) (h : w.ownsRow B e s v n xs) (hne : e ≠ t) (i : Nat) (u : Value) : (w.setCell ⟨g, i, none⟩ u).ownsRow B e s v n xs := by
  refine ⟨h.1, ?_⟩
  rcases h.2 with h2 | ⟨k, cap, cur', rfl, hg, hh, r⟩
  · exact .inl h2
  · refine .inr ⟨k, cap, cur', rfl, hg, ?_, r⟩
    refine (Below.heap_setCell w ⟨g, i, none⟩ u k ?_).trans hh
    intro e2
    have e3 : k = g := e2
    subst e3
    have := hB.symm.trans hh
    simp at this
    exact hne this.2.symm
/-- a store into a block that is not this row's, or of another type -/
theorem OwnRs.setT {w : World} {B0 g : Nat} {B : Option Addr} {c : Nat} {Rs : List Rm} {t : TypeId} {cur : Array Value} (h : OwnRs w B0 B c Rs) (hB : Blk w g t cur) (h1 : 49 ≠ t) (h2 : 46 ≠ t) (i : Nat) (u : Value) : OwnRs (w.setCell ⟨g, i, none⟩ u) B0 B c Rs :=
  ⟨own_setT hB h.row h1 i u, fun r hr => own_setT hB (h.ent r hr) h2 i u⟩
/-- a row of runs, of the call's own -/
abbrev RowAt (w : World) (B0 : Nat) (B : Option Addr) (c : Nat) (Rs : List Rm) : Prop := w.ownsRow B0 49 1 (.slice B Rs.length c) Rs.length (Rs.map Rm.v)
theorem RowAt.at {w : World} {B0 : Nat} {B : Option Addr} {c : Nat} {Rs : List Rm} (h : RowAt w B0 B c Rs) (hn : 0 < Rs.length) : ∃ g cur, B = some ⟨g, 0, none⟩ ∧ B0 ≤ g ∧ Blk w g 49 cur ∧ cur.size = c ∧ (∀ k (hk : k < Rs.length), w.cell? ⟨g, k, none⟩ = some (Rs[k]'hk).v) := by
  obtain ⟨g, cap, cur, hv, hg, hb, h1, h2, h3, h4⟩ := own_blk h hn
  obtain ⟨rfl, rfl⟩ : B = some ⟨g, 0, none⟩ ∧ c = cap := by simpa using hv
  refine ⟨g, cur, rfl, hg, hb, by simpa using h3, fun k hk => ?_⟩
  rw [hb.cell]
  have h5 : (Rs.map Rm.v)[k]? = some (Rs[k]'hk).v := by simp [hk]
  rw [← h4, List.getElem?_take, if_pos (by omega)] at h5
  simpa using h5
theorem OwnRs.at {w : World} {B0 : Nat} {B : Option Addr} {c : Nat} {Rs : List Rm} (h : OwnRs w B0 B c Rs) (hn : 0 < Rs.length) : ∃ g cur, B = some ⟨g, 0, none⟩ ∧ B0 ≤ g ∧ Blk w g 49 cur ∧ cur.size = c ∧ (∀ k (hk : k < Rs.length), w.cell? ⟨g, k, none⟩ = some (Rs[k]'hk).v) := RowAt.at h.row hn
theorem RowAt.set {w : World} {B0 g : Nat} {c : Nat} {Rs : List Rm} (h : RowAt w B0 (some ⟨g, 0, none⟩) c Rs) {k : Nat} (hk : k < Rs.length) (r : Rm) : RowAt (w.setCell ⟨g, k, none⟩ r.v) B0 (some ⟨g, 0, none⟩) c (Rs.set k r) := by
  obtain ⟨g', cap, cur, hv, hg, hb, h1, h2, h3, h4⟩ := own_blk h (by omega)
  obtain ⟨rfl, rfl⟩ : g = g' ∧ c = cap := by simpa using hv
  unfold RowAt
  rw [List.length_set]
  refine ⟨by simp, .inr ⟨g, c, cur.setIfInBounds k r.v, rfl, hg, hb.set_ k r.v, h1, h2, by simpa using h3, ?_⟩⟩
  rw [Array.toList_setIfInBounds, List.take_set, h4, List.map_set]
theorem RowAt.le {w : World} {B0 : Nat} {B : Option Addr} {c : Nat} {Rs : List Rm} (h : RowAt w B0 B c Rs) : Rs.length ≤ c ∧ c ≤ maxLen := by
  obtain ⟨A', c', h4, h5, h6⟩ := own_form h
  obtain ⟨rfl, rfl⟩ : B = A' ∧ c = c' := by simpa using h4
  exact ⟨h5, h6⟩
/-- a run is laid at a level -/
theorem OwnRs.set {w : World} {B0 g : Nat} {c : Nat} {Rs : List Rm} (h : OwnRs w B0 (some ⟨g, 0, none⟩) c Rs) {k : Nat} (hk : k < Rs.length) (r : Rm) (hr : w.ownsRow B0 46 3 r.v r.l.length (r.l.flatMap Ent.cells)) :
    OwnRs (w.setCell ⟨g, k, none⟩ r.v) B0 (some ⟨g, 0, none⟩) c (Rs.set k r) := by
  obtain ⟨g', cur, h1, _, hb, _⟩ := h.at (by omega)
  obtain rfl : g = g' := by simpa using h1
  refine ⟨RowAt.set h.row hk r, ?_⟩
  intro s hs
  refine own_setT hb ?_ (by decide) k _
  rcases List.mem_or_eq_of_mem_set hs with h5 | h5
  · exact h.ent s h5
  · rw [h5]; exact hr
/-- a run more, behind the others -/
theorem OwnRs.push {w w' : World} {B0 : Nat} {B A' : Option Addr} {c c' : Nat} {Rs : List Rm} (h : OwnRs w B0 B c Rs) (r : Rm) (hr : w.ownsRow B0 46 3 r.v r.l.length (r.l.flatMap Ent.cells))
    (ho : w'.ownsRow B0 49 1 (.slice A' (Rs.length + 1) c') (Rs.length + 1) (Rs.map Rm.v ++ [r.v])) (hg : w.grownBy w' (Value.slice B Rs.length c).ownBlock) : OwnRs w' B0 A' c' (Rs ++ [r]) := by
  refine ⟨?_, ?_⟩
  · rw [List.length_append, List.map_append]; exact ho
  · intro s hs
    refine own_grow hg h.row ?_ (by decide)
    rcases List.mem_append.1 hs with hs | hs
    · exact h.ent s hs
    · obtain rfl : s = r := by simpa using hs
      exact hr
theorem OwnRs.grown {w w' : World} {B0 : Nat} {B : Option Addr} {c : Nat} {Rs : List Rm} (h : OwnRs w B0 B c Rs) (hg : w.grownBy w' (Value.slice B Rs.length c).ownBlock) (hb : B0 ≤ w.heap.size) : Below B0 w w' :=
  (Below.refl _ _).grown hg (by omega) (fun q hq => (h.row.lt q hq).1)
/-- rows whose runs are among others' -/
theorem OwnRs.sub {w : World} {B0 : Nat} {B A : Option Addr} {c d : Nat} {Rs Ts : List Rm} (h : OwnRs w B0 B c Rs) (ho : w.ownsRow B0 49 1 (.slice A Ts.length d) Ts.length (Ts.map Rm.v)) (hs : ∀ t ∈ Ts, t = ⟨[], none, 0⟩ ∨ t ∈ Rs) : OwnRs w B0 A d Ts := by
  refine ⟨ho, fun t ht => ?_⟩
  rcases hs t ht with rfl | h1
  · exact World.ownsRow_nil _ _ _ _
  · exact h.ent t h1
theorem own_empty (w : World) (B0 : Nat) : w.ownsRow B0 46 3 (Rm.v ⟨[], none, 0⟩) 0 (([] : List Ent).flatMap Ent.cells) := World.ownsRow_nil _ _ _ _

/-- hands back levels, in memory of its own -/
def GivesLs (ls : Lv) (w : World) (r : Ending) (w' : World) : Prop := ∃ B c Rs, r = .returned (.slice B Rs.length c) ∧ lvs Rs = ls ∧ OwnRs w' w.heap.size B c Rs ∧ Below w.heap.size w w'
/-- .. and a ledger -/
def GivesRg (ls : Lv) (n : Int) (w : World) (r : Ending) (w' : World) : Prop := ∃ B c Rs, r = .returned (.agg #[.slice B Rs.length c, .int .u64 n]) ∧ lvs Rs = ls ∧ OwnRs w' w.heap.size B c Rs ∧ Below w.heap.size w w'
/-- .. and an error -/
def GivesRgE (ls : Lv) (n e : Int) (w : World) (r : Ending) (w' : World) : Prop := ∃ B c Rs, r = .returned (.tuple #[.agg #[.slice B Rs.length c, .int .u64 n], .int .i64 e]) ∧ lvs Rs = ls ∧ OwnRs w' w.heap.size B c Rs ∧ Below w.heap.size w w'
theorem rs_len {Rs : List Rm} {ls : Lv} (h : lvs Rs = ls) : Rs.length = ls.length := by rw [← h, lvs_len]
theorem lvs_set (Rs : List Rm) (k : Nat) (r : Rm) : lvs (Rs.set k r) = (lvs Rs).set k r.l := by unfold lvs; rw [List.map_set]
theorem lvs_append (Rs Ts : List Rm) : lvs (Rs ++ Ts) = lvs Rs ++ lvs Ts := by unfold lvs; rw [List.map_append]
theorem lvs_empty (Rs : List Rm) (r : Rm) : lvs (Rs ++ [r]) = lvs Rs ++ [r.l] := by rw [lvs_append]; rfl

/-! ### the map of levels that hold a run -/
def HeldAt (w : World) (b : Nat) (rs : Lv) : Prop := ∃ (n : Nat) (D : DataW Unit), w.ownsMap Tryz.prog 3 (plainElem (H := Unit) Tryz.prog 3) b n D ∧ n ≤ 1000000 ∧ Tidy D ∧ (∀ j : Nat, D.atKey (.int .i64 j) (.lit (.int .i64 0)) = .lit (.int .i64 (lev rs j).length)) ∧
  (∀ j : Nat, Maps.has D (.int .i64 j) = decide (lev rs j ≠ [])) ∧ Maps.size D = cnt rs
theorem HeldAt.below {w w' : World} {b : Nat} {rs : Lv} (h : HeldAt w b rs) (hb : Below w.heap.size w w') : HeldAt w' b rs := by
  obtain ⟨n, D, h1, h2⟩ := h
  refine ⟨n, D, ?_, h2⟩
  have hl := h1.lt
  obtain ⟨es, clock, h3, h4⟩ := h1
  exact ⟨es, clock, (hb.block b hl).trans h3, h4⟩
theorem HeldAt.lt {w : World} {b : Nat} {rs : Lv} (h : HeldAt w b rs) : b < w.heap.size := by obtain ⟨n, D, h1, _⟩ := h; exact h1.lt
theorem HeldAt.setCell {w : World} {b : Nat} {rs : Lv} (h : HeldAt w b rs) {a : Addr} (ha : b ≠ a.block) (u : Value) : HeldAt (w.setCell a u) b rs := by
  obtain ⟨n, D, h1, h2⟩ := h
  exact ⟨n, D, h1.setCell ha u, h2⟩
theorem HeldAt.alloc {w : World} {b : Nat} {rs : Lv} (h : HeldAt w b rs) (o : Obj) : HeldAt (w.alloc o) b rs := by
  obtain ⟨n, D, h1, h2⟩ := h
  exact ⟨n, D, h1.alloc o, h2⟩
theorem HeldAt.notCells {w : World} {b g : Nat} {rs : Lv} {t : TypeId} {cur : Array Value} (h : HeldAt w b rs) (hB : Blk w g t cur) : b ≠ g := by
  obtain ⟨n, D, ⟨es, clock, h3, _⟩, _⟩ := h
  rintro rfl
  have := hB.symm.trans h3
  simp at this
theorem lev_take' (rs : Lv) (k j : Nat) : lev (rs.take k) j = if j < k then lev rs j else [] := lev_take rs k j
theorem cnt_take {rs : Lv} {k : Nat} (h : k < rs.length) : cnt (rs.take (k + 1)) = cnt (rs.take k) + (if lev rs k ≠ [] then 1 else 0) := by
  unfold cnt
  rw [List.take_succ_eq_append_getElem h, List.countP_append, lev_lt h]
  by_cases e : rs[k] = [] <;> simp [e]
theorem key_lit (j : Nat) : WideAt.IsKeyLit (.int .i64 (j : Int)) := trivial
theorem key_ne {j k : Nat} (e : ¬ j = k) : Lit.int .i64 (j : Int) ≠ Lit.int .i64 (k : Int) := by
  intro h
  injection h with _ h2
  exact e (by exact_mod_cast h2)
theorem HeldAt.made {_w w' : World} {b : Nat} (h : w'.ownsMap Tryz.prog 3 (plainElem (H := Unit) Tryz.prog 3) b 0 (.map [])) : HeldAt w' b [] :=
  ⟨0, .map [], h, by omega, tidy_empty, fun j => by rw [lev_nil]; rfl, fun j => by rw [lev_nil]; rfl, rfl⟩
/-- a level that holds a run is noted -/
theorem held_put {D : DataW Unit} {rs : Lv} {k : Nat} (hk : k < rs.length) (hne : lev rs k ≠ []) (hT : Tidy D) (h1 : ∀ j : Nat, D.atKey (.int .i64 j) (.lit (.int .i64 0)) = .lit (.int .i64 (lev (rs.take k) j).length))
    (h2 : ∀ j : Nat, Maps.has D (.int .i64 j) = decide (lev (rs.take k) j ≠ [])) (h3 : Maps.size D = cnt (rs.take k)) :
    Tidy (D.put (.int .i64 (k : Int)) (.lit (.int .i64 (lev rs k).length))) ∧ (∀ j : Nat, (D.put (.int .i64 (k : Int)) (.lit (.int .i64 (lev rs k).length))).atKey (.int .i64 j) (.lit (.int .i64 0)) = .lit (.int .i64 (lev (rs.take (k + 1)) j).length)) ∧
    (∀ j : Nat, Maps.has (D.put (.int .i64 (k : Int)) (.lit (.int .i64 (lev rs k).length))) (.int .i64 j) = decide (lev (rs.take (k + 1)) j ≠ [])) ∧ Maps.size (D.put (.int .i64 (k : Int)) (.lit (.int .i64 (lev rs k).length))) = cnt (rs.take (k + 1)) := by
  have hno : Maps.has D (.int .i64 (k : Int)) = false := by rw [h2, lev_take, if_neg (by omega)]; rfl
  refine ⟨hT.put (key_lit k) _, fun j => ?_, fun j => ?_, ?_⟩
  · by_cases e : j = k
    · subst e
      rw [atKey_put_same hT.isMap (key_lit j), lev_take, if_pos (by omega)]
    · rw [atKey_put_other (key_ne e), h1, lev_take, lev_take]
      by_cases e2 : j < k
      · rw [if_pos e2, if_pos (by omega)]
      · rw [if_neg e2, if_neg (by omega)]
  · by_cases e : j = k
    · subst e
      rw [has_put_same hT.isMap (key_lit j), lev_take, if_pos (by omega)]
      simp [hne]
    · rw [has_put_other (key_ne e), h2, lev_take, lev_take]
      by_cases e2 : j < k
      · rw [if_pos e2, if_pos (by omega)]
      · rw [if_neg e2, if_neg (by omega)]
  · rw [size_put hT, hno, if_neg (by simp), h3, cnt_take hk, if_pos hne]
theorem held_skip {rs : Lv} {k : Nat} (hk : k < rs.length) (he : lev rs k = []) : (∀ j, lev (rs.take (k + 1)) j = lev (rs.take k) j) ∧ cnt (rs.take (k + 1)) = cnt (rs.take k) := by
  refine ⟨fun j => ?_, by rw [cnt_take hk, if_neg (by simp [he])]; rfl⟩
  rw [lev_take, lev_take]
  by_cases e : j = k
  · subst e; rw [if_pos (by omega), if_neg (by omega), he]
  · by_cases e2 : j < k
    · rw [if_pos e2, if_pos (by omega)]
    · rw [if_neg e2, if_neg (by omega)]
/-- a level is struck out -/
theorem held_del {D : DataW Unit} {rs : Lv} {k : Nat} (hne : lev rs k ≠ []) (hT : Tidy D) (h1 : ∀ j : Nat, D.atKey (.int .i64 j) (.lit (.int .i64 0)) = .lit (.int .i64 (lev rs j).length))
    (h2 : ∀ j : Nat, Maps.has D (.int .i64 j) = decide (lev rs j ≠ [])) (h3 : Maps.size D = cnt rs) :
    Tidy (D.del (.int .i64 (k : Int))) ∧ (∀ j : Nat, (D.del (.int .i64 (k : Int))).atKey (.int .i64 j) (.lit (.int .i64 0)) = .lit (.int .i64 (lev (rs.set k []) j).length)) ∧
    (∀ j : Nat, Maps.has (D.del (.int .i64 (k : Int))) (.int .i64 j) = decide (lev (rs.set k []) j ≠ [])) ∧ Maps.size (D.del (.int .i64 (k : Int))) = cnt (rs.set k []) := by
  refine ⟨hT.del _, fun j => ?_, fun j => ?_, ?_⟩
  · rw [lev_set_nil]
    by_cases e : j = k
    · subst e; rw [atKey_del_same, if_pos rfl]; rfl
    · rw [atKey_del_other (key_ne e), h1, if_neg e]
  · rw [lev_set_nil]
    by_cases e : j = k
    · subst e; rw [has_del_same, if_pos rfl]; rfl
    · rw [has_del_other (key_ne e), h2, if_neg e]
  · have := size_del (k := .int .i64 (k : Int)) hT
    rw [h2, h3, ← cnt_set rs k hne] at this
    simp [hne] at this
    exact this
end Go.Proofs.YtolclahkfmplfaaGreatDoor

/- append onto a row of the call's own: where the new row lies. -/
namespace Go.Proofs.YtolclahkfmplfaaGreatDoor
open Go Go.RowKit
set_option maxRecDepth 100000
section
variable {P : Program} (w : World)
theorem wpList_append_at {ops : Array Oper} {rest : List Oper} {o : Oper} {a : Act} {Q : Exit → Act → World → Prop} (hgd : o.guard = none) (s x : Operand) (t : TypeId)
    (ho : o.op = .call { callee := .builtin .append, args := #[s, x], argTypes := #[t, t] })
    (base : Nat) (e : TypeId) (i : TypeInfo) (z : Value) (size bytes : Nat) (ht : P.underlying t = some (.slice e)) (hi : P.info? e = some i) (hz : i.zero = some z)
    (hsize : i.size = size) (hby : i.bytes = bytes) (hzs : z.cells.size = size) (hsz : 0 < size)
    (v : Value) (n : Nat) (xs : List Value) (hs : a.eval s = v) (hown : w.ownsRow base e size v n xs)
    (g m c : Nat) (news : List Value) (hx : a.eval x = .slice (some ⟨g, 0, none⟩) m c) (hr : ∀ j u, news[j]? = some u → w.cell? ⟨g, j, none⟩ = some u) (hl : news.length = m * size) (h1 : ∀ u ∈ news, u.oneCell' = true)
    (h63 : n + m ≤ maxLen) (hbytes : (n + m) * bytes ≤ 140737488355328) (hbase : base ≤ w.heap.size)
    (h : ∀ v' w', w'.ownsRow base e size v' (n + m) (xs ++ news) → w.grownBy w' v.ownBlock → (v'.ownBlock = v.ownBlock ∨ v'.ownBlock = some w.heap.size) → wpList P ops Q rest (a.put o.dst v') w') : wpList P ops Q (o :: rest) a w := by
  refine wpList_plain hgd fun K hK => ?_
  obtain ⟨v', w', hrun, h2, h3, _, h4⟩ := run_append_own_at (P := P) w base t o.type e i z size bytes ht hi hz hsize hby hzs hsz v n xs hown ⟨g, 0, none⟩ m c news hl (fun j u hu => by rw [Addr.add_lit, Nat.zero_add]; exact hr j u hu) h1 h63 hbytes hbase
  unfold Oper.wp execOp
  simp only [ho, resolve, invoke, builtin, Sem.run_bind, Sem.run_pure, Result.andThen_ok, List.map_toArray, List.map_cons, List.map_nil, hs, hx, hrun]
  exact hK _ _ (h v' w' h2 h3 h4)
end
/-- a block that is not the row's stays -/
theorem Blk.grown {w w' : World} {g : Nat} {t : TypeId} {cs : Array Value} {row : Option Nat} (h : Blk w g t cs) (hg : w.grownBy w' row) (hne : row ≠ some g) : Blk w' g t cs :=
  h.of (hg.block g h.lt (fun e => hne e.symm))
theorem blk_ne {w : World} {g g' : Nat} {t t' : TypeId} {cs cs' : Array Value} (h : Blk w g t cs) (h' : Blk w g' t' cs') (hne : t ≠ t') : g ≠ g' := by
  rintro rfl
  have := h.symm.trans h'
  simp at this
  exact hne this.2
theorem own_typ {w : World} {g B s n : Nat} {t e : TypeId} {cs : Array Value} {v : Value} {xs : List Value} (h : w.ownsRow B e s v n xs) (hB : Blk w g t cs) (hne : e ≠ t) : v.ownBlock ≠ some g := by
  rcases h.2 with ⟨rfl, _⟩ | ⟨k, cap, cur, rfl, _, hk, _⟩
  · simp [Value.ownBlock]
  · intro e2
    have e3 : k = g := by simpa [Value.ownBlock] using e2
    subst e3
    have := hk.symm.trans hB
    simp at this
    exact hne this.2
end Go.Proofs.YtolclahkfmplfaaGreatDoor

/- Contracts: the reference's Get, Newest, kway.Find, the reference's Find; copies of runs, and whether runs are the same. -/
namespace Go.Proofs.YtolclahkfmplfaaGreatDoor
open Go Go.RowKit
set_option maxRecDepth 100000




theorem run_info1 : (Tryz.prog.info? 49).map (fun i => (i.zero, i.size, i.bytes)) = some (some (.agg #[.slice none 0 0]), 1, 24) := by kernel_rfl
/-- hands back copies of runs, in new memory -/
def GivesTwins (ls : List (List Ent)) (w : World) (r : Ending) (w' : World) : Prop :=
  ∃ (A : Option Addr) (c : Nat) (Ts : List Rm), r = .returned (.slice A Ts.length c) ∧ Ts.map Rm.l = ls ∧ RunsAt w' A Ts ∧ Below w.heap.size w w'

end Go.Proofs.YtolclahkfmplfaaGreatDoor

/- Contracts: copies of levels. -/
namespace Go.Proofs.YtolclahkfmplfaaGreatDoor
open Go Go.RowKit
set_option maxRecDepth 100000
/-- a result that lies in a box of two cells -/
theorem box2 {w : World} {g : Nat} {t : TypeId} {x0 x1 : Value} (h : Blk w g t #[x0, x1]) (y0 y1 : Value) : Blk ((w.setCell ⟨g, 0, none⟩ y0).setCell ⟨g, 1, none⟩ y1) g t #[y0, y1] := by
  have := (h.set_ 0 y0).set_ 1 y1
  simpa using this
theorem below2 {B : Nat} {a w : World} {g : Nat} (h : Below B a w) (hg : B ≤ g) (y0 y1 : Value) : Below B a ((w.setCell ⟨g, 0, none⟩ y0).setCell ⟨g, 1, none⟩ y1) :=
  (h.setCell (p := ⟨g, 0, none⟩) hg _).setCell (p := ⟨g, 1, none⟩) hg _
theorem OwnRs.set2 {w : World} {B0 g : Nat} {B : Option Addr} {c : Nat} {Rs : List Rm} {t : TypeId} {x0 x1 : Value} (h : OwnRs w B0 B c Rs) (hB : Blk w g t #[x0, x1]) (h1 : 49 ≠ t) (h2 : 46 ≠ t) (y0 y1 : Value) : OwnRs ((w.setCell ⟨g, 0, none⟩ y0).setCell ⟨g, 1, none⟩ y1) B0 B c Rs :=
  (h.setT hB h1 h2 0 y0).setT (hB.set_ 0 y0) h1 h2 1 y1
end Go.Proofs.YtolclahkfmplfaaGreatDoor

/- Contracts: the reference's levels (stand, Alone). -/
namespace Go.Proofs.YtolclahkfmplfaaGreatDoor
open Go Go.RowKit
set_option maxRecDepth 100000
/-- writes in memory of the call's own -/
theorem OwnRs.belowB {w w' : World} {B0 : Nat} {B : Option Addr} {c : Nat} {Rs : List Rm} (h : OwnRs w B0 B c Rs) (hb : Below w.heap.size w w') : OwnRs w' B0 B c Rs := h.below hb
theorem pad_eq {Ts Ts3 : Lv} {U : Nat} (_h1 : Ts.length ≤ Ts3.length) (h2 : Ts3.length ≤ max Ts.length (U + 1)) (h3 : U < Ts3.length) : padTo Ts Ts3.length = padTo Ts (U + 1) := by
  by_cases h4 : Ts.length ≤ U
  · rw [show Ts3.length = U + 1 by omega]
  · rw [pad_same _ (by omega), pad_same _ (by omega)]
theorem stand_grow {w : World} {B0 n d3 : Nat} {A3 : Option Addr} {Ts3 : List Rm} {v5 : Value} {w5 : World} {g : Nat} {t : TypeId} {cs : Array Value} (o : Obj) (hr : OwnRs w B0 A3 d3 Ts3) (hB : Blk w g t cs) (hne : ∀ q, A3 = some q → q.block ≠ g)
    (hn : n = Ts3.length + 1) (ho : w5.ownsRow B0 49 1 v5 n (Ts3.map Rm.v ++ [.slice none 0 0])) (hg : (w.alloc o).grownBy w5 (Value.slice A3 Ts3.length d3).ownBlock) (hk : v5.ownBlock = (Value.slice A3 Ts3.length d3).ownBlock ∨ v5.ownBlock = some (w.alloc o).heap.size) (hlt : g < w.heap.size) :
    ∃ A5 d5, v5 = .slice A5 n d5 ∧ OwnRs w5 B0 A5 d5 (Ts3 ++ [⟨[], none, 0⟩]) ∧ Blk w5 g t cs ∧ (∀ q, A5 = some q → q.block ≠ g) := by
  subst hn
  obtain ⟨A5, d5, h1, _, _⟩ := own_form ho
  subst h1
  refine ⟨A5, d5, rfl, OwnRs.push (hr.alloc o) ⟨[], none, 0⟩ (own_empty _ _) ho hg, (hB.alloc o).grown hg ?_, fun q hq => ?_⟩
  · intro h
    cases A3 with
    | none => simp [Value.ownBlock] at h
    | some q => exact hne q rfl (by simpa [Value.ownBlock] using h)
  · subst hq
    rcases hk with h1 | h1
    · cases A3 with
      | none => simp [Value.ownBlock] at h1
      | some q3 => have := hne q3 rfl; simp [Value.ownBlock] at h1; omega
    · simp [Value.ownBlock] at h1; omega
end Go.Proofs.YtolclahkfmplfaaGreatDoor
