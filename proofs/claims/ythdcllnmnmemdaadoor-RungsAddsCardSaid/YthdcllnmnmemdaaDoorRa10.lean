/- Rr Ip Ix G4 G5 G6: texts of the claim, in this order. -/
import Derived.Test.YthdcllnmnmemdaaDoorRa9
import Derived.Test.YthdcllnmnmemdaaDoorRa8
import Derived.Test.YthdcllnmnmemdaaDoorRa7
import Derived.Test.YthdcllnmnmemdaaDoorRa5
import Derived.Lib.BitFns
import Derived.Lib.Strings
import Derived.Lib.Slices
import Derived.Lib.Small
import Derived.Maps.OwnSet
import Derived.Maps.Views
/- Contracts: run.Pairs, Live, Next, Last, and the references'. -/
namespace Go.Proofs.YthdcllnmnmemdaaDoor
open Go Go.RowKit
set_option maxRecDepth 100000

/-! ### plain -/
theorem bel_in (l : List Ent) (key : Int) : belK (inL l) key = belK l key := (inL_perm l).countP_eq _
theorem low_is (l : List Ent) (key : Int) : lowK l key = belK l key := lowK_bel l key
def nxE (l : List Ent) (key : Int) : Int := if chkE l = 0 then (if belK l key = l.length then 6 else 0) else chkE l
def nxX (l : List Ent) (key : Int) : Ent := if chkE l = 0 then (inL l).getD (belK l key) zeroE else zeroE
def lsE (l : List Ent) (key : Int) : Int := if chkE l = 0 then (if belK l key = 0 then 6 else 0) else chkE l
def lsX (l : List Ent) (key : Int) : Ent := if chkE l = 0 then (if belK l key = 0 then zeroE else inAt l (belK l key - 1)) else zeroE
def prL (l : List Ent) : List Pr := if chkE l = 0 then plainE (inL l) else []
def lvN (l : List Ent) : Nat := if chkE l = 0 then (liveE l).length else 0
theorem pr_lv (l : List Ent) : (prL l).length = lvN l := by
  unfold prL lvN
  split
  · unfold plainE
    rw [List.length_map]
    exact ((inL_perm l).filter _).length_eq
  · rfl
theorem nx_low (l : List Ent) (key : Int) : nxE l key = lowE l key ∧ (lowE l key = 0 → lowAt l key < l.length ∧ nxX l key = entAt l (lowAt l key)) ∧ (lowE l key ≠ 0 → nxX l key = zeroE) := by
  unfold nxE nxX
  by_cases h : chkE l = 0
  · rw [if_pos h, if_pos h]
    by_cases hk : lowK l key = l.length
    · have h6 := (low_six h hk).1
      rw [low_is] at hk
      rw [if_pos hk, h6]
      refine ⟨rfl, fun hh => by omega, fun _ => ?_⟩
      rw [List.getD_eq_getElem?_getD, List.getElem?_eq_none (by rw [inL_length, hk]; exact Nat.le_refl _)]; rfl
    · have h0 := (low_at h hk).1
      obtain ⟨hlt, h1, h2⟩ := low_inE h hk
      rw [low_is] at hk
      rw [if_neg hk, h0]
      refine ⟨rfl, fun _ => ⟨h2, ?_⟩, fun hh => absurd rfl hh⟩
      rw [h1, ← bel_in, List.getD_eq_getElem?_getD, List.getElem?_eq_getElem hlt]; rfl
  · rw [if_neg h, if_neg h, (low_bad key h).1]
    exact ⟨rfl, fun hh => absurd hh h, fun _ => rfl⟩
/-- hands back pairs of the call's own, and an error -/
def GivesPrs (m : List Pr) (e : Int) (w : World) (r : Ending) (w' : World) : Prop :=
  ∃ A c, r = .returned (.tuple #[.slice A m.length c, .int .i64 e]) ∧ w'.ownsRow w.heap.size 56 2 (.slice A m.length c) m.length (m.flatMap Pr.cells) ∧ Below w.heap.size w w'

set_option maxHeartbeats 1000000 in
theorem runNext_any (A : Option Addr) (l : List Ent) (c : Nat) (key : Int) (w : World) (hA : Sl w A (l.flatMap Ent.cells)) (hl : l.length ≤ 4611686018427387903) (hT : TabAt 1 Lib.deBruijn64tab w) :
    Calls Tryd.prog 67 #[.agg #[.slice A l.length c], .int .i64 key] w (GivesX (nxX l key) (nxE l key) w) := by
  obtain ⟨W0, hW0⟩ : ∃ W0, (w.alloc (.cells #[.slice A l.length c] 61)).alloc (.cells #[.int .i64 0, .int .i64 0, .bool false] 27) = W0 := ⟨_, rfl⟩
  have hb0 : Below w.heap.size w W0 := by rw [← hW0]; exact ((Below.refl _ _).alloc (Nat.le_refl _) _).alloc (by simp) _
  have bX0 : Blk W0 w.heap.size 61 #[.slice A l.length c] := by rw [← hW0]; exact (Blk.new _ _ _).alloc _
  have bR0 : Blk W0 (w.heap.size + 1) 27 #[.int .i64 0, .int .i64 0, .bool false] := by
    rw [← hW0]
    have := Blk.new (w.alloc (.cells #[.slice A l.length c] 61)) 27 #[.int .i64 0, .int .i64 0, .bool false]
    rwa [World.size_alloc] at this
  have cX0 : W0.cell? ⟨w.heap.size, 0, none⟩ = some (.slice A l.length c) := bX0.cell 0
  have hT0 := Lib.hid (tab_below (tab_lt hT) hT hb0)
  have HA := Lib.hid hA
  obtain ⟨g1, g2, g3⟩ := nx_low l key
  obtain ⟨E, hE⟩ : ∃ E, nxE l key = E := ⟨_, rfl⟩
  obtain ⟨at_, hat⟩ : ∃ at_, lowAt l key = at_ := ⟨_, rfl⟩
  obtain ⟨p, hp⟩ : ∃ p, nxX l key = p := ⟨_, rfl⟩
  rw [hE, hp]
  rw [hE] at g1
  rw [← g1, hp, hat] at g2
  rw [← g1, hp] at g3
  have HG := Lib.hid (And.intro g1 (And.intro g2 g3))
  have HAT := Lib.hid hat
  clear hE hat hp g1 g2 g3 hA hT
  go_enter Tryd.func67, Tryd.ntmps67
  go_wp2_with fail
  try rw [hW0]
  clear hW0 cX0
  refine (lower_any A l c key _ (HA.out.below hb0) hl hT0.out).mono ?_
  unfold GivesII
  rw [← HG.out.1, HAT.out]
  rintro e w1 ⟨rfl, hb1⟩
  have bX1 := bX0.below hb1 bX0.lt
  have bR1 := bR0.below hb1 bR0.lt
  have hb01 := bext hb0 hb1
  have cX1 : w1.cell? ⟨w.heap.size, 0, none⟩ = some (.slice A l.length c) := bX1.cell 0
  have d0 : w1.cell? ⟨w.heap.size + 1, 0, none⟩ = some (.int .i64 0) := bR1.cell 0
  have d1 : w1.cell? ⟨w.heap.size + 1, 1, none⟩ = some (.int .i64 0) := bR1.cell 1
  have d2 : w1.cell? ⟨w.heap.size + 1, 2, none⟩ = some (.bool false) := bR1.cell 2
  have f0 := bR1.frozen 0
  have f1 := bR1.frozen 1
  have f2 := bR1.frozen 2
  by_cases h0 : E = 0
  · subst h0
    obtain ⟨hlt, hpe⟩ := HG.out.2.1 rfl
    rw [entAt_get hlt] at hpe
    obtain ⟨b, off, rfl, hbl, c1, c2, c3⟩ := HA.out.entB hb01 at_ hlt
    rw [← hpe] at c1 c2 c3
    have i0 : (0 : Int) ≤ (at_ : Int) := by omega
    have i1 : (at_ : Int) < (l.length : Int) := by omega
    clear hpe
    go_wp2_with fail
    have bFy := put3 bR1 (.int .i64 p.key) (.int .i64 p.val) (.bool p.dead)
    have e0y := bFy.cell 0
    have e1y := bFy.cell 1
    have e2y := bFy.cell 2
    simp only [List.getElem?_toArray, List.getElem?_cons_zero, List.getElem?_cons_succ] at e0y e1y e2y
    refine bodyPost_ret (v := .tuple #[.agg #[.int .i64 p.key, .int .i64 p.val, .bool p.dead], .int .i64 0]) (by simp [results, Tryd.results67, go_sem, e0y, e1y, e2y]) rfl ?_
    exact ⟨rfl, below3 hb01 (Nat.le_succ _) _ _ _⟩
  · have hz := HG.out.2.2 h0
    subst hz
    have h1 : (E != 0) = true := by simpa using h0
    clear h0
    go_wp2_with fail
    have bFz := put3 bR1 (.int .i64 0) (.int .i64 0) (.bool false)
    have e0z := bFz.cell 0
    have e1z := bFz.cell 1
    have e2z := bFz.cell 2
    simp only [List.getElem?_toArray, List.getElem?_cons_zero, List.getElem?_cons_succ] at e0z e1z e2z
    refine bodyPost_ret (v := .tuple #[.agg #[.int .i64 0, .int .i64 0, .bool false], .int .i64 E]) (by simp [results, Tryd.results67, go_sem, e0z, e1z, e2z]) rfl ?_
    exact ⟨rfl, below3 hb01 (Nat.le_succ _) _ _ _⟩

set_option maxHeartbeats 1000000 in
theorem all_bad (A : Option Addr) (l : List Ent) (c : Nat) (w : World) (hA : Sl w A (l.flatMap Ent.cells)) (hl : l.length ≤ 4611686018427387903) (hC : ¬ chkE l = 0) :
    Calls Tryd.prog 85 #[.agg #[.slice A l.length c], .func (.func 86) #[] #[], .func (.func 87) #[] #[]] w (GivesPrs [] (chkE l) w) := by
  obtain ⟨E, hE⟩ : ∃ E, chkE l = E := ⟨_, rfl⟩
  rw [hE] at hC ⊢
  have HE := Lib.hid hE
  have h1 : (E != 0) = true := by simpa using hC
  have HA := Lib.hid hA
  clear hE hC hA
  refine calls_of_in (_F := Fence.wide) ?_
  have hdd : ∀ k : Nat, (Fence.wide.depth.isSome = true → 1 ≤ k) := fun k h => by cases h
  have hwf : ∀ f, Fence.wide.fn f := fun _ => trivial
  have hdp : Fence.wide.depth = none := rfl
  have hro : Fence.wide.round = none := rfl
  obtain ⟨W0, hW0⟩ : ∃ W0, (((w.alloc (.cells #[.slice A l.length c] 61)).alloc (.cells #[.func (.func 86) #[] #[]] 131)).alloc (.cells #[.func (.func 87) #[] #[]] 132)).alloc (.cells #[.slice none 0 0] 38) = W0 := ⟨_, rfl⟩
  have hb0 : Below w.heap.size w W0 := by
    rw [← hW0]; exact ((((Below.refl _ w).alloc (Nat.le_refl _) _).alloc (by simp) _).alloc (by simp; omega) _).alloc (by simp; omega) _
  have k3 : Blk W0 w.heap.size 61 #[.slice A l.length c] := by rw [← hW0]; exact (((Blk.new w _ _).alloc _).alloc _).alloc _
  have k6 : Blk W0 (w.heap.size + 1 + 1 + 1) 38 #[.slice none 0 0] := by
    rw [← hW0]
    have := Blk.new (((w.alloc (.cells #[.slice A l.length c] 61)).alloc (.cells #[.func (.func 86) #[] #[]] 131)).alloc (.cells #[.func (.func 87) #[] #[]] 132)) 38 #[.slice none 0 0]
    rwa [World.size_alloc, World.size_alloc, World.size_alloc] at this
  have c3 : W0.cell? ⟨w.heap.size, 0, none⟩ = some (.slice A l.length c) := k3.cell 0
  refine callsIn_of_wp_marks Tryd.func85 rfl (hwf _) ?_ hro
  simp only [Tryd.ntmps85, List.size_toArray, List.length_cons, List.length_nil, Nat.reduceAdd, Nat.reduceSub, Array.replicate_succ, Array.replicate_zero, List.push_toArray, List.append_toArray, List.nil_append, List.cons_append]
  gi_wp2_with fail
  try rw [hW0]
  clear hW0
  (try first | refine ⟨hdp, ?_⟩ | refine ⟨hdd _, ?_⟩)
  refine (callsIn_wide.2 (check_any A l c _ (HA.out.below hb0) hl)).mono ?_
  rw [HE.out]
  rintro e w1 ⟨rfl, hb1⟩
  have hb01 := bext hb0 hb1
  have k61 := k6.below hb1 k6.lt
  have c6 : w1.cell? ⟨w.heap.size + 1 + 1 + 1, 0, none⟩ = some (.slice none 0 0) := k61.cell 0
  have f6 := k61.frozen 0
  have e6 : (w1.setCell ⟨w.heap.size + 1 + 1 + 1, 0, none⟩ (.slice none 0 0)).cell? ⟨w.heap.size + 1 + 1 + 1, 0, none⟩ = some (.slice none 0 0) := (k61.set_ 0 _).cell 0
  clear c3 k3 k6
  gi_wp2_with fail
  refine ⟨.tuple #[.slice none 0 0, .int .i64 E], by simp [results, Tryd.results85, go_sem, e6], none, 0, rfl, World.ownsRow_nil _ _ _ _, ?_⟩
  exact hb01.setCell (p := ⟨w.heap.size + 1 + 1 + 1, 0, none⟩) (by show w.heap.size ≤ w.heap.size + 1 + 1 + 1; omega) _
set_option maxHeartbeats 1000000 in
theorem pairs_any (A : Option Addr) (l : List Ent) (c : Nat) (w : World) (hA : Sl w A (l.flatMap Ent.cells)) (hl : l.length ≤ 4611686018427387903) :
    Calls Tryd.prog 51 #[.agg #[.slice A l.length c]] w (GivesPrs (prL l) (chkE l) w) := by
  have hb0 : Below w.heap.size w (w.alloc (.cells #[.slice A l.length c] 61)) := (Below.refl _ _).alloc (Nat.le_refl _) _
  have hall : ∀ W, Below w.heap.size w W → Calls Tryd.prog 85 #[.agg #[.slice A l.length c], .func (.func 86) #[] #[], .func (.func 87) #[] #[]] W (GivesPrs (prL l) (chkE l) W) := by
    intro W hW
    by_cases hC : chkE l = 0
    · have h := all_ok A l c W (hA.below hW) hC
      have h2 : prL l = plainE (inL l) := by unfold prL; rw [if_pos hC]
      rw [h2, hC]
      exact h
    · have h2 : prL l = [] := by unfold prL; rw [if_neg hC]
      rw [h2]
      exact all_bad A l c W (hA.below hW) hl hC
  have HALL := Lib.hid hall
  obtain ⟨E, hE⟩ : ∃ E, chkE l = E := ⟨_, rfl⟩
  obtain ⟨m, hm⟩ : ∃ m, prL l = m := ⟨_, rfl⟩
  rw [hE, hm]
  rw [hE, hm] at HALL
  clear hE hm hall
  go_enter Tryd.func51, Tryd.ntmps51
  go_wp2_with fail
  refine (HALL.out _ hb0).mono ?_
  rintro e w1 ⟨A1, c1, rfl, ho1, hb1⟩
  have HO := Lib.hid (own_mono ho1 hb0.size)
  clear ho1
  go_wp2
  refine bodyPost_ret (v := .tuple #[.slice A1 m.length c1, .int .i64 E]) (by simp [results, Tryd.results51, go_sem]) rfl ?_
  exact ⟨A1, c1, rfl, HO.out, bext hb0 hb1⟩

set_option maxHeartbeats 1000000 in
theorem live_any (A : Option Addr) (l : List Ent) (c : Nat) (w : World) (hA : Sl w A (l.flatMap Ent.cells)) (hl : l.length ≤ 4611686018427387903) :
    Calls Tryd.prog 47 #[.agg #[.slice A l.length c]] w (GivesII (lvN l) (chkE l) w) := by
  have hb0 : Below w.heap.size w (w.alloc (.cells #[.slice A l.length c] 61)) := (Below.refl _ _).alloc (Nat.le_refl _) _
  have bX := Blk.new w 61 #[.slice A l.length c]
  have HA := Lib.hid hA
  obtain ⟨E, hE⟩ : ∃ E, chkE l = E := ⟨_, rfl⟩
  have HE := Lib.hid hE
  rw [hE]
  obtain ⟨N, hN⟩ : ∃ N, lvN l = N := ⟨_, rfl⟩
  have HN := Lib.hid hN
  rw [hN]
  clear hA hE hN
  go_enter Tryd.func47, Tryd.ntmps47
  go_wp2_with fail
  refine (check_any A l c _ (HA.out.below hb0) hl).mono ?_
  rw [HE.out]
  rintro e w1 ⟨rfl, hb1⟩
  have hb01 := bext hb0 hb1
  have bX1 := bX.below hb1 bX.lt
  have c0 : w1.cell? ⟨w.heap.size, 0, none⟩ = some (.slice A l.length c) := bX1.cell 0
  clear bX
  by_cases h0 : E = 0
  · subst h0
    have HNL : Hid (N = (liveE l).length) := by show _ = _; rw [← HN.out]; unfold lvN; rw [if_pos HE.out]
    go_wp2
    go_loopw [2, 15] (fun v i wr => ∃ k s : Nat, k ≤ l.length ∧ i = .int .i64 k ∧ v = .int .i64 s ∧ Below w1.heap.size w1 wr ∧ Hid (s = (liveE (l.take k)).length)) (fun _ i _ => l.length - (intOf i).toNat)
    case atStart => exact ⟨0, 0, Nat.zero_le _, rfl, rfl, Below.refl _ _, rfl⟩
    case round =>
      clear c0
      obtain ⟨k, s, hk, rfl, rfl, hb, hs⟩ := hrel
      have hsk : s ≤ k := by rw [hs.out]; have := live_le (l.take k); simp at this; omega
      by_cases hlt : k < l.length
      · obtain ⟨b, off, rfl, hbl, c1, c2, c3⟩ := HA.out.entB (bext hb01 hb) k hlt
        have hls := live_succ hlt
        obtain ⟨x, hx⟩ : ∃ x, l[k]'hlt = x := ⟨_, rfl⟩
        rw [hx] at c1 c2 c3 hls
        have i0 : (0 : Int) ≤ (k : Int) := by omega
        have i1 : (k : Int) < (l.length : Int) := by omega
        have ba : Below wr.heap.size wr (wr.alloc (.cells #[.int .i64 x.key, .int .i64 x.val, .bool x.dead] 27)) := (Below.refl _ _).alloc (Nat.le_refl _) _
        have HBA := Lib.hid ba
        clear ba hx
        cases hd : x.dead
        · rw [hd] at c3 hls HBA
          have HLS : Hid (s + 1 = (liveE (l.take (k + 1))).length) := by show _ = _; rw [hls, hs.out]; simp
          clear hls hd
          go_wp2_with fail
          go_roundw
          case rel => exact ⟨k + 1, s + 1, by omega, by go_num, by go_num, bext hb HBA.out, HLS⟩
          case measure => simp [intOf]; omega
        · rw [hd] at c3 hls HBA
          have HLS : Hid (s = (liveE (l.take (k + 1))).length) := by show _ = _; rw [hls, hs.out]; simp
          clear hls hd
          go_wp2_with fail
          go_roundw
          case rel => exact ⟨k + 1, s, by omega, by go_num, rfl, bext hb HBA.out, HLS⟩
          case measure => simp [intOf]; omega
      · have HS : Hid (s = N) := by show _ = _; rw [HNL.out, hs.out, List.take_of_length_le (by omega)]
        go_wp2
        refine bodyPost_ret (v := .tuple #[.int .i64 (s : Nat), .int .i64 0]) (by simp [results, Tryd.results47, go_sem]) rfl ?_
        rw [← HS.out]
        exact ⟨rfl, bext hb01 hb⟩
  · have h1 : (E != 0) = true := by simpa using h0
    have HNL : Hid (N = 0) := by show _ = _; rw [← HN.out]; unfold lvN; rw [HE.out, if_neg h0]
    clear h0 c0
    go_wp2
    refine bodyPost_ret (v := .tuple #[.int .i64 0, .int .i64 E]) (by simp [results, Tryd.results47, go_sem]) rfl ?_
    rw [HNL.out]
    exact ⟨rfl, hb01⟩




set_option maxHeartbeats 1000000 in
theorem runLast_any (A : Option Addr) (l : List Ent) (c : Nat) (key : Int) (w : World) (hA : Sl w A (l.flatMap Ent.cells)) (hl : l.length ≤ 4611686018427387903) (hT : TabAt 1 Lib.deBruijn64tab w) :
    Calls Tryd.prog 70 #[.agg #[.slice A l.length c], .int .i64 key] w (GivesX (lsX l key) (lsE l key) w) := by
  obtain ⟨W0, hW0⟩ : ∃ W0, (w.alloc (.cells #[.slice A l.length c] 61)).alloc (.cells #[.int .i64 0, .int .i64 0, .bool false] 27) = W0 := ⟨_, rfl⟩
  have hb0 : Below w.heap.size w W0 := by rw [← hW0]; exact ((Below.refl _ _).alloc (Nat.le_refl _) _).alloc (by simp) _
  have bX0 : Blk W0 w.heap.size 61 #[.slice A l.length c] := by rw [← hW0]; exact (Blk.new _ _ _).alloc _
  have bR0 : Blk W0 (w.heap.size + 1) 27 #[.int .i64 0, .int .i64 0, .bool false] := by
    rw [← hW0]
    have := Blk.new (w.alloc (.cells #[.slice A l.length c] 61)) 27 #[.int .i64 0, .int .i64 0, .bool false]
    rwa [World.size_alloc] at this
  have HA := Lib.hid hA
  have hT0 := Lib.hid (tab_below (tab_lt hT) hT hb0)
  have cX0 : W0.cell? ⟨w.heap.size, 0, none⟩ = some (.slice A l.length c) := bX0.cell 0
  obtain ⟨E, hE⟩ : ∃ E, chkE l = E := ⟨_, rfl⟩
  obtain ⟨K, hK⟩ : ∃ K, rkN l key = K := ⟨_, rfl⟩
  obtain ⟨X1, hX1⟩ : ∃ X1, lsX l key = X1 := ⟨_, rfl⟩
  obtain ⟨G1, hG1⟩ : ∃ G1, lsE l key = G1 := ⟨_, rfl⟩
  rw [hX1, hG1]
  have HE := Lib.hid hE
  have HK := Lib.hid hK
  have HX1 := Lib.hid hX1
  have HG1 := Lib.hid hG1
  clear hA hT hE hK hX1 hG1
  go_enter Tryd.func70, Tryd.ntmps70
  go_wp2_with fail
  try rw [hW0]
  clear hW0 cX0
  refine (rank_any A l c key _ (HA.out.below hb0) hl hT0.out).mono ?_
  unfold GivesII
  rw [HE.out, HK.out]
  rintro e w1 ⟨rfl, hb1⟩
  have bR1 := bR0.below hb1 bR0.lt
  have bX1 := bX0.below hb1 bX0.lt
  have hb01 := bext hb0 hb1
  by_cases h0 : E = 0
  · subst h0
    have hl6 := (chk_ok HE.out).2.2
    have hKl : belK l key = K := by rw [← HK.out]; unfold rkN; rw [if_pos HE.out, low_is]
    have hKm : K ≤ l.length := by rw [← hKl]; exact belK_le l key
    have HKL := Lib.hid hKl
    clear hKl
    by_cases hend : K = 0
    · have hq : ((K : Int) == 0) = true := by simp [hend]
      have HXZ : Hid (X1 = zeroE) := by
        show _ = _
        rw [← HX1.out]; unfold lsX
        rw [if_pos HE.out, HKL.out, if_pos hend]
      have HGZ : Hid (G1 = 6) := by
        show _ = _
        rw [← HG1.out]; unfold lsE
        rw [if_pos HE.out, HKL.out, if_pos hend]
      have d0 : w1.cell? ⟨w.heap.size + 1, 0, none⟩ = some (.int .i64 0) := bR1.cell 0
      have d1 : w1.cell? ⟨w.heap.size + 1, 1, none⟩ = some (.int .i64 0) := bR1.cell 1
      have d2 : w1.cell? ⟨w.heap.size + 1, 2, none⟩ = some (.bool false) := bR1.cell 2
      have f0 := bR1.frozen 0
      have f1 := bR1.frozen 1
      have f2 := bR1.frozen 2
      clear hend
      go_wp2_with fail
      have bFz := put3 bR1 (.int .i64 0) (.int .i64 0) (.bool false)
      have e0z := bFz.cell 0
      have e1z := bFz.cell 1
      have e2z := bFz.cell 2
      simp only [List.getElem?_toArray, List.getElem?_cons_zero, List.getElem?_cons_succ] at e0z e1z e2z
      refine bodyPost_ret (v := .tuple #[.agg #[.int .i64 0, .int .i64 0, .bool false], .int .i64 6]) (by simp [results, Tryd.results70, go_sem, e0z, e1z, e2z]) rfl ?_
      rw [HXZ.out, HGZ.out]
      exact ⟨rfl, below3 hb01 (Nat.le_succ _) _ _ _⟩
    · obtain ⟨J, rfl⟩ : ∃ J, K = J + 1 := ⟨K - 1, by omega⟩
      have hJ : J < l.length := by omega
      have hJl : J < (inord l.length 0).length := by rw [inord_length]; exact hJ
      obtain ⟨x, hx⟩ : ∃ x, (inord l.length 0)[J]? = some x := ⟨_, List.getElem?_eq_getElem hJl⟩
      have hxn : x < l.length := inord_lt (List.mem_of_getElem? hx)
      have hgd : (inord l.length 0).getD J 0 = x := by simp [List.getD, hx]
      have hat := inAt_get hx hxn
      have HXZ : Hid (X1 = inAt l J) := by
        show _ = _
        rw [← HX1.out]; unfold lsX
        rw [if_pos HE.out, HKL.out, if_neg hend, Nat.add_sub_cancel]
      have HGZ : Hid (G1 = 0) := by
        show _ = _
        rw [← HG1.out]; unfold lsE
        rw [if_pos HE.out, HKL.out, if_neg hend]
      have hq : (((J + 1 : Nat) : Int) == 0) = false := beq_eq_false_iff_ne.2 (by omega)
      have hw5 : wrap64 (J : Int) = (J : Int) := IntWalk.wrap64_in (J : Int) (by omega)
      have cX1 : w1.cell? ⟨w.heap.size, 0, none⟩ = some (.slice A l.length c) := bX1.cell 0
      have HGD := Lib.hid hgd
      have HAT := Lib.hid hat
      clear hx hgd hat hend
      go_wp2_with fail
      refine (place_ok l.length J hl6 hJ _).mono ?_
      rw [HGD.out]
      rintro e w2 ⟨rfl, hb2⟩
      have bR1 := bR1.below hb2 bR1.lt
      have bX1 := bX1.below hb2 bX1.lt
      have hb02 := bext hb01 hb2
      obtain ⟨b, off, rfl, hbl, c1', c2', c3'⟩ := HA.out.entB hb02 x hxn
      rw [← HAT.out] at c1' c2' c3'
      obtain ⟨p, hp⟩ : ∃ p, inAt l J = p := ⟨_, rfl⟩
      rw [hp] at c1' c2' c3' HXZ
      clear cX1 hp
      have cX1 : w2.cell? ⟨w.heap.size, 0, none⟩ = some (.slice (some ⟨b, off, none⟩) l.length c) := bX1.cell 0
      have d0 : w2.cell? ⟨w.heap.size + 1, 0, none⟩ = some (.int .i64 0) := bR1.cell 0
      have d1 : w2.cell? ⟨w.heap.size + 1, 1, none⟩ = some (.int .i64 0) := bR1.cell 1
      have d2 : w2.cell? ⟨w.heap.size + 1, 2, none⟩ = some (.bool false) := bR1.cell 2
      have f0 := bR1.frozen 0
      have f1 := bR1.frozen 1
      have f2 := bR1.frozen 2
      have i0 : (0 : Int) ≤ (x : Int) := by omega
      have i1 : (x : Int) < (l.length : Int) := by omega
      go_wp2_with fail
      have bFy := put3 bR1 (.int .i64 p.key) (.int .i64 p.val) (.bool p.dead)
      have e0y := bFy.cell 0
      have e1y := bFy.cell 1
      have e2y := bFy.cell 2
      simp only [List.getElem?_toArray, List.getElem?_cons_zero, List.getElem?_cons_succ] at e0y e1y e2y
      refine bodyPost_ret (v := .tuple #[.agg #[.int .i64 p.key, .int .i64 p.val, .bool p.dead], .int .i64 0]) (by simp [results, Tryd.results70, go_sem, e0y, e1y, e2y]) rfl ?_
      rw [HXZ.out, HGZ.out]
      exact ⟨rfl, below3 hb02 (Nat.le_succ _) _ _ _⟩
  · have h1 : (E != 0) = true := by simpa using h0
    have HXZ : Hid (X1 = zeroE) := by show _ = _; rw [← HX1.out]; unfold lsX; rw [HE.out, if_neg h0]
    have HGZ : Hid (G1 = E) := by show _ = _; rw [← HG1.out]; unfold lsE; rw [HE.out, if_neg h0]
    have d0 : w1.cell? ⟨w.heap.size + 1, 0, none⟩ = some (.int .i64 0) := bR1.cell 0
    have d1 : w1.cell? ⟨w.heap.size + 1, 1, none⟩ = some (.int .i64 0) := bR1.cell 1
    have d2 : w1.cell? ⟨w.heap.size + 1, 2, none⟩ = some (.bool false) := bR1.cell 2
    have f0 := bR1.frozen 0
    have f1 := bR1.frozen 1
    have f2 := bR1.frozen 2
    clear h0
    go_wp2_with fail
    have bFw := put3 bR1 (.int .i64 0) (.int .i64 0) (.bool false)
    have e0w := bFw.cell 0
    have e1w := bFw.cell 1
    have e2w := bFw.cell 2
    simp only [List.getElem?_toArray, List.getElem?_cons_zero, List.getElem?_cons_succ] at e0w e1w e2w
    refine bodyPost_ret (v := .tuple #[.agg #[.int .i64 0, .int .i64 0, .bool false], .int .i64 E]) (by simp [results, Tryd.results70, go_sem, e0w, e1w, e2w]) rfl ?_
    rw [HXZ.out, HGZ.out]
    exact ⟨rfl, below3 hb01 (Nat.le_succ _) _ _ _⟩
end Go.Proofs.YthdcllnmnmemdaaDoor

/- Plain facts: how many entries and levels there are behind an entry was let in; the pairs of levels. No program in sight. -/
namespace Go.Proofs.YthdcllnmnmemdaaDoor
open Go
/-- the live pairs of levels -/
def prR (rs : Lv) : List Pr := if chkR rs = 0 then plainE (allL rs) else []
theorem live_live (l : List Ent) : liveE (liveE l) = liveE l := by unfold liveE; rw [List.filter_filter]; simp
theorem plain_live_len {rs : Lv} : (plainE (allL rs)).length = (allL rs).length := by
  unfold plainE allL
  rw [List.length_map, live_live]
theorem prR_mL {rs : Lv} (h : chkR rs = 0) : prL (mL rs true) = prR rs ∧ chkE (mL rs true) = 0 := by
  have hm := chkR_zero.1 h
  have h1 := mL_chk true hm.mE
  refine ⟨?_, h1⟩
  unfold prL prR
  rw [if_pos h1, if_pos h, mL_in true hm.mE]
  rfl
theorem prR_len {rs : Lv} (h : chkR rs = 0) : (prR rs).length = (allL rs).length := by unfold prR; rw [if_pos h, plain_live_len]
theorem short_level {rs : Lv} (h : May rs) {i : Nat} (hi : i < rs.length) : i ≤ 16 ∧ (lev rs i).length ≤ 2 ^ i ∧ ((lev rs i).length = 0 ∨ i = 0 ∨ 2 ^ i < 2 * (lev rs i).length) := by
  have h1 := h.len
  refine ⟨by omega, ?_⟩
  rcases h.stood i with h2 | h2
  · rw [h2]
    exact ⟨Nat.zero_le _, .inl rfl⟩
  · by_cases h0 : (lev rs i).length = 0
    · exact ⟨by rw [h0]; exact Nat.zero_le _, .inl h0⟩
    have h3 := up_spec (n := (lev rs i).length) (by omega)
    rw [h2] at h3
    refine ⟨h3.1, ?_⟩
    by_cases hz : i = 0
    · exact .inr (.inl hz)
    have h4 := h3.2 (by omega)
    refine .inr (.inr ?_)
    have h5 : 2 ^ i = 2 * 2 ^ (i - 1) := by
      rw [← Nat.pow_succ']
      congr 1
      omega
    omega
theorem short_len {rs : Lv} (h : May rs) (h0 : tot rs ≠ 0) : rs.length ≤ up (tot rs) + 1 := by
  rcases h.top with h1 | h1
  · rw [h1]; exact Nat.zero_le _
  rcases h.stood (rs.length - 1) with h2 | h2
  · exact absurd h2 h1
  have h3 := up_mono (tot_lev rs (rs.length - 1))
  rw [h2] at h3
  omega
theorem short_none {rs : Lv} (h : May rs) (h0 : tot rs = 0) : rs.length = 0 := by
  rcases h.top with h1 | h1
  · rw [h1]; rfl
  have h2 := tot_lev rs (rs.length - 1)
  exact absurd (List.eq_nil_of_length_eq_zero (by omega)) h1
end Go.Proofs.YthdcllnmnmemdaaDoor

/- Plain facts: the chapter's examples of levels. No program in sight. -/
namespace Go.Proofs.YthdcllnmnmemdaaDoor
open Go
theorem lay_in {l m : List Ent} (h : laid l = m) : inL m = l := by rw [← h, in_laid]
theorem mrg2 {a b la lb m : List Ent} {bare : Bool} (ha : laid la = a) (hb : laid lb = b) (ca : buildE la = 0) (cb : buildE lb = 0) (hs : la.length + lb.length ≤ 100) (hm : bareE bare (allE [la, lb]) = m) : mL [a, b] bare = laid m := by
  have h : mE [a, b] = 0 := by
    refine mE_of (chkAll_zero ?_) ?_
    · intro r hr
      simp only [List.mem_cons, List.not_mem_nil, or_false] at hr
      rcases hr with rfl | rfl
      · rw [← ha]; exact build_chk ca
      · rw [← hb]; exact build_chk cb
    · rw [← ha, ← hb]
      simp [laid_length]
      omega
  rw [mL_is bare h]
  simp only [List.map, lay_in ha, lay_in hb]
  rw [hm]
theorem kranks1 : ranks 1 = [0] := by unfold ranks; rw [show inord 1 0 = [0] by simp [inord]]; decide
theorem kranks0 : ranks 0 = [] := by unfold ranks; rw [show inord 0 0 = [] by simp [inord]]; decide
theorem lay0 : laid [] = [] := by unfold laid; rw [show ([] : List Ent).length = 0 from rfl, kranks0]; rfl
theorem lay1 (a : Ent) : laid [a] = [a] := by unfold laid; rw [show [a].length = 1 from rfl, kranks1]; rfl
theorem lay2 (a b : Ent) : laid [a, b] = [b, a] := by unfold laid; rw [show [a, b].length = 2 from rfl, kranks2]; rfl
theorem up_1 : up 1 = 0 := by decide
theorem up_2 : up 2 = 1 := by decide +kernel
theorem in_0 : inL [] = [] := lay_in lay0
theorem in_1 (a : Ent) : inL [a] = [a] := lay_in (lay1 a)
theorem in_2 (a b : Ent) : inL [b, a] = [a, b] := lay_in (lay2 a b)
theorem may_nil : May [] := (may_iff []).1 (by decide +kernel)

theorem climb_1 {rs rs' : Lv} {y : Ent} {n n1 n2 : Int} {m : List Ent} (hd : y.dead = false ∨ rs ≠ []) (h : lev rs 0 ≠ []) (h1 : IntKind.u64.wrap (n + 1) = n1) (hm : mergeR rs [y] = m) (hn : IntKind.u64.wrap (n1 + m.length) = n2) (hr : rs.set 0 [] = rs') : climbE rs n y = climb rs' m n2 := by
  unfold climbE
  rw [if_neg (by rintro ⟨h1, h2⟩; rcases hd with h3 | h3 <;> first | exact h3 h2 | (rw [h3] at h1; cases h1)), h1]
  have hu : up [y].length = 0 := up_1
  rw [climb_up (by simp) (by rw [hu]; exact h), hm, hn, hu, hr]
theorem climb_0 {rs : Lv} {y : Ent} {n n1 : Int} (hd : y.dead = false ∨ rs ≠ []) (h : lev rs 0 = []) (h1 : IntKind.u64.wrap (n + 1) = n1) : climbE rs n y = (rs, [y], n1) := by
  unfold climbE
  rw [if_neg (by rintro ⟨h1, h2⟩; rcases hd with h3 | h3 <;> first | exact h3 h2 | (rw [h3] at h1; cases h1)), h1]
  exact climb_end (.inr (by rw [show up [y].length = 0 from up_1]; exact h))
theorem add_is {rs a L : Lv} {r : List Ent} {y : Ent} {n n' : Int} (h : addE rs y = 0) (hc : climbE rs n y = (a, r, n')) (hL : cutL (standL a r) = L) (hf : fat L = false) : addL rs n y = L ∧ addN rs n y = n' := by
  have h1 : letL rs n y = L := by unfold letL; rw [hc]; exact hL
  have h2 : letN rs n y = n' := by unfold letN; rw [hc]
  unfold addL addN slimL slimN
  rw [if_pos h, if_pos h, h1, h2, hf]
  exact ⟨rfl, rfl⟩
theorem fat_small {L : Lv} (h : tot L ≤ 2) : fat L = false := decide_eq_false (by omega)
def x5 : Ent := ⟨5, 1, false⟩
def x6 : Ent := ⟨6, 2, false⟩
def x7 : Ent := ⟨7, 3, false⟩
def k5 : Ent := ⟨5, 0, true⟩
theorem al1E : addE [] x5 = 0 := addE_zero.2 ⟨may_nil, by decide, by decide⟩
theorem al1 : addL [] 0 x5 = [[x5]] ∧ addN [] 0 x5 = 1 :=
  add_is al1E (climb_0 (.inl rfl) (lev_nil _) (by decide)) (by decide +kernel) (fat_small (by decide))
theorem al1M : May [[x5]] := by have h := (add_may al1E 0).1; rwa [al1.1] at h
theorem al2E : addE [[x5]] x7 = 0 := addE_zero.2 ⟨al1M, by decide, by decide⟩
theorem al2 : addL [[x5]] 1 x7 = [[], [x7, x5]] ∧ addN [[x5]] 1 x7 = 4 := by
  refine add_is al2E ?_ (a := [[]]) (r := [x7, x5]) (by decide +kernel) (fat_small (by decide))
  have hm : mergeR [[x5]] [x7] = [x7, x5] := by
    unfold mergeR
    rw [show up [x7].length = 0 from up_1]
    exact (mrg2 (lay1 x7) (lay1 x5) (by decide) (by decide) (by decide) (m := [x5, x7]) (by simp [allE, bothE, bareE, liveE, x5, x7, heldB])).trans (lay2 x5 x7)
  rw [climb_1 (.inl rfl) (by decide) (by decide : IntKind.u64.wrap ((1 : Int) + 1) = 2) hm (by decide : IntKind.u64.wrap ((2 : Int) + ([x7, x5] : List Ent).length) = 4) (rfl : [[x5]].set 0 [] = [[]])]
  exact climb_end (.inr (by rw [show up [x7, x5].length = 1 from up_2]; rfl))
theorem al2M : May [[], [x7, x5]] := by have h := (add_may al2E 1).1; rwa [al2.1] at h
theorem al3E : addE [[], [x7, x5]] x6 = 0 := addE_zero.2 ⟨al2M, by decide, by decide⟩
theorem al3 : addL [[], [x7, x5]] 4 x6 = [[x6], [x7, x5]] ∧ addN [[], [x7, x5]] 4 x6 = 5 := by
  refine add_is al3E (climb_0 (.inl rfl) rfl (by decide)) (by decide +kernel) ?_
  have h : allL [[x6], [x7, x5]] = [x5, x6, x7] := by
    unfold allL
    simp only [List.map, in_1, in_2]
    simp [allE, bothE, liveE, x5, x6, x7]
  unfold fat
  rw [h]
  decide
theorem al3M : May [[x6], [x7, x5]] := by have h := (add_may al3E 4).1; rwa [al3.1] at h
theorem al4E : addE [[x6], [x7, x5]] k5 = 0 := addE_zero.2 ⟨al3M, by decide, by decide⟩
theorem al4 : addL [[x6], [x7, x5]] 5 k5 = [[], [x7, x6]] ∧ addN [[x6], [x7, x5]] 5 k5 = 10 := by
  refine add_is al4E ?_ (a := [[], []]) (r := [x7, x6]) (by decide +kernel) (fat_small (by decide))
  have hm : mergeR [[x6], [x7, x5]] [k5] = [x6, k5] := by
    unfold mergeR
    rw [show up [k5].length = 0 from up_1]
    exact (mrg2 (lay1 k5) (lay1 x6) (by decide) (by decide) (by decide) (m := [k5, x6]) (by simp [allE, bothE, bareE, x5, x6, x7, k5, heldB])).trans (lay2 k5 x6)
  have hm2 : mergeR [[], [x7, x5]] [x6, k5] = [x7, x6] := by
    unfold mergeR
    rw [show up [x6, k5].length = 1 from up_2]
    exact (mrg2 (lay2 k5 x6) (lay2 x5 x7) (by decide) (by decide) (by decide) (m := [x6, x7]) (by simp [allE, bothE, bareE, liveE, x5, x6, x7, k5, heldB])).trans (lay2 x6 x7)
  rw [climb_1 (rs' := [[], [x7, x5]]) (.inr (by simp)) (by decide) (by decide : IntKind.u64.wrap ((5 : Int) + 1) = 6) hm (by decide : IntKind.u64.wrap ((6 : Int) + ([x6, k5] : List Ent).length) = 8) (rfl : [[x6], [x7, x5]].set 0 [] = [[], [x7, x5]])]
  have hu : up [x6, k5].length = 1 := up_2
  rw [climb_up (by simp) (by rw [hu]; decide), hm2, hu, show IntKind.u64.wrap ((8 : Int) + ([x7, x6] : List Ent).length) = 10 by decide]
  exact climb_end (.inr (by rw [show up [x7, x6].length = 1 from up_2]; rfl))
end Go.Proofs.YthdcllnmnmemdaaDoor

/- Contracts: the level of a run: math/bits.Len, frac.Up, rungs.level; the document's Log and Ceil. -/
namespace Go.Proofs.YthdcllnmnmemdaaDoor
open Go Go.RowKit

theorem bitLen_log (x : Nat) (h : x < 2 ^ 64) : Lib.bitLen x = if x = 0 then 0 else Nat.log2 x + 1 := by
  induction x using Nat.strongRecOn with
  | _ x ih =>
    by_cases h0 : x = 0
    · subst h0; rfl
    · rw [Lib.bitLen_half x h0 h, ih (x / 2) (by omega) (by omega), if_neg h0, Nat.log2_def x]
      by_cases h2 : 2 ≤ x
      · rw [if_pos h2, if_neg (by omega)]; omega
      · obtain rfl : x = 1 := by omega
        simp
theorem bitLen_up {n : Nat} (h : n ≤ 65536) : Lib.bitLen (n - 1) = up n := by
  rw [bitLen_log _ (by omega)]
  unfold up
  by_cases h1 : n ≤ 1
  · rw [if_pos h1, if_pos (by omega)]
  · rw [if_neg h1, if_neg (by omega)]

set_option maxRecDepth 100000 in
set_option maxHeartbeats 4000000 in
theorem len64_any (x : Int) (w : World) (h0 : 0 ≤ x) (h1 : x ≤ 65535) : Calls Tryd.prog 132 #[.int .u64 x] w fun e w' => e = .returned (.int .i64 (Lib.bitLen x.toNat)) ∧ w' = w := by
  have g1 : ¬ 4294967296 ≤ x := by omega
  have g2 : ¬ 65536 ≤ x := by omega
  by_cases h2 : x ≤ 255
  · have g3 : ¬ 256 ≤ x := by omega
    go_enter Tryd.func132, Tryd.ntmps132
    go_wp2
    go_ret
    refine ⟨congrArg Ending.returned (congrArg (Value.int IntKind.i64) ?_), rfl⟩
    rw [Lib.len8_of x h0 h2]
    have l := Lib.bitLen_le8' x h0 h2
    unfold wrap64
    omega
  · have g3 : 256 ≤ x := by omega
    have g4 : 0 ≤ x / 256 := by omega
    have g5 : x / 256 ≤ 255 := by omega
    go_enter Tryd.func132, Tryd.ntmps132
    go_wp2
    go_ret
    refine ⟨congrArg Ending.returned (congrArg (Value.int IntKind.i64) ?_), rfl⟩
    rw [Lib.len8_of (x / 256) g4 g5]
    have e : (x / 256).toNat = x.toNat / 256 := by omega
    have l := Lib.bitLen_le8' (x / 256) g4 g5
    have s := Lib.bitLen_shift8 x.toNat (by omega) (by omega)
    rw [e] at l ⊢
    unfold wrap64
    omega
theorem len_any (x : Int) (w : World) (h0 : 0 ≤ x) (h1 : x ≤ 65535) : Calls Tryd.prog 113 #[.int .u64 x] w fun e w' => e = .returned (.int .i64 (Lib.bitLen x.toNat)) ∧ w' = w := by
  go_enter Tryd.func113, Tryd.ntmps113
  go_wp2_with fail
  refine (len64_any x _ h0 h1).mono ?_
  rintro e w' ⟨rfl, rfl⟩
  go_wp2
  go_ret
  exact ⟨rfl, rfl⟩
/-- the logarithm upward -/
theorem up_any (n : Nat) (w : World) (h0 : 0 < n) (h1 : n ≤ 65536) : Calls Tryd.prog 82 #[.int .i64 (n : Nat)] w fun e w' => e = .returned (.tuple #[.int .i64 (up n : Nat), .int .i64 0]) ∧ w' = w := by
  have g : decide ((n : Int) < 1) = false := decide_eq_false (by omega)
  have e1 : IntKind.i64.wrap ((n : Int) - 1) = ((n - 1 : Nat) : Int) := (IntWalk.i64_in _ (by omega)).trans (by omega)
  have e2 : ((n - 1 : Nat) : Int).toNat = n - 1 := by omega
  have e3 := bitLen_up h1
  obtain ⟨m, hm⟩ : ∃ m, n - 1 = m := ⟨_, rfl⟩
  rw [hm] at e1 e2 e3
  have hm0 : (0 : Int) ≤ (m : Int) := by omega
  have hm1 : (m : Int) ≤ 65535 := by omega
  have HM := Lib.hid hm
  have H2 := Lib.hid e2
  have H3 := Lib.hid e3
  clear hm e2 e3
  go_enter Tryd.func82, Tryd.ntmps82
  go_wp2_with fail
  refine (len_any (m : Int) _ hm0 hm1).mono ?_
  rw [H2.out, H3.out]
  rintro e w' ⟨rfl, rfl⟩
  go_wp2
  refine bodyPost_ret (v := .tuple #[.int .i64 (up n : Nat), .int .i64 0]) (by simp [results, Tryd.results82, go_sem]) rfl ?_
  exact ⟨rfl, rfl⟩
/-- the level of a run that has entries -/
theorem level_any (A : Option Addr) (n c : Nat) (w : World) (h0 : 0 < n) (h1 : n ≤ 65536) : Calls Tryd.prog 48 #[.agg #[.slice A n c]] w fun e w' => e = .returned (.int .i64 (up n : Nat)) ∧ Below w.heap.size w w' := by
  have hb : Below w.heap.size w (w.alloc (.cells #[.slice A n c] 61)) := (Below.refl _ _).alloc (Nat.le_refl _) _
  go_enter Tryd.func48, Tryd.ntmps48
  go_wp2_with fail
  refine (up_any n _ h0 h1).mono ?_
  rintro e w' ⟨rfl, rfl⟩
  go_wp2
  go_ret
  exact ⟨rfl, hb⟩
theorem log2_half {n : Nat} (h : 2 ≤ n) : Nat.log2 n = Nat.log2 (n / 2) + 1 := by rw [Nat.log2_def n, if_pos h]
theorem log2_le {n : Nat} (h : n ≤ 65536) : Nat.log2 n ≤ 16 := by
  by_cases h0 : n = 0
  · subst h0; decide
  · have := Nat.log2_self_le h0
    rcases Nat.lt_or_ge 16 (Nat.log2 n) with h1 | h1
    · have h2 : 2 ^ 17 ≤ 2 ^ Nat.log2 n := Nat.pow_le_pow_right (by omega) h1
      omega
    · exact h1
set_option maxHeartbeats 1000000 in
theorem log_any (n : Nat) (w : World) (h1 : n ≤ 65536) : Calls Tryd.prog 118 #[.int .i64 (n : Nat)] w fun e w' => e = .returned (.int .i64 (Nat.log2 n : Nat)) ∧ w' = w := by
  have hl := log2_le h1
  go_enter Tryd.func118, Tryd.ntmps118
  go_wp2
  go_loopw [0, 3] (fun x i wr => ∃ m k : Nat, x = .int .i64 (m : Nat) ∧ i = .int .i64 (k : Nat) ∧ m ≤ n ∧ k ≤ 16 ∧ Hid (k + Nat.log2 m = Nat.log2 n) ∧ wr = w) (fun x _ _ => (intOf x).toNat)
  case atStart => exact ⟨n, 0, rfl, rfl, Nat.le_refl _, Nat.zero_le _, by show _ = _; omega, rfl⟩
  case round =>
    obtain ⟨m, k, rfl, rfl, hm, hk, hs, rfl⟩ := hrel
    by_cases h2 : 2 ≤ m
    · have g : decide ((m : Int) > 1) = true := decide_eq_true (by omega)
      have hh := log2_half h2
      have hk2 : k + 1 ≤ 16 := by have := hs.out; omega
      have HH := Lib.hid hh
      clear hh
      go_wp2
      go_roundw
      case rel => exact ⟨m / 2, k + 1, by go_num, by go_num, by omega, hk2, by show _ = _; have := hs.out; have := HH.out; omega, by first | rfl | trivial⟩
      case measure => simp [intOf]; omega
    · have g : decide ((m : Int) > 1) = false := decide_eq_false (by omega)
      have h0 : Nat.log2 m = 0 := by
        rw [Nat.log2_def, if_neg h2]
      have e0 : k = Nat.log2 n := by have := hs.out; omega
      have H0 := Lib.hid e0
      clear h0 e0
      go_wp2
      go_ret
      exact ⟨ret_int (by rw [H0.out]), by first | rfl | trivial⟩
theorem ceil_any (n : Nat) (w : World) (h0 : 0 < n) (h1 : n ≤ 65536) : Calls Tryd.prog 89 #[.int .i64 (n : Nat)] w fun e w' => e = .returned (.int .i64 (up n : Nat)) ∧ w' = w := by
  by_cases h2 : n = 1
  · subst h2
    go_enter Tryd.func89, Tryd.ntmps89
    go_wp2
    go_ret
    exact ⟨rfl, rfl⟩
  · have g : decide ((n : Int) = 1) = false := decide_eq_false (by omega)
    have g2 : ((n : Int) == 1) = false := by simpa using g
    have e1 : IntKind.i64.wrap ((n : Int) - 1) = ((n - 1 : Nat) : Int) := (IntWalk.i64_in _ (by omega)).trans (by omega)
    have e3 : up n = Nat.log2 (n - 1) + 1 := by unfold up; rw [if_neg (by omega)]
    obtain ⟨m, hm⟩ : ∃ m, n - 1 = m := ⟨_, rfl⟩
    rw [hm] at e1 e3
    have hm1 : m ≤ 65536 := by omega
    have hl := log2_le hm1
    have H3 := Lib.hid e3
    have HM := Lib.hid hm
    clear e3 hm
    go_enter Tryd.func89, Tryd.ntmps89
    go_wp2_with fail
    refine (log_any m _ hm1).mono ?_
    rintro e w' ⟨rfl, rfl⟩
    go_wp2
    go_ret
    exact ⟨ret_int (by rw [H3.out]; go_num), rfl⟩
end Go.Proofs.YthdcllnmnmemdaaDoor

/- Contracts: which levels may be (rungs.Check), how many entries there are. -/
namespace Go.Proofs.YthdcllnmnmemdaaDoor
open Go Go.RowKit
set_option maxRecDepth 100000

/-- levels, their runs in memory -/
abbrev lvs (Rs : List Rm) : Lv := Rs.map Rm.l
theorem lvs_len (Rs : List Rm) : (lvs Rs).length = Rs.length := by simp
theorem lvs_lev {Rs : List Rm} {k : Nat} (h : k < Rs.length) : lev (lvs Rs) k = (Rs[k]'h).l := by rw [lev_lt (by simpa using h)]; simp
theorem tot_take_succ {rs : Lv} {k : Nat} (h : k < rs.length) : tot (rs.take (k + 1)) = tot (rs.take k) + (lev rs k).length := by
  rw [List.take_succ_eq_append_getElem h, tot_snoc, lev_lt h]
theorem tot_take_le : ∀ (rs : Lv) (k : Nat), tot (rs.take k) ≤ tot rs
  | [], k => by simp [tot]
  | l :: rs, 0 => by simp [tot]
  | l :: rs, k + 1 => by
    have := tot_take_le rs k
    rw [List.take_succ_cons, tot_cons, tot_cons]; omega
theorem tot_rs (Rs : List Rm) : tot (lvs Rs) = (Rs.map (fun r => r.l.length)).sum := by unfold tot lvs; rw [List.map_map]; rfl
theorem live_dead {l : List Ent} (h : chkE l = 0) : lvN l = l.length ↔ deadE l = false := by
  unfold lvN deadE
  rw [if_pos h]
  constructor
  · intro he
    rw [List.any_eq_false]
    intro e hm
    have h1 : liveE l = l := by
      unfold liveE at he ⊢
      exact List.filter_eq_self.2 (fun a ha => by
        have := List.length_filter_eq_length_iff.1 he a ha
        exact this)
    rw [← h1] at hm
    have := (List.mem_filter.1 hm).2
    simpa using this
  · intro hd
    rw [List.any_eq_false] at hd
    unfold liveE
    congr 1
    exact List.filter_eq_self.2 (fun a ha => by simpa using hd a ha)
theorem chkR_bad {rs : Lv} {k : Nat} (h : k < rs.length) (hb : okLv rs.length k (lev rs k) = false) : chkR rs = 8 := by
  unfold chkR
  rw [if_neg]
  unfold mayB allOk
  intro hx
  simp only [Bool.and_eq_true, decide_eq_true_eq] at hx
  rw [hx.1.2 k h] at hb
  cases hb
theorem chkR_end {rs : Lv} (h : endOk rs = false) : chkR rs = 8 := by unfold chkR mayB; rw [h]; rfl
theorem chkR_all {rs : Lv} (h : endOk rs = true) (h2 : allOk rs rs.length = true) : chkR rs = if 65536 < tot rs then 8 else 0 := by
  unfold chkR mayB
  rw [h, h2]
  by_cases h3 : 65536 < tot rs
  · rw [if_pos h3, if_neg (by simp; omega)]
  · rw [if_neg h3, if_pos (by simp; omega)]
set_option maxHeartbeats 1000000 in
theorem entries_any (B : Option Addr) (Rs : List Rm) (c : Nat) (n : Int) (w : World) (hB : RunsAt w B Rs) (hT : tot (lvs Rs) ≤ 1000000) (hl : Rs.length ≤ 1000000) :
    Calls Tryd.prog 41 #[.agg #[.slice B Rs.length c, .int .u64 n]] w fun r w' => r = .returned (.int .i64 (tot (lvs Rs) : Nat)) ∧ Below w.heap.size w w' := by
  have hb0 : Below w.heap.size w (w.alloc (.cells #[.slice B Rs.length c, .int .u64 n] 25)) := (Below.refl _ _).alloc (Nat.le_refl _) _
  go_enter Tryd.func41, Tryd.ntmps41
  go_wp2
  go_loopw [2, 8] (fun a i wr => ∃ k m : Nat, k ≤ Rs.length ∧ i = .int .i64 k ∧ a = .int .i64 m ∧ Below w.heap.size w wr ∧ m ≤ 1000000 ∧ Hid (m = tot ((lvs Rs).take k))) (fun _ i _ => Rs.length - (intOf i).toNat)
  case atStart => exact ⟨0, 0, Nat.zero_le _, rfl, rfl, hb0, by omega, rfl⟩
  case round =>
    obtain ⟨k, m, hk, rfl, rfl, hb, hm, hd⟩ := hrel
    by_cases hlt : k < Rs.length
    · obtain ⟨b, off, rfl, hbl, cp⟩ := hB.sl.oneB hb k hlt
      have hs := tot_take_succ (rs := lvs Rs) (k := k) (by simpa using hlt)
      rw [lvs_lev hlt] at hs
      have hle := tot_take_le (lvs Rs) (k + 1)
      obtain ⟨r, hr⟩ : ∃ r, Rs[k]'hlt = r := ⟨_, rfl⟩
      rw [hr] at cp hs
      obtain ⟨l, A, cl⟩ := r
      have cp1 : wr.cell? ⟨b, off + k, none⟩ = some (.slice A l.length cl) := cp
      dsimp only at hs
      have hki : (0 : Int) ≤ (k : Int) := by omega
      have hki2 : (k : Int) < (Rs.length : Int) := by omega
      have hsum : m + l.length ≤ 1000000 := by have := hd.out; omega
      have hw : IntKind.i64.wrap ((m : Int) + (l.length : Int)) = ((m + l.length : Nat) : Int) := (IntWalk.i64_in _ (by omega)).trans (by omega)
      have HS := Lib.hid hs
      have hbs := hb.size
      clear cp hr hs hle
      go_wp2
      go_roundw
      case rel => exact ⟨k + 1, m + l.length, by omega, by go_num, by go_num, hb.alloc hbs _, hsum, by show _ = _; rw [HS.out, hd.out]⟩
      case measure => simp [intOf]; omega
    · have hkn : k = Rs.length := by omega
      have hf : m = tot (lvs Rs) := by rw [hd.out, List.take_of_length_le (by simp; omega)]
      have HF := Lib.hid hf
      clear hkn hf
      go_wp2
      go_ret
      exact ⟨ret_int (by rw [HF.out]), hb⟩
end Go.Proofs.YthdcllnmnmemdaaDoor

/- Levels in memory of the call's own; the map of levels that hold a run. No walk. -/
namespace Go.Proofs.YthdcllnmnmemdaaDoor
open Go Go.RowKit Go.Maps
set_option maxRecDepth 100000

/-! ### levels in memory of the call's own -/
structure OwnRs (w : World) (B0 : Nat) (B : Option Addr) (c : Nat) (Rs : List Rm) : Prop where
  row : w.ownsRow B0 61 1 (.slice B Rs.length c) Rs.length (Rs.map Rm.v)
  ent : ∀ r ∈ Rs, w.ownsRow B0 27 3 r.v r.l.length (r.l.flatMap Ent.cells)
theorem own_rm {w : World} {B0 : Nat} {r : Rm} (h : w.ownsRow B0 27 3 r.v r.l.length (r.l.flatMap Ent.cells)) : r.Ok w := by
  obtain ⟨A3, c3, h3, h4, h5⟩ := own_form h
  obtain ⟨ls, As, cs⟩ := r
  have h6 : As = A3 ∧ cs = c3 := by simpa [Rm.v] using h3
  obtain ⟨rfl, rfl⟩ := h6
  exact ⟨own_sl h, h4, h5⟩
theorem OwnRs.runsAt {w : World} {B0 : Nat} {B : Option Addr} {c : Nat} {Rs : List Rm} (h : OwnRs w B0 B c Rs) : RunsAt w B Rs := ⟨own_sl h.row, fun r hr => own_rm (h.ent r hr)⟩
theorem OwnRs.le {w : World} {B0 : Nat} {B : Option Addr} {c : Nat} {Rs : List Rm} (h : OwnRs w B0 B c Rs) : Rs.length ≤ c ∧ c ≤ maxLen := by
  obtain ⟨A', c', h4, h5, h6⟩ := own_form h.row
  obtain ⟨rfl, rfl⟩ : B = A' ∧ c = c' := by simpa using h4
  exact ⟨h5, h6⟩
theorem OwnRs.nil (w : World) (B0 : Nat) : OwnRs w B0 none 0 [] := ⟨World.ownsRow_nil _ _ _ _, by simp⟩
theorem OwnRs.below {w w' : World} {B0 : Nat} {B : Option Addr} {c : Nat} {Rs : List Rm} (h : OwnRs w B0 B c Rs) (hb : Below w.heap.size w w') : OwnRs w' B0 B c Rs :=
  ⟨own_below h.row hb, fun r hr => own_below (h.ent r hr) hb⟩
theorem OwnRs.mono {w : World} {B0 B1 : Nat} {B : Option Addr} {c : Nat} {Rs : List Rm} (h : OwnRs w B0 B c Rs) (hb : B1 ≤ B0) : OwnRs w B1 B c Rs :=
  ⟨own_mono h.row hb, fun r hr => own_mono (h.ent r hr) hb⟩
theorem OwnRs.alloc {w : World} {B0 : Nat} {B : Option Addr} {c : Nat} {Rs : List Rm} (h : OwnRs w B0 B c Rs) (o : Obj) : OwnRs (w.alloc o) B0 B c Rs :=
  ⟨h.row.alloc o, fun r hr => (h.ent r hr).alloc o⟩
theorem OwnRs.drew {w : World} {B0 : Nat} {B : Option Addr} {c : Nat} {Rs : List Rm} (h : OwnRs w B0 B c Rs) : OwnRs w.drew B0 B c Rs := ⟨h.row, h.ent⟩
/-- a store into a block of another type -/
theorem own_setT {w : World} {g B s n : Nat} {t e : TypeId} {cur : Array Value} {v : Value} {xs : List Value} (hB : Blk w g t cur) (h : w.ownsRow B e s v n xs) (hne : e ≠ t) (i : Nat) (u : Value) : (w.setCell ⟨g, i, none⟩ u).ownsRow B e s v n xs := by
  refine ⟨h.1, ?_⟩
  rcases h.2 with h2 | ⟨k, cap, cur', rfl, hg, hh, r⟩
  · exact .inl h2
  · refine .inr ⟨k, cap, cur', rfl, hg, ?_, r⟩
    refine (Below.heap_setCell w ⟨g, i, none⟩ u k ?_).trans hh
    intro e2
    have e3 : k = g := e2
    subst e3
    have := hB.symm.trans hh
    simp at this
    exact hne this.2.symm
/-- a store into a block that is not this row's, or of another type -/
theorem OwnRs.setT {w : World} {B0 g : Nat} {B : Option Addr} {c : Nat} {Rs : List Rm} {t : TypeId} {cur : Array Value} (h : OwnRs w B0 B c Rs) (hB : Blk w g t cur) (h1 : 61 ≠ t) (h2 : 27 ≠ t) (i : Nat) (u : Value) : OwnRs (w.setCell ⟨g, i, none⟩ u) B0 B c Rs :=
  ⟨own_setT hB h.row h1 i u, fun r hr => own_setT hB (h.ent r hr) h2 i u⟩
/-- a row of runs, of the call's own -/
abbrev RowAt (w : World) (B0 : Nat) (B : Option Addr) (c : Nat) (Rs : List Rm) : Prop := w.ownsRow B0 61 1 (.slice B Rs.length c) Rs.length (Rs.map Rm.v)
theorem RowAt.at {w : World} {B0 : Nat} {B : Option Addr} {c : Nat} {Rs : List Rm} (h : RowAt w B0 B c Rs) (hn : 0 < Rs.length) : ∃ g cur, B = some ⟨g, 0, none⟩ ∧ B0 ≤ g ∧ Blk w g 61 cur ∧ cur.size = c ∧ (∀ k (hk : k < Rs.length), w.cell? ⟨g, k, none⟩ = some (Rs[k]'hk).v) := by
  obtain ⟨g, cap, cur, hv, hg, hb, h1, h2, h3, h4⟩ := own_blk h hn
  obtain ⟨rfl, rfl⟩ : B = some ⟨g, 0, none⟩ ∧ c = cap := by simpa using hv
  refine ⟨g, cur, rfl, hg, hb, by simpa using h3, fun k hk => ?_⟩
  rw [hb.cell]
  have h5 : (Rs.map Rm.v)[k]? = some (Rs[k]'hk).v := by simp [hk]
  rw [← h4, List.getElem?_take, if_pos (by omega)] at h5
  simpa using h5
theorem OwnRs.at {w : World} {B0 : Nat} {B : Option Addr} {c : Nat} {Rs : List Rm} (h : OwnRs w B0 B c Rs) (hn : 0 < Rs.length) : ∃ g cur, B = some ⟨g, 0, none⟩ ∧ B0 ≤ g ∧ Blk w g 61 cur ∧ cur.size = c ∧ (∀ k (hk : k < Rs.length), w.cell? ⟨g, k, none⟩ = some (Rs[k]'hk).v) := RowAt.at h.row hn
theorem RowAt.set {w : World} {B0 g : Nat} {c : Nat} {Rs : List Rm} (h : RowAt w B0 (some ⟨g, 0, none⟩) c Rs) {k : Nat} (hk : k < Rs.length) (r : Rm) : RowAt (w.setCell ⟨g, k, none⟩ r.v) B0 (some ⟨g, 0, none⟩) c (Rs.set k r) := by
  obtain ⟨g', cap, cur, hv, hg, hb, h1, h2, h3, h4⟩ := own_blk h (by omega)
  obtain ⟨rfl, rfl⟩ : g = g' ∧ c = cap := by simpa using hv
  unfold RowAt
  rw [List.length_set]
  refine ⟨by simp, .inr ⟨g, c, cur.setIfInBounds k r.v, rfl, hg, hb.set_ k r.v, h1, h2, by simpa using h3, ?_⟩⟩
  rw [Array.toList_setIfInBounds, List.take_set, h4, List.map_set]
theorem RowAt.le {w : World} {B0 : Nat} {B : Option Addr} {c : Nat} {Rs : List Rm} (h : RowAt w B0 B c Rs) : Rs.length ≤ c ∧ c ≤ maxLen := by
  obtain ⟨A', c', h4, h5, h6⟩ := own_form h
  obtain ⟨rfl, rfl⟩ : B = A' ∧ c = c' := by simpa using h4
  exact ⟨h5, h6⟩
/-- a run is laid at a level -/
theorem OwnRs.set {w : World} {B0 g : Nat} {c : Nat} {Rs : List Rm} (h : OwnRs w B0 (some ⟨g, 0, none⟩) c Rs) {k : Nat} (hk : k < Rs.length) (r : Rm) (hr : w.ownsRow B0 27 3 r.v r.l.length (r.l.flatMap Ent.cells)) :
    OwnRs (w.setCell ⟨g, k, none⟩ r.v) B0 (some ⟨g, 0, none⟩) c (Rs.set k r) := by
  obtain ⟨g', cur, h1, _, hb, _⟩ := h.at (by omega)
  obtain rfl : g = g' := by simpa using h1
  refine ⟨RowAt.set h.row hk r, ?_⟩
  intro s hs
  refine own_setT hb ?_ (by decide) k _
  rcases List.mem_or_eq_of_mem_set hs with h5 | h5
  · exact h.ent s h5
  · rw [h5]; exact hr
/-- a run more, behind the others -/
theorem OwnRs.push {w w' : World} {B0 : Nat} {B A' : Option Addr} {c c' : Nat} {Rs : List Rm} (h : OwnRs w B0 B c Rs) (r : Rm) (hr : w.ownsRow B0 27 3 r.v r.l.length (r.l.flatMap Ent.cells))
    (ho : w'.ownsRow B0 61 1 (.slice A' (Rs.length + 1) c') (Rs.length + 1) (Rs.map Rm.v ++ [r.v])) (hg : w.grownBy w' (Value.slice B Rs.length c).ownBlock) : OwnRs w' B0 A' c' (Rs ++ [r]) := by
  refine ⟨?_, ?_⟩
  · rw [List.length_append, List.map_append]; exact ho
  · intro s hs
    refine own_grow hg h.row ?_ (by decide)
    rcases List.mem_append.1 hs with hs | hs
    · exact h.ent s hs
    · obtain rfl : s = r := by simpa using hs
      exact hr
theorem OwnRs.grown {w w' : World} {B0 : Nat} {B : Option Addr} {c : Nat} {Rs : List Rm} (h : OwnRs w B0 B c Rs) (hg : w.grownBy w' (Value.slice B Rs.length c).ownBlock) (hb : B0 ≤ w.heap.size) : Below B0 w w' :=
  (Below.refl _ _).grown hg (by omega) (fun q hq => (h.row.lt q hq).1)
/-- rows whose runs are among others' -/
theorem OwnRs.sub {w : World} {B0 : Nat} {B A : Option Addr} {c d : Nat} {Rs Ts : List Rm} (h : OwnRs w B0 B c Rs) (ho : w.ownsRow B0 61 1 (.slice A Ts.length d) Ts.length (Ts.map Rm.v)) (hs : ∀ t ∈ Ts, t = ⟨[], none, 0⟩ ∨ t ∈ Rs) : OwnRs w B0 A d Ts := by
  refine ⟨ho, fun t ht => ?_⟩
  rcases hs t ht with rfl | h1
  · exact World.ownsRow_nil _ _ _ _
  · exact h.ent t h1
theorem own_empty (w : World) (B0 : Nat) : w.ownsRow B0 27 3 (Rm.v ⟨[], none, 0⟩) 0 (([] : List Ent).flatMap Ent.cells) := World.ownsRow_nil _ _ _ _

/-- hands back levels, in memory of its own -/
def GivesLs (ls : Lv) (w : World) (r : Ending) (w' : World) : Prop := ∃ B c Rs, r = .returned (.slice B Rs.length c) ∧ lvs Rs = ls ∧ OwnRs w' w.heap.size B c Rs ∧ Below w.heap.size w w'
/-- .. and a ledger -/
def GivesRg (ls : Lv) (n : Int) (w : World) (r : Ending) (w' : World) : Prop := ∃ B c Rs, r = .returned (.agg #[.slice B Rs.length c, .int .u64 n]) ∧ lvs Rs = ls ∧ OwnRs w' w.heap.size B c Rs ∧ Below w.heap.size w w'
/-- .. and an error -/
def GivesRgE (ls : Lv) (n e : Int) (w : World) (r : Ending) (w' : World) : Prop := ∃ B c Rs, r = .returned (.tuple #[.agg #[.slice B Rs.length c, .int .u64 n], .int .i64 e]) ∧ lvs Rs = ls ∧ OwnRs w' w.heap.size B c Rs ∧ Below w.heap.size w w'
theorem rs_len {Rs : List Rm} {ls : Lv} (h : lvs Rs = ls) : Rs.length = ls.length := by rw [← h, lvs_len]
theorem lvs_set (Rs : List Rm) (k : Nat) (r : Rm) : lvs (Rs.set k r) = (lvs Rs).set k r.l := by unfold lvs; rw [List.map_set]
theorem lvs_append (Rs Ts : List Rm) : lvs (Rs ++ Ts) = lvs Rs ++ lvs Ts := by unfold lvs; rw [List.map_append]
theorem lvs_empty (Rs : List Rm) (r : Rm) : lvs (Rs ++ [r]) = lvs Rs ++ [r.l] := by rw [lvs_append]; rfl

/-! ### the map of levels that hold a run -/
def HeldAt (w : World) (b : Nat) (rs : Lv) : Prop := ∃ (n : Nat) (D : DataW Unit), w.ownsMap Tryd.prog 3 (plainElem (H := Unit) Tryd.prog 3) b n D ∧ n ≤ 1000000 ∧ Tidy D ∧ (∀ j : Nat, D.atKey (.int .i64 j) (.lit (.int .i64 0)) = .lit (.int .i64 (lev rs j).length)) ∧
  (∀ j : Nat, Maps.has D (.int .i64 j) = decide (lev rs j ≠ [])) ∧ Maps.size D = cnt rs
theorem HeldAt.below {w w' : World} {b : Nat} {rs : Lv} (h : HeldAt w b rs) (hb : Below w.heap.size w w') : HeldAt w' b rs := by
  obtain ⟨n, D, h1, h2⟩ := h
  refine ⟨n, D, ?_, h2⟩
  have hl := h1.lt
  obtain ⟨es, clock, h3, h4⟩ := h1
  exact ⟨es, clock, (hb.block b hl).trans h3, h4⟩
theorem HeldAt.lt {w : World} {b : Nat} {rs : Lv} (h : HeldAt w b rs) : b < w.heap.size := by obtain ⟨n, D, h1, _⟩ := h; exact h1.lt
theorem HeldAt.setCell {w : World} {b : Nat} {rs : Lv} (h : HeldAt w b rs) {a : Addr} (ha : b ≠ a.block) (u : Value) : HeldAt (w.setCell a u) b rs := by
  obtain ⟨n, D, h1, h2⟩ := h
  exact ⟨n, D, h1.setCell ha u, h2⟩
theorem HeldAt.alloc {w : World} {b : Nat} {rs : Lv} (h : HeldAt w b rs) (o : Obj) : HeldAt (w.alloc o) b rs := by
  obtain ⟨n, D, h1, h2⟩ := h
  exact ⟨n, D, h1.alloc o, h2⟩
theorem HeldAt.notCells {w : World} {b g : Nat} {rs : Lv} {t : TypeId} {cur : Array Value} (h : HeldAt w b rs) (hB : Blk w g t cur) : b ≠ g := by
  obtain ⟨n, D, ⟨es, clock, h3, _⟩, _⟩ := h
  rintro rfl
  have := hB.symm.trans h3
  simp at this
theorem lev_take' (rs : Lv) (k j : Nat) : lev (rs.take k) j = if j < k then lev rs j else [] := lev_take rs k j
theorem cnt_take {rs : Lv} {k : Nat} (h : k < rs.length) : cnt (rs.take (k + 1)) = cnt (rs.take k) + (if lev rs k ≠ [] then 1 else 0) := by
  unfold cnt
  rw [List.take_succ_eq_append_getElem h, List.countP_append, lev_lt h]
  by_cases e : rs[k] = [] <;> simp [e]
theorem key_lit (j : Nat) : WideAt.IsKeyLit (.int .i64 (j : Int)) := trivial
theorem key_ne {j k : Nat} (e : ¬ j = k) : Lit.int .i64 (j : Int) ≠ Lit.int .i64 (k : Int) := by
  intro h
  injection h with _ h2
  exact e (by exact_mod_cast h2)
theorem HeldAt.made {_w w' : World} {b : Nat} (h : w'.ownsMap Tryd.prog 3 (plainElem (H := Unit) Tryd.prog 3) b 0 (.map [])) : HeldAt w' b [] :=
  ⟨0, .map [], h, by omega, tidy_empty, fun j => by rw [lev_nil]; rfl, fun j => by rw [lev_nil]; rfl, rfl⟩
/-- a level that holds a run is noted -/
theorem held_put {D : DataW Unit} {rs : Lv} {k : Nat} (hk : k < rs.length) (hne : lev rs k ≠ []) (hT : Tidy D) (h1 : ∀ j : Nat, D.atKey (.int .i64 j) (.lit (.int .i64 0)) = .lit (.int .i64 (lev (rs.take k) j).length))
    (h2 : ∀ j : Nat, Maps.has D (.int .i64 j) = decide (lev (rs.take k) j ≠ [])) (h3 : Maps.size D = cnt (rs.take k)) :
    Tidy (D.put (.int .i64 (k : Int)) (.lit (.int .i64 (lev rs k).length))) ∧ (∀ j : Nat, (D.put (.int .i64 (k : Int)) (.lit (.int .i64 (lev rs k).length))).atKey (.int .i64 j) (.lit (.int .i64 0)) = .lit (.int .i64 (lev (rs.take (k + 1)) j).length)) ∧
    (∀ j : Nat, Maps.has (D.put (.int .i64 (k : Int)) (.lit (.int .i64 (lev rs k).length))) (.int .i64 j) = decide (lev (rs.take (k + 1)) j ≠ [])) ∧ Maps.size (D.put (.int .i64 (k : Int)) (.lit (.int .i64 (lev rs k).length))) = cnt (rs.take (k + 1)) := by
  have hno : Maps.has D (.int .i64 (k : Int)) = false := by rw [h2, lev_take, if_neg (by omega)]; rfl
  refine ⟨hT.put (key_lit k) _, fun j => ?_, fun j => ?_, ?_⟩
  · by_cases e : j = k
    · subst e
      rw [atKey_put_same hT.isMap (key_lit j), lev_take, if_pos (by omega)]
    · rw [atKey_put_other (key_ne e), h1, lev_take, lev_take]
      by_cases e2 : j < k
      · rw [if_pos e2, if_pos (by omega)]
      · rw [if_neg e2, if_neg (by omega)]
  · by_cases e : j = k
    · subst e
      rw [has_put_same hT.isMap (key_lit j), lev_take, if_pos (by omega)]
      simp [hne]
    · rw [has_put_other (key_ne e), h2, lev_take, lev_take]
      by_cases e2 : j < k
      · rw [if_pos e2, if_pos (by omega)]
      · rw [if_neg e2, if_neg (by omega)]
  · rw [size_put hT, hno, if_neg (by simp), h3, cnt_take hk, if_pos hne]
theorem held_skip {rs : Lv} {k : Nat} (hk : k < rs.length) (he : lev rs k = []) : (∀ j, lev (rs.take (k + 1)) j = lev (rs.take k) j) ∧ cnt (rs.take (k + 1)) = cnt (rs.take k) := by
  refine ⟨fun j => ?_, by rw [cnt_take hk, if_neg (by simp [he])]; rfl⟩
  rw [lev_take, lev_take]
  by_cases e : j = k
  · subst e; rw [if_pos (by omega), if_neg (by omega), he]
  · by_cases e2 : j < k
    · rw [if_pos e2, if_pos (by omega)]
    · rw [if_neg e2, if_neg (by omega)]
/-- a level is struck out -/
theorem held_del {D : DataW Unit} {rs : Lv} {k : Nat} (hne : lev rs k ≠ []) (hT : Tidy D) (h1 : ∀ j : Nat, D.atKey (.int .i64 j) (.lit (.int .i64 0)) = .lit (.int .i64 (lev rs j).length))
    (h2 : ∀ j : Nat, Maps.has D (.int .i64 j) = decide (lev rs j ≠ [])) (h3 : Maps.size D = cnt rs) :
    Tidy (D.del (.int .i64 (k : Int))) ∧ (∀ j : Nat, (D.del (.int .i64 (k : Int))).atKey (.int .i64 j) (.lit (.int .i64 0)) = .lit (.int .i64 (lev (rs.set k []) j).length)) ∧
    (∀ j : Nat, Maps.has (D.del (.int .i64 (k : Int))) (.int .i64 j) = decide (lev (rs.set k []) j ≠ [])) ∧ Maps.size (D.del (.int .i64 (k : Int))) = cnt (rs.set k []) := by
  refine ⟨hT.del _, fun j => ?_, fun j => ?_, ?_⟩
  · rw [lev_set_nil]
    by_cases e : j = k
    · subst e; rw [atKey_del_same, if_pos rfl]; rfl
    · rw [atKey_del_other (key_ne e), h1, if_neg e]
  · rw [lev_set_nil]
    by_cases e : j = k
    · subst e; rw [has_del_same, if_pos rfl]; rfl
    · rw [has_del_other (key_ne e), h2, if_neg e]
  · have := size_del (k := .int .i64 (k : Int)) hT
    rw [h2, h3, ← cnt_set rs k hne] at this
    simp [hne] at this
    exact this
end Go.Proofs.YthdcllnmnmemdaaDoor
