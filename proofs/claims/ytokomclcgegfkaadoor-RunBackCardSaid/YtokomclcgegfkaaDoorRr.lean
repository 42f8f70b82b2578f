/- Contracts: run.Pairs, Live, Next, Last, and the references'. -/
import Derived.Test.YtokomclcgegfkaaDoorRq
import Derived.Test.YtokomclcgegfkaaDoorGt
namespace Go.Proofs.YtokomclcgegfkaaDoor
open Go Go.RowKit
set_option maxRecDepth 100000

/-! ### plain -/
theorem bel_in (l : List Ent) (key : Int) : belK (inL l) key = belK l key := (inL_perm l).countP_eq _
theorem low_is (l : List Ent) (key : Int) : lowK l key = belK l key := lowK_bel l key
def nxE (l : List Ent) (key : Int) : Int := if chkE l = 0 then (if belK l key = l.length then 6 else 0) else chkE l
def nxX (l : List Ent) (key : Int) : Ent := if chkE l = 0 then (inL l).getD (belK l key) zeroE else zeroE
def lsE (l : List Ent) (key : Int) : Int := if chkE l = 0 then (if belK l key = 0 then 6 else 0) else chkE l
def lsX (l : List Ent) (key : Int) : Ent := if chkE l = 0 then (if belK l key = 0 then zeroE else inAt l (belK l key - 1)) else zeroE
def prL (l : List Ent) : List Pr := if chkE l = 0 then plainE (inL l) else []
def lvN (l : List Ent) : Nat := if chkE l = 0 then (liveE l).length else 0
theorem pr_lv (l : List Ent) : (prL l).length = lvN l := by
  unfold prL lvN
  split
  · unfold plainE
    rw [List.length_map]
    exact ((inL_perm l).filter _).length_eq
  · rfl
theorem nx_low (l : List Ent) (key : Int) : nxE l key = lowE l key ∧ (lowE l key = 0 → lowAt l key < l.length ∧ nxX l key = entAt l (lowAt l key)) ∧ (lowE l key ≠ 0 → nxX l key = zeroE) := by
  unfold nxE nxX
  by_cases h : chkE l = 0
  · rw [if_pos h, if_pos h]
    by_cases hk : lowK l key = l.length
    · have h6 := (low_six h hk).1
      rw [low_is] at hk
      rw [if_pos hk, h6]
      refine ⟨rfl, fun hh => by omega, fun _ => ?_⟩
      rw [List.getD_eq_getElem?_getD, List.getElem?_eq_none (by rw [inL_length, hk]; exact Nat.le_refl _)]; rfl
    · have h0 := (low_at h hk).1
      obtain ⟨hlt, h1, h2⟩ := low_inE h hk
      rw [low_is] at hk
      rw [if_neg hk, h0]
      refine ⟨rfl, fun _ => ⟨h2, ?_⟩, fun hh => absurd rfl hh⟩
      rw [h1, ← bel_in, List.getD_eq_getElem?_getD, List.getElem?_eq_getElem hlt]; rfl
  · rw [if_neg h, if_neg h, (low_bad key h).1]
    exact ⟨rfl, fun hh => absurd hh h, fun _ => rfl⟩
/-- hands back pairs of the call's own, and an error -/
def GivesPrs (m : List Pr) (e : Int) (w : World) (r : Ending) (w' : World) : Prop :=
  ∃ A c, r = .returned (.tuple #[.slice A m.length c, .int .i64 e]) ∧ w'.ownsRow w.heap.size 61 2 (.slice A m.length c) m.length (m.flatMap Pr.cells) ∧ Below w.heap.size w w'

set_option maxHeartbeats 1000000 in
theorem runNext_any (A : Option Addr) (l : List Ent) (c : Nat) (key : Int) (w : World) (hA : Sl w A (l.flatMap Ent.cells)) (hl : l.length ≤ 4611686018427387903) (hT : TabAt 1 Lib.deBruijn64tab w) :
    Calls Tryd.prog 38 #[.agg #[.slice A l.length c], .int .i64 key] w (GivesX (nxX l key) (nxE l key) w) := by
  obtain ⟨W0, hW0⟩ : ∃ W0, (w.alloc (.cells #[.slice A l.length c] 24)).alloc (.cells #[.int .i64 0, .int .i64 0, .bool false] 29) = W0 := ⟨_, rfl⟩
  have hb0 : Below w.heap.size w W0 := by rw [← hW0]; exact ((Below.refl _ _).alloc (Nat.le_refl _) _).alloc (by simp) _
  have bX0 : Blk W0 w.heap.size 24 #[.slice A l.length c] := by rw [← hW0]; exact (Blk.new _ _ _).alloc _
  have bR0 : Blk W0 (w.heap.size + 1) 29 #[.int .i64 0, .int .i64 0, .bool false] := by
    rw [← hW0]
    have := Blk.new (w.alloc (.cells #[.slice A l.length c] 24)) 29 #[.int .i64 0, .int .i64 0, .bool false]
    rwa [World.size_alloc] at this
  have cX0 : W0.cell? ⟨w.heap.size, 0, none⟩ = some (.slice A l.length c) := bX0.cell 0
  have hT0 := Lib.hid (tab_below (tab_lt hT) hT hb0)
  have HA := Lib.hid hA
  obtain ⟨g1, g2, g3⟩ := nx_low l key
  obtain ⟨E, hE⟩ : ∃ E, nxE l key = E := ⟨_, rfl⟩
  obtain ⟨at_, hat⟩ : ∃ at_, lowAt l key = at_ := ⟨_, rfl⟩
  obtain ⟨p, hp⟩ : ∃ p, nxX l key = p := ⟨_, rfl⟩
  rw [hE, hp]
  rw [hE] at g1
  rw [← g1, hp, hat] at g2
  rw [← g1, hp] at g3
  have HG := Lib.hid (And.intro g1 (And.intro g2 g3))
  have HAT := Lib.hid hat
  clear hE hat hp g1 g2 g3 hA hT
  go_enter Tryd.func38, Tryd.ntmps38
  go_wp2_with fail
  try rw [hW0]
  clear hW0 cX0
  refine (lower_any A l c key _ (HA.out.below hb0) hl hT0.out).mono ?_
  unfold GivesII
  rw [← HG.out.1, HAT.out]
  rintro e w1 ⟨rfl, hb1⟩
  have bX1 := bX0.below hb1 bX0.lt
  have bR1 := bR0.below hb1 bR0.lt
  have hb01 := bext hb0 hb1
  have cX1 : w1.cell? ⟨w.heap.size, 0, none⟩ = some (.slice A l.length c) := bX1.cell 0
  have d0 : w1.cell? ⟨w.heap.size + 1, 0, none⟩ = some (.int .i64 0) := bR1.cell 0
  have d1 : w1.cell? ⟨w.heap.size + 1, 1, none⟩ = some (.int .i64 0) := bR1.cell 1
  have d2 : w1.cell? ⟨w.heap.size + 1, 2, none⟩ = some (.bool false) := bR1.cell 2
  have f0 := bR1.frozen 0
  have f1 := bR1.frozen 1
  have f2 := bR1.frozen 2
  by_cases h0 : E = 0
  · subst h0
    obtain ⟨hlt, hpe⟩ := HG.out.2.1 rfl
    rw [entAt_get hlt] at hpe
    obtain ⟨b, off, rfl, hbl, c1, c2, c3⟩ := HA.out.entB hb01 at_ hlt
    rw [← hpe] at c1 c2 c3
    have i0 : (0 : Int) ≤ (at_ : Int) := by omega
    have i1 : (at_ : Int) < (l.length : Int) := by omega
    clear hpe
    go_wp2_with fail
    have bFy := put3 bR1 (.int .i64 p.key) (.int .i64 p.val) (.bool p.dead)
    have e0y := bFy.cell 0
    have e1y := bFy.cell 1
    have e2y := bFy.cell 2
    simp only [List.getElem?_toArray, List.getElem?_cons_zero, List.getElem?_cons_succ] at e0y e1y e2y
    refine bodyPost_ret (v := .tuple #[.agg #[.int .i64 p.key, .int .i64 p.val, .bool p.dead], .int .i64 0]) (by simp [results, Tryd.results38, go_sem, e0y, e1y, e2y]) rfl ?_
    exact ⟨rfl, below3 hb01 (Nat.le_succ _) _ _ _⟩
  · have hz := HG.out.2.2 h0
    subst hz
    have h1 : (E != 0) = true := by simpa using h0
    clear h0
    go_wp2_with fail
    have bFz := put3 bR1 (.int .i64 0) (.int .i64 0) (.bool false)
    have e0z := bFz.cell 0
    have e1z := bFz.cell 1
    have e2z := bFz.cell 2
    simp only [List.getElem?_toArray, List.getElem?_cons_zero, List.getElem?_cons_succ] at e0z e1z e2z
    refine bodyPost_ret (v := .tuple #[.agg #[.int .i64 0, .int .i64 0, .bool false], .int .i64 E]) (by simp [results, Tryd.results38, go_sem, e0z, e1z, e2z]) rfl ?_
    exact ⟨rfl, below3 hb01 (Nat.le_succ _) _ _ _⟩

set_option maxHeartbeats 1000000 in
theorem all_bad (A : Option Addr) (l : List Ent) (c : Nat) (w : World) (hA : Sl w A (l.flatMap Ent.cells)) (hl : l.length ≤ 4611686018427387903) (hC : ¬ chkE l = 0) :
    Calls Tryd.prog 76 #[.agg #[.slice A l.length c], .func (.func 77) #[] #[], .func (.func 78) #[] #[]] w (GivesPrs [] (chkE l) w) := by
  obtain ⟨E, hE⟩ : ∃ E, chkE l = E := ⟨_, rfl⟩
  rw [hE] at hC ⊢
  have HE := Lib.hid hE
  have h1 : (E != 0) = true := by simpa using hC
  have HA := Lib.hid hA
  clear hE hC hA
  refine calls_of_in (_F := Fence.wide) ?_
  have hdd : ∀ k : Nat, (Fence.wide.depth.isSome = true → 1 ≤ k) := fun k h => by cases h
  have hwf : ∀ f, Fence.wide.fn f := fun _ => trivial
  have hdp : Fence.wide.depth = none := rfl
  have hro : Fence.wide.round = none := rfl
  obtain ⟨W0, hW0⟩ : ∃ W0, (((w.alloc (.cells #[.slice A l.length c] 24)).alloc (.cells #[.func (.func 77) #[] #[]] 100)).alloc (.cells #[.func (.func 78) #[] #[]] 101)).alloc (.cells #[.slice none 0 0] 54) = W0 := ⟨_, rfl⟩
  have hb0 : Below w.heap.size w W0 := by
    rw [← hW0]; exact ((((Below.refl _ w).alloc (Nat.le_refl _) _).alloc (by simp) _).alloc (by simp; omega) _).alloc (by simp; omega) _
  have k3 : Blk W0 w.heap.size 24 #[.slice A l.length c] := by rw [← hW0]; exact (((Blk.new w _ _).alloc _).alloc _).alloc _
  have k6 : Blk W0 (w.heap.size + 1 + 1 + 1) 54 #[.slice none 0 0] := by
    rw [← hW0]
    have := Blk.new (((w.alloc (.cells #[.slice A l.length c] 24)).alloc (.cells #[.func (.func 77) #[] #[]] 100)).alloc (.cells #[.func (.func 78) #[] #[]] 101)) 54 #[.slice none 0 0]
    rwa [World.size_alloc, World.size_alloc, World.size_alloc] at this
  have c3 : W0.cell? ⟨w.heap.size, 0, none⟩ = some (.slice A l.length c) := k3.cell 0
  refine callsIn_of_wp_marks Tryd.func76 rfl (hwf _) ?_ hro
  simp only [Tryd.ntmps76, List.size_toArray, List.length_cons, List.length_nil, Nat.reduceAdd, Nat.reduceSub, Array.replicate_succ, Array.replicate_zero, List.push_toArray, List.append_toArray, List.nil_append, List.cons_append]
  gi_wp2_with fail
  try rw [hW0]
  clear hW0
  (try first | refine ⟨hdp, ?_⟩ | refine ⟨hdd _, ?_⟩)
  refine (callsIn_wide.2 (check_any A l c _ (HA.out.below hb0) hl)).mono ?_
  rw [HE.out]
  rintro e w1 ⟨rfl, hb1⟩
  have hb01 := bext hb0 hb1
  have k61 := k6.below hb1 k6.lt
  have c6 : w1.cell? ⟨w.heap.size + 1 + 1 + 1, 0, none⟩ = some (.slice none 0 0) := k61.cell 0
  have f6 := k61.frozen 0
  have e6 : (w1.setCell ⟨w.heap.size + 1 + 1 + 1, 0, none⟩ (.slice none 0 0)).cell? ⟨w.heap.size + 1 + 1 + 1, 0, none⟩ = some (.slice none 0 0) := (k61.set_ 0 _).cell 0
  clear c3 k3 k6
  gi_wp2_with fail
  refine ⟨.tuple #[.slice none 0 0, .int .i64 E], by simp [results, Tryd.results76, go_sem, e6], none, 0, rfl, World.ownsRow_nil _ _ _ _, ?_⟩
  exact hb01.setCell (p := ⟨w.heap.size + 1 + 1 + 1, 0, none⟩) (by show w.heap.size ≤ w.heap.size + 1 + 1 + 1; omega) _
set_option maxHeartbeats 1000000 in
theorem pairs_any (A : Option Addr) (l : List Ent) (c : Nat) (w : World) (hA : Sl w A (l.flatMap Ent.cells)) (hl : l.length ≤ 4611686018427387903) :
    Calls Tryd.prog 36 #[.agg #[.slice A l.length c]] w (GivesPrs (prL l) (chkE l) w) := by
  have hb0 : Below w.heap.size w (w.alloc (.cells #[.slice A l.length c] 24)) := (Below.refl _ _).alloc (Nat.le_refl _) _
  have hall : ∀ W, Below w.heap.size w W → Calls Tryd.prog 76 #[.agg #[.slice A l.length c], .func (.func 77) #[] #[], .func (.func 78) #[] #[]] W (GivesPrs (prL l) (chkE l) W) := by
    intro W hW
    by_cases hC : chkE l = 0
    · have h := all_ok A l c W (hA.below hW) hC
      have h2 : prL l = plainE (inL l) := by unfold prL; rw [if_pos hC]
      rw [h2, hC]
      exact h
    · have h2 : prL l = [] := by unfold prL; rw [if_neg hC]
      rw [h2]
      exact all_bad A l c W (hA.below hW) hl hC
  have HALL := Lib.hid hall
  obtain ⟨E, hE⟩ : ∃ E, chkE l = E := ⟨_, rfl⟩
  obtain ⟨m, hm⟩ : ∃ m, prL l = m := ⟨_, rfl⟩
  rw [hE, hm]
  rw [hE, hm] at HALL
  clear hE hm hall
  go_enter Tryd.func36, Tryd.ntmps36
  go_wp2_with fail
  refine (HALL.out _ hb0).mono ?_
  rintro e w1 ⟨A1, c1, rfl, ho1, hb1⟩
  have HO := Lib.hid (own_mono ho1 hb0.size)
  clear ho1
  go_wp2
  refine bodyPost_ret (v := .tuple #[.slice A1 m.length c1, .int .i64 E]) (by simp [results, Tryd.results36, go_sem]) rfl ?_
  exact ⟨A1, c1, rfl, HO.out, bext hb0 hb1⟩

set_option maxHeartbeats 1000000 in
theorem live_any (A : Option Addr) (l : List Ent) (c : Nat) (w : World) (hA : Sl w A (l.flatMap Ent.cells)) (hl : l.length ≤ 4611686018427387903) :
    Calls Tryd.prog 34 #[.agg #[.slice A l.length c]] w (GivesII (lvN l) (chkE l) w) := by
  have hb0 : Below w.heap.size w (w.alloc (.cells #[.slice A l.length c] 24)) := (Below.refl _ _).alloc (Nat.le_refl _) _
  have bX := Blk.new w 24 #[.slice A l.length c]
  have HA := Lib.hid hA
  obtain ⟨E, hE⟩ : ∃ E, chkE l = E := ⟨_, rfl⟩
  have HE := Lib.hid hE
  rw [hE]
  obtain ⟨N, hN⟩ : ∃ N, lvN l = N := ⟨_, rfl⟩
  have HN := Lib.hid hN
  rw [hN]
  clear hA hE hN
  go_enter Tryd.func34, Tryd.ntmps34
  go_wp2_with fail
  refine (check_any A l c _ (HA.out.below hb0) hl).mono ?_
  rw [HE.out]
  rintro e w1 ⟨rfl, hb1⟩
  have hb01 := bext hb0 hb1
  have bX1 := bX.below hb1 bX.lt
  have c0 : w1.cell? ⟨w.heap.size, 0, none⟩ = some (.slice A l.length c) := bX1.cell 0
  clear bX
  by_cases h0 : E = 0
  · subst h0
    have HNL : Hid (N = (liveE l).length) := by show _ = _; rw [← HN.out]; unfold lvN; rw [if_pos HE.out]
    go_wp2
    go_loopw [2, 15] (fun v i wr => ∃ k s : Nat, k ≤ l.length ∧ i = .int .i64 k ∧ v = .int .i64 s ∧ Below w1.heap.size w1 wr ∧ Hid (s = (liveE (l.take k)).length)) (fun _ i _ => l.length - (intOf i).toNat)
    case atStart => exact ⟨0, 0, Nat.zero_le _, rfl, rfl, Below.refl _ _, rfl⟩
    case round =>
      clear c0
      obtain ⟨k, s, hk, rfl, rfl, hb, hs⟩ := hrel
      have hsk : s ≤ k := by rw [hs.out]; have := live_le (l.take k); simp at this; omega
      by_cases hlt : k < l.length
      · obtain ⟨b, off, rfl, hbl, c1, c2, c3⟩ := HA.out.entB (bext hb01 hb) k hlt
        have hls := live_succ hlt
        obtain ⟨x, hx⟩ : ∃ x, l[k]'hlt = x := ⟨_, rfl⟩
        rw [hx] at c1 c2 c3 hls
        have i0 : (0 : Int) ≤ (k : Int) := by omega
        have i1 : (k : Int) < (l.length : Int) := by omega
        have ba : Below wr.heap.size wr (wr.alloc (.cells #[.int .i64 x.key, .int .i64 x.val, .bool x.dead] 29)) := (Below.refl _ _).alloc (Nat.le_refl _) _
        have HBA := Lib.hid ba
        clear ba hx
        cases hd : x.dead
        · rw [hd] at c3 hls HBA
          have HLS : Hid (s + 1 = (liveE (l.take (k + 1))).length) := by show _ = _; rw [hls, hs.out]; simp
          clear hls hd
          go_wp2_with fail
          go_roundw
          case rel => exact ⟨k + 1, s + 1, by omega, by go_num, by go_num, bext hb HBA.out, HLS⟩
          case measure => simp [intOf]; omega
        · rw [hd] at c3 hls HBA
          have HLS : Hid (s = (liveE (l.take (k + 1))).length) := by show _ = _; rw [hls, hs.out]; simp
          clear hls hd
          go_wp2_with fail
          go_roundw
          case rel => exact ⟨k + 1, s, by omega, by go_num, rfl, bext hb HBA.out, HLS⟩
          case measure => simp [intOf]; omega
      · have HS : Hid (s = N) := by show _ = _; rw [HNL.out, hs.out, List.take_of_length_le (by omega)]
        go_wp2
        refine bodyPost_ret (v := .tuple #[.int .i64 (s : Nat), .int .i64 0]) (by simp [results, Tryd.results34, go_sem]) rfl ?_
        rw [← HS.out]
        exact ⟨rfl, bext hb01 hb⟩
  · have h1 : (E != 0) = true := by simpa using h0
    have HNL : Hid (N = 0) := by show _ = _; rw [← HN.out]; unfold lvN; rw [HE.out, if_neg h0]
    clear h0 c0
    go_wp2
    refine bodyPost_ret (v := .tuple #[.int .i64 0, .int .i64 E]) (by simp [results, Tryd.results34, go_sem]) rfl ?_
    rw [HNL.out]
    exact ⟨rfl, hb01⟩

set_option maxHeartbeats 1000000 in
theorem refPairs_any (A : Option Addr) (l : List Ent) (c : Nat) (w : World) (hA : Sl w A (l.flatMap Ent.cells)) (hl : l.length ≤ 4611686018427387903) :
    Calls Tryd.prog 37 #[.agg #[.slice A l.length c]] w (GivesPrs (prL l) (chkE l) w) := by
  have hb0 : Below w.heap.size w (w.alloc (.cells #[.slice A l.length c] 24)) := (Below.refl _ _).alloc (Nat.le_refl _) _
  have HA := Lib.hid hA
  obtain ⟨E, hE⟩ : ∃ E, chkE l = E := ⟨_, rfl⟩
  obtain ⟨m, hm⟩ : ∃ m, sortL l = m := ⟨_, rfl⟩
  have HE := Lib.hid hE
  have HM := Lib.hid hm
  rw [hE]
  obtain ⟨q, hq⟩ : ∃ q, prL l = q := ⟨_, rfl⟩
  have HQ := Lib.hid hq
  rw [hq]
  clear hA hE hm hq
  go_enter Tryd.func37, Tryd.ntmps37
  go_wp2_with fail
  refine (refSorted_any A l c _ (HA.out.below hb0) hl).mono ?_
  rw [HE.out, HM.out]
  rintro e w1 ⟨A1, c1, rfl, ho1, hb1⟩
  have HS1 := Lib.hid (own_sl ho1)
  clear ho1
  by_cases h0 : E = 0
  · subst h0
    have hmi : m = inL l := by rw [← HM.out]; unfold sortL; rw [if_pos HE.out]
    have hml : m.length ≤ 1099511627776 := by rw [hmi, inL_length]; have := (chk_ok HE.out).2.2; omega
    have HQ2 : Hid (q = plainE m) := by show _ = _; rw [hmi, ← HQ.out]; unfold prL; rw [if_pos HE.out]
    clear hmi
    go_wp2_with fail
    refine (refPlain_any A1 m c1 _ HS1.out hml).mono ?_
    rw [← HQ2.out]
    rintro e w2 ⟨A2, c2, rfl, ho2, hb2⟩
    have HO := Lib.hid (own_mono ho2 (bext hb0 hb1).size)
    clear ho2
    go_wp2
    refine bodyPost_ret (v := .tuple #[.slice A2 q.length c2, .int .i64 0]) (by simp [results, Tryd.results37, go_sem]) rfl ?_
    exact ⟨A2, c2, rfl, HO.out, bext hb0 (bext hb1 hb2)⟩
  · have h1 : (E != 0) = true := by simpa using h0
    have HQ2 : Hid (q = []) := by show _ = _; rw [← HQ.out]; unfold prL; rw [HE.out, if_neg h0]
    clear h0
    go_wp2
    refine bodyPost_ret (v := .tuple #[.slice none 0 0, .int .i64 E]) (by simp [results, Tryd.results37, go_sem]) rfl ?_
    rw [HQ2.out]
    exact ⟨none, 0, rfl, World.ownsRow_nil _ _ _ _, bext hb0 hb1⟩
set_option maxHeartbeats 1000000 in
theorem refLive_any (A : Option Addr) (l : List Ent) (c : Nat) (w : World) (hA : Sl w A (l.flatMap Ent.cells)) (hl : l.length ≤ 4611686018427387903) :
    Calls Tryd.prog 35 #[.agg #[.slice A l.length c]] w (GivesII (lvN l) (chkE l) w) := by
  have hb0 : Below w.heap.size w (w.alloc (.cells #[.slice A l.length c] 24)) := (Below.refl _ _).alloc (Nat.le_refl _) _
  have HA := Lib.hid hA
  obtain ⟨E, hE⟩ : ∃ E, chkE l = E := ⟨_, rfl⟩
  obtain ⟨q, hq⟩ : ∃ q, prL l = q := ⟨_, rfl⟩
  have HE := Lib.hid hE
  have HQ := Lib.hid hq
  rw [← pr_lv, hq, hE]
  clear hA hE hq
  go_enter Tryd.func35, Tryd.ntmps35
  go_wp2_with fail
  refine (refPairs_any A l c _ (HA.out.below hb0) hl).mono ?_
  rw [HE.out, HQ.out]
  rintro e w1 ⟨A1, c1, rfl, ho1, hb1⟩
  clear ho1
  go_wp2
  refine bodyPost_ret (v := .tuple #[.int .i64 (q.length : Nat), .int .i64 E]) (by simp [results, Tryd.results35, go_sem]) rfl ?_
  exact ⟨rfl, bext hb0 hb1⟩

set_option maxHeartbeats 1000000 in
theorem refNext_any (A : Option Addr) (l : List Ent) (c : Nat) (key : Int) (w : World) (hA : Sl w A (l.flatMap Ent.cells)) (hl : l.length ≤ 4611686018427387903) :
    Calls Tryd.prog 39 #[.agg #[.slice A l.length c], .int .i64 key] w (GivesX (nxX l key) (nxE l key) w) := by
  obtain ⟨W0, hW0⟩ : ∃ W0, (w.alloc (.cells #[.slice A l.length c] 24)).alloc (.cells #[.int .i64 0, .int .i64 0, .bool false] 29) = W0 := ⟨_, rfl⟩
  have hb0 : Below w.heap.size w W0 := by rw [← hW0]; exact ((Below.refl _ _).alloc (Nat.le_refl _) _).alloc (by simp) _
  have bX0 : Blk W0 w.heap.size 24 #[.slice A l.length c] := by rw [← hW0]; exact (Blk.new _ _ _).alloc _
  have bR0 : Blk W0 (w.heap.size + 1) 29 #[.int .i64 0, .int .i64 0, .bool false] := by
    rw [← hW0]
    have := Blk.new (w.alloc (.cells #[.slice A l.length c] 24)) 29 #[.int .i64 0, .int .i64 0, .bool false]
    rwa [World.size_alloc] at this
  have HA := Lib.hid hA
  have cX0 : W0.cell? ⟨w.heap.size, 0, none⟩ = some (.slice A l.length c) := bX0.cell 0
  obtain ⟨E, hE⟩ : ∃ E, chkE l = E := ⟨_, rfl⟩
  obtain ⟨m, hm⟩ : ∃ m, sortL l = m := ⟨_, rfl⟩
  obtain ⟨X1, hX1⟩ : ∃ X1, nxX l key = X1 := ⟨_, rfl⟩
  obtain ⟨G1, hG1⟩ : ∃ G1, nxE l key = G1 := ⟨_, rfl⟩
  rw [hX1, hG1]
  have HE := Lib.hid hE
  have HM := Lib.hid hm
  have HX1 := Lib.hid hX1
  have HG1 := Lib.hid hG1
  clear hA hE hm hX1 hG1
  go_enter Tryd.func39, Tryd.ntmps39
  go_wp2_with fail
  try rw [hW0]
  clear hW0 cX0
  refine (refSorted_any A l c _ (HA.out.below hb0) hl).mono ?_
  rw [HE.out, HM.out]
  rintro e w1 ⟨A1, c1, rfl, ho1, hb1⟩
  have HS1 := Lib.hid (own_sl ho1)
  have bR1 := bR0.below hb1 bR0.lt
  have hb01 := bext hb0 hb1
  clear ho1
  by_cases h0 : E = 0
  · subst h0
    have hmi : m = inL l := by rw [← HM.out]; unfold sortL; rw [if_pos HE.out]
    have hml : m.length = l.length := by rw [hmi, inL_length]
    have hl6 := (chk_ok HE.out).2.2
    obtain ⟨K, hK⟩ : ∃ K, belK m key = K := ⟨_, rfl⟩
    have hKl : belK l key = K := by rw [← hK, hmi, bel_in]
    have hKm : K ≤ m.length := by rw [← hK]; exact belK_le m key
    have HK := Lib.hid hK
    have HKL := Lib.hid hKl
    have HMI := Lib.hid hmi
    have HML := Lib.hid hml
    clear hmi hK hKl hml
    go_wp2_with fail
    refine (refBelow_any A1 m c1 key _ HS1.out (by rw [HML.out]; exact hl)).mono ?_
    rw [HK.out]
    rintro e w2 ⟨rfl, hb2⟩
    have bR1 := bR1.below hb2 bR1.lt
    have hb02 := bext hb01 hb2
    have HS2 := Lib.hid (HS1.out.below hb2)
    have d0 : w2.cell? ⟨w.heap.size + 1, 0, none⟩ = some (.int .i64 0) := bR1.cell 0
    have d1 : w2.cell? ⟨w.heap.size + 1, 1, none⟩ = some (.int .i64 0) := bR1.cell 1
    have d2 : w2.cell? ⟨w.heap.size + 1, 2, none⟩ = some (.bool false) := bR1.cell 2
    have f0 := bR1.frozen 0
    have f1 := bR1.frozen 1
    have f2 := bR1.frozen 2
    by_cases hend : K = m.length
    · have hq : ((K : Int) == (m.length : Int)) = true := by simp [hend]
      have HXZ : Hid (X1 = zeroE) := by
        show _ = _
        rw [← HX1.out]; unfold nxX
        rw [if_pos HE.out, HKL.out, List.getD_eq_getElem?_getD, List.getElem?_eq_none (by rw [← HMI.out, hend]; exact Nat.le_refl _)]; rfl
      have HGZ : Hid (G1 = 6) := by
        show _ = _
        rw [← HG1.out]; unfold nxE
        rw [if_pos HE.out, HKL.out, hend, HML.out, if_pos rfl]
      clear hend
      go_wp2_with fail
      have bFz := put3 bR1 (.int .i64 0) (.int .i64 0) (.bool false)
      have e0z := bFz.cell 0
      have e1z := bFz.cell 1
      have e2z := bFz.cell 2
      simp only [List.getElem?_toArray, List.getElem?_cons_zero, List.getElem?_cons_succ] at e0z e1z e2z
      refine bodyPost_ret (v := .tuple #[.agg #[.int .i64 0, .int .i64 0, .bool false], .int .i64 6]) (by simp [results, Tryd.results39, go_sem, e0z, e1z, e2z]) rfl ?_
      rw [HXZ.out, HGZ.out]
      exact ⟨rfl, below3 hb02 (Nat.le_succ _) _ _ _⟩
    · have hlt : K < m.length := by omega
      have hq : ((K : Int) == (m.length : Int)) = false := beq_eq_false_iff_ne.2 (by omega)
      obtain ⟨b, off, rfl, hbl, c1', c2', c3'⟩ := HS2.out.ent K hlt
      obtain ⟨p, hp⟩ : ∃ p, m[K]'hlt = p := ⟨_, rfl⟩
      rw [hp] at c1' c2' c3'
      have HXZ : Hid (X1 = p) := by
        show _ = _
        rw [← HX1.out]; unfold nxX
        rw [if_pos HE.out, HKL.out, ← HMI.out, List.getD_eq_getElem?_getD, List.getElem?_eq_getElem hlt, hp]; rfl
      have HGZ : Hid (G1 = 0) := by
        show _ = _
        rw [← HG1.out]; unfold nxE
        rw [if_pos HE.out, HKL.out, if_neg (by rw [← HML.out]; exact hend)]
      have i0 : (0 : Int) ≤ (K : Int) := by omega
      have i1 : (K : Int) < (m.length : Int) := by omega
      clear hp hend
      go_wp2_with fail
      have bFy := put3 bR1 (.int .i64 p.key) (.int .i64 p.val) (.bool p.dead)
      have e0y := bFy.cell 0
      have e1y := bFy.cell 1
      have e2y := bFy.cell 2
      simp only [List.getElem?_toArray, List.getElem?_cons_zero, List.getElem?_cons_succ] at e0y e1y e2y
      refine bodyPost_ret (v := .tuple #[.agg #[.int .i64 p.key, .int .i64 p.val, .bool p.dead], .int .i64 0]) (by simp [results, Tryd.results39, go_sem, e0y, e1y, e2y]) rfl ?_
      rw [HXZ.out, HGZ.out]
      exact ⟨rfl, below3 hb02 (Nat.le_succ _) _ _ _⟩
  · have h1 : (E != 0) = true := by simpa using h0
    have HXZ : Hid (X1 = zeroE) := by show _ = _; rw [← HX1.out]; unfold nxX; rw [HE.out, if_neg h0]
    have HGZ : Hid (G1 = E) := by show _ = _; rw [← HG1.out]; unfold nxE; rw [HE.out, if_neg h0]
    have d0 : w1.cell? ⟨w.heap.size + 1, 0, none⟩ = some (.int .i64 0) := bR1.cell 0
    have d1 : w1.cell? ⟨w.heap.size + 1, 1, none⟩ = some (.int .i64 0) := bR1.cell 1
    have d2 : w1.cell? ⟨w.heap.size + 1, 2, none⟩ = some (.bool false) := bR1.cell 2
    have f0 := bR1.frozen 0
    have f1 := bR1.frozen 1
    have f2 := bR1.frozen 2
    clear h0
    go_wp2_with fail
    have bFw := put3 bR1 (.int .i64 0) (.int .i64 0) (.bool false)
    have e0w := bFw.cell 0
    have e1w := bFw.cell 1
    have e2w := bFw.cell 2
    simp only [List.getElem?_toArray, List.getElem?_cons_zero, List.getElem?_cons_succ] at e0w e1w e2w
    refine bodyPost_ret (v := .tuple #[.agg #[.int .i64 0, .int .i64 0, .bool false], .int .i64 E]) (by simp [results, Tryd.results39, go_sem, e0w, e1w, e2w]) rfl ?_
    rw [HXZ.out, HGZ.out]
    exact ⟨rfl, below3 hb01 (Nat.le_succ _) _ _ _⟩

set_option maxHeartbeats 1000000 in
theorem refLast_any (A : Option Addr) (l : List Ent) (c : Nat) (key : Int) (w : World) (hA : Sl w A (l.flatMap Ent.cells)) (hl : l.length ≤ 4611686018427387903) :
    Calls Tryd.prog 41 #[.agg #[.slice A l.length c], .int .i64 key] w (GivesX (lsX l key) (lsE l key) w) := by
  obtain ⟨W0, hW0⟩ : ∃ W0, (w.alloc (.cells #[.slice A l.length c] 24)).alloc (.cells #[.int .i64 0, .int .i64 0, .bool false] 29) = W0 := ⟨_, rfl⟩
  have hb0 : Below w.heap.size w W0 := by rw [← hW0]; exact ((Below.refl _ _).alloc (Nat.le_refl _) _).alloc (by simp) _
  have bX0 : Blk W0 w.heap.size 24 #[.slice A l.length c] := by rw [← hW0]; exact (Blk.new _ _ _).alloc _
  have bR0 : Blk W0 (w.heap.size + 1) 29 #[.int .i64 0, .int .i64 0, .bool false] := by
    rw [← hW0]
    have := Blk.new (w.alloc (.cells #[.slice A l.length c] 24)) 29 #[.int .i64 0, .int .i64 0, .bool false]
    rwa [World.size_alloc] at this
  have HA := Lib.hid hA
  have cX0 : W0.cell? ⟨w.heap.size, 0, none⟩ = some (.slice A l.length c) := bX0.cell 0
  obtain ⟨E, hE⟩ : ∃ E, chkE l = E := ⟨_, rfl⟩
  obtain ⟨m, hm⟩ : ∃ m, sortL l = m := ⟨_, rfl⟩
  obtain ⟨X1, hX1⟩ : ∃ X1, lsX l key = X1 := ⟨_, rfl⟩
  obtain ⟨G1, hG1⟩ : ∃ G1, lsE l key = G1 := ⟨_, rfl⟩
  rw [hX1, hG1]
  have HE := Lib.hid hE
  have HM := Lib.hid hm
  have HX1 := Lib.hid hX1
  have HG1 := Lib.hid hG1
  clear hA hE hm hX1 hG1
  go_enter Tryd.func41, Tryd.ntmps41
  go_wp2_with fail
  try rw [hW0]
  clear hW0 cX0
  refine (refSorted_any A l c _ (HA.out.below hb0) hl).mono ?_
  rw [HE.out, HM.out]
  rintro e w1 ⟨A1, c1, rfl, ho1, hb1⟩
  have HS1 := Lib.hid (own_sl ho1)
  have bR1 := bR0.below hb1 bR0.lt
  have hb01 := bext hb0 hb1
  clear ho1
  by_cases h0 : E = 0
  · subst h0
    have hmi : m = inL l := by rw [← HM.out]; unfold sortL; rw [if_pos HE.out]
    have hml : m.length = l.length := by rw [hmi, inL_length]
    have hl6 := (chk_ok HE.out).2.2
    obtain ⟨K, hK⟩ : ∃ K, belK m key = K := ⟨_, rfl⟩
    have hKl : belK l key = K := by rw [← hK, hmi, bel_in]
    have hKm : K ≤ m.length := by rw [← hK]; exact belK_le m key
    have HK := Lib.hid hK
    have HKL := Lib.hid hKl
    have HMI := Lib.hid hmi
    have HML := Lib.hid hml
    clear hmi hK hKl hml
    go_wp2_with fail
    refine (refBelow_any A1 m c1 key _ HS1.out (by rw [HML.out]; exact hl)).mono ?_
    rw [HK.out]
    rintro e w2 ⟨rfl, hb2⟩
    have bR1 := bR1.below hb2 bR1.lt
    have hb02 := bext hb01 hb2
    have HS2 := Lib.hid (HS1.out.below hb2)
    have d0 : w2.cell? ⟨w.heap.size + 1, 0, none⟩ = some (.int .i64 0) := bR1.cell 0
    have d1 : w2.cell? ⟨w.heap.size + 1, 1, none⟩ = some (.int .i64 0) := bR1.cell 1
    have d2 : w2.cell? ⟨w.heap.size + 1, 2, none⟩ = some (.bool false) := bR1.cell 2
    have f0 := bR1.frozen 0
    have f1 := bR1.frozen 1
    have f2 := bR1.frozen 2
    by_cases hend : K = 0
    · have hq : ((K : Int) == 0) = true := by simp [hend]
      have HXZ : Hid (X1 = zeroE) := by
        show _ = _
        rw [← HX1.out]; unfold lsX
        rw [if_pos HE.out, HKL.out, if_pos hend]
      have HGZ : Hid (G1 = 6) := by
        show _ = _
        rw [← HG1.out]; unfold lsE
        rw [if_pos HE.out, HKL.out, if_pos hend]
      clear hend
      go_wp2_with fail
      have bFz := put3 bR1 (.int .i64 0) (.int .i64 0) (.bool false)
      have e0z := bFz.cell 0
      have e1z := bFz.cell 1
      have e2z := bFz.cell 2
      simp only [List.getElem?_toArray, List.getElem?_cons_zero, List.getElem?_cons_succ] at e0z e1z e2z
      refine bodyPost_ret (v := .tuple #[.agg #[.int .i64 0, .int .i64 0, .bool false], .int .i64 6]) (by simp [results, Tryd.results41, go_sem, e0z, e1z, e2z]) rfl ?_
      rw [HXZ.out, HGZ.out]
      exact ⟨rfl, below3 hb02 (Nat.le_succ _) _ _ _⟩
    · obtain ⟨J, rfl⟩ : ∃ J, K = J + 1 := ⟨K - 1, by omega⟩
      have hlt : J < m.length := by omega
      have hq : (((J + 1 : Nat) : Int) == 0) = false := beq_eq_false_iff_ne.2 (by omega)
      have hw5 : wrap64 (J : Int) = (J : Int) := IntWalk.wrap64_in (J : Int) (by have := HML.out; omega)
      obtain ⟨b, off, rfl, hbl, c1', c2', c3'⟩ := HS2.out.ent J hlt
      obtain ⟨p, hp⟩ : ∃ p, m[J]'hlt = p := ⟨_, rfl⟩
      rw [hp] at c1' c2' c3'
      have HXZ : Hid (X1 = p) := by
        show _ = _
        rw [← HX1.out]; unfold lsX inAt
        rw [if_pos HE.out, HKL.out, if_neg hend, ← HMI.out, Nat.add_sub_cancel, List.getD_eq_getElem?_getD, List.getElem?_eq_getElem hlt, hp]; rfl
      have HGZ : Hid (G1 = 0) := by
        show _ = _
        rw [← HG1.out]; unfold lsE
        rw [if_pos HE.out, HKL.out, if_neg hend]
      have i0 : (0 : Int) ≤ (J : Int) := by omega
      have i1 : (J : Int) < (m.length : Int) := by omega
      clear hp hend
      go_wp2_with fail
      have bFy := put3 bR1 (.int .i64 p.key) (.int .i64 p.val) (.bool p.dead)
      have e0y := bFy.cell 0
      have e1y := bFy.cell 1
      have e2y := bFy.cell 2
      simp only [List.getElem?_toArray, List.getElem?_cons_zero, List.getElem?_cons_succ] at e0y e1y e2y
      refine bodyPost_ret (v := .tuple #[.agg #[.int .i64 p.key, .int .i64 p.val, .bool p.dead], .int .i64 0]) (by simp [results, Tryd.results41, go_sem, e0y, e1y, e2y]) rfl ?_
      rw [HXZ.out, HGZ.out]
      exact ⟨rfl, below3 hb02 (Nat.le_succ _) _ _ _⟩
  · have h1 : (E != 0) = true := by simpa using h0
    have HXZ : Hid (X1 = zeroE) := by show _ = _; rw [← HX1.out]; unfold lsX; rw [HE.out, if_neg h0]
    have HGZ : Hid (G1 = E) := by show _ = _; rw [← HG1.out]; unfold lsE; rw [HE.out, if_neg h0]
    have d0 : w1.cell? ⟨w.heap.size + 1, 0, none⟩ = some (.int .i64 0) := bR1.cell 0
    have d1 : w1.cell? ⟨w.heap.size + 1, 1, none⟩ = some (.int .i64 0) := bR1.cell 1
    have d2 : w1.cell? ⟨w.heap.size + 1, 2, none⟩ = some (.bool false) := bR1.cell 2
    have f0 := bR1.frozen 0
    have f1 := bR1.frozen 1
    have f2 := bR1.frozen 2
    clear h0
    go_wp2_with fail
    have bFw := put3 bR1 (.int .i64 0) (.int .i64 0) (.bool false)
    have e0w := bFw.cell 0
    have e1w := bFw.cell 1
    have e2w := bFw.cell 2
    simp only [List.getElem?_toArray, List.getElem?_cons_zero, List.getElem?_cons_succ] at e0w e1w e2w
    refine bodyPost_ret (v := .tuple #[.agg #[.int .i64 0, .int .i64 0, .bool false], .int .i64 E]) (by simp [results, Tryd.results41, go_sem, e0w, e1w, e2w]) rfl ?_
    rw [HXZ.out, HGZ.out]
    exact ⟨rfl, below3 hb01 (Nat.le_succ _) _ _ _⟩

set_option maxHeartbeats 1000000 in
theorem runLast_any (A : Option Addr) (l : List Ent) (c : Nat) (key : Int) (w : World) (hA : Sl w A (l.flatMap Ent.cells)) (hl : l.length ≤ 4611686018427387903) (hT : TabAt 1 Lib.deBruijn64tab w) :
    Calls Tryd.prog 40 #[.agg #[.slice A l.length c], .int .i64 key] w (GivesX (lsX l key) (lsE l key) w) := by
  obtain ⟨W0, hW0⟩ : ∃ W0, (w.alloc (.cells #[.slice A l.length c] 24)).alloc (.cells #[.int .i64 0, .int .i64 0, .bool false] 29) = W0 := ⟨_, rfl⟩
  have hb0 : Below w.heap.size w W0 := by rw [← hW0]; exact ((Below.refl _ _).alloc (Nat.le_refl _) _).alloc (by simp) _
  have bX0 : Blk W0 w.heap.size 24 #[.slice A l.length c] := by rw [← hW0]; exact (Blk.new _ _ _).alloc _
  have bR0 : Blk W0 (w.heap.size + 1) 29 #[.int .i64 0, .int .i64 0, .bool false] := by
    rw [← hW0]
    have := Blk.new (w.alloc (.cells #[.slice A l.length c] 24)) 29 #[.int .i64 0, .int .i64 0, .bool false]
    rwa [World.size_alloc] at this
  have HA := Lib.hid hA
  have hT0 := Lib.hid (tab_below (tab_lt hT) hT hb0)
  have cX0 : W0.cell? ⟨w.heap.size, 0, none⟩ = some (.slice A l.length c) := bX0.cell 0
  obtain ⟨E, hE⟩ : ∃ E, chkE l = E := ⟨_, rfl⟩
  obtain ⟨K, hK⟩ : ∃ K, rkN l key = K := ⟨_, rfl⟩
  obtain ⟨X1, hX1⟩ : ∃ X1, lsX l key = X1 := ⟨_, rfl⟩
  obtain ⟨G1, hG1⟩ : ∃ G1, lsE l key = G1 := ⟨_, rfl⟩
  rw [hX1, hG1]
  have HE := Lib.hid hE
  have HK := Lib.hid hK
  have HX1 := Lib.hid hX1
  have HG1 := Lib.hid hG1
  clear hA hT hE hK hX1 hG1
  go_enter Tryd.func40, Tryd.ntmps40
  go_wp2_with fail
  try rw [hW0]
  clear hW0 cX0
  refine (rank_any A l c key _ (HA.out.below hb0) hl hT0.out).mono ?_
  unfold GivesII
  rw [HE.out, HK.out]
  rintro e w1 ⟨rfl, hb1⟩
  have bR1 := bR0.below hb1 bR0.lt
  have bX1 := bX0.below hb1 bX0.lt
  have hb01 := bext hb0 hb1
  by_cases h0 : E = 0
  · subst h0
    have hl6 := (chk_ok HE.out).2.2
    have hKl : belK l key = K := by rw [← HK.out]; unfold rkN; rw [if_pos HE.out, low_is]
    have hKm : K ≤ l.length := by rw [← hKl]; exact belK_le l key
    have HKL := Lib.hid hKl
    clear hKl
    by_cases hend : K = 0
    · have hq : ((K : Int) == 0) = true := by simp [hend]
      have HXZ : Hid (X1 = zeroE) := by
        show _ = _
        rw [← HX1.out]; unfold lsX
        rw [if_pos HE.out, HKL.out, if_pos hend]
      have HGZ : Hid (G1 = 6) := by
        show _ = _
        rw [← HG1.out]; unfold lsE
        rw [if_pos HE.out, HKL.out, if_pos hend]
      have d0 : w1.cell? ⟨w.heap.size + 1, 0, none⟩ = some (.int .i64 0) := bR1.cell 0
      have d1 : w1.cell? ⟨w.heap.size + 1, 1, none⟩ = some (.int .i64 0) := bR1.cell 1
      have d2 : w1.cell? ⟨w.heap.size + 1, 2, none⟩ = some (.bool false) := bR1.cell 2
      have f0 := bR1.frozen 0
      have f1 := bR1.frozen 1
      have f2 := bR1.frozen 2
      clear hend
      go_wp2_with fail
      have bFz := put3 bR1 (.int .i64 0) (.int .i64 0) (.bool false)
      have e0z := bFz.cell 0
      have e1z := bFz.cell 1
      have e2z := bFz.cell 2
      simp only [List.getElem?_toArray, List.getElem?_cons_zero, List.getElem?_cons_succ] at e0z e1z e2z
      refine bodyPost_ret (v := .tuple #[.agg #[.int .i64 0, .int .i64 0, .bool false], .int .i64 6]) (by simp [results, Tryd.results40, go_sem, e0z, e1z, e2z]) rfl ?_
      rw [HXZ.out, HGZ.out]
      exact ⟨rfl, below3 hb01 (Nat.le_succ _) _ _ _⟩
    · obtain ⟨J, rfl⟩ : ∃ J, K = J + 1 := ⟨K - 1, by omega⟩
      have hJ : J < l.length := by omega
      have hJl : J < (inord l.length 0).length := by rw [inord_length]; exact hJ
      obtain ⟨x, hx⟩ : ∃ x, (inord l.length 0)[J]? = some x := ⟨_, List.getElem?_eq_getElem hJl⟩
      have hxn : x < l.length := inord_lt (List.mem_of_getElem? hx)
      have hgd : (inord l.length 0).getD J 0 = x := by simp [List.getD, hx]
      have hat := inAt_get hx hxn
      have HXZ : Hid (X1 = inAt l J) := by
        show _ = _
        rw [← HX1.out]; unfold lsX
        rw [if_pos HE.out, HKL.out, if_neg hend, Nat.add_sub_cancel]
      have HGZ : Hid (G1 = 0) := by
        show _ = _
        rw [← HG1.out]; unfold lsE
        rw [if_pos HE.out, HKL.out, if_neg hend]
      have hq : (((J + 1 : Nat) : Int) == 0) = false := beq_eq_false_iff_ne.2 (by omega)
      have hw5 : wrap64 (J : Int) = (J : Int) := IntWalk.wrap64_in (J : Int) (by omega)
      have cX1 : w1.cell? ⟨w.heap.size, 0, none⟩ = some (.slice A l.length c) := bX1.cell 0
      have HGD := Lib.hid hgd
      have HAT := Lib.hid hat
      clear hx hgd hat hend
      go_wp2_with fail
      refine (place_ok l.length J hl6 hJ _).mono ?_
      rw [HGD.out]
      rintro e w2 ⟨rfl, hb2⟩
      have bR1 := bR1.below hb2 bR1.lt
      have bX1 := bX1.below hb2 bX1.lt
      have hb02 := bext hb01 hb2
      obtain ⟨b, off, rfl, hbl, c1', c2', c3'⟩ := HA.out.entB hb02 x hxn
      rw [← HAT.out] at c1' c2' c3'
      obtain ⟨p, hp⟩ : ∃ p, inAt l J = p := ⟨_, rfl⟩
      rw [hp] at c1' c2' c3' HXZ
      clear cX1 hp
      have cX1 : w2.cell? ⟨w.heap.size, 0, none⟩ = some (.slice (some ⟨b, off, none⟩) l.length c) := bX1.cell 0
      have d0 : w2.cell? ⟨w.heap.size + 1, 0, none⟩ = some (.int .i64 0) := bR1.cell 0
      have d1 : w2.cell? ⟨w.heap.size + 1, 1, none⟩ = some (.int .i64 0) := bR1.cell 1
      have d2 : w2.cell? ⟨w.heap.size + 1, 2, none⟩ = some (.bool false) := bR1.cell 2
      have f0 := bR1.frozen 0
      have f1 := bR1.frozen 1
      have f2 := bR1.frozen 2
      have i0 : (0 : Int) ≤ (x : Int) := by omega
      have i1 : (x : Int) < (l.length : Int) := by omega
      go_wp2_with fail
      have bFy := put3 bR1 (.int .i64 p.key) (.int .i64 p.val) (.bool p.dead)
      have e0y := bFy.cell 0
      have e1y := bFy.cell 1
      have e2y := bFy.cell 2
      simp only [List.getElem?_toArray, List.getElem?_cons_zero, List.getElem?_cons_succ] at e0y e1y e2y
      refine bodyPost_ret (v := .tuple #[.agg #[.int .i64 p.key, .int .i64 p.val, .bool p.dead], .int .i64 0]) (by simp [results, Tryd.results40, go_sem, e0y, e1y, e2y]) rfl ?_
      rw [HXZ.out, HGZ.out]
      exact ⟨rfl, below3 hb02 (Nat.le_succ _) _ _ _⟩
  · have h1 : (E != 0) = true := by simpa using h0
    have HXZ : Hid (X1 = zeroE) := by show _ = _; rw [← HX1.out]; unfold lsX; rw [HE.out, if_neg h0]
    have HGZ : Hid (G1 = E) := by show _ = _; rw [← HG1.out]; unfold lsE; rw [HE.out, if_neg h0]
    have d0 : w1.cell? ⟨w.heap.size + 1, 0, none⟩ = some (.int .i64 0) := bR1.cell 0
    have d1 : w1.cell? ⟨w.heap.size + 1, 1, none⟩ = some (.int .i64 0) := bR1.cell 1
    have d2 : w1.cell? ⟨w.heap.size + 1, 2, none⟩ = some (.bool false) := bR1.cell 2
    have f0 := bR1.frozen 0
    have f1 := bR1.frozen 1
    have f2 := bR1.frozen 2
    clear h0
    go_wp2_with fail
    have bFw := put3 bR1 (.int .i64 0) (.int .i64 0) (.bool false)
    have e0w := bFw.cell 0
    have e1w := bFw.cell 1
    have e2w := bFw.cell 2
    simp only [List.getElem?_toArray, List.getElem?_cons_zero, List.getElem?_cons_succ] at e0w e1w e2w
    refine bodyPost_ret (v := .tuple #[.agg #[.int .i64 0, .int .i64 0, .bool false], .int .i64 E]) (by simp [results, Tryd.results40, go_sem, e0w, e1w, e2w]) rfl ?_
    rw [HXZ.out, HGZ.out]
    exact ⟨rfl, below3 hb01 (Nat.le_succ _) _ _ _⟩
end Go.Proofs.YtokomclcgegfkaaDoor
