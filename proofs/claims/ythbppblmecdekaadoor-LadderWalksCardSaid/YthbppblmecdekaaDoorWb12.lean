/- Rr Rv G5 Gc: texts of the claim, in this order. -/
import Derived.Test.YthbppblmecdekaaDoorWb11
import Derived.Test.YthbppblmecdekaaDoorWb9
/- Contracts: run.Pairs, Live, Next, Last, and the references'. -/
namespace Go.Proofs.YthbppblmecdekaaDoor
open Go Go.RowKit
set_option maxRecDepth 100000

/-! ### plain -/
theorem bel_in (l : List Ent) (key : Int) : belK (inL l) key = belK l key := (inL_perm l).countP_eq _
theorem low_is (l : List Ent) (key : Int) : lowK l key = belK l key := lowK_bel l key
def nxE (l : List Ent) (key : Int) : Int := if chkE l = 0 then (if belK l key = l.length then 6 else 0) else chkE l
def nxX (l : List Ent) (key : Int) : Ent := if chkE l = 0 then (inL l).getD (belK l key) zeroE else zeroE
def lsE (l : List Ent) (key : Int) : Int := if chkE l = 0 then (if belK l key = 0 then 6 else 0) else chkE l
def lsX (l : List Ent) (key : Int) : Ent := if chkE l = 0 then (if belK l key = 0 then zeroE else inAt l (belK l key - 1)) else zeroE
def prL (l : List Ent) : List Pr := if chkE l = 0 then plainE (inL l) else []
def lvN (l : List Ent) : Nat := if chkE l = 0 then (liveE l).length else 0
theorem pr_lv (l : List Ent) : (prL l).length = lvN l := by
  unfold prL lvN
  split
  · unfold plainE
    rw [List.length_map]
    exact ((inL_perm l).filter _).length_eq
  · rfl
theorem nx_low (l : List Ent) (key : Int) : nxE l key = lowE l key ∧ (lowE l key = 0 → lowAt l key < l.length ∧ nxX l key = entAt l (lowAt l key)) ∧ (lowE l key ≠ 0 → nxX l key = zeroE) := by
  unfold nxE nxX
  by_cases h : chkE l = 0
  · rw [if_pos h, if_pos h]
    by_cases hk : lowK l key = l.length
    · have h6 := (low_six h hk).1
      rw [low_is] at hk
      rw [if_pos hk, h6]
      refine ⟨rfl, fun hh => by omega, fun _ => ?_⟩
      rw [List.getD_eq_getElem?_getD, List.getElem?_eq_none (by rw [inL_length, hk]; exact Nat.le_refl _)]; rfl
    · have h0 := (low_at h hk).1
      obtain ⟨hlt, h1, h2⟩ := low_inE h hk
      rw [low_is] at hk
      rw [if_neg hk, h0]
      refine ⟨rfl, fun _ => ⟨h2, ?_⟩, fun hh => absurd rfl hh⟩
      rw [h1, ← bel_in, List.getD_eq_getElem?_getD, List.getElem?_eq_getElem hlt]; rfl
  · rw [if_neg h, if_neg h, (low_bad key h).1]
    exact ⟨rfl, fun hh => absurd hh h, fun _ => rfl⟩
/-- hands back pairs of the call's own, and an error -/
def GivesPrs (m : List Pr) (e : Int) (w : World) (r : Ending) (w' : World) : Prop :=
  ∃ A c, r = .returned (.tuple #[.slice A m.length c, .int .i64 e]) ∧ w'.ownsRow w.heap.size 56 2 (.slice A m.length c) m.length (m.flatMap Pr.cells) ∧ Below w.heap.size w w'

set_option maxHeartbeats 1000000 in
theorem runNext_any (A : Option Addr) (l : List Ent) (c : Nat) (key : Int) (w : World) (hA : Sl w A (l.flatMap Ent.cells)) (hl : l.length ≤ 4611686018427387903) (hT : TabAt 1 Lib.deBruijn64tab w) :
    Calls Tryd.prog 72 #[.agg #[.slice A l.length c], .int .i64 key] w (GivesX (nxX l key) (nxE l key) w) := by
  obtain ⟨W0, hW0⟩ : ∃ W0, (w.alloc (.cells #[.slice A l.length c] 61)).alloc (.cells #[.int .i64 0, .int .i64 0, .bool false] 27) = W0 := ⟨_, rfl⟩
  have hb0 : Below w.heap.size w W0 := by rw [← hW0]; exact ((Below.refl _ _).alloc (Nat.le_refl _) _).alloc (by simp) _
  have bX0 : Blk W0 w.heap.size 61 #[.slice A l.length c] := by rw [← hW0]; exact (Blk.new _ _ _).alloc _
  have bR0 : Blk W0 (w.heap.size + 1) 27 #[.int .i64 0, .int .i64 0, .bool false] := by
    rw [← hW0]
    have := Blk.new (w.alloc (.cells #[.slice A l.length c] 61)) 27 #[.int .i64 0, .int .i64 0, .bool false]
    rwa [World.size_alloc] at this
  have cX0 : W0.cell? ⟨w.heap.size, 0, none⟩ = some (.slice A l.length c) := bX0.cell 0
  have hT0 := Lib.hid (tab_below (tab_lt hT) hT hb0)
  have HA := Lib.hid hA
  obtain ⟨g1, g2, g3⟩ := nx_low l key
  obtain ⟨E, hE⟩ : ∃ E, nxE l key = E := ⟨_, rfl⟩
  obtain ⟨at_, hat⟩ : ∃ at_, lowAt l key = at_ := ⟨_, rfl⟩
  obtain ⟨p, hp⟩ : ∃ p, nxX l key = p := ⟨_, rfl⟩
  rw [hE, hp]
  rw [hE] at g1
  rw [← g1, hp, hat] at g2
  rw [← g1, hp] at g3
  have HG := Lib.hid (And.intro g1 (And.intro g2 g3))
  have HAT := Lib.hid hat
  clear hE hat hp g1 g2 g3 hA hT
  go_enter Tryd.func72, Tryd.ntmps72
  go_wp2_with fail
  try rw [hW0]
  clear hW0 cX0
  refine (lower_any A l c key _ (HA.out.below hb0) hl hT0.out).mono ?_
  unfold GivesII
  rw [← HG.out.1, HAT.out]
  rintro e w1 ⟨rfl, hb1⟩
  have bX1 := bX0.below hb1 bX0.lt
  have bR1 := bR0.below hb1 bR0.lt
  have hb01 := bext hb0 hb1
  have cX1 : w1.cell? ⟨w.heap.size, 0, none⟩ = some (.slice A l.length c) := bX1.cell 0
  have d0 : w1.cell? ⟨w.heap.size + 1, 0, none⟩ = some (.int .i64 0) := bR1.cell 0
  have d1 : w1.cell? ⟨w.heap.size + 1, 1, none⟩ = some (.int .i64 0) := bR1.cell 1
  have d2 : w1.cell? ⟨w.heap.size + 1, 2, none⟩ = some (.bool false) := bR1.cell 2
  have f0 := bR1.frozen 0
  have f1 := bR1.frozen 1
  have f2 := bR1.frozen 2
  by_cases h0 : E = 0
  · subst h0
    obtain ⟨hlt, hpe⟩ := HG.out.2.1 rfl
    rw [entAt_get hlt] at hpe
    obtain ⟨b, off, rfl, hbl, c1, c2, c3⟩ := HA.out.entB hb01 at_ hlt
    rw [← hpe] at c1 c2 c3
    have i0 : (0 : Int) ≤ (at_ : Int) := by omega
    have i1 : (at_ : Int) < (l.length : Int) := by omega
    clear hpe
    go_wp2_with fail
    have bFy := put3 bR1 (.int .i64 p.key) (.int .i64 p.val) (.bool p.dead)
    have e0y := bFy.cell 0
    have e1y := bFy.cell 1
    have e2y := bFy.cell 2
    simp only [List.getElem?_toArray, List.getElem?_cons_zero, List.getElem?_cons_succ] at e0y e1y e2y
    refine bodyPost_ret (v := .tuple #[.agg #[.int .i64 p.key, .int .i64 p.val, .bool p.dead], .int .i64 0]) (by simp [results, Tryd.results72, go_sem, e0y, e1y, e2y]) rfl ?_
    exact ⟨rfl, below3 hb01 (Nat.le_succ _) _ _ _⟩
  · have hz := HG.out.2.2 h0
    subst hz
    have h1 : (E != 0) = true := by simpa using h0
    clear h0
    go_wp2_with fail
    have bFz := put3 bR1 (.int .i64 0) (.int .i64 0) (.bool false)
    have e0z := bFz.cell 0
    have e1z := bFz.cell 1
    have e2z := bFz.cell 2
    simp only [List.getElem?_toArray, List.getElem?_cons_zero, List.getElem?_cons_succ] at e0z e1z e2z
    refine bodyPost_ret (v := .tuple #[.agg #[.int .i64 0, .int .i64 0, .bool false], .int .i64 E]) (by simp [results, Tryd.results72, go_sem, e0z, e1z, e2z]) rfl ?_
    exact ⟨rfl, below3 hb01 (Nat.le_succ _) _ _ _⟩

set_option maxHeartbeats 1000000 in
theorem all_bad (A : Option Addr) (l : List Ent) (c : Nat) (w : World) (hA : Sl w A (l.flatMap Ent.cells)) (hl : l.length ≤ 4611686018427387903) (hC : ¬ chkE l = 0) :
    Calls Tryd.prog 89 #[.agg #[.slice A l.length c], .func (.func 90) #[] #[], .func (.func 91) #[] #[]] w (GivesPrs [] (chkE l) w) := by
  obtain ⟨E, hE⟩ : ∃ E, chkE l = E := ⟨_, rfl⟩
  rw [hE] at hC ⊢
  have HE := Lib.hid hE
  have h1 : (E != 0) = true := by simpa using hC
  have HA := Lib.hid hA
  clear hE hC hA
  refine calls_of_in (_F := Fence.wide) ?_
  have hdd : ∀ k : Nat, (Fence.wide.depth.isSome = true → 1 ≤ k) := fun k h => by cases h
  have hwf : ∀ f, Fence.wide.fn f := fun _ => trivial
  have hdp : Fence.wide.depth = none := rfl
  have hro : Fence.wide.round = none := rfl
  obtain ⟨W0, hW0⟩ : ∃ W0, (((w.alloc (.cells #[.slice A l.length c] 61)).alloc (.cells #[.func (.func 90) #[] #[]] 133)).alloc (.cells #[.func (.func 91) #[] #[]] 134)).alloc (.cells #[.slice none 0 0] 38) = W0 := ⟨_, rfl⟩
  have hb0 : Below w.heap.size w W0 := by
    rw [← hW0]; exact ((((Below.refl _ w).alloc (Nat.le_refl _) _).alloc (by simp) _).alloc (by simp; omega) _).alloc (by simp; omega) _
  have k3 : Blk W0 w.heap.size 61 #[.slice A l.length c] := by rw [← hW0]; exact (((Blk.new w _ _).alloc _).alloc _).alloc _
  have k6 : Blk W0 (w.heap.size + 1 + 1 + 1) 38 #[.slice none 0 0] := by
    rw [← hW0]
    have := Blk.new (((w.alloc (.cells #[.slice A l.length c] 61)).alloc (.cells #[.func (.func 90) #[] #[]] 133)).alloc (.cells #[.func (.func 91) #[] #[]] 134)) 38 #[.slice none 0 0]
    rwa [World.size_alloc, World.size_alloc, World.size_alloc] at this
  have c3 : W0.cell? ⟨w.heap.size, 0, none⟩ = some (.slice A l.length c) := k3.cell 0
  refine callsIn_of_wp_marks Tryd.func89 rfl (hwf _) ?_ hro
  simp only [Tryd.ntmps89, List.size_toArray, List.length_cons, List.length_nil, Nat.reduceAdd, Nat.reduceSub, Array.replicate_succ, Array.replicate_zero, List.push_toArray, List.append_toArray, List.nil_append, List.cons_append]
  gi_wp2_with fail
  try rw [hW0]
  clear hW0
  (try first | refine ⟨hdp, ?_⟩ | refine ⟨hdd _, ?_⟩)
  refine (callsIn_wide.2 (check_any A l c _ (HA.out.below hb0) hl)).mono ?_
  rw [HE.out]
  rintro e w1 ⟨rfl, hb1⟩
  have hb01 := bext hb0 hb1
  have k61 := k6.below hb1 k6.lt
  have c6 : w1.cell? ⟨w.heap.size + 1 + 1 + 1, 0, none⟩ = some (.slice none 0 0) := k61.cell 0
  have f6 := k61.frozen 0
  have e6 : (w1.setCell ⟨w.heap.size + 1 + 1 + 1, 0, none⟩ (.slice none 0 0)).cell? ⟨w.heap.size + 1 + 1 + 1, 0, none⟩ = some (.slice none 0 0) := (k61.set_ 0 _).cell 0
  clear c3 k3 k6
  gi_wp2_with fail
  refine ⟨.tuple #[.slice none 0 0, .int .i64 E], by simp [results, Tryd.results89, go_sem, e6], none, 0, rfl, World.ownsRow_nil _ _ _ _, ?_⟩
  exact hb01.setCell (p := ⟨w.heap.size + 1 + 1 + 1, 0, none⟩) (by show w.heap.size ≤ w.heap.size + 1 + 1 + 1; omega) _
set_option maxHeartbeats 1000000 in
theorem pairs_any (A : Option Addr) (l : List Ent) (c : Nat) (w : World) (hA : Sl w A (l.flatMap Ent.cells)) (hl : l.length ≤ 4611686018427387903) :
    Calls Tryd.prog 56 #[.agg #[.slice A l.length c]] w (GivesPrs (prL l) (chkE l) w) := by
  have hb0 : Below w.heap.size w (w.alloc (.cells #[.slice A l.length c] 61)) := (Below.refl _ _).alloc (Nat.le_refl _) _
  have hall : ∀ W, Below w.heap.size w W → Calls Tryd.prog 89 #[.agg #[.slice A l.length c], .func (.func 90) #[] #[], .func (.func 91) #[] #[]] W (GivesPrs (prL l) (chkE l) W) := by
    intro W hW
    by_cases hC : chkE l = 0
    · have h := all_ok A l c W (hA.below hW) hC
      have h2 : prL l = plainE (inL l) := by unfold prL; rw [if_pos hC]
      rw [h2, hC]
      exact h
    · have h2 : prL l = [] := by unfold prL; rw [if_neg hC]
      rw [h2]
      exact all_bad A l c W (hA.below hW) hl hC
  have HALL := Lib.hid hall
  obtain ⟨E, hE⟩ : ∃ E, chkE l = E := ⟨_, rfl⟩
  obtain ⟨m, hm⟩ : ∃ m, prL l = m := ⟨_, rfl⟩
  rw [hE, hm]
  rw [hE, hm] at HALL
  clear hE hm hall
  go_enter Tryd.func56, Tryd.ntmps56
  go_wp2_with fail
  refine (HALL.out _ hb0).mono ?_
  rintro e w1 ⟨A1, c1, rfl, ho1, hb1⟩
  have HO := Lib.hid (own_mono ho1 hb0.size)
  clear ho1
  go_wp2
  refine bodyPost_ret (v := .tuple #[.slice A1 m.length c1, .int .i64 E]) (by simp [results, Tryd.results56, go_sem]) rfl ?_
  exact ⟨A1, c1, rfl, HO.out, bext hb0 hb1⟩

set_option maxHeartbeats 1000000 in
theorem live_any (A : Option Addr) (l : List Ent) (c : Nat) (w : World) (hA : Sl w A (l.flatMap Ent.cells)) (hl : l.length ≤ 4611686018427387903) :
    Calls Tryd.prog 52 #[.agg #[.slice A l.length c]] w (GivesII (lvN l) (chkE l) w) := by
  have hb0 : Below w.heap.size w (w.alloc (.cells #[.slice A l.length c] 61)) := (Below.refl _ _).alloc (Nat.le_refl _) _
  have bX := Blk.new w 61 #[.slice A l.length c]
  have HA := Lib.hid hA
  obtain ⟨E, hE⟩ : ∃ E, chkE l = E := ⟨_, rfl⟩
  have HE := Lib.hid hE
  rw [hE]
  obtain ⟨N, hN⟩ : ∃ N, lvN l = N := ⟨_, rfl⟩
  have HN := Lib.hid hN
  rw [hN]
  clear hA hE hN
  go_enter Tryd.func52, Tryd.ntmps52
  go_wp2_with fail
  refine (check_any A l c _ (HA.out.below hb0) hl).mono ?_
  rw [HE.out]
  rintro e w1 ⟨rfl, hb1⟩
  have hb01 := bext hb0 hb1
  have bX1 := bX.below hb1 bX.lt
  have c0 : w1.cell? ⟨w.heap.size, 0, none⟩ = some (.slice A l.length c) := bX1.cell 0
  clear bX
  by_cases h0 : E = 0
  · subst h0
    have HNL : Hid (N = (liveE l).length) := by show _ = _; rw [← HN.out]; unfold lvN; rw [if_pos HE.out]
    go_wp2
    go_loopw [2, 15] (fun v i wr => ∃ k s : Nat, k ≤ l.length ∧ i = .int .i64 k ∧ v = .int .i64 s ∧ Below w1.heap.size w1 wr ∧ Hid (s = (liveE (l.take k)).length)) (fun _ i _ => l.length - (intOf i).toNat)
    case atStart => exact ⟨0, 0, Nat.zero_le _, rfl, rfl, Below.refl _ _, rfl⟩
    case round =>
      clear c0
      obtain ⟨k, s, hk, rfl, rfl, hb, hs⟩ := hrel
      have hsk : s ≤ k := by rw [hs.out]; have := live_le (l.take k); simp at this; omega
      by_cases hlt : k < l.length
      · obtain ⟨b, off, rfl, hbl, c1, c2, c3⟩ := HA.out.entB (bext hb01 hb) k hlt
        have hls := live_succ hlt
        obtain ⟨x, hx⟩ : ∃ x, l[k]'hlt = x := ⟨_, rfl⟩
        rw [hx] at c1 c2 c3 hls
        have i0 : (0 : Int) ≤ (k : Int) := by omega
        have i1 : (k : Int) < (l.length : Int) := by omega
        have ba : Below wr.heap.size wr (wr.alloc (.cells #[.int .i64 x.key, .int .i64 x.val, .bool x.dead] 27)) := (Below.refl _ _).alloc (Nat.le_refl _) _
        have HBA := Lib.hid ba
        clear ba hx
        cases hd : x.dead
        · rw [hd] at c3 hls HBA
          have HLS : Hid (s + 1 = (liveE (l.take (k + 1))).length) := by show _ = _; rw [hls, hs.out]; simp
          clear hls hd
          go_wp2_with fail
          go_roundw
          case rel => exact ⟨k + 1, s + 1, by omega, by go_num, by go_num, bext hb HBA.out, HLS⟩
          case measure => simp [intOf]; omega
        · rw [hd] at c3 hls HBA
          have HLS : Hid (s = (liveE (l.take (k + 1))).length) := by show _ = _; rw [hls, hs.out]; simp
          clear hls hd
          go_wp2_with fail
          go_roundw
          case rel => exact ⟨k + 1, s, by omega, by go_num, rfl, bext hb HBA.out, HLS⟩
          case measure => simp [intOf]; omega
      · have HS : Hid (s = N) := by show _ = _; rw [HNL.out, hs.out, List.take_of_length_le (by omega)]
        go_wp2
        refine bodyPost_ret (v := .tuple #[.int .i64 (s : Nat), .int .i64 0]) (by simp [results, Tryd.results52, go_sem]) rfl ?_
        rw [← HS.out]
        exact ⟨rfl, bext hb01 hb⟩
  · have h1 : (E != 0) = true := by simpa using h0
    have HNL : Hid (N = 0) := by show _ = _; rw [← HN.out]; unfold lvN; rw [HE.out, if_neg h0]
    clear h0 c0
    go_wp2
    refine bodyPost_ret (v := .tuple #[.int .i64 0, .int .i64 E]) (by simp [results, Tryd.results52, go_sem]) rfl ?_
    rw [HNL.out]
    exact ⟨rfl, hb01⟩




set_option maxHeartbeats 1000000 in
theorem runLast_any (A : Option Addr) (l : List Ent) (c : Nat) (key : Int) (w : World) (hA : Sl w A (l.flatMap Ent.cells)) (hl : l.length ≤ 4611686018427387903) (hT : TabAt 1 Lib.deBruijn64tab w) :
    Calls Tryd.prog 75 #[.agg #[.slice A l.length c], .int .i64 key] w (GivesX (lsX l key) (lsE l key) w) := by
  obtain ⟨W0, hW0⟩ : ∃ W0, (w.alloc (.cells #[.slice A l.length c] 61)).alloc (.cells #[.int .i64 0, .int .i64 0, .bool false] 27) = W0 := ⟨_, rfl⟩
  have hb0 : Below w.heap.size w W0 := by rw [← hW0]; exact ((Below.refl _ _).alloc (Nat.le_refl _) _).alloc (by simp) _
  have bX0 : Blk W0 w.heap.size 61 #[.slice A l.length c] := by rw [← hW0]; exact (Blk.new _ _ _).alloc _
  have bR0 : Blk W0 (w.heap.size + 1) 27 #[.int .i64 0, .int .i64 0, .bool false] := by
    rw [← hW0]
    have := Blk.new (w.alloc (.cells #[.slice A l.length c] 61)) 27 #[.int .i64 0, .int .i64 0, .bool false]
    rwa [World.size_alloc] at this
  have HA := Lib.hid hA
  have hT0 := Lib.hid (tab_below (tab_lt hT) hT hb0)
  have cX0 : W0.cell? ⟨w.heap.size, 0, none⟩ = some (.slice A l.length c) := bX0.cell 0
  obtain ⟨E, hE⟩ : ∃ E, chkE l = E := ⟨_, rfl⟩
  obtain ⟨K, hK⟩ : ∃ K, rkN l key = K := ⟨_, rfl⟩
  obtain ⟨X1, hX1⟩ : ∃ X1, lsX l key = X1 := ⟨_, rfl⟩
  obtain ⟨G1, hG1⟩ : ∃ G1, lsE l key = G1 := ⟨_, rfl⟩
  rw [hX1, hG1]
  have HE := Lib.hid hE
  have HK := Lib.hid hK
  have HX1 := Lib.hid hX1
  have HG1 := Lib.hid hG1
  clear hA hT hE hK hX1 hG1
  go_enter Tryd.func75, Tryd.ntmps75
  go_wp2_with fail
  try rw [hW0]
  clear hW0 cX0
  refine (rank_any A l c key _ (HA.out.below hb0) hl hT0.out).mono ?_
  unfold GivesII
  rw [HE.out, HK.out]
  rintro e w1 ⟨rfl, hb1⟩
  have bR1 := bR0.below hb1 bR0.lt
  have bX1 := bX0.below hb1 bX0.lt
  have hb01 := bext hb0 hb1
  by_cases h0 : E = 0
  · subst h0
    have hl6 := (chk_ok HE.out).2.2
    have hKl : belK l key = K := by rw [← HK.out]; unfold rkN; rw [if_pos HE.out, low_is]
    have hKm : K ≤ l.length := by rw [← hKl]; exact belK_le l key
    have HKL := Lib.hid hKl
    clear hKl
    by_cases hend : K = 0
    · have hq : ((K : Int) == 0) = true := by simp [hend]
      have HXZ : Hid (X1 = zeroE) := by
        show _ = _
        rw [← HX1.out]; unfold lsX
        rw [if_pos HE.out, HKL.out, if_pos hend]
      have HGZ : Hid (G1 = 6) := by
        show _ = _
        rw [← HG1.out]; unfold lsE
        rw [if_pos HE.out, HKL.out, if_pos hend]
      have d0 : w1.cell? ⟨w.heap.size + 1, 0, none⟩ = some (.int .i64 0) := bR1.cell 0
      have d1 : w1.cell? ⟨w.heap.size + 1, 1, none⟩ = some (.int .i64 0) := bR1.cell 1
      have d2 : w1.cell? ⟨w.heap.size + 1, 2, none⟩ = some (.bool false) := bR1.cell 2
      have f0 := bR1.frozen 0
      have f1 := bR1.frozen 1
      have f2 := bR1.frozen 2
      clear hend
      go_wp2_with fail
      have bFz := put3 bR1 (.int .i64 0) (.int .i64 0) (.bool false)
      have e0z := bFz.cell 0
      have e1z := bFz.cell 1
      have e2z := bFz.cell 2
      simp only [List.getElem?_toArray, List.getElem?_cons_zero, List.getElem?_cons_succ] at e0z e1z e2z
      refine bodyPost_ret (v := .tuple #[.agg #[.int .i64 0, .int .i64 0, .bool false], .int .i64 6]) (by simp [results, Tryd.results75, go_sem, e0z, e1z, e2z]) rfl ?_
      rw [HXZ.out, HGZ.out]
      exact ⟨rfl, below3 hb01 (Nat.le_succ _) _ _ _⟩
    · obtain ⟨J, rfl⟩ : ∃ J, K = J + 1 := ⟨K - 1, by omega⟩
      have hJ : J < l.length := by omega
      have hJl : J < (inord l.length 0).length := by rw [inord_length]; exact hJ
      obtain ⟨x, hx⟩ : ∃ x, (inord l.length 0)[J]? = some x := ⟨_, List.getElem?_eq_getElem hJl⟩
      have hxn : x < l.length := inord_lt (List.mem_of_getElem? hx)
      have hgd : (inord l.length 0).getD J 0 = x := by simp [List.getD, hx]
      have hat := inAt_get hx hxn
      have HXZ : Hid (X1 = inAt l J) := by
        show _ = _
        rw [← HX1.out]; unfold lsX
        rw [if_pos HE.out, HKL.out, if_neg hend, Nat.add_sub_cancel]
      have HGZ : Hid (G1 = 0) := by
        show _ = _
        rw [← HG1.out]; unfold lsE
        rw [if_pos HE.out, HKL.out, if_neg hend]
      have hq : (((J + 1 : Nat) : Int) == 0) = false := beq_eq_false_iff_ne.2 (by omega)
      have hw5 : wrap64 (J : Int) = (J : Int) := IntWalk.wrap64_in (J : Int) (by omega)
      have cX1 : w1.cell? ⟨w.heap.size, 0, none⟩ = some (.slice A l.length c) := bX1.cell 0
      have HGD := Lib.hid hgd
      have HAT := Lib.hid hat
      clear hx hgd hat hend
      go_wp2_with fail
      refine (place_ok l.length J hl6 hJ _).mono ?_
      rw [HGD.out]
      rintro e w2 ⟨rfl, hb2⟩
      have bR1 := bR1.below hb2 bR1.lt
      have bX1 := bX1.below hb2 bX1.lt
      have hb02 := bext hb01 hb2
      obtain ⟨b, off, rfl, hbl, c1', c2', c3'⟩ := HA.out.entB hb02 x hxn
      rw [← HAT.out] at c1' c2' c3'
      obtain ⟨p, hp⟩ : ∃ p, inAt l J = p := ⟨_, rfl⟩
      rw [hp] at c1' c2' c3' HXZ
      clear cX1 hp
      have cX1 : w2.cell? ⟨w.heap.size, 0, none⟩ = some (.slice (some ⟨b, off, none⟩) l.length c) := bX1.cell 0
      have d0 : w2.cell? ⟨w.heap.size + 1, 0, none⟩ = some (.int .i64 0) := bR1.cell 0
      have d1 : w2.cell? ⟨w.heap.size + 1, 1, none⟩ = some (.int .i64 0) := bR1.cell 1
      have d2 : w2.cell? ⟨w.heap.size + 1, 2, none⟩ = some (.bool false) := bR1.cell 2
      have f0 := bR1.frozen 0
      have f1 := bR1.frozen 1
      have f2 := bR1.frozen 2
      have i0 : (0 : Int) ≤ (x : Int) := by omega
      have i1 : (x : Int) < (l.length : Int) := by omega
      go_wp2_with fail
      have bFy := put3 bR1 (.int .i64 p.key) (.int .i64 p.val) (.bool p.dead)
      have e0y := bFy.cell 0
      have e1y := bFy.cell 1
      have e2y := bFy.cell 2
      simp only [List.getElem?_toArray, List.getElem?_cons_zero, List.getElem?_cons_succ] at e0y e1y e2y
      refine bodyPost_ret (v := .tuple #[.agg #[.int .i64 p.key, .int .i64 p.val, .bool p.dead], .int .i64 0]) (by simp [results, Tryd.results75, go_sem, e0y, e1y, e2y]) rfl ?_
      rw [HXZ.out, HGZ.out]
      exact ⟨rfl, below3 hb02 (Nat.le_succ _) _ _ _⟩
  · have h1 : (E != 0) = true := by simpa using h0
    have HXZ : Hid (X1 = zeroE) := by show _ = _; rw [← HX1.out]; unfold lsX; rw [HE.out, if_neg h0]
    have HGZ : Hid (G1 = E) := by show _ = _; rw [← HG1.out]; unfold lsE; rw [HE.out, if_neg h0]
    have d0 : w1.cell? ⟨w.heap.size + 1, 0, none⟩ = some (.int .i64 0) := bR1.cell 0
    have d1 : w1.cell? ⟨w.heap.size + 1, 1, none⟩ = some (.int .i64 0) := bR1.cell 1
    have d2 : w1.cell? ⟨w.heap.size + 1, 2, none⟩ = some (.bool false) := bR1.cell 2
    have f0 := bR1.frozen 0
    have f1 := bR1.frozen 1
    have f2 := bR1.frozen 2
    clear h0
    go_wp2_with fail
    have bFw := put3 bR1 (.int .i64 0) (.int .i64 0) (.bool false)
    have e0w := bFw.cell 0
    have e1w := bFw.cell 1
    have e2w := bFw.cell 2
    simp only [List.getElem?_toArray, List.getElem?_cons_zero, List.getElem?_cons_succ] at e0w e1w e2w
    refine bodyPost_ret (v := .tuple #[.agg #[.int .i64 0, .int .i64 0, .bool false], .int .i64 E]) (by simp [results, Tryd.results75, go_sem, e0w, e1w, e2w]) rfl ?_
    rw [HXZ.out, HGZ.out]
    exact ⟨rfl, below3 hb01 (Nat.le_succ _) _ _ _⟩
end Go.Proofs.YthbppblmecdekaaDoor

/- The plain law behind RunWhole: what Get, Pairs, Next and Last answer together. -/
namespace Go.Proofs.YthbppblmecdekaaDoor
open Go Go.RowKit
set_option maxRecDepth 100000

theorem ris_le {m : List Ent} (h : RisE m) {i j : Nat} (hij : i ≤ j) (hj : j < m.length) : (m[i]'(by omega)).key ≤ (m[j]'hj).key := by
  by_cases he : i = j
  · subst he; exact Int.le_refl _
  · exact Int.le_of_lt (List.pairwise_iff_getElem.1 h i j (by omega) hj (by omega))
theorem nx_yes {l : List Ent} {key : Int} (h : chkE l = 0) (hB : belK (inL l) key < (inL l).length) : nxE l key = 0 ∧ nxX l key = (inL l)[belK (inL l) key]'hB := by
  have hl := inL_length l
  rw [← hl] at *
  unfold nxE nxX
  rw [if_pos h, if_pos h, ← bel_in, if_neg (by rw [← inL_length l]; omega), List.getD_eq_getElem?_getD, List.getElem?_eq_getElem hB]
  exact ⟨rfl, rfl⟩
theorem nx_no {l : List Ent} {key : Int} (h : chkE l = 0) (hB : ¬ belK (inL l) key < (inL l).length) : nxE l key = 6 ∧ nxX l key = zeroE := by
  have hB2 := belK_le (inL l) key
  unfold nxE nxX
  rw [if_pos h, if_pos h, ← bel_in, if_pos (by rw [← inL_length l]; omega), List.getD_eq_getElem?_getD, List.getElem?_eq_none (by omega)]
  exact ⟨rfl, rfl⟩
theorem ls_yes {l : List Ent} {key : Int} (h : chkE l = 0) (hB : 0 < belK (inL l) key) : lsE l key = 0 ∧ lsX l key = (inL l)[belK (inL l) key - 1]'(by have := belK_le (inL l) key; omega) := by
  have hB2 := belK_le (inL l) key
  unfold lsE lsX inAt
  rw [if_pos h, if_pos h, ← bel_in, if_neg (by omega), if_neg (by omega), List.getD_eq_getElem?_getD, List.getElem?_eq_getElem (by omega)]
  exact ⟨rfl, rfl⟩
theorem ls_no {l : List Ent} {key : Int} (h : chkE l = 0) (hB : ¬ 0 < belK (inL l) key) : lsE l key = 6 := by
  unfold lsE
  rw [if_pos h, ← bel_in, if_pos (by omega)]
theorem gt_in {l : List Ent} (h : chkE l = 0) (key : Int) : gtE l key = (if (look (inL l) key).isSome then 0 else 6) ∧ gtX l key = (look (inL l) key).getD zeroE := by
  unfold gtE gtX
  rw [if_pos h, if_pos h, look_in h]
  exact ⟨rfl, rfl⟩
/-- an entry's rank says whether its key is below -/
theorem in_rank {l : List Ent} (h : chkE l = 0) (key : Int) {i : Nat} (hi : i < l.length) : ∃ (j : Nat) (hj : j < (inL l).length), (inL l)[j]'hj = l[i]'hi ∧ ((l[i]'hi).key < key ↔ j < belK (inL l) key) := by
  have hm : l[i]'hi ∈ inL l := (inL_perm l).mem_iff.2 (List.getElem_mem hi)
  obtain ⟨j, hj, he⟩ := List.getElem_of_mem hm
  exact ⟨j, hj, he, by rw [← he]; exact ris_count key (chk_ris h) j hj⟩
theorem mem_plain {m : List Ent} {k v : Int} : (⟨k, v⟩ : Pr) ∈ plainE m ↔ (⟨k, v, false⟩ : Ent) ∈ m := by
  unfold plainE liveE
  rw [List.mem_map]
  constructor
  · rintro ⟨⟨k', v', d'⟩, he, hq⟩
    obtain ⟨h1, h2⟩ := List.mem_filter.1 he
    injection hq with h3 h4
    subst h3 h4
    cases d'
    · exact h1
    · simp at h2
  · intro hq
    exact ⟨_, List.mem_filter.2 ⟨hq, rfl⟩, rfl⟩
structure WholeOk (l : List Ent) (key : Int) : Prop where
  lo : ∀ i (h : i < l.length), key ≤ (l[i]'h).key → nxE l key = 0 ∧ (nxX l key).key ≤ (l[i]'h).key
  hi : ∀ i (h : i < l.length), (l[i]'h).key < key → lsE l key = 0 ∧ (l[i]'h).key ≤ (lsX l key).key
  met : decide ((⟨key, (gtX l key).val⟩ : Pr) ∈ prL l) = (decide (gtE l key = 0) && !(gtX l key).dead)
  there : decide (gtE l key = 0) = (decide (nxE l key = 0) && decide ((nxX l key).key = key))
  same : gtE l key = 0 → gtX l key = nxX l key
  last : lsE l key = 0 → (lsX l key).key < key
theorem whole {l : List Ent} (h : chkE l = 0) (key : Int) : WholeOk l key := by
  have hr := chk_ris h
  have hBl := belK_le (inL l) key
  have hiff : ((⟨key, (gtX l key).val⟩ : Pr) ∈ prL l) ↔ (gtE l key = 0 ∧ (gtX l key).dead = false) := by
    obtain ⟨h1, h2⟩ := gt_in h key
    rw [h1, h2]
    unfold prL
    rw [if_pos h, mem_plain]
    cases ho : look (inL l) key with
    | none =>
      have hn := look_isNone ho
      exact ⟨fun hm => absurd rfl (hn _ hm), fun hm => by simp at hm⟩
    | some e =>
      obtain ⟨hk, hm⟩ := look_key ho
      obtain ⟨k, v, d⟩ := e
      obtain rfl : k = key := hk
      refine ⟨fun hx => ⟨rfl, ?_⟩, fun hx => ?_⟩
      · have := look_mem hr hx
        rw [show (⟨k, ((some ⟨k, v, d⟩).getD zeroE : Ent).val, false⟩ : Ent).key = k from rfl, ho] at this
        simp at this
        exact this
      · have : d = false := hx.2
        subst this
        exact hm
  have hmet : decide ((⟨key, (gtX l key).val⟩ : Pr) ∈ prL l) = (decide (gtE l key = 0) && !(gtX l key).dead) := by
    rw [Bool.eq_iff_iff]
    simp [hiff]
  refine ⟨fun i hi hk => ?_, fun i hi hk => ?_, hmet, ?_, fun hg => ?_, fun hg => ?_⟩
  · obtain ⟨j, hj, he, hi2⟩ := in_rank h key hi
    have hB : belK (inL l) key ≤ j := by
      by_cases hx : j < belK (inL l) key
      · have := hi2.2 hx; omega
      · omega
    obtain ⟨h1, h2⟩ := nx_yes (key := key) h (by omega)
    exact ⟨h1, by rw [h2, ← he]; exact ris_le hr hB hj⟩
  · obtain ⟨j, hj, he, hi2⟩ := in_rank h key hi
    have hB := hi2.1 hk
    obtain ⟨h1, h2⟩ := ls_yes (key := key) h (by omega)
    exact ⟨h1, by rw [h2, ← he]; exact ris_le hr (by omega) (by omega)⟩
  · obtain ⟨h1, _⟩ := gt_in h key
    rw [h1]
    cases ho : look (inL l) key with
    | none =>
      have hn := look_isNone ho
      by_cases hB : belK (inL l) key < (inL l).length
      · obtain ⟨h3, h4⟩ := nx_yes (key := key) h hB
        rw [h3, h4, decide_eq_false (hn _ (List.getElem_mem hB))]
        rfl
      · rw [(nx_no (key := key) h hB).1]; rfl
    | some e =>
      obtain ⟨hk, hm⟩ := look_key ho
      obtain ⟨j, hj, he⟩ := List.getElem_of_mem hm
      have h5 := ris_count key hr j hj
      rw [he, hk] at h5
      have h6 : belK (inL l) key ≤ j := by
        by_cases hx : j < belK (inL l) key
        · have := h5.2 hx; omega
        · omega
      have hB : belK (inL l) key < (inL l).length := by omega
      obtain ⟨h3, h4⟩ := nx_yes (key := key) h hB
      have h7 := ris_le hr h6 hj
      have h8 := ris_count key hr _ hB
      rw [he, hk] at h7
      have h9 : ((inL l)[belK (inL l) key]'hB).key = key := by omega
      rw [h3, h4, decide_eq_true h9]
      rfl
  · obtain ⟨h1, h2⟩ := gt_in h key
    rw [h1] at hg
    rw [h2]
    cases ho : look (inL l) key with
    | none => rw [ho] at hg; simp at hg
    | some e =>
      obtain ⟨hk, hm⟩ := look_key ho
      obtain ⟨j, hj, he⟩ := List.getElem_of_mem hm
      have h5 := ris_count key hr j hj
      rw [he, hk] at h5
      have h6 : belK (inL l) key ≤ j := by
        by_cases hx : j < belK (inL l) key
        · have := h5.2 hx; omega
        · omega
      have hB : belK (inL l) key < (inL l).length := by omega
      obtain ⟨h3, h4⟩ := nx_yes (key := key) h hB
      rw [h4]
      have h8 := ris_count key hr _ hB
      have hjB : belK (inL l) key = j := by
        by_cases hx : belK (inL l) key = j
        · exact hx
        · have := List.pairwise_iff_getElem.1 hr (belK (inL l) key) j hB hj (by omega)
          rw [he, hk] at this
          omega
      show e = _
      rw [← he]
      congr 1
      exact hjB.symm
  · by_cases hB : 0 < belK (inL l) key
    · obtain ⟨h3, h4⟩ := ls_yes (key := key) h hB
      rw [h4]
      exact (ris_count key hr _ _).2 (by omega)
    · rw [ls_no h hB] at hg; cases hg
theorem ls_bad {l : List Ent} {key : Int} (h : ¬ chkE l = 0) : gtE l key = chkE l ∧ prL l = [] := by
  unfold gtE prL
  rw [if_neg h, if_neg h]
  exact ⟨rfl, rfl⟩
end Go.Proofs.YthbppblmecdekaaDoor

/- Contracts: which levels may be (rungs.Check), how many entries there are. -/
namespace Go.Proofs.YthbppblmecdekaaDoor
open Go Go.RowKit
set_option maxRecDepth 100000

/-- levels, their runs in memory -/
abbrev lvs (Rs : List Rm) : Lv := Rs.map Rm.l
theorem lvs_len (Rs : List Rm) : (lvs Rs).length = Rs.length := by simp
theorem lvs_lev {Rs : List Rm} {k : Nat} (h : k < Rs.length) : lev (lvs Rs) k = (Rs[k]'h).l := by rw [lev_lt (by simpa using h)]; simp
theorem tot_take_succ {rs : Lv} {k : Nat} (h : k < rs.length) : tot (rs.take (k + 1)) = tot (rs.take k) + (lev rs k).length := by
  rw [List.take_succ_eq_append_getElem h, tot_snoc, lev_lt h]
theorem tot_take_le : ∀ (rs : Lv) (k : Nat), tot (rs.take k) ≤ tot rs
  | [], k => by simp [tot]
  | l :: rs, 0 => by simp [tot]
  | l :: rs, k + 1 => by
    have := tot_take_le rs k
    rw [List.take_succ_cons, tot_cons, tot_cons]; omega
theorem tot_rs (Rs : List Rm) : tot (lvs Rs) = (Rs.map (fun r => r.l.length)).sum := by unfold tot lvs; rw [List.map_map]; rfl
theorem live_dead {l : List Ent} (h : chkE l = 0) : lvN l = l.length ↔ deadE l = false := by
  unfold lvN deadE
  rw [if_pos h]
  constructor
  · intro he
    rw [List.any_eq_false]
    intro e hm
    have h1 : liveE l = l := by
      unfold liveE at he ⊢
      exact List.filter_eq_self.2 (fun a ha => by
        have := List.length_filter_eq_length_iff.1 he a ha
        exact this)
    rw [← h1] at hm
    have := (List.mem_filter.1 hm).2
    simpa using this
  · intro hd
    rw [List.any_eq_false] at hd
    unfold liveE
    congr 1
    exact List.filter_eq_self.2 (fun a ha => by simpa using hd a ha)
theorem chkR_bad {rs : Lv} {k : Nat} (h : k < rs.length) (hb : okLv rs.length k (lev rs k) = false) : chkR rs = 8 := by
  unfold chkR
  rw [if_neg]
  unfold mayB allOk
  intro hx
  simp only [Bool.and_eq_true, decide_eq_true_eq] at hx
  rw [hx.1.2 k h] at hb
  cases hb
theorem chkR_end {rs : Lv} (h : endOk rs = false) : chkR rs = 8 := by unfold chkR mayB; rw [h]; rfl
theorem chkR_all {rs : Lv} (h : endOk rs = true) (h2 : allOk rs rs.length = true) : chkR rs = if 65536 < tot rs then 8 else 0 := by
  unfold chkR mayB
  rw [h, h2]
  by_cases h3 : 65536 < tot rs
  · rw [if_pos h3, if_neg (by simp; omega)]
  · rw [if_neg h3, if_pos (by simp; omega)]
set_option maxHeartbeats 1000000 in
theorem entries_any (B : Option Addr) (Rs : List Rm) (c : Nat) (n : Int) (w : World) (hB : RunsAt w B Rs) (hT : tot (lvs Rs) ≤ 1000000) (hl : Rs.length ≤ 1000000) :
    Calls Tryd.prog 48 #[.agg #[.slice B Rs.length c, .int .u64 n]] w fun r w' => r = .returned (.int .i64 (tot (lvs Rs) : Nat)) ∧ Below w.heap.size w w' := by
  have hb0 : Below w.heap.size w (w.alloc (.cells #[.slice B Rs.length c, .int .u64 n] 25)) := (Below.refl _ _).alloc (Nat.le_refl _) _
  go_enter Tryd.func48, Tryd.ntmps48
  go_wp2
  go_loopw [2, 8] (fun a i wr => ∃ k m : Nat, k ≤ Rs.length ∧ i = .int .i64 k ∧ a = .int .i64 m ∧ Below w.heap.size w wr ∧ m ≤ 1000000 ∧ Hid (m = tot ((lvs Rs).take k))) (fun _ i _ => Rs.length - (intOf i).toNat)
  case atStart => exact ⟨0, 0, Nat.zero_le _, rfl, rfl, hb0, by omega, rfl⟩
  case round =>
    obtain ⟨k, m, hk, rfl, rfl, hb, hm, hd⟩ := hrel
    by_cases hlt : k < Rs.length
    · obtain ⟨b, off, rfl, hbl, cp⟩ := hB.sl.oneB hb k hlt
      have hs := tot_take_succ (rs := lvs Rs) (k := k) (by simpa using hlt)
      rw [lvs_lev hlt] at hs
      have hle := tot_take_le (lvs Rs) (k + 1)
      obtain ⟨r, hr⟩ : ∃ r, Rs[k]'hlt = r := ⟨_, rfl⟩
      rw [hr] at cp hs
      obtain ⟨l, A, cl⟩ := r
      have cp1 : wr.cell? ⟨b, off + k, none⟩ = some (.slice A l.length cl) := cp
      dsimp only at hs
      have hki : (0 : Int) ≤ (k : Int) := by omega
      have hki2 : (k : Int) < (Rs.length : Int) := by omega
      have hsum : m + l.length ≤ 1000000 := by have := hd.out; omega
      have hw : IntKind.i64.wrap ((m : Int) + (l.length : Int)) = ((m + l.length : Nat) : Int) := (IntWalk.i64_in _ (by omega)).trans (by omega)
      have HS := Lib.hid hs
      have hbs := hb.size
      clear cp hr hs hle
      go_wp2
      go_roundw
      case rel => exact ⟨k + 1, m + l.length, by omega, by go_num, by go_num, hb.alloc hbs _, hsum, by show _ = _; rw [HS.out, hd.out]⟩
      case measure => simp [intOf]; omega
    · have hkn : k = Rs.length := by omega
      have hf : m = tot (lvs Rs) := by rw [hd.out, List.take_of_length_le (by simp; omega)]
      have HF := Lib.hid hf
      clear hkn hf
      go_wp2
      go_ret
      exact ⟨ret_int (by rw [HF.out]), hb⟩
end Go.Proofs.YthbppblmecdekaaDoor

/- Contract: which levels may be (rungs.Check). -/
namespace Go.Proofs.YthbppblmecdekaaDoor
open Go Go.RowKit
set_option maxRecDepth 100000
set_option maxHeartbeats 16000000 in
theorem checkR_any (B : Option Addr) (Rs : List Rm) (c : Nat) (n : Int) (w : World) (hB : RunsAt w B Rs) (hT : tot (lvs Rs) ≤ 1000000) (hl : Rs.length ≤ 1000000) :
    Calls Tryd.prog 15 #[.agg #[.slice B Rs.length c, .int .u64 n]] w fun r w' => r = .returned (.int .i64 (chkR (lvs Rs))) ∧ Below w.heap.size w w' := by
  have hb0 : Below w.heap.size w (w.alloc (.cells #[.slice B Rs.length c, .int .u64 n] 25)) := (Below.refl _ _).alloc (Nat.le_refl _) _
  by_cases hend : endOk (lvs Rs) = true
  · have hEnd := Lib.hid hend
    have hl17 : Rs.length ≤ 17 := by
      unfold endOk at hend
      simp at hend
      exact hend.1
    go_enter Tryd.func15, Tryd.ntmps15
    go_upto_region 2 with fail
    go_cut [29] from 13 to 29 (fun v wx => v = .bool false ∧ wx = w.alloc (.cells #[.slice B Rs.length c, .int .u64 n] 25))
    case first =>
      have g1 : ¬ (17 : Int) < (Rs.length : Int) := by omega
      by_cases h0 : Rs.length = 0
      · have g2 : ¬ (0 : Int) < (Rs.length : Int) := by omega
        clear hend h0
        go_wp2
        go_meet
        exact ⟨by simp, rfl⟩
      · have g2 : (0 : Int) < (Rs.length : Int) := by omega
        obtain ⟨j, hj⟩ : ∃ j, Rs.length = j + 1 := ⟨Rs.length - 1, by omega⟩
        obtain ⟨b, off, rfl, hbl, cp⟩ := hB.sl.oneB hb0 j (by omega)
        have hne : (Rs[j]'(by omega)).l ≠ [] := by
          unfold endOk at hend
          rw [lvs_len, hj] at hend
          simp at hend
          have h2 := hend.2
          rw [lvs_lev (by omega)] at h2
          exact h2
        obtain ⟨r, hr⟩ : ∃ r, Rs[j]'(by omega) = r := ⟨_, rfl⟩
        rw [hr] at cp hne
        obtain ⟨l, A, cl⟩ := r
        have cp1 : (w.alloc (.cells #[.slice (some ⟨b, off, none⟩) Rs.length c, .int .u64 n] 25)).cell? ⟨b, off + j, none⟩ = some (.slice A l.length cl) := cp
        have hl0 : 0 < l.length := List.length_pos_iff.2 hne
        have hne2 : ¬ l = [] := hne
        have g4 : IntKind.i64.wrap ((Rs.length : Int) - 1) = (j : Int) := (IntWalk.i64_in _ (by omega)).trans (by omega)
        have g5 : (0 : Int) ≤ (j : Int) := by omega
        have g6 : (j : Int) < (Rs.length : Int) := by omega
        clear cp hr hne hj hend h0
        go_wp2
        go_meet
        exact ⟨by simp [hne2], rfl⟩
    case rest =>
    obtain ⟨rfl, rfl⟩ := hcut
    have HB := Lib.hid hB
    clear hB hend
    go_wp2
    go_loopw [4, 33] (fun a i wr => ∃ k m : Nat, k ≤ Rs.length ∧ i = .int .i64 k ∧ a = .int .i64 m ∧ Below w.heap.size w wr ∧ m ≤ 1000000 ∧ Hid (m = tot ((lvs Rs).take k)) ∧ Hid (allOk (lvs Rs) k = true)) (fun _ i _ => Rs.length - (intOf i).toNat)
    case atStart => exact ⟨0, 0, Nat.zero_le _, rfl, rfl, hb0, by omega, rfl, by show _ = _; unfold allOk; simp⟩
    case round =>
      obtain ⟨k, m, hk, rfl, rfl, hb, hm, hd, hA⟩ := hrel
      by_cases hlt : k < Rs.length
      · obtain ⟨b, off, rfl, hbl, cp⟩ := HB.out.sl.oneB hb k hlt
        have hok := (HB.out.ok _ (List.getElem_mem hlt)).below hb
        have hs := tot_take_succ (rs := lvs Rs) (k := k) (by simpa using hlt)
        have ha := allOk_succ (lvs Rs) k
        have hbad := chkR_bad (rs := lvs Rs) (k := k) (by simpa using hlt)
        rw [lvs_lev hlt, lvs_len] at ha hbad
        rw [lvs_lev hlt] at hs
        have hle := tot_take_le (lvs Rs) (k + 1)
        obtain ⟨r, hr⟩ : ∃ r, Rs[k]'hlt = r := ⟨_, rfl⟩
        rw [hr] at cp hs hok ha hbad
        obtain ⟨l, A, cl⟩ := r
        have cp1 : wr.cell? ⟨b, off + k, none⟩ = some (.slice A l.length cl) := cp
        dsimp only at hs ha hbad
        have hki : (0 : Int) ≤ (k : Int) := by omega
        have hki2 : (k : Int) < (Rs.length : Int) := by omega
        have hsum : m + l.length ≤ 1000000 := by have := hd.out; omega
        have hw : IntKind.i64.wrap ((m : Int) + (l.length : Int)) = ((m + l.length : Nat) : Int) := (IntWalk.i64_in _ (by omega)).trans (by omega)
        have hw2 : IntKind.i64.wrap ((Rs.length : Int) - 1) = ((Rs.length - 1 : Nat) : Int) := (IntWalk.i64_in _ (by omega)).trans (by omega)
        obtain ⟨E, hE⟩ : ∃ E, chkE l = E := ⟨_, rfl⟩
        obtain ⟨N, hN⟩ : ∃ N, lvN l = N := ⟨_, rfl⟩
        have hNl : N ≤ l.length := by
          rw [← hN]; unfold lvN
          split
          · exact live_le l
          · exact Nat.zero_le _
        have hOK : okLv Rs.length k l = (decide (E = 0) && (decide (l = []) || decide (up l.length = k)) && (decide (k + 1 ≠ Rs.length) || !deadE l)) := by unfold okLv; rw [hE]
        have hDead : E = 0 → (N = l.length ↔ deadE l = false) := by rw [← hE, ← hN]; exact live_dead
        have hE16 : E = 0 → l.length ≤ 65536 := by rw [← hE]; exact fun h => (chk_ok h).2.2
        have HOKS := Lib.hid hok.sl
        have HS := Lib.hid hs
        have HA := Lib.hid ha
        have HBAD := Lib.hid hbad
        have HE := Lib.hid hE
        have HN := Lib.hid hN
        have HD := Lib.hid hDead
        have HE16 := Lib.hid hE16
        have hbs := hb.size
        have hll : l.length ≤ 4611686018427387903 := by omega
        have hbX : Below wr.heap.size wr (wr.alloc (.cells #[.slice A l.length cl] 61)) := (Below.refl _ _).alloc (Nat.le_refl _) _
        have hnb : wr.heap.size < (wr.alloc (.cells #[.slice A l.length cl] 61)).heap.size := by simp
        have bX := Blk.new wr 61 #[.slice A l.length cl]
        clear cp hr hs hle hok ha hbad hE hN hDead hE16
        obtain ⟨U, hU⟩ : ∃ U, up l.length = U := ⟨_, rfl⟩
        rw [hU] at hOK
        have HU := Lib.hid hU
        have HOK := Lib.hid hOK
        clear hU hOK
        obtain ⟨J, hJ⟩ : ∃ J : Nat, Rs.length - 1 = J := ⟨_, rfl⟩
        rw [hJ] at hw2
        by_cases hE0 : E = 0
        · have hl6 := HE16.out hE0
          have HL6 := Lib.hid hl6
          clear hl6
          by_cases hl0' : l.length = 0
          · have hnil : l = [] := List.eq_nil_of_length_eq_zero hl0'
            have hNN : N = l.length := by omega
            have hl00 : ¬ (0 : Int) < (l.length : Int) := by omega
            clear hl0'
            have hK : okLv Rs.length k l = true := by rw [HOK.out]; rw [hE0, hnil]; simp [deadE]
            have HK := Lib.hid hK
            clear hK
            clear hnil
            subst hE0
            subst hNN
            by_cases hkn : k = J
            · subst hkn
              go_wp2_with fail
              refine (live_any A l cl _ (HOKS.out.below hbX) hll).mono ?_
              unfold GivesII
              rw [HE.out, HN.out]
              rintro e w1 ⟨rfl, hb1⟩
              have hb2 := bext hbX hb1
              have c1 : w1.cell? ⟨wr.heap.size, 0, none⟩ = some (.slice A l.length cl) := (bX.below hb1 bX.lt).cell 0
              go_wp2
              go_roundw
              case rel => exact ⟨k + 1, m + l.length, by omega, by go_num, by go_num, bext hb hb2, hsum, by show _ = _; rw [HS.out, hd.out], by show _ = _; rw [HA.out, hA.out, HK.out]; rfl⟩
              case measure => simp [intOf]; omega
              
            · go_wp2_with fail
              refine (live_any A l cl _ (HOKS.out.below hbX) hll).mono ?_
              unfold GivesII
              rw [HE.out, HN.out]
              rintro e w1 ⟨rfl, hb1⟩
              have hb2 := bext hbX hb1
              have c1 : w1.cell? ⟨wr.heap.size, 0, none⟩ = some (.slice A l.length cl) := (bX.below hb1 bX.lt).cell 0
              go_wp2
              go_roundw
              case rel => exact ⟨k + 1, m + l.length, by omega, by go_num, by go_num, bext hb hb2, hsum, by show _ = _; rw [HS.out, hd.out], by show _ = _; rw [HA.out, hA.out, HK.out]; rfl⟩
              case measure => simp [intOf]; omega
              
          · have hl0 : 0 < l.length := by omega
            have hne : ¬ l = [] := List.length_pos_iff.1 hl0
            have HL0 := Lib.hid hl0
            clear hl0 hl0'
            by_cases hu : U = k
            · by_cases hkn : k = J
              · by_cases hNN : N = l.length
                · have hK : okLv Rs.length k l = true := by rw [HOK.out]; rw [hE0, (HD.out hE0).1 hNN]; simp [hu]
                  have HK := Lib.hid hK
                  clear hK
                  subst hkn
                  subst hu
                  subst hNN
                  subst hE0
                  go_wp2_with fail
                  refine (live_any A l cl _ (HOKS.out.below hbX) hll).mono ?_
                  unfold GivesII
                  rw [HE.out, HN.out]
                  rintro e w1 ⟨rfl, hb1⟩
                  have hb2 := bext hbX hb1
                  have c1 : w1.cell? ⟨wr.heap.size, 0, none⟩ = some (.slice A l.length cl) := (bX.below hb1 bX.lt).cell 0
                  go_wp2_with fail
                  refine (level_any A l.length cl _ HL0.out HL6.out).mono ?_
                  rw [HU.out]
                  rintro e w2 ⟨rfl, hb3⟩
                  have hb4 := bext hb2 hb3
                  go_wp2
                  go_roundw
                  case rel => exact ⟨U + 1, m + l.length, by omega, by go_num, by go_num, bext hb hb4, hsum, by show _ = _; rw [HS.out, hd.out], by show _ = _; rw [HA.out, hA.out, HK.out]; rfl⟩
                  case measure => simp [intOf]; omega
                  
                · have hdd : deadE l = true := by
                    cases hx : deadE l with
                    | true => rfl
                    | false => exact absurd ((HD.out hE0).2 hx) hNN
                  have hK : okLv Rs.length k l = false := by rw [HOK.out]; rw [hdd]; simp; omega
                  have HK := Lib.hid hK
                  clear hK
                  clear hdd
                  subst hkn
                  subst hu
                  subst hE0
                  go_wp2_with fail
                  refine (live_any A l cl _ (HOKS.out.below hbX) hll).mono ?_
                  unfold GivesII
                  rw [HE.out, HN.out]
                  rintro e w1 ⟨rfl, hb1⟩
                  have hb2 := bext hbX hb1
                  have c1 : w1.cell? ⟨wr.heap.size, 0, none⟩ = some (.slice A l.length cl) := (bX.below hb1 bX.lt).cell 0
                  go_wp2_with fail
                  refine (level_any A l.length cl _ HL0.out HL6.out).mono ?_
                  rw [HU.out]
                  rintro e w2 ⟨rfl, hb3⟩
                  have hb4 := bext hb2 hb3
                  go_wp2
                  go_ret
                  exact ⟨ret_int (HBAD.out HK.out).symm, bext hb hb4⟩
                  
              · have hK : okLv Rs.length k l = true := by rw [HOK.out]; rw [hE0]; simp [hu]; omega
                have HK := Lib.hid hK
                clear hK
                subst hu
                subst hE0
                go_wp2_with fail
                refine (live_any A l cl _ (HOKS.out.below hbX) hll).mono ?_
                unfold GivesII
                rw [HE.out, HN.out]
                rintro e w1 ⟨rfl, hb1⟩
                have hb2 := bext hbX hb1
                have c1 : w1.cell? ⟨wr.heap.size, 0, none⟩ = some (.slice A l.length cl) := (bX.below hb1 bX.lt).cell 0
                go_wp2_with fail
                refine (level_any A l.length cl _ HL0.out HL6.out).mono ?_
                rw [HU.out]
                rintro e w2 ⟨rfl, hb3⟩
                have hb4 := bext hb2 hb3
                go_wp2
                go_roundw
                case rel => exact ⟨U + 1, m + l.length, by omega, by go_num, by go_num, bext hb hb4, hsum, by show _ = _; rw [HS.out, hd.out], by show _ = _; rw [HA.out, hA.out, HK.out]; rfl⟩
                case measure => simp [intOf]; omega
                
            · have hK : okLv Rs.length k l = false := by rw [HOK.out]; rw [hE0]; simp [hu, hne]
              have HK := Lib.hid hK
              clear hK
              subst hE0
              go_wp2_with fail
              refine (live_any A l cl _ (HOKS.out.below hbX) hll).mono ?_
              unfold GivesII
              rw [HE.out, HN.out]
              rintro e w1 ⟨rfl, hb1⟩
              have hb2 := bext hbX hb1
              have c1 : w1.cell? ⟨wr.heap.size, 0, none⟩ = some (.slice A l.length cl) := (bX.below hb1 bX.lt).cell 0
              go_wp2_with fail
              refine (level_any A l.length cl _ HL0.out HL6.out).mono ?_
              rw [HU.out]
              rintro e w2 ⟨rfl, hb3⟩
              have hb4 := bext hb2 hb3
              go_wp2
              go_ret
              exact ⟨ret_int (HBAD.out HK.out).symm, bext hb hb4⟩
              
        · have hK : okLv Rs.length k l = false := by rw [HOK.out]; simp [hE0]
          have HK := Lib.hid hK
          clear hK
          go_wp2_with fail
          refine (live_any A l cl _ (HOKS.out.below hbX) hll).mono ?_
          unfold GivesII
          rw [HE.out, HN.out]
          rintro e w1 ⟨rfl, hb1⟩
          have hb2 := bext hbX hb1
          have c1 : w1.cell? ⟨wr.heap.size, 0, none⟩ = some (.slice A l.length cl) := (bX.below hb1 bX.lt).cell 0
          go_wp2
          go_ret
          exact ⟨ret_int (HBAD.out HK.out).symm, bext hb hb2⟩
          
      · have hkn : k = Rs.length := by omega
        have hf : m = tot (lvs Rs) := by rw [hd.out, List.take_of_length_le (by simp; omega)]
        have hall : allOk (lvs Rs) (lvs Rs).length = true := by rw [lvs_len, ← hkn]; exact hA.out
        have hfin := chkR_all hEnd.out hall
        rw [← hf] at hfin
        have HF := Lib.hid hfin
        clear hfin hall hf hkn
        by_cases hbig : 65536 < m
        · have g1 : (65536 : Int) < (m : Int) := by omega
          go_wp2
          go_ret
          exact ⟨ret_int (by rw [HF.out, if_pos hbig]), hb⟩
        · have g1 : ¬ (65536 : Int) < (m : Int) := by omega
          go_wp2
          go_ret
          exact ⟨ret_int (by rw [HF.out, if_neg hbig]), hb⟩
  · have hE8 : chkR (lvs Rs) = 8 := chkR_end (by simpa using hend)
    have HE8 := Lib.hid hE8
    clear hE8
    by_cases h17 : 17 < Rs.length
    · have g1 : (17 : Int) < (Rs.length : Int) := by omega
      clear hend
      go_enter Tryd.func15, Tryd.ntmps15
      go_wp2
      go_ret
      exact ⟨ret_int HE8.out.symm, hb0⟩
    · have g1 : ¬ (17 : Int) < (Rs.length : Int) := by omega
      have h0 : Rs.length ≠ 0 := by
        intro h0
        apply hend
        unfold endOk
        rw [lvs_len, h0]; rfl
      have g2 : (0 : Int) < (Rs.length : Int) := by omega
      obtain ⟨j, hj⟩ : ∃ j, Rs.length = j + 1 := ⟨Rs.length - 1, by omega⟩
      obtain ⟨b, off, rfl, hbl, cp⟩ := hB.sl.oneB hb0 j (by omega)
      have hne : (Rs[j]'(by omega)).l = [] := by
        refine Classical.byContradiction fun hx => hend ?_
        unfold endOk
        rw [lvs_len, hj, Nat.add_sub_cancel, lvs_lev (by omega)]
        simp [hx]
        omega
      obtain ⟨r, hr⟩ : ∃ r, Rs[j]'(by omega) = r := ⟨_, rfl⟩
      rw [hr] at cp hne
      obtain ⟨l, A, cl⟩ := r
      have hnl : l = [] := hne
      subst hnl
      have cp1 : (w.alloc (.cells #[.slice (some ⟨b, off, none⟩) Rs.length c, .int .u64 n] 25)).cell? ⟨b, off + j, none⟩ = some (.slice A 0 cl) := cp
      have g4 : IntKind.i64.wrap ((Rs.length : Int) - 1) = (j : Int) := (IntWalk.i64_in _ (by omega)).trans (by omega)
      have g5 : (0 : Int) ≤ (j : Int) := by omega
      have g6 : (j : Int) < (Rs.length : Int) := by omega
      clear cp hr hne hj hend
      go_enter Tryd.func15, Tryd.ntmps15
      go_wp2
      go_ret
      exact ⟨ret_int HE8.out.symm, hb0⟩
end Go.Proofs.YthbppblmecdekaaDoor
