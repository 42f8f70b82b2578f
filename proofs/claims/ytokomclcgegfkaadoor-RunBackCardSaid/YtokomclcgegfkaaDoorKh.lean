/- Contracts of the laws' helpers of chapter 25: chapter, has, alive, Great. -/
import Derived.Test.YtokomclcgegfkaaDoorKt
namespace Go.Proofs.YtokomclcgegfkaaDoor
open Go Go.RowKit
set_option maxRecDepth 100000

/-! ### what merging gives, on lists -/
def mE (rs : List (List Ent)) : Int := if chkAllE rs = 0 then (if (allE (rs.map inL)).length > 65536 then 4 else 0) else chkAllE rs
def mL (rs : List (List Ent)) (bare : Bool) : List Ent := if mE rs = 0 then laid (bareE bare (allE (rs.map inL))) else []
theorem mrgE_m (Rs : List Rm) : mrgE Rs = mE (Rs.map Rm.l) := by unfold mrgE mE; rw [inS_of]
theorem mrgL_m (Rs : List Rm) (bare : Bool) : mrgL Rs bare = mL (Rs.map Rm.l) bare := by unfold mrgL mL; rw [mrgE_m, inS_of]

def chA : List Ent := [⟨2, 0, true⟩, ⟨3, 33, false⟩]
def chB : List Ent := [⟨1, 10, false⟩, ⟨2, 20, false⟩, ⟨3, 30, false⟩]
def rA : List Ent := [⟨3, 33, false⟩, ⟨2, 0, true⟩]
def rB : List Ent := [⟨2, 20, false⟩, ⟨1, 10, false⟩, ⟨3, 30, false⟩]
theorem kinord2 : inord 2 0 = [1, 0] := by simp [inord]
theorem kinord3 : inord 3 0 = [1, 0, 2] := by simp [inord]
theorem kranks2 : ranks 2 = [1, 0] := by unfold ranks; rw [kinord2]; decide
theorem kranks3 : ranks 3 = [1, 0, 2] := by unfold ranks; rw [kinord3]; decide
theorem chA_E : buildE chA = 0 := by decide
theorem chB_E : buildE chB = 0 := by decide
theorem chA_L : buildL chA = rA := by unfold buildL; rw [if_pos chA_E]; unfold laid; rw [show chA.length = 2 from rfl, kranks2]; decide
theorem chB_L : buildL chB = rB := by unfold buildL; rw [if_pos chB_E]; unfold laid; rw [show chB.length = 3 from rfl, kranks3]; decide
theorem rA_laid : laid chA = rA := by rw [← chA_L]; unfold buildL; rw [if_pos chA_E]
theorem rB_laid : laid chB = rB := by rw [← chB_L]; unfold buildL; rw [if_pos chB_E]
theorem rA_in : inL rA = chA := by rw [← rA_laid, in_laid]
theorem rB_in : inL rB = chB := by rw [← rB_laid, in_laid]
theorem rA_chk : chkE rA = 0 := by rw [← rA_laid]; exact build_chk chA_E
theorem rB_chk : chkE rB = 0 := by rw [← rB_laid]; exact build_chk chB_E
def chM : List Ent := [⟨1, 10, false⟩, ⟨2, 0, true⟩, ⟨3, 33, false⟩]
def chN : List Ent := [⟨1, 10, false⟩, ⟨3, 33, false⟩]
theorem ch_all : allE [chA, chB] = chM := by simp [allE, bothE, chA, chB, chM]
theorem ch_mE : mE [rA, rB] = 0 := by
  unfold mE
  rw [show chkAllE [rA, rB] = 0 by simp [chkAllE, rA_chk, rB_chk]]
  rw [show [rA, rB].map inL = [chA, chB] by simp [rA_in, rB_in], ch_all]
  decide
theorem ch_mL : mL [rA, rB] false = laid chM := by
  unfold mL
  rw [if_pos ch_mE, show [rA, rB].map inL = [chA, chB] by simp [rA_in, rB_in], ch_all]
  rfl
theorem ch_mN : mL [rA, rB] true = laid chN := by
  unfold mL
  rw [if_pos ch_mE, show [rA, rB].map inL = [chA, chB] by simp [rA_in, rB_in], ch_all]
  rfl

set_option maxHeartbeats 2000000 in
theorem chapter25_any (w : World) : Calls Tryd.prog 52 #[] w fun r w' => ∃ g A1 c1 A2 c2, r = .returned (.slice (some ⟨g, 0, none⟩) 2 2) ∧ Blk w' g 24 #[.slice A1 2 c1, .slice A2 3 c2] ∧
    RunsAt w' (some ⟨g, 0, none⟩) [⟨rA, A1, c1⟩, ⟨rB, A2, c2⟩] ∧ Below w.heap.size w w' := by
  go_enter Tryd.func52, Tryd.ntmps52
  go_wp2_with fail
  refine (build_n (some ⟨w.heap.size, 0, none⟩) chA 2 2 _ rfl (by exact sl_new1 _ _ _) (by decide)).mono ?_
  rw [chA_E, chA_L]
  rintro e w1 ⟨A1, c1, hr, ho1, hb1⟩
  rw [show rA.length = 2 from rfl] at hr ho1
  subst hr
  have hb01 : Below w.heap.size w w1 := bext ((Below.refl _ _).alloc (Nat.le_refl _) _) hb1
  have HO1 := Lib.hid ho1
  have ba1 : Below w1.heap.size w1 (w1.alloc (.cells #[.slice A1 2 c1] 24)) := (Below.refl _ _).alloc (Nat.le_refl _) _
  have bx1 : Blk (w1.alloc (.cells #[.slice A1 2 c1] 24)) w1.heap.size 24 #[.slice A1 2 c1] := Blk.new _ _ _
  obtain ⟨W1, hW1⟩ : ∃ W, w1.alloc (.cells #[.slice A1 2 c1] 24) = W := ⟨_, rfl⟩
  rw [hW1] at ba1 bx1
  have HBA1 := Lib.hid ba1
  have HBX1 := Lib.hid bx1
  clear ho1 hb1 ba1 bx1
  go_upto_region 2 with fail
  try rw [hW1]
  clear hW1
  go_wp2_with fail
  refine (build_n (some ⟨W1.heap.size, 0, none⟩) chB 3 3 _ rfl (by exact sl_new1 _ _ _) (by decide)).mono ?_
  rw [chB_E, chB_L]
  rintro e w2 ⟨A2, c2, hr, ho2, hb2⟩
  rw [show rB.length = 3 from rfl] at hr ho2
  subst hr
  have hb12 : Below W1.heap.size W1 w2 := bext ((Below.refl _ _).alloc (Nat.le_refl _) _) hb2
  have HO2 := Lib.hid ho2
  have bx1 := HBX1.out.below hb12 HBX1.out.lt
  have ba2 : Below w2.heap.size w2 (w2.alloc (.cells #[.slice A2 3 c2] 24)) := (Below.refl _ _).alloc (Nat.le_refl _) _
  have bx2 : Blk (w2.alloc (.cells #[.slice A2 3 c2] 24)) w2.heap.size 24 #[.slice A2 3 c2] := Blk.new _ _ _
  have bx1 := bx1.below ba2 bx1.lt
  obtain ⟨W2, hW2⟩ : ∃ W, w2.alloc (.cells #[.slice A2 3 c2] 24) = W := ⟨_, rfl⟩
  rw [hW2] at ba2 bx1 bx2
  have k1 : W2.cell? ⟨w1.heap.size, 0, none⟩ = some (.slice A1 2 c1) := bx1.cell 0
  have k2 : W2.cell? ⟨w2.heap.size, 0, none⟩ = some (.slice A2 3 c2) := bx2.cell 0
  have HB2 := Lib.hid ba2
  have HB12 := Lib.hid hb12
  clear ho2 hb2 ba2 bx1 bx2 hb12
  go_upto_region 3 with fail
  try rw [hW2]
  clear hW2
  go_wp2_with fail
  go_ret
  have hbn : Below W2.heap.size W2 (W2.alloc (.cells #[.slice A1 2 c1, .slice A2 3 c2] 24)) := (Below.refl _ _).alloc (Nat.le_refl _) _
  have bn : Blk (W2.alloc (.cells #[.slice A1 2 c1, .slice A2 3 c2] 24)) W2.heap.size 24 #[.slice A1 2 c1, .slice A2 3 c2] := Blk.new _ _ _
  obtain ⟨A1', c1', e1, l1, m1⟩ := own_form HO1.out
  obtain ⟨rfl, rfl⟩ : A1 = A1' ∧ c1 = c1' := by simpa using e1
  obtain ⟨A2', c2', e2, l2, m2⟩ := own_form HO2.out
  obtain ⟨rfl, rfl⟩ : A2 = A2' ∧ c2 = c2' := by simpa using e2
  refine ⟨_, A1, c1, A2, c2, rfl, bn, ⟨bn.sl 0 _ (by intro j u hu; have hu2 : ([.slice A1 2 c1, .slice A2 3 c2] : List Value)[j]? = some u := hu; simpa using hu2), ?_⟩, bext hb01 (bext HBA1.out (bext HB12.out (bext HB2.out hbn)))⟩
  intro r hr
  simp at hr
  rcases hr with rfl | rfl
  · exact ⟨(own_sl HO1.out).below (bext HBA1.out (bext HB12.out (bext HB2.out hbn))), l1, m1⟩
  · exact ⟨(own_sl HO2.out).below (bext HB2.out hbn), l2, m2⟩

set_option maxHeartbeats 1000000 in
theorem has25_yes (A B : Option Addr) (l m : List Ent) (n k c d : Nat) (w : World) (hn : l.length = n) (hk : m.length = k) (hA : Sl w A (l.flatMap Ent.cells)) (hB : Sl w B (m.flatMap Ent.cells)) (hl : l.length ≤ 65536) (hC : chkE l = 0) (hm : inL l = m) :
    Calls Tryd.prog 54 #[.agg #[.slice A n c], .slice B k d] w fun r w' => r = .returned (.bool true) ∧ Below w.heap.size w w' := by
  subst hn hk
  have hsl : sortL l = m := by unfold sortL; rw [if_pos hC]; exact hm
  have hml : m.length ≤ 65536 := by rw [← hm, inL_length]; exact hl
  have HS := Lib.hid hsl
  have HC := Lib.hid hC
  have hb0 : Below w.heap.size w (w.alloc (.cells #[.slice A l.length c] 24)) := (Below.refl _ _).alloc (Nat.le_refl _) _
  clear hsl hC hm
  go_enter Tryd.func54, Tryd.ntmps54
  go_wp2_with fail
  refine (sortedE_any A l c _ (hA.below hb0) (by omega)).mono ?_
  rw [HS.out, HC.out]
  rintro e w1 ⟨A1, c1, rfl, ho1, hb1⟩
  have hs1 := Lib.hid (own_sl ho1)
  clear ho1
  go_wp2_with fail
  refine (sameEntries_any A1 B m m c1 d _ hs1.out (hB.below (bext hb0 hb1)) (by omega) (by omega)).mono ?_
  rw [decide_eq_true rfl]
  rintro e w2 ⟨rfl, hb2⟩
  go_wp2
  go_ret
  exact ⟨rfl, bext hb0 (bext hb1 hb2)⟩

set_option maxHeartbeats 4000000 in
theorem alive25_any (w : World) : Calls Tryd.prog 51 #[] w fun r w' => r = .returned (.bool true) ∧ Below w.heap.size w w' := by
  have hcM : chkE (laid chM) = 0 := build_chk (by decide)
  have hcN : chkE (laid chN) = 0 := build_chk (by decide)
  have hlM : (laid chM).length = 3 := laid_length _
  have hlN : (laid chN).length = 2 := laid_length _
  have HCM := Lib.hid hcM
  have HCN := Lib.hid hcN
  have HLM := Lib.hid hlM
  have HLN := Lib.hid hlN
  clear hcM hcN hlM hlN
  go_enter Tryd.func51, Tryd.ntmps51
  go_wp2_with fail
  refine (chapter25_any _).mono ?_
  rintro e w1 ⟨g1, A1, c1, A2, c2, rfl, -, hR1, hb1⟩
  go_wp2_with fail
  refine (merge_any (some ⟨g1, 0, none⟩) [⟨rA, A1, c1⟩, ⟨rB, A2, c2⟩] 2 5 false _ hR1 (by simp) (by intro r hr; simp at hr; rcases hr with rfl | rfl <;> (show List.length _ ≤ _; first | exact (by decide : rA.length ≤ 4611686018427387903) | exact (by decide : rB.length ≤ 4611686018427387903))) (Nat.le_refl 5) (by omega)).mono ?_
  rw [mrgE_m, mrgL_m, show ([⟨rA, A1, c1⟩, ⟨rB, A2, c2⟩] : List Rm).map Rm.l = [rA, rB] from rfl, ch_mE, ch_mL]
  rintro e w2 ⟨A3, c3, hr, ho3, hb2⟩
  rw [HLM.out] at hr ho3
  subst hr
  have hs3 := Lib.hid (own_sl ho3)
  have HB02 := Lib.hid (bext hb1 hb2)
  clear ho3 hb1 hb2 hR1
  have ba2 : Below w2.heap.size w2 (w2.alloc (.cells #[.slice A3 3 c3] 24)) := (Below.refl _ _).alloc (Nat.le_refl _) _
  have bx2 : Blk (w2.alloc (.cells #[.slice A3 3 c3] 24)) w2.heap.size 24 #[.slice A3 3 c3] := Blk.new _ _ _
  go_upto_region 2 with fail
  obtain ⟨W2, hW2⟩ : ∃ W, w2.alloc (.cells #[.slice A3 3 c3] 24) = W := ⟨_, rfl⟩
  rw [hW2] at ba2 bx2
  rw [hW2]
  have HB2 := Lib.hid (bext HB02.out ba2)
  have hs3 := Lib.hid (hs3.out.below ba2)
  have HX2 := Lib.hid bx2
  clear hW2 ba2 bx2
  go_wp2_with fail
  refine (chapter25_any _).mono ?_
  rintro e w3 ⟨g1, A4, c4, A5, c5, rfl, -, hR3, hb3⟩
  go_wp2_with fail
  refine (merge_any (some ⟨g1, 0, none⟩) [⟨rA, A4, c4⟩, ⟨rB, A5, c5⟩] 2 5 true _ hR3 (by simp) (by intro r hr; simp at hr; rcases hr with rfl | rfl <;> (show List.length _ ≤ _; first | exact (by decide : rA.length ≤ 4611686018427387903) | exact (by decide : rB.length ≤ 4611686018427387903))) (Nat.le_refl 5) (by omega)).mono ?_
  rw [mrgE_m, mrgL_m, show ([⟨rA, A4, c4⟩, ⟨rB, A5, c5⟩] : List Rm).map Rm.l = [rA, rB] from rfl, ch_mE, ch_mN]
  rintro e w4 ⟨A6, c6, hr, ho6, hb4⟩
  rw [HLN.out] at hr ho6
  subst hr
  have hs6 := Lib.hid (own_sl ho6)
  have HB04 := Lib.hid (bext hb3 hb4)
  clear ho6 hb3 hb4 hR3
  have ba4 : Below w4.heap.size w4 (w4.alloc (.cells #[.slice A6 2 c6] 24)) := (Below.refl _ _).alloc (Nat.le_refl _) _
  have bx4 : Blk (w4.alloc (.cells #[.slice A6 2 c6] 24)) w4.heap.size 24 #[.slice A6 2 c6] := Blk.new _ _ _
  go_upto_region 3 with fail
  obtain ⟨W4, hW4⟩ : ∃ W, w4.alloc (.cells #[.slice A6 2 c6] 24) = W := ⟨_, rfl⟩
  rw [hW4] at ba4 bx4
  rw [hW4]
  have hb24 := bext HB04.out ba4
  have HB4 := Lib.hid (bext HB2.out hb24)
  have bx2 := HX2.out.below hb24 HX2.out.lt
  have hs3 := Lib.hid (hs3.out.below hb24)
  have hs6 := Lib.hid (hs6.out.below ba4)
  have k1 : W4.cell? ⟨w2.heap.size, 0, none⟩ = some (.slice A3 3 c3) := bx2.cell 0
  have k2 : W4.cell? ⟨w4.heap.size, 0, none⟩ = some (.slice A6 2 c6) := bx4.cell 0
  have l1 := bx2.lt
  have l2 := bx4.lt
  clear hW4 ba4 bx2 bx4 hb24
  have hbm : Below W4.heap.size W4 (W4.alloc (.cells #[.int .i64 1, .int .i64 10, .bool false, .int .i64 2, .int .i64 0, .bool true, .int .i64 3, .int .i64 33, .bool false] 29)) := (Below.refl _ _).alloc (Nat.le_refl _) _
  have HBM := Lib.hid hbm
  clear hbm
  go_wp2_with fail
  refine (has25_yes A3 (some ⟨W4.heap.size, 0, none⟩) (laid chM) chM 3 3 c3 3 _ HLM.out rfl (hs3.out.below HBM.out) (by exact sl_new1 _ _ _) (by rw [HLM.out]; omega) HCM.out (in_laid _)).mono ?_
  rintro e w5 ⟨rfl, hb5⟩
  have hb45 := bext HBM.out hb5
  have k3 : w5.cell? ⟨w4.heap.size, 0, none⟩ = some (.slice A6 2 c6) := ((bcell hb45).1 _ _ l2).trans k2
  have l3 : w4.heap.size < w5.heap.size := Nat.lt_of_lt_of_le l2 hb45.size
  have HB5 := Lib.hid (bext HB4.out hb45)
  have hs6 := Lib.hid (hs6.out.below hb45)
  have hbn : Below w5.heap.size w5 (w5.alloc (.cells #[.int .i64 1, .int .i64 10, .bool false, .int .i64 3, .int .i64 33, .bool false] 29)) := (Below.refl _ _).alloc (Nat.le_refl _) _
  have HBN := Lib.hid hbn
  clear k1 k2 hb5 hb45 hbn
  go_wp2_with fail
  refine (has25_yes A6 (some ⟨w5.heap.size, 0, none⟩) (laid chN) chN 2 2 c6 2 _ HLN.out rfl (hs6.out.below HBN.out) (by exact sl_new1 _ _ _) (by rw [HLN.out]; omega) HCN.out (in_laid _)).mono ?_
  rintro e w6 ⟨rfl, hb6⟩
  go_wp2
  go_ret
  exact ⟨rfl, bext HB5.out (bext HBN.out hb6)⟩

theorem le_sum : ∀ {l : List Nat} {x : Nat}, x ∈ l → x ≤ l.sum
  | [], _, h => by simp at h
  | y :: l, x, h => by
    rw [List.sum_cons]
    rcases List.mem_cons.1 h with rfl | h
    · omega
    · have := le_sum h; omega
theorem rs_le {Rs : List Rm} {T : Nat} (h : (Rs.map (fun r => r.l.length)).sum ≤ T) : ∀ r ∈ Rs, r.l.length ≤ T := fun r hr => Nat.le_trans (le_sum (List.mem_map.2 ⟨r, hr, rfl⟩)) h
/-- more than may be gone through? -/
def GreatIs (Rs : List Rm) (most : Nat) (w : World) (r : Ending) (w' : World) : Prop := ∃ G : Bool, r = .returned (.bool G) ∧ (G = false → Rs.length + (Rs.map (fun r => r.l.length)).sum ≤ most) ∧ w = w'
set_option maxHeartbeats 1000000 in
theorem great25_any (B : Option Addr) (Rs : List Rm) (c most : Nat) (w : World) (hB : RunsAt w B Rs) (hm : most ≤ 1000000) :
    Calls Tryd.prog 44 #[.slice B Rs.length c, .int .i64 most] w (GreatIs Rs most w) := by
  go_enter Tryd.func44, Tryd.ntmps44
  go_wp2
  go_loop [5, 6] (fun n i => ∃ k s : Nat, k ≤ Rs.length ∧ i = .int .i64 k ∧ n = .int .i64 s ∧ Hid (s = Rs.length + ((Rs.take k).map (fun r => r.l.length)).sum) ∧ (s ≤ most + most ∨ k = 0)) (fun _ i => Rs.length - (intOf i).toNat)
  case atStart => exact ⟨0, Rs.length, Nat.zero_le _, rfl, rfl, by show _ = _; simp, .inr rfl⟩
  case round =>
    obtain ⟨k, s, hk, rfl, rfl, hs, hsm⟩ := hrel
    by_cases hlt : k < Rs.length
    · obtain ⟨b, off, rfl, hbl, cp⟩ := hB.sl.one k hlt
      have hsum : ((Rs.take (k + 1)).map (fun r => r.l.length)).sum = ((Rs.take k).map (fun r => r.l.length)).sum + (Rs[k]'hlt).l.length := by
        rw [List.take_succ_eq_append_getElem hlt, List.map_append, List.sum_append]; simp
      obtain ⟨r, hr⟩ : ∃ r, Rs[k]'hlt = r := ⟨_, rfl⟩
      rw [hr] at cp hsum
      obtain ⟨l, A, cl⟩ := r
      have cp1 : w.cell? ⟨b, off + k, none⟩ = some (.slice A l.length cl) := cp
      dsimp only at hsum
      have HSUM := Lib.hid hsum
      have hki : (0 : Int) ≤ (k : Int) := by omega
      have hki2 : (k : Int) < (Rs.length : Int) := by omega
      clear cp hr hsum
      by_cases h1 : most < s
      · have e1 : decide ((most : Int) < (s : Int)) = true := decide_eq_true (by omega)
        go_wp2
        go_ret
        exact ⟨true, rfl, (fun h => nomatch h), rfl⟩
      · have e1 : decide ((most : Int) < (s : Int)) = false := decide_eq_false (by omega)
        have hRm : Rs.length ≤ most := by have := hs.out; omega
        by_cases h2 : most < l.length
        · have e2 : decide ((most : Int) < (l.length : Int)) = true := decide_eq_true (by omega)
          go_wp2
          go_ret
          exact ⟨true, rfl, (fun h => nomatch h), rfl⟩
        · have e2 : decide ((most : Int) < (l.length : Int)) = false := decide_eq_false (by omega)
          have e3 : IntKind.i64.wrap ((s : Int) + (l.length : Int)) = (s : Int) + (l.length : Int) := IntWalk.i64_in _ (by omega)
          go_wp2
          go_round
          case rel => exact ⟨k + 1, s + l.length, by omega, by go_num, by go_num, by show _ = _; rw [HSUM.out, hs.out]; omega, .inl (by omega)⟩
          case measure => simp [intOf]; omega
    · have hkn : k = Rs.length := by omega
      have hsum : s = Rs.length + (Rs.map (fun r => r.l.length)).sum := by rw [hs.out, hkn, List.take_of_length_le (Nat.le_refl _)]
      have HS := Lib.hid hsum
      clear hkn hsum
      by_cases h1 : most < s
      · have e1 : decide ((most : Int) < (s : Int)) = true := decide_eq_true (by omega)
        go_wp2
        go_ret
        exact ⟨true, rfl, (fun h => nomatch h), rfl⟩
      · have e1 : decide ((most : Int) < (s : Int)) = false := decide_eq_false (by omega)
        go_wp2
        go_ret
        exact ⟨false, rfl, fun _ => by have := HS.out; omega, rfl⟩
end Go.Proofs.YtokomclcgegfkaaDoor
