/- The law KwayNewest: for every runs and key it returns true; its arguments stay as they were. -/
import Derived.Test.YtokomclcgegfkaaDoorKte
namespace Go.Proofs.YtokomclcgegfkaaDoor
open Go Go.RowKit
set_option maxRecDepth 100000
def liveO (o : Option Ent) : Option Ent := o.bind (fun e => if e.dead then none else some e)
theorem gt_mL {rs : List (List Ent)} (h : mE rs = 0) (key : Int) : gtE (mL rs false) key = isE (newest rs key) ∧ gtX (mL rs false) key = (newest rs key).getD zeroE := by
  unfold gtE gtX
  rw [if_pos (mL_chk false h), if_pos (mL_chk false h), mL_look h]
  exact ⟨rfl, rfl⟩
theorem gt_mN {rs : List (List Ent)} (h : mE rs = 0) (key : Int) : gtE (mL rs true) key = isE (liveO (newest rs key)) ∧ gtX (mL rs true) key = (liveO (newest rs key)).getD zeroE := by
  unfold gtE gtX
  rw [if_pos (mL_chk true h), if_pos (mL_chk true h), mL_look_bare h]
  exact ⟨rfl, rfl⟩
theorem kf_isE {rs : List (List Ent)} (h : chkAllE rs = 0) (key : Int) : kfE rs key = isE (newest rs key) ∧ kfX rs key = (newest rs key).getD zeroE := by
  unfold kfE kfX
  rw [if_pos h, if_pos h]
  exact ⟨rfl, rfl⟩
theorem live_dead {o : Option Ent} (h : (o.getD zeroE).dead = true) : isE (liveO o) = 6 := by
  cases o with
  | none => rfl
  | some e => unfold liveO; simp at h; simp [h, isE]
theorem live_same {o : Option Ent} (h : (o.getD zeroE).dead = false) : liveO o = o := by
  cases o with
  | none => rfl
  | some e => unfold liveO; simp at h; simp [h]
/-- what stands in memory while the newest is looked for -/
structure Nst (U : World) (g : Nat) (o : Option Ent) (wr : World) : Prop where
  bel : Below U.heap.size U wr
  bf : Blk wr g 29 #[.int .i64 (o.getD zeroE).key, .int .i64 (o.getD zeroE).val, .bool (o.getD zeroE).dead]
set_option maxHeartbeats 8000000 in
theorem kwayNewest_any (B : Option Addr) (Rs : List Rm) (c : Nat) (key : Int) (w : World) (hB : RunsAt w B Rs) (hT : TabAt 1 Lib.deBruijn64tab w) : Calls Tryd.prog 10 #[.slice B Rs.length c, .int .i64 key] w fun r w' => r = .returned (.bool true) ∧ Below w.heap.size w w' := by
  have HB := Lib.hid hB
  have HT := Lib.hid hT
  clear hB hT
  go_enter Tryd.func10, Tryd.ntmps10
  have HF := Lib.hid (Below.refl w.heap.size w)
  have HY1 := Lib.hid (HB.out)
  have HY2 := Lib.hid (HT.out)
  go_wp2_with fail
  refine (alive25_any _).mono ?_
  rintro e w3 ⟨rfl, hb4⟩
  have HF5 := Lib.hid (bext HF.out hb4)
  have HY6 := Lib.hid (RunsAt.below HY1.out hb4)
  have HY7 := Lib.hid (tab_below' HY2.out hb4)
  clear HF HY1 HY2
  clear hb4
  go_wp2_with fail
  refine (great25_any B Rs c 300 _ HY6.out (by omega)).mono ?_
  rintro e w1' ⟨G, rfl, hG, rfl⟩
  have HG := Lib.hid hG
  clear hG
  cases G
  case true =>
    go_wp2
    go_ret
    exact ⟨rfl, HF5.out⟩
  case false =>
  have hG := HG.out rfl
  have hlen : Rs.length ≤ 300 := by omega
  have hsum : (Rs.map (fun r => r.l.length)).sum ≤ 300 := by omega
  have HRB := Lib.hid (fun r hr => Nat.le_trans (rs_le hsum r hr) (by omega) : ∀ r ∈ Rs, r.l.length ≤ 4611686018427387903)
  have hsum2 : ((Rs.map Rm.l).map List.length).sum ≤ 300 := by rw [List.map_map]; exact hsum
  obtain ⟨ls, hls⟩ : ∃ ls, Rs.map Rm.l = ls := ⟨_, rfl⟩
  rw [hls] at hsum2
  have hlsn : ls.length = Rs.length := by rw [← hls]; simp
  have HLS := Lib.hid hls
  have HLN := Lib.hid hlsn
  obtain ⟨M, hM⟩ : ∃ M, mL ls false = M := ⟨_, rfl⟩
  obtain ⟨N, hN⟩ : ∃ N, mL ls true = N := ⟨_, rfl⟩
  obtain ⟨E, hE⟩ : ∃ E, mE ls = E := ⟨_, rfl⟩
  have hMl : M.length ≤ 300 := by rw [← hM]; exact mL_len false hsum2
  have hNl : N.length ≤ 300 := by rw [← hN]; exact mL_len true hsum2
  have HM := Lib.hid hM
  have HN := Lib.hid hN
  have HE := Lib.hid hE
  clear hG hM hN hE hsum2 HG hls hlsn
  go_wp2_with fail
  refine (merge_any B Rs c 300 false _ HY6.out (by omega) HRB.out hsum (by omega)).mono ?_
  rw [mrgE_m, mrgL_m, HLS.out, HM.out, HE.out]
  rintro e w8 ⟨A1, c1, rfl, hoa, hb9⟩
  have HF10 := Lib.hid (bext HF5.out hb9)
  have HY11 := Lib.hid (RunsAt.below HY6.out hb9)
  have HY12 := Lib.hid (tab_below' HY7.out hb9)
  clear HF5 HY6 HY7
  clear hb9
  have HY13 := Lib.hid (own_sl hoa)
  clear hoa
  go_upto_region 5 with fail
  obtain ⟨U14, h16⟩ : ∃ U, w8.alloc (.cells #[.slice A1 M.length c1] 24) = U := ⟨_, rfl⟩
  have ba17 : Below w8.heap.size w8 U14 := by rw [← h16]; exact (Below.refl _ _).alloc (Nat.le_refl _) _
  have bn18 : Blk U14 w8.heap.size 24 #[.slice A1 M.length c1] := by rw [← h16]; exact Blk.new _ _ _
  try rw [h16]
  have HF19 := Lib.hid (bext HF10.out ba17)
  have HY20 := Lib.hid (RunsAt.below HY11.out ba17)
  have HY21 := Lib.hid (tab_below' HY12.out ba17)
  have HY22 := Lib.hid (HY13.out.below ba17)
  clear HF10 HY11 HY12 HY13
  obtain ⟨g15, h23⟩ : ∃ g, w8.heap.size = g := ⟨_, rfl⟩
  rw [h23] at bn18
  try rw [h23]
  have HX24 := Lib.hid bn18
  clear h16 ba17 bn18 h23
  go_wp2_with fail
  refine (merge_any B Rs c 300 true _ HY20.out (by omega) HRB.out hsum (by omega)).mono ?_
  rw [mrgE_m, mrgL_m, HLS.out, HN.out, HE.out]
  rintro e w25 ⟨A2, c2, rfl, hob, hb26⟩
  have HF27 := Lib.hid (bext HF19.out hb26)
  have HX28 := Lib.hid (HX24.out.below hb26 HX24.out.lt)
  have HY29 := Lib.hid (RunsAt.below HY20.out hb26)
  have HY30 := Lib.hid (tab_below' HY21.out hb26)
  have HY31 := Lib.hid (HY22.out.below hb26)
  clear HF19 HX24 HY20 HY21 HY22
  clear hb26
  have HY32 := Lib.hid (own_sl hob)
  clear hob
  go_upto_region 6 with fail
  obtain ⟨U33, h35⟩ : ∃ U, w25.alloc (.cells #[.slice A2 N.length c2] 24) = U := ⟨_, rfl⟩
  have ba36 : Below w25.heap.size w25 U33 := by rw [← h35]; exact (Below.refl _ _).alloc (Nat.le_refl _) _
  have bn37 : Blk U33 w25.heap.size 24 #[.slice A2 N.length c2] := by rw [← h35]; exact Blk.new _ _ _
  try rw [h35]
  have HF38 := Lib.hid (bext HF27.out ba36)
  have HX39 := Lib.hid (HX28.out.below ba36 HX28.out.lt)
  have HY40 := Lib.hid (RunsAt.below HY29.out ba36)
  have HY41 := Lib.hid (tab_below' HY30.out ba36)
  have HY42 := Lib.hid (HY31.out.below ba36)
  have HY43 := Lib.hid (HY32.out.below ba36)
  clear HF27 HX28 HY29 HY30 HY31 HY32
  obtain ⟨g34, h44⟩ : ∃ g, w25.heap.size = g := ⟨_, rfl⟩
  rw [h44] at bn37
  try rw [h44]
  have HX45 := Lib.hid bn37
  clear h35 ba36 bn37 h44
  by_cases h0 : E = 0
  case neg =>
    have h1 : (E != 0) = true := by simpa using h0
    have hM0 : M = [] := by rw [← HM.out]; unfold mL; rw [HE.out, if_neg h0]
    have hN0 : N = [] := by rw [← HN.out]; unfold mL; rw [HE.out, if_neg h0]
    subst hM0
    subst hN0
    clear h0
    have k1 : U33.cell? ⟨g15, 0, none⟩ = some (.slice A1 0 c1) := HX39.out.cell 0
    have k2 : U33.cell? ⟨g34, 0, none⟩ = some (.slice A2 0 c2) := HX45.out.cell 0
    go_wp2
    go_ret
    exact ⟨rfl, HF38.out⟩
  case pos =>
  subst h0
  have hC := mE_chk HE.out
  obtain ⟨o, ho⟩ : ∃ o, newest ls key = o := ⟨_, rfl⟩
  obtain ⟨x1, x2⟩ := gt_mL HE.out key
  obtain ⟨y1, y2⟩ := gt_mN HE.out key
  obtain ⟨z1, z2⟩ := kf_isE hC key
  rw [HM.out, ho] at x1 x2
  rw [HN.out, ho] at y1 y2
  rw [ho] at z1 z2
  have HX1 := Lib.hid x1
  have HX2 := Lib.hid x2
  have HY1 := Lib.hid y1
  have HY2 := Lib.hid y2
  have HZ1 := Lib.hid z1
  have HZ2 := Lib.hid z2
  have HO := Lib.hid ho
  have HC := Lib.hid hC
  clear x1 x2 y1 y2 z1 z2 ho hC
  have hN0 : Nst U33 U33.heap.size none (U33.alloc (.cells #[.int .i64 0, .int .i64 0, .bool false] 29)) := ⟨(Below.refl _ _).alloc (Nat.le_refl _) _, Blk.new _ _ _⟩
  go_upto_region 9 with fail
  obtain ⟨W9, hW9⟩ : ∃ W, U33.alloc (.cells #[.int .i64 0, .int .i64 0, .bool false] 29) = W := ⟨_, rfl⟩
  rw [hW9] at hN0
  try rw [hW9]
  obtain ⟨g10, hg10⟩ : ∃ g, U33.heap.size = g := ⟨_, rfl⟩
  have hgU : U33.heap.size ≤ g10 := Nat.le_of_eq hg10
  have hgU2 : g10 < W9.heap.size := by rw [← hg10]; exact hN0.bf.lt
  rw [hg10] at hN0
  try rw [hg10]
  have HN0 := Lib.hid hN0
  clear hW9 hg10 hN0 hgU2
  go_wp2_with fail
  go_loopw [11, 12] (fun v i wr => ∃ (k : Nat) (o : Option Ent) (G : Int), k ≤ Rs.length ∧ i = .int .i64 ((k : Int) - 1) ∧ v = .int .i64 G ∧ Hid (G = isE o) ∧ Hid (o = newest (ls.drop k) key) ∧ Hid (Nst U33 g10 o wr)) (fun _ i _ => (intOf i + 1).toNat)
  case atStart => exact ⟨Rs.length, none, 6, Nat.le_refl _, by first | rfl | go_num | (congr 1; omega), rfl, rfl, by show _ = _; rw [List.drop_eq_nil_of_le (by rw [HLN.out]; exact Nat.le_refl _)]; rfl, HN0.out⟩
  case round =>
    obtain ⟨k, o', G, hk, rfl, rfl, hG, ho', hNs⟩ := hrel
    by_cases h0 : k = 0
    · subst h0
      have hoo : o' = o := by rw [ho'.out, List.drop_zero]; exact HO.out
      subst hoo
      obtain ⟨X, hX⟩ : ∃ X, o'.getD zeroE = X := ⟨_, rfl⟩
      have bW := hNs.out.bf
      rw [hX] at bW
      have HBW := Lib.hid bW
      have HXX := Lib.hid hX
      have HFR := Lib.hid (bext HF38.out hNs.out.bel)
      have HTR := Lib.hid (tab_below' HY41.out hNs.out.bel)
      have HBR := Lib.hid (RunsAt.below HY40.out hNs.out.bel)
      have HSA := Lib.hid (HY42.out.below hNs.out.bel)
      have HSB := Lib.hid (HY43.out.below hNs.out.bel)
      have HXA := Lib.hid (HX39.out.below hNs.out.bel HX39.out.lt)
      have HXB := Lib.hid (HX45.out.below hNs.out.bel HX45.out.lt)
      obtain ⟨XB, hXB⟩ : ∃ XB, (liveO o').getD zeroE = XB := ⟨_, rfl⟩
      obtain ⟨EB, hEB⟩ : ∃ EB, isE (liveO o') = EB := ⟨_, rfl⟩
      have HXB2 := Lib.hid hXB
      have HEB := Lib.hid hEB
      have hGG := hG.out
      have HGG := Lib.hid hGG.symm
      clear hX bW hXB hEB hGG
      have c501 : wr.cell? ⟨g15, 0, none⟩ = some (.slice A1 M.length c1) := HXA.out.cell 0
      have l502 : g15 < wr.heap.size := HXA.out.lt
      go_wp2_with fail
      clear c501 l502
      refine (runGet_any A1 M c1 key _ HSA.out (by omega) HTR.out).mono ?_
      rw [HX1.out, HX2.out, HGG.out, HXX.out]
      rintro e w503 ⟨rfl, hb504⟩
      have HF505 := Lib.hid (bext HFR.out hb504)
      have HX506 := Lib.hid (HXA.out.below hb504 HXA.out.lt)
      have HX507 := Lib.hid (HXB.out.below hb504 HXB.out.lt)
      have HX508 := Lib.hid (HBW.out.below hb504 HBW.out.lt)
      have HY509 := Lib.hid (RunsAt.below HBR.out hb504)
      have HY510 := Lib.hid (tab_below' HTR.out hb504)
      have HY511 := Lib.hid (HSA.out.below hb504)
      have HY512 := Lib.hid (HSB.out.below hb504)
      clear HFR HXA HXB HBW HBR HTR HSA HSB
      clear hb504
      go_upto_region 16 with fail
      obtain ⟨U513, h515⟩ : ∃ U, w503.alloc (.cells #[.int .i64 X.key, .int .i64 X.val, .bool X.dead] 29) = U := ⟨_, rfl⟩
      have ba516 : Below w503.heap.size w503 U513 := by rw [← h515]; exact (Below.refl _ _).alloc (Nat.le_refl _) _
      have bn517 : Blk U513 w503.heap.size 29 #[.int .i64 X.key, .int .i64 X.val, .bool X.dead] := by rw [← h515]; exact Blk.new _ _ _
      try rw [h515]
      have HF518 := Lib.hid (bext HF505.out ba516)
      have HX519 := Lib.hid (HX506.out.below ba516 HX506.out.lt)
      have HX520 := Lib.hid (HX507.out.below ba516 HX507.out.lt)
      have HX521 := Lib.hid (HX508.out.below ba516 HX508.out.lt)
      have HY522 := Lib.hid (RunsAt.below HY509.out ba516)
      have HY523 := Lib.hid (tab_below' HY510.out ba516)
      have HY524 := Lib.hid (HY511.out.below ba516)
      have HY525 := Lib.hid (HY512.out.below ba516)
      clear HF505 HX506 HX507 HX508 HY509 HY510 HY511 HY512
      obtain ⟨g514, h526⟩ : ∃ g, w503.heap.size = g := ⟨_, rfl⟩
      rw [h526] at bn517
      try rw [h526]
      have HX527 := Lib.hid bn517
      clear h515 ba516 bn517 h526
      have c528 : U513.cell? ⟨g34, 0, none⟩ = some (.slice A2 N.length c2) := HX520.out.cell 0
      have l529 : g34 < U513.heap.size := HX520.out.lt
      go_wp2_with fail
      clear c528 l529
      refine (runGet_any A2 N c2 key _ HY525.out (by omega) HY523.out).mono ?_
      rw [HY1.out, HY2.out, HEB.out, HXB2.out]
      rintro e w530 ⟨rfl, hb531⟩
      have HF532 := Lib.hid (bext HF518.out hb531)
      have HX533 := Lib.hid (HX519.out.below hb531 HX519.out.lt)
      have HX534 := Lib.hid (HX520.out.below hb531 HX520.out.lt)
      have HX535 := Lib.hid (HX521.out.below hb531 HX521.out.lt)
      have HX536 := Lib.hid (HX527.out.below hb531 HX527.out.lt)
      have HY537 := Lib.hid (RunsAt.below HY522.out hb531)
      have HY538 := Lib.hid (tab_below' HY523.out hb531)
      have HY539 := Lib.hid (HY524.out.below hb531)
      have HY540 := Lib.hid (HY525.out.below hb531)
      clear HF518 HX519 HX520 HX521 HX527 HY522 HY523 HY524 HY525
      clear hb531
      go_upto_region 17 with fail
      obtain ⟨U541, h543⟩ : ∃ U, w530.alloc (.cells #[.int .i64 XB.key, .int .i64 XB.val, .bool XB.dead] 29) = U := ⟨_, rfl⟩
      have ba544 : Below w530.heap.size w530 U541 := by rw [← h543]; exact (Below.refl _ _).alloc (Nat.le_refl _) _
      have bn545 : Blk U541 w530.heap.size 29 #[.int .i64 XB.key, .int .i64 XB.val, .bool XB.dead] := by rw [← h543]; exact Blk.new _ _ _
      try rw [h543]
      have HF546 := Lib.hid (bext HF532.out ba544)
      have HX547 := Lib.hid (HX533.out.below ba544 HX533.out.lt)
      have HX548 := Lib.hid (HX534.out.below ba544 HX534.out.lt)
      have HX549 := Lib.hid (HX535.out.below ba544 HX535.out.lt)
      have HX550 := Lib.hid (HX536.out.below ba544 HX536.out.lt)
      have HY551 := Lib.hid (RunsAt.below HY537.out ba544)
      have HY552 := Lib.hid (tab_below' HY538.out ba544)
      have HY553 := Lib.hid (HY539.out.below ba544)
      have HY554 := Lib.hid (HY540.out.below ba544)
      clear HF532 HX533 HX534 HX535 HX536 HY537 HY538 HY539 HY540
      obtain ⟨g542, h555⟩ : ∃ g, w530.heap.size = g := ⟨_, rfl⟩
      rw [h555] at bn545
      try rw [h555]
      have HX556 := Lib.hid bn545
      clear h543 ba544 bn545 h555
      go_wp2_with fail
      refine (kfind_any B Rs c key _ HY551.out (by omega) HRB.out HY552.out).mono ?_
      rw [HLS.out, HZ1.out, HZ2.out, HGG.out, HXX.out]
      rintro e w557 ⟨rfl, hb558⟩
      have HF559 := Lib.hid (bext HF546.out hb558)
      have HX560 := Lib.hid (HX547.out.below hb558 HX547.out.lt)
      have HX561 := Lib.hid (HX548.out.below hb558 HX548.out.lt)
      have HX562 := Lib.hid (HX549.out.below hb558 HX549.out.lt)
      have HX563 := Lib.hid (HX550.out.below hb558 HX550.out.lt)
      have HX564 := Lib.hid (HX556.out.below hb558 HX556.out.lt)
      have HY565 := Lib.hid (RunsAt.below HY551.out hb558)
      have HY566 := Lib.hid (tab_below' HY552.out hb558)
      have HY567 := Lib.hid (HY553.out.below hb558)
      have HY568 := Lib.hid (HY554.out.below hb558)
      clear HF546 HX547 HX548 HX549 HX550 HX556 HY551 HY552 HY553 HY554
      clear hb558
      go_upto_region 18 with fail
      obtain ⟨U569, h571⟩ : ∃ U, w557.alloc (.cells #[.int .i64 X.key, .int .i64 X.val, .bool X.dead] 29) = U := ⟨_, rfl⟩
      have ba572 : Below w557.heap.size w557 U569 := by rw [← h571]; exact (Below.refl _ _).alloc (Nat.le_refl _) _
      have bn573 : Blk U569 w557.heap.size 29 #[.int .i64 X.key, .int .i64 X.val, .bool X.dead] := by rw [← h571]; exact Blk.new _ _ _
      try rw [h571]
      have HF574 := Lib.hid (bext HF559.out ba572)
      have HX575 := Lib.hid (HX560.out.below ba572 HX560.out.lt)
      have HX576 := Lib.hid (HX561.out.below ba572 HX561.out.lt)
      have HX577 := Lib.hid (HX562.out.below ba572 HX562.out.lt)
      have HX578 := Lib.hid (HX563.out.below ba572 HX563.out.lt)
      have HX579 := Lib.hid (HX564.out.below ba572 HX564.out.lt)
      have HY580 := Lib.hid (RunsAt.below HY565.out ba572)
      have HY581 := Lib.hid (tab_below' HY566.out ba572)
      have HY582 := Lib.hid (HY567.out.below ba572)
      have HY583 := Lib.hid (HY568.out.below ba572)
      clear HF559 HX560 HX561 HX562 HX563 HX564 HY565 HY566 HY567 HY568
      obtain ⟨g570, h584⟩ : ∃ g, w557.heap.size = g := ⟨_, rfl⟩
      rw [h584] at bn573
      try rw [h584]
      have HX585 := Lib.hid bn573
      clear h571 ba572 bn573 h584
      have c586 : U569.cell? ⟨g10, 0, none⟩ = some (.int .i64 X.key) := HX577.out.cell 0
      have c587 : U569.cell? ⟨g10, 1, none⟩ = some (.int .i64 X.val) := HX577.out.cell 1
      have c588 : U569.cell? ⟨g10, 2, none⟩ = some (.bool X.dead) := HX577.out.cell 2
      have l589 : g10 < U569.heap.size := HX577.out.lt
      have c590 : U569.cell? ⟨g514, 0, none⟩ = some (.int .i64 X.key) := HX578.out.cell 0
      have c591 : U569.cell? ⟨g514, 1, none⟩ = some (.int .i64 X.val) := HX578.out.cell 1
      have c592 : U569.cell? ⟨g514, 2, none⟩ = some (.bool X.dead) := HX578.out.cell 2
      have l593 : g514 < U569.heap.size := HX578.out.lt
      have c594 : U569.cell? ⟨g542, 0, none⟩ = some (.int .i64 XB.key) := HX579.out.cell 0
      have c595 : U569.cell? ⟨g542, 1, none⟩ = some (.int .i64 XB.val) := HX579.out.cell 1
      have c596 : U569.cell? ⟨g542, 2, none⟩ = some (.bool XB.dead) := HX579.out.cell 2
      have l597 : g542 < U569.heap.size := HX579.out.lt
      have c598 : U569.cell? ⟨g570, 0, none⟩ = some (.int .i64 X.key) := HX585.out.cell 0
      have c599 : U569.cell? ⟨g570, 1, none⟩ = some (.int .i64 X.val) := HX585.out.cell 1
      have c600 : U569.cell? ⟨g570, 2, none⟩ = some (.bool X.dead) := HX585.out.cell 2
      have l601 : g570 < U569.heap.size := HX585.out.lt
      have hxx := fun w => run_eql_ent X X w
      have hxy := eqX_self X
      have hyy := fun w => run_eql_ent XB X w
      cases hd : X.dead
      · have hl : liveO o' = o' := live_same (by rw [HXX.out]; exact hd)
        have e1 : XB = X := by rw [← HXB2.out, hl]; exact HXX.out
        have e2 : EB = G := by rw [← HEB.out, hl]; exact HGG.out
        subst e1
        subst e2
        simp only [hd] at hxx hyy c586 c587 c588 c590 c591 c592 c594 c595 c596 c598 c599 c600
        clear hyy hd hl
        go_wp2
        go_ret
        exact ⟨rfl, HF574.out⟩
      · have e2 : EB = 6 := by rw [← HEB.out]; exact live_dead (by rw [HXX.out]; exact hd)
        subst e2
        simp only [hd] at hxx hyy c586 c587 c588 c590 c591 c592 c594 c595 c596 c598 c599 c600
        clear hyy hd
        go_wp2
        go_ret
        exact ⟨rfl, HF574.out⟩
    · obtain ⟨j, rfl⟩ : ∃ j, k = j + 1 := ⟨k - 1, by omega⟩
      have hj1 : ((j + 1 : Nat) : Int) - 1 = (j : Int) := by omega
      rw [hj1]
      have hlt : j < Rs.length := by omega
      have hltr : j < ls.length := by rw [HLN.out]; exact hlt
      have hs := newest_drop hltr key
      have hg : ls[j]'hltr = (Rs[j]'hlt).l := by have := HLS.out; subst this; simp
      rw [hg, ← ho'.out] at hs
      have hcr : chkE (Rs[j]'hlt).l = 0 := by rw [← hg]; exact chkAll_ok HC.out _ (List.getElem_mem hltr)
      have HBR := Lib.hid (RunsAt.below HY40.out hNs.out.bel)
      have HTR := Lib.hid (tab_below' HY41.out hNs.out.bel)
      obtain ⟨b, off, hBB, hbl, cp⟩ := HBR.out.sl.one j hlt
      have hok := HBR.out.ok _ (List.getElem_mem hlt)
      have hrl := HRB.out _ (List.getElem_mem hlt)
      obtain ⟨r, hr⟩ : ∃ r, Rs[j]'hlt = r := ⟨_, rfl⟩
      rw [hr] at hs cp hok hrl hcr
      obtain ⟨l, A, cl⟩ := r
      have cp1 : wr.cell? ⟨b, off + j, none⟩ = some (.slice A l.length cl) := cp
      dsimp only at hs hrl hcr
      have i0 : (0 : Int) ≤ (j : Int) := by omega
      have i1 : (j : Int) < (Rs.length : Int) := by omega
      have HOK := Lib.hid hok.sl
      obtain ⟨q, hq⟩ : ∃ q, look l key = q := ⟨_, rfl⟩
      have hgE : gtE l key = isE q := by unfold gtE; rw [if_pos hcr, hq]; rfl
      have hgX : gtX l key = q.getD zeroE := by unfold gtX; rw [if_pos hcr, hq]
      rw [hq] at hs
      obtain ⟨f, hf⟩ : ∃ f, isE q = f := ⟨_, rfl⟩
      obtain ⟨y, hy⟩ : ∃ y, q.getD zeroE = y := ⟨_, rfl⟩
      rw [hf] at hgE
      rw [hy] at hgX
      have HGE := Lib.hid hgE
      have HGX := Lib.hid hgX
      have HF1 := Lib.hid hf
      have HY := Lib.hid hy
      have HS := Lib.hid hs
      subst hBB
      clear cp hg hr hok hs hcr hq hgE hgX hf hy hj1 h0
      go_wp2_with fail
      refine (runGet_any A l cl key _ HOK.out hrl HTR.out).mono ?_
      rw [HGE.out, HGX.out]
      rintro e w2 ⟨rfl, hb2⟩
      have ba : Below w2.heap.size w2 (w2.alloc (.cells #[.int .i64 y.key, .int .i64 y.val, .bool y.dead] 29)) := (Below.refl _ _).alloc (Nat.le_refl _) _
      have bY : Blk (w2.alloc (.cells #[.int .i64 y.key, .int .i64 y.val, .bool y.dead] 29)) w2.heap.size 29 #[.int .i64 y.key, .int .i64 y.val, .bool y.dead] := Blk.new _ _ _
      have hb3 := bext hb2 ba
      clear cp1 hb2
      go_upto_region 13 with fail
      obtain ⟨W3, hW3⟩ : ∃ W3, w2.alloc (.cells #[.int .i64 y.key, .int .i64 y.val, .bool y.dead] 29) = W3 := ⟨_, rfl⟩
      rw [hW3] at ba bY hb3
      try rw [hW3]
      have bF1 := hNs.out.bf.below hb3 hNs.out.bf.lt
      have hb4 := bext hNs.out.bel hb3
      have HM4 := Lib.hid (And.intro hb4 bF1)
      clear hW3 ba hb4
      cases q with
      | none =>
        obtain rfl : f = 6 := HF1.out.symm
        clear bF1 bY
        go_wp2_with fail
        go_roundw
        case rel => exact ⟨j, o', G, by omega, by go_num, rfl, hG, by show _ = _; rw [HS.out, Option.none_or], ⟨HM4.out.1, HM4.out.2⟩⟩
        case measure => first | (simp [intOf]; omega) | simp [intOf]
      | some z =>
        obtain rfl : f = 0 := HF1.out.symm
        have d0y : W3.cell? ⟨w2.heap.size, 0, none⟩ = some (.int .i64 y.key) := bY.cell 0
        have d1y : W3.cell? ⟨w2.heap.size, 1, none⟩ = some (.int .i64 y.val) := bY.cell 1
        have d2y : W3.cell? ⟨w2.heap.size, 2, none⟩ = some (.bool y.dead) := bY.cell 2
        obtain ⟨Z, hZ⟩ : ∃ Z, o'.getD zeroE = Z := ⟨_, rfl⟩
        rw [hZ] at bF1
        have d0 : W3.cell? ⟨g10, 0, none⟩ = some (.int .i64 Z.key) := bF1.cell 0
        have d1 : W3.cell? ⟨g10, 1, none⟩ = some (.int .i64 Z.val) := bF1.cell 1
        have d2 : W3.cell? ⟨g10, 2, none⟩ = some (.bool Z.dead) := bF1.cell 2
        have f0 := bF1.frozen 0
        have f1 := bF1.frozen 1
        have f2 := bF1.frozen 2
        have HBF := Lib.hid bF1
        clear bF1 bY hZ
        go_wp2_with fail
        have bF2 := put3 HBF.out (.int .i64 y.key) (.int .i64 y.val) (.bool y.dead)
        go_roundw
        case rel => exact ⟨j, some z, 0, by omega, by go_num, rfl, rfl, by show _ = _; rw [HS.out, Option.some_or], ⟨below3 HM4.out.1 hgU _ _ _, by rw [HY.out]; exact bF2⟩⟩
        case measure => first | (simp [intOf]; omega) | simp [intOf]
end Go.Proofs.YtokomclcgegfkaaDoor
