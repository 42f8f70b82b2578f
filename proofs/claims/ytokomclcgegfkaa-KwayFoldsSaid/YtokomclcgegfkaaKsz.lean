/- The law KwaySizes: for every runs it returns true; its arguments stay as they were. -/
import Derived.Test.YtokomclcgegfkaaKy
import Derived.Test.YtokomclcgegfkaaKtw
namespace Go.Proofs.Ytokomclcgegfkaa
open Go Go.RowKit
set_option maxRecDepth 100000

set_option maxHeartbeats 8000000 in
theorem kwaySizes_any (B : Option Addr) (Rs : List Rm) (c : Nat) (w : World) (hB : RunsAt w B Rs) :
    Calls Try.prog 7 #[.slice B Rs.length c] w fun r w' => r = .returned (.bool true) ∧ Below w.heap.size w w' := by
  have HB := Lib.hid hB
  clear hB
  go_enter Try.func7, Try.ntmps7
  go_wp2_with fail
  refine (alive25_any _).mono ?_
  rintro e w1 ⟨rfl, hb1⟩
  have HB1 := Lib.hid hb1
  clear hb1
  go_wp2_with fail
  refine (great25_any B Rs c 300 _ (HB.out.below HB1.out) (by omega)).mono ?_
  rintro e w1' ⟨G, rfl, hG, rfl⟩
  have HG := Lib.hid hG
  clear hG
  cases G
  case true =>
    go_wp2
    go_ret
    exact ⟨rfl, HB1.out⟩
  case false =>
  have hG := HG.out rfl
  have hlen : Rs.length ≤ 300 := by omega
  have hsum : (Rs.map (fun r => r.l.length)).sum ≤ 300 := by omega
  have HRS := Lib.hid (fun r hr => Nat.le_trans (rs_le hsum r hr) (by omega) : ∀ r ∈ Rs, r.l.length ≤ 4611686018427387903)
  have hsum2 : ((Rs.map Rm.l).map List.length).sum ≤ 300 := by rw [List.map_map]; exact hsum
  have HSUM := Lib.hid hsum2
  obtain ⟨M, hM⟩ : ∃ M, mL (Rs.map Rm.l) false = M := ⟨_, rfl⟩
  obtain ⟨E, hE⟩ : ∃ E, mE (Rs.map Rm.l) = E := ⟨_, rfl⟩
  have hMl : M.length ≤ 300 := by rw [← hM]; exact mL_len false hsum2
  have HM := Lib.hid hM
  have HE := Lib.hid hE
  clear hG hM hE hsum2 HG
  go_wp2_with fail
  refine (merge_any B Rs c 300 false _ (HB.out.below HB1.out) (by omega) HRS.out hsum (by omega)).mono ?_
  rw [mrgE_m, mrgL_m, HM.out, HE.out]
  rintro e w2 ⟨A1, c1, rfl, ho1, hb2⟩
  have HO1 := Lib.hid ho1
  have HB2 := Lib.hid (bext HB1.out hb2)
  clear ho1 hb2
  go_upto_region 5 with fail
  obtain ⟨W2, hW2⟩ : ∃ W, w2.alloc (.cells #[.slice A1 M.length c1] 24) = W := ⟨_, rfl⟩
  have ba : Below w2.heap.size w2 W2 := by rw [← hW2]; exact (Below.refl _ _).alloc (Nat.le_refl _) _
  have bX : Blk W2 w2.heap.size 24 #[.slice A1 M.length c1] := by rw [← hW2]; exact Blk.new _ _ _
  try rw [hW2]
  obtain ⟨g4, hg4⟩ : ∃ g4, w2.heap.size = g4 := ⟨_, rfl⟩
  rw [hg4] at bX
  try rw [hg4]
  have HO1 := Lib.hid (own_below HO1.out ba)
  have HB2 := Lib.hid (bext HB2.out ba)
  have HX := Lib.hid bX
  have cX : W2.cell? ⟨g4, 0, none⟩ = some (.slice A1 M.length c1) := bX.cell 0
  have lX := bX.lt
  clear hW2 ba bX hg4
  by_cases h0 : E = 0
  case neg =>
    have h1 : (E != 0) = true := by simpa using h0
    clear h0
    go_wp2
    go_ret
    exact ⟨rfl, HB2.out⟩
  case pos =>
  subst h0
  have hC := mE_chk HE.out
  have hrc : ∀ r ∈ Rs, chkE r.l = 0 := fun r hr => chkAll_ok hC r.l (List.mem_map.2 ⟨r, hr, rfl⟩)
  have HRC := Lib.hid hrc
  have hMc : chkE M = 0 := by rw [← HM.out]; exact mL_chk false HE.out
  have HMC := Lib.hid hMc
  have hMe : mE [M, M] = 0 := self_E hMc (by omega)
  have hMm : mL [M, M] false = M := self_L hMc (by omega)
  have HME := Lib.hid hMe
  have HMM := Lib.hid hMm
  have HRge : Hid (∀ r ∈ Rs, r.l.length ≤ M.length) := by
    show ∀ _, _
    intro r hr
    rw [← HM.out]
    exact mL_ge HE.out (List.mem_map.2 ⟨r, hr, rfl⟩)
  have HMS : Hid (M.length ≤ (Rs.map (fun r => r.l.length)).sum) := by
    show _ ≤ _
    rw [← HM.out]
    exact mL_len false (by rw [List.map_map]; exact Nat.le_refl _)
  obtain ⟨A1', c1', e1, l1, m1⟩ := own_form HO1.out
  obtain ⟨rfl, rfl⟩ : A1 = A1' ∧ c1 = c1' := by simpa using e1
  clear hC hrc hMc hMe hMm e1
  go_upto_region 8 with fail
  go_wp2_with fail
  go_loopw [6, 7] (fun v i wr => ∃ k s : Nat, k ≤ Rs.length ∧ i = .int .i64 k ∧ v = .int .i64 s ∧ Below W2.heap.size W2 wr ∧ Hid (s = ((Rs.take k).map (fun r => r.l.length)).sum) ∧ s ≤ 300) (fun _ i _ => Rs.length - (intOf i).toNat)
  case atStart => exact ⟨0, 0, Nat.zero_le _, rfl, rfl, Below.refl _ _, rfl, by omega⟩
  case round =>
    clear cX
    obtain ⟨k, s, hk, rfl, rfl, hb, hs, hs3⟩ := hrel
    have hXr := HX.out.below hb lX
    have cX : wr.cell? ⟨g4, 0, none⟩ = some (.slice A1 M.length c1) := hXr.cell 0
    have lXr := hXr.lt
    have HBR := Lib.hid (bext HB2.out hb)
    have HBW := Lib.hid hb
    clear hXr hb
    by_cases hlt : k < Rs.length
    · obtain ⟨b, off, rfl, hbl, cp⟩ := (HB.out.below HBR.out).sl.one k hlt
      have hmem := List.getElem_mem hlt
      have hok := (HB.out.ok _ hmem).below HBR.out
      have hcr := HRC.out _ hmem
      have hge := HRge.out _ hmem
      have hss : ((Rs.take (k + 1)).map (fun r => r.l.length)).sum = ((Rs.take k).map (fun r => r.l.length)).sum + (Rs[k]'hlt).l.length := by
        rw [List.take_succ_eq_append_getElem hlt, List.map_append, List.sum_append]; simp
      have hst : ((Rs.take (k + 1)).map (fun r => r.l.length)).sum ≤ 300 := by
        have h7 : ((Rs.take (k + 1)).map (fun r => r.l.length)).sum + ((Rs.drop (k + 1)).map (fun r => r.l.length)).sum = (Rs.map (fun r => r.l.length)).sum := by
          rw [← List.sum_append, ← List.map_append, List.take_append_drop]
        omega
      obtain ⟨r, hr⟩ : ∃ r, Rs[k]'hlt = r := ⟨_, rfl⟩
      rw [hr] at cp hok hcr hge hss
      obtain ⟨l, A, cl⟩ := r
      have cp1 : wr.cell? ⟨b, off + k, none⟩ = some (.slice A l.length cl) := cp
      dsimp only at hss hge hcr
      have hE2 : mE [l, l] = 0 := self_E hcr (by omega)
      have hL2 : mL [l, l] false = l := self_L hcr (by omega)
      have HE2 := Lib.hid hE2
      have HL2 := Lib.hid hL2
      have HOK := Lib.hid hok
      have HSS : Hid (s + l.length = ((Rs.take (k + 1)).map (fun r => r.l.length)).sum) := by
        show _ = _
        rw [hss, ← hs.out]
      have hs4 : s + l.length ≤ 300 := by rw [HSS.out]; exact hst
      have hki : (0 : Int) ≤ (k : Int) := by omega
      have hki2 : (k : Int) < (Rs.length : Int) := by omega
      have hw4 : IntKind.i64.wrap ((s : Int) + (l.length : Int)) = (s : Int) + (l.length : Int) := IntWalk.i64_in _ (by omega)
      have htw : ∀ W, Below wr.heap.size wr W → Calls Try.prog 18 #[.agg #[.slice A l.length cl], .agg #[.slice A l.length cl], .bool false] W (GivesRun 32 l 0 W) := by
        intro W hW
        have h8 := two_any A A l l cl cl false W (hok.sl.below hW) (hok.sl.below hW) hok.lc hok.lc hok.c hok.c (by omega)
        rw [mrgE_m, mrgL_m] at h8
        have h9 : ([⟨l, A, cl⟩, ⟨l, A, cl⟩] : List Rm).map Rm.l = [l, l] := rfl
        rw [h9, hE2, hL2] at h8
        exact h8
      have HTW := Lib.hid htw
      clear cp hr hok hcr hss hst hE2 hL2 hmem htw
      go_upto_region 12 with fail
      clear hw4
      go_cut [8, 9] from 42 to 53 (fun v e wx => ∃ h A2 c2, v = .pointer (some ⟨h, 0, none⟩) ∧ e = .int .i64 0 ∧ Hid (wx.cell? ⟨h, 0, none⟩ = some (.slice A2 l.length c2) ∧ Sl wx A2 (l.flatMap Ent.cells) ∧ h < wx.heap.size) ∧ Below wr.heap.size wr wx)
      case first =>
        go_region_held3 (fun w' => (∀ bq jq, bq < wr.heap.size → w'.cell? ⟨bq, jq, none⟩ = wr.cell? ⟨bq, jq, none⟩) ∧ (∀ bq jq, bq < wr.heap.size → w'.frozen? ⟨bq, jq, none⟩ = wr.frozen? ⟨bq, jq, none⟩) ∧ wr.heap.size ≤ w'.heap.size ∧ Below wr.heap.size wr w') ((((with_reducible repeat (first | exact SB.init | exact SB.init0 | assumption | refine SB.drew ?_ | refine SB.alloc _ ?_ | refine SB.set (by first | assumption | exact Nat.le_refl _ | exact Nat.le_succ_of_le (by assumption) | exact Nat.le_succ _ | omega | (simp; omega)) _ _ ?_ | refine SB.below (by assumption) ?_)); done)))
          (first
            | (go_at_call 18; refine (HTW.out _ (SB.bel (by assumption))).mono ?_; intro e21 v21 h21; obtain ⟨A21, c21, B21, hB21, rfl, f21, hv21⟩ := h21.form; have F21 := Lib.hid f21; clear f21 h21; have hl21 := SB.le hv21 (by assumption); obtain ⟨hc21, hz21, hs21⟩ := wfacts hv21; (try have q21 : wr.heap.size < v21.heap.size := by have := hv21.size; simp at this; omega))
            | fail "no arm")
        all_goals
          go_wp2_with fail
          go_meet
          refine ⟨_, A21, c21, rfl, rfl, ⟨?_, own_sl (e := 32) (s := 3) (n := l.length) (c := c21) (B := B21) ?_, ?_⟩, SB.bel (by assumption)⟩
          all_goals try (repeat (with_reducible first | exact F21.out.1 | exact own_dr F21.out.1 | refine own_al ?_ _ | refine own_far ?_ ?_ _ | refine own_below ?_ (by assumption)))
          all_goals try first | (go_simp; done) | (refine cell_same (u := .slice none 0 0) _ ?_; go_simp; done)
          all_goals try first | (intro e; have l5 := F21.out.1.lt _ e; simp at l5; done) | (intro e; have l5 := F21.out.1.lt _ e; have b21 := hB21.out; (try simp only [drew_hs, World.size_alloc] at b21); (try simp at l5); omega)
          all_goals (have s21 := hv21.size; have b21 := hB21.out; (try simp at s21); (try simp only [drew_hs, World.size_alloc] at b21); (try simp); (try omega))
      case rest =>
        obtain ⟨h, A2, c2, rfl, rfl, hh, hbx⟩ := hcut
        have kX : wc.cell? ⟨g4, 0, none⟩ = some (.slice A1 M.length c1) := ((bcell hbx).1 _ _ lXr).trans cX
        have kc : wc.cell? ⟨b, off + k, none⟩ = some (.slice A l.length cl) := ((bcell hbx).1 _ _ (Nat.lt_of_lt_of_le hbl (Nat.le_refl _))).trans cp1
        have kh := hh.out.1
        have lX1 : g4 < wc.heap.size := Nat.lt_of_lt_of_le lXr hbx.size
        have lc1 : b < wc.heap.size := Nat.lt_of_lt_of_le hbl hbx.size
        have lh1 := hh.out.2.2
        have hlM : decide ((M.length : Int) < (l.length : Int)) = false := decide_eq_false (by omega)
        have hlM2 : decide (M.length < l.length) = false := decide_eq_false (by omega)
        have HBX := Lib.hid hbx
        have htw : ∀ W, Below wc.heap.size wc W → Calls Try.prog 23 #[.agg #[.slice A2 l.length c2], .agg #[.slice A l.length cl]] W (fun r w' => r = .returned (.bool true) ∧ Below W.heap.size W w') := by
          intro W hW
          have h8 := boundSame_any A2 A l l c2 cl W (hh.out.2.1.below hW) (HOK.out.sl.below (bext hbx hW)) (by omega) (by omega)
          rw [decide_eq_true rfl] at h8
          exact h8
        have HSM := Lib.hid htw
        clear cX cp1 hbx htw hge
        go_upto_region 13 with fail
        go_cut [76] from 54 to 76 (fun v wx => v = .bool false ∧ Below wc.heap.size wc wx)
        case first =>
          go_region_held3 (fun w' => (∀ bq jq, bq < wc.heap.size → w'.cell? ⟨bq, jq, none⟩ = wc.cell? ⟨bq, jq, none⟩) ∧ (∀ bq jq, bq < wc.heap.size → w'.frozen? ⟨bq, jq, none⟩ = wc.frozen? ⟨bq, jq, none⟩) ∧ wc.heap.size ≤ w'.heap.size ∧ Below wc.heap.size wc w') ((((with_reducible repeat (first | exact SB.init | exact SB.init0 | assumption | refine SB.drew ?_ | refine SB.alloc _ ?_ | refine SB.set (by first | assumption | exact Nat.le_refl _ | exact Nat.le_succ_of_le (by assumption) | exact Nat.le_succ _ | omega | (simp; omega)) _ _ ?_ | refine SB.below (by assumption) ?_)); done)))
            (first
              | (go_at_call 23; refine (HSM.out _ (SB.bel (by assumption))).mono ?_; rintro e22 v22 ⟨rfl, hv22⟩; have hl22 := SB.le hv22 (by assumption); obtain ⟨hc22, hz22, hs22⟩ := wfacts hv22)
              | fail "no arm")
          all_goals
            go_wp2_with fail
            go_meet
            exact ⟨by simp, SB.bel (by assumption)⟩
        case rest =>
          obtain ⟨rfl, hby⟩ := hcut
          clear kX kc kh hlM hlM2
          go_wp2
          go_roundw
          case rel => exact ⟨k + 1, s + l.length, by omega, by go_num, by go_num, bext (bext HBW.out HBX.out) hby, HSS.out, hs4⟩
          case measure => simp [intOf]; omega
    · have hkn : k = Rs.length := by omega
      have hsT : M.length ≤ s := by rw [hs.out, hkn, List.take_of_length_le (Nat.le_refl _)]; exact HMS.out
      have h9 : decide ((M.length : Int) ≤ (s : Int)) = true := decide_eq_true (by omega)
      have h9' : decide (M.length ≤ s) = true := decide_eq_true (by omega)
      have HOR := Lib.hid ((own_sl HO1.out).below HBW.out)
      have htw : ∀ W, Below wr.heap.size wr W → Calls Try.prog 18 #[.agg #[.slice A1 M.length c1], .agg #[.slice A1 M.length c1], .bool false] W (GivesRun 32 M 0 W) := by
        intro W hW
        have h8 := two_any A1 A1 M M c1 c1 false W (HOR.out.below hW) (HOR.out.below hW) l1 l1 m1 m1 (by omega)
        rw [mrgE_m, mrgL_m] at h8
        have h9 : ([⟨M, A1, c1⟩, ⟨M, A1, c1⟩] : List Rm).map Rm.l = [M, M] := rfl
        rw [h9, HME.out, HMM.out] at h8
        exact h8
      have HTW := Lib.hid htw
      clear hkn htw
      go_wp2_with fail
      refine (HTW.out _ (Below.refl _ _)).mono ?_
      rintro e w5 ⟨A5, c5, rfl, ho5, hb5⟩
      have HO5 := Lib.hid (own_sl ho5)
      obtain ⟨hc5, hz5, hs5⟩ := wfacts hb5
      have lX5 := hs5 _ lXr
      have ba5 : Below w5.heap.size w5 (w5.alloc (.cells #[.slice A5 M.length c5] 24)) := (Below.refl _ _).alloc (Nat.le_refl _) _
      have HB5 := Lib.hid (bext hb5 ba5)
      have HBA5 := Lib.hid ba5
      clear ho5 hb5 ba5
      go_wp2_with fail
      refine (boundSame_any A1 A5 M M c1 c5 _ (HOR.out.below HB5.out) (HO5.out.below HBA5.out) (by omega) (by omega)).mono ?_
      rw [decide_eq_true rfl]
      rintro e w6 ⟨rfl, hb6⟩
      obtain ⟨hc6, hz6, hs6⟩ := wfacts hb6
      have lX6 := hs6 g4 (by simp; omega)
      have HB6 := Lib.hid (bext HB5.out hb6)
      clear hb6
      go_wp2_with fail
      refine (check_any A1 M c1 _ (HOR.out.below HB6.out) (by omega)).mono ?_
      rw [HMC.out]
      rintro e w7 ⟨rfl, hb7⟩
      go_wp2_with fail
      go_ret
      exact ⟨rfl, bext HBR.out (bext HB6.out hb7)⟩
end Go.Proofs.Ytokomclcgegfkaa
