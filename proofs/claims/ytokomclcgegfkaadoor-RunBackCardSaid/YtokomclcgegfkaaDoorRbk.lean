/- The law RunBack: for every pairs and key it returns true; its arguments stay as they were. -/
import Derived.Test.YtokomclcgegfkaaDoorRv
import Derived.Test.YtokomclcgegfkaaDoorRw
namespace Go.Proofs.YtokomclcgegfkaaDoor
open Go Go.RowKit
set_option maxRecDepth 100000
theorem live_alive (l : List Pr) : liveE (l.map aliveE) = l.map aliveE := by
  unfold liveE
  rw [List.filter_eq_self]
  intro e he
  obtain ⟨p, _, rfl⟩ := List.mem_map.1 he
  rfl
theorem plain_of_alive (l : List Pr) : plainE (l.map aliveE) = l := by
  unfold plainE
  rw [live_alive, List.map_map]
  exact List.map_id' l
theorem lives_perm {l m : List Ent} (h : l.Perm m) : (liveE l).length = (liveE m).length := (h.filter _).length_eq
structure BackOk (l : List Pr) (x : List Ent) : Prop where
  chk : chkE x = 0
  prs : prL x = l
  lv : lvN x = l.length
  get : ∀ i (h : i < l.length), gtE x (l[i]'h).key = 0 ∧ gtX x (l[i]'h).key = aliveE (l[i]'h)
  there : ∀ key, decide (gtE x key = 0) = decide (key ∈ l.map Pr.key)
theorem back_ok {l : List Pr} (h : buildE (l.map aliveE) = 0) : BackOk l (buildL (l.map aliveE)) := by
  have hx : buildL (l.map aliveE) = laid (l.map aliveE) := by unfold buildL; rw [if_pos h]
  have hc := build_chk h
  have hi : inL (laid (l.map aliveE)) = l.map aliveE := in_laid _
  rw [hx]
  have hp : prL (laid (l.map aliveE)) = l := by unfold prL; rw [if_pos hc, hi, plain_of_alive]
  have hr := chk_ris hc
  refine ⟨hc, hp, by rw [← pr_lv, hp], fun i hl => ?_, fun key => ?_⟩
  · obtain ⟨h1, h2⟩ := gt_in hc (l[i]'hl).key
    rw [hi] at h1 h2 hr
    have hm : aliveE (l[i]'hl) ∈ l.map aliveE := List.mem_map.2 ⟨_, List.getElem_mem hl, rfl⟩
    have h3 := look_mem hr hm
    rw [show (aliveE (l[i]'hl)).key = (l[i]'hl).key from rfl] at h3
    rw [h3] at h1 h2
    exact ⟨h1, h2⟩
  · obtain ⟨h1, _⟩ := gt_in hc key
    rw [hi] at h1 hr
    rw [h1]
    cases ho : look (l.map aliveE) key with
    | none =>
      have hn := look_isNone ho
      have : ¬ key ∈ l.map Pr.key := by
        intro hk
        obtain ⟨p, hp, rfl⟩ := List.mem_map.1 hk
        exact hn _ (List.mem_map.2 ⟨p, hp, rfl⟩) rfl
      rw [decide_eq_false this]; rfl
    | some e =>
      obtain ⟨hk, hm⟩ := look_key ho
      obtain ⟨p, hp, rfl⟩ := List.mem_map.1 hm
      rw [decide_eq_true (List.mem_map.2 ⟨p, hp, hk⟩ : key ∈ l.map Pr.key)]; rfl
theorem there_succ {l : List Pr} {k : Nat} (h : k < l.length) (key : Int) : decide (key ∈ (l.map Pr.key).take (k + 1)) = (decide (key ∈ (l.map Pr.key).take k) || decide ((l[k]'h).key = key)) := by
  have h0 : key ∈ (l.map Pr.key).take (k + 1) ↔ key ∈ (l.map Pr.key).take k ∨ key = (l[k]'h).key := by rw [List.take_succ_eq_append_getElem (by rw [List.length_map]; exact h), List.mem_append, List.mem_singleton, List.getElem_map]
  rw [Bool.eq_iff_iff, decide_eq_true_iff, h0, Bool.or_eq_true, decide_eq_true_iff, decide_eq_true_iff]
  exact ⟨fun h => h.imp id Eq.symm, fun h => h.imp id Eq.symm⟩
set_option maxHeartbeats 8000000 in
theorem runBack_any (A : Option Addr) (l : List Pr) (c : Nat) (key : Int) (w : World) (hA : Sl w A (l.flatMap Pr.cells)) (hT : TabAt 1 Lib.deBruijn64tab w) : Calls Tryd.prog 12 #[.slice A l.length c, .int .i64 key] w fun r w' => r = .returned (.bool true) ∧ Below w.heap.size w w' := by
  have HA := Lib.hid hA
  have HT := Lib.hid hT
  clear hA hT
  obtain ⟨E, hE⟩ : ∃ E, buildE (l.map aliveE) = E := ⟨_, rfl⟩
  obtain ⟨x, hx⟩ : ∃ x, buildL (l.map aliveE) = x := ⟨_, rfl⟩
  have hxl : x.length ≤ l.length := by rw [← hx]; have := buildL_le (l.map aliveE); simpa using this
  have hwh : E = 0 → BackOk l x := fun h => by rw [← hx]; exact back_ok (hE.trans h)
  have hno : ¬ E = 0 → x = [] := fun h => by rw [← hx]; unfold buildL; rw [hE, if_neg h]
  have HWH := Lib.hid hwh
  have HNO := Lib.hid hno
  have HE := Lib.hid hE
  have HX := Lib.hid hx
  have HXL := Lib.hid hxl
  clear hE hx hxl hwh hno
  go_enter Tryd.func12, Tryd.ntmps12
  have HF := Lib.hid (Below.refl w.heap.size w)
  have HY1 := Lib.hid (HA.out)
  have HY2 := Lib.hid (HT.out)
  go_wp2_with fail
  refine (alive24_any _ HY2.out).mono ?_
  rintro e w3 ⟨rfl, hb4⟩
  have HF5 := Lib.hid (bext HF.out hb4)
  have HY6 := Lib.hid (HY1.out.below hb4)
  have HY7 := Lib.hid (tab_below' HY2.out hb4)
  clear HF HY1 HY2
  clear hb4
  by_cases h3 : 300 < l.length
  case pos =>
    have h4 : (300 : Int) < (l.length : Int) := by omega
    go_wp2
    go_ret
    exact ⟨rfl, HF5.out⟩
  case neg =>
  have h4 : ¬ (300 : Int) < (l.length : Int) := by omega
  have hl6 : l.length ≤ 300 := by omega
  go_wp2_with fail
  refine (runOf_any A l c _ HY6.out (by omega)).mono ?_
  rw [HX.out, HE.out]
  rintro e w8 ⟨A1, c1, rfl, ho1, hb9⟩
  have HF10 := Lib.hid (bext HF5.out hb9)
  have HY11 := Lib.hid (HY6.out.below hb9)
  have HY12 := Lib.hid (tab_below' HY7.out hb9)
  clear HF5 HY6 HY7
  clear hb9
  have HY13 := Lib.hid (own_sl ho1)
  clear ho1
  go_upto_region 5 with fail
  obtain ⟨U14, h16⟩ : ∃ U, w8.alloc (.cells #[.slice A1 x.length c1] 24) = U := ⟨_, rfl⟩
  have ba17 : Below w8.heap.size w8 U14 := by rw [← h16]; exact (Below.refl _ _).alloc (Nat.le_refl _) _
  have bn18 : Blk U14 w8.heap.size 24 #[.slice A1 x.length c1] := by rw [← h16]; exact Blk.new _ _ _
  try rw [h16]
  have HF19 := Lib.hid (bext HF10.out ba17)
  have HY20 := Lib.hid (HY11.out.below ba17)
  have HY21 := Lib.hid (tab_below' HY12.out ba17)
  have HY22 := Lib.hid (HY13.out.below ba17)
  clear HF10 HY11 HY12 HY13
  obtain ⟨g15, h23⟩ : ∃ g, w8.heap.size = g := ⟨_, rfl⟩
  rw [h23] at bn18
  try rw [h23]
  have HX24 := Lib.hid bn18
  clear h16 ba17 bn18 h23
  by_cases h0 : E = 0
  case neg =>
    have h5 := HNO.out h0
    subst h5
    have h1 : (E != 0) = true := by simpa using h0
    have c0 : U14.cell? ⟨g15, 0, none⟩ = some (.slice A1 0 c1) := HX24.out.cell 0
    go_wp2
    go_ret
    exact ⟨rfl, HF19.out⟩
  case pos =>
  subst h0
  have HW := Lib.hid (HWH.out rfl)
  have hxl : x.length ≤ 4611686018427387903 := by have := HXL.out; omega
  have c25 : U14.cell? ⟨g15, 0, none⟩ = some (.slice A1 x.length c1) := HX24.out.cell 0
  have l26 : g15 < U14.heap.size := HX24.out.lt
  go_wp2_with fail
  clear c25 l26
  refine (pairs_any A1 x c1 _ HY22.out hxl).mono ?_
  rw [HW.out.prs, HW.out.chk]
  rintro e w27 ⟨A2, c2, rfl, ho2, hb28⟩
  have HF29 := Lib.hid (bext HF19.out hb28)
  have HX30 := Lib.hid (HX24.out.below hb28 HX24.out.lt)
  have HY31 := Lib.hid (HY20.out.below hb28)
  have HY32 := Lib.hid (tab_below' HY21.out hb28)
  have HY33 := Lib.hid (HY22.out.below hb28)
  clear HF19 HX24 HY20 HY21 HY22
  clear hb28
  have HY34 := Lib.hid (own_sl ho2)
  clear ho2
  have c35 : w27.cell? ⟨g15, 0, none⟩ = some (.slice A1 x.length c1) := HX30.out.cell 0
  have l36 : g15 < w27.heap.size := HX30.out.lt
  go_wp2_with fail
  clear c35 l36
  refine (live_any A1 x c1 _ HY33.out hxl).mono ?_
  unfold GivesII
  rw [HW.out.lv, HW.out.chk]
  rintro e w37 ⟨rfl, hb38⟩
  have HF39 := Lib.hid (bext HF29.out hb38)
  have HX40 := Lib.hid (HX30.out.below hb38 HX30.out.lt)
  have HY41 := Lib.hid (HY31.out.below hb38)
  have HY42 := Lib.hid (tab_below' HY32.out hb38)
  have HY43 := Lib.hid (HY33.out.below hb38)
  have HY44 := Lib.hid (HY34.out.below hb38)
  clear HF29 HX30 HY31 HY32 HY33 HY34
  clear hb38
  go_wp2_with fail
  go_loopw [12, 13] (fun v i wr => ∃ k : Nat, k ≤ l.length ∧ i = .int .i64 k ∧ v = .bool (decide (key ∈ (l.map Pr.key).take k)) ∧ Below w37.heap.size w37 wr) (fun _ i _ => l.length - (intOf i).toNat)
  case atStart => exact ⟨0, Nat.zero_le _, rfl, by simp, Below.refl _ _⟩
  case round =>
    obtain ⟨k, hk, rfl, rfl, hb⟩ := hrel
    by_cases hlt : k < l.length
    case pos =>
      obtain ⟨b, off, rfl, hbl, c1', c2'⟩ := HY41.out.prB hb k hlt
      have bx := HX40.out.below hb HX40.out.lt
      have c0 : wr.cell? ⟨g15, 0, none⟩ = some (.slice A1 x.length c1) := bx.cell 0
      have l0 : g15 < wr.heap.size := bx.lt
      have hs := there_succ hlt key
      obtain ⟨y1, y2⟩ := HW.out.get k hlt
      obtain ⟨p, hp⟩ : ∃ p, l[k]'hlt = p := ⟨_, rfl⟩
      rw [hp] at c1' c2' hs y1 y2
      have hbl' : b < wr.heap.size := Nat.lt_of_lt_of_le hbl (by first | exact Nat.le_refl _ | exact hb.size)
      have hgt : ∀ W, Below wr.heap.size wr W → Calls Tryd.prog 32 #[.agg #[.slice A1 x.length c1], .int .i64 p.key] W (GivesX (aliveE p) 0 W) := by
        intro W hW
        have h := runGet_any A1 x c1 p.key W ((HY43.out.below hb).below hW) hxl (tab_below' (tab_below' HY42.out hb) hW)
        rw [y1, y2] at h
        exact h
      have HGT := Lib.hid hgt
      have i0 : (0 : Int) ≤ (k : Int) := by omega
      have i1 : (k : Int) < (l.length : Int) := by omega
      have HB := Lib.hid hb
      clear hp bx hgt y1 y2 hb
      go_upto_region 13 with fail
      go_cut [14, 15] from 57 to 66 (fun y h wx => h = .int .i64 0 ∧ ∃ gy, y = .pointer (some ⟨gy, 0, none⟩) ∧ Hid (Blk wx gy 29 #[.int .i64 p.key, .int .i64 p.val, .bool false] ∧ Below wr.heap.size wr wx))
      case first =>
        go_region_with ((go_at_call 32; refine (HGT.out _ (by first | exact (Below.refl _ _).drew | exact Below.refl _ _ | exact ((Below.refl _ _).alloc (Nat.le_refl _) _).drew | exact ((Below.refl _ _).alloc (Nat.le_refl _) _))).mono ?_; rintro e21 v21 ⟨rfl, hv21⟩; (try (have bz : Blk v21 wr.heap.size 29 #[.int .i64 0, .int .i64 0, .bool false] := ((Blk.drewN (Blk.new wr 29 #[.int .i64 0, .int .i64 0, .bool false]) 1).below (w' := v21) hv21 (Blk.drewN (Blk.new wr 29 #[.int .i64 0, .int .i64 0, .bool false]) 1).lt); have z0 : v21.cell? ⟨wr.heap.size, 0, none⟩ = some (.int .i64 0) := bz.cell 0; have z1 : v21.cell? ⟨wr.heap.size, 1, none⟩ = some (.int .i64 0) := bz.cell 1; have z2 : v21.cell? ⟨wr.heap.size, 2, none⟩ = some (.bool false) := bz.cell 2; have z3 := bz.frozen 0; have z4 := bz.frozen 1; have z5 := bz.frozen 2; have z6 := bz.lt))))
        all_goals
          go_wp2_with fail
          go_meet
          first
          | exact ⟨by simp, _, rfl, Blk.new _ _ _, bext (bext ((Below.refl _ _).drew) hv21) ((Below.refl _ _).alloc (Nat.le_refl _) _)⟩
          | exact ⟨by simp, _, rfl, put3 bz (.int .i64 p.key) (.int .i64 p.val) (.bool false), below3 (bext (((Below.refl _ _).alloc (Nat.le_refl _) _).drew) hv21) (Nat.le_refl _) _ _ _⟩
      case rest =>
        obtain ⟨rfl, gy, rfl, hy⟩ := hcut
        obtain ⟨hby, hbw⟩ := hy.out
        have d1 : wc.cell? ⟨b, off + k * 2, none⟩ = some (.int .i64 p.key) := ((bcell hbw).1 _ _ hbl').trans c1'
        have d2 : wc.cell? ⟨b, off + k * 2 + 1, none⟩ = some (.int .i64 p.val) := ((bcell hbw).1 _ _ hbl').trans c2'
        have d3 : wc.cell? ⟨gy, 0, none⟩ = some (.int .i64 p.key) := hby.cell 0
        have d4 : wc.cell? ⟨gy, 1, none⟩ = some (.int .i64 p.val) := hby.cell 1
        have d5 : wc.cell? ⟨gy, 2, none⟩ = some (.bool false) := hby.cell 2
        have hbwl : b < wc.heap.size := Nat.lt_of_lt_of_le hbl' hbw.size
        have HBW := Lib.hid (bext HB.out hbw)
        clear c1' c2' c0 hby hbw
        go_upto_region 14 with fail
        have hbw2 : Below wr.heap.size wr wr := Below.refl _ _
        clear hbw2
        go_region_with (go_at_call 56; refine (is24_any (aliveE p) (aliveE p) 0 _).mono ?_; rw [show (decide ((0 : Int) = 0) && eqX (aliveE p) (aliveE p)) = true from by simp [eqX_self]]; rintro e22 v22 ⟨rfl, hv22⟩; have f1 : v22.cell? ⟨b, off + k * 2, none⟩ = some (.int .i64 p.key) := ((bcell (bext ((Below.refl _ _).drew) hv22 : Below wc.heap.size wc v22)).1 _ _ hbwl).trans d1)
        all_goals
          obtain ⟨Q, hQ⟩ : ∃ Q, decide (p.key = key) = Q := ⟨_, rfl⟩
          have hQ2 : (p.key == key) = Q := by rw [← hQ]; first | rfl | exact beq_eq_decide _ _
          rw [hQ] at hs
          have hbz : Below w37.heap.size w37 v22 := bext HBW.out (bext ((Below.refl _ _).drew) hv22)
          have HBZ := Lib.hid hbz
          clear hbz
          cases hd : decide (key ∈ (l.map Pr.key).take k)
          all_goals
            rw [hd] at hs
            cases Q
            all_goals
              have HS := Lib.hid hs
              go_wp2_with fail
              go_roundw
              case rel => exact ⟨k + 1, by omega, by go_num, by rw [HS.out]; rfl, by first | exact HBZ.out | exact HBZ.out.drew⟩
              case measure => simp [intOf]; omega
    case neg =>
    have hkm : (l.map Pr.key).take k = l.map Pr.key := List.take_of_length_le (by rw [List.length_map]; omega)
    rw [hkm]
    clear hkm hk
    obtain ⟨B, hB⟩ : ∃ B, decide (key ∈ l.map Pr.key) = B := ⟨_, rfl⟩
    rw [hB]
    have hth := HW.out.there key
    rw [hB] at hth
    obtain ⟨e1, he1⟩ : ∃ e, gtE x key = e := ⟨_, rfl⟩
    obtain ⟨x1, hx1⟩ : ∃ e, gtX x key = e := ⟨_, rfl⟩
    rw [he1] at hth
    have HTH := Lib.hid hth
    have HE1 := Lib.hid he1
    have HX1 := Lib.hid hx1
    clear hB hth he1 hx1
    have HF45 := Lib.hid (bext HF39.out hb)
    have HX46 := Lib.hid (HX40.out.below hb HX40.out.lt)
    have HY47 := Lib.hid (HY41.out.below hb)
    have HY48 := Lib.hid (tab_below' HY42.out hb)
    have HY49 := Lib.hid (HY43.out.below hb)
    have HY50 := Lib.hid (HY44.out.below hb)
    clear HF39 HX40 HY41 HY42 HY43 HY44
    clear hb
    have c51 : wr.cell? ⟨g15, 0, none⟩ = some (.slice A1 x.length c1) := HX46.out.cell 0
    have l52 : g15 < wr.heap.size := HX46.out.lt
    go_wp2_with fail
    clear c51 l52
    refine (runGet_any A1 x c1 key _ HY49.out hxl HY48.out).mono ?_
    unfold GivesX
    rw [HX1.out, HE1.out]
    rintro e w53 ⟨rfl, hb54⟩
    have HF55 := Lib.hid (bext HF45.out hb54)
    have HX56 := Lib.hid (HX46.out.below hb54 HX46.out.lt)
    have HY57 := Lib.hid (HY47.out.below hb54)
    have HY58 := Lib.hid (tab_below' HY48.out hb54)
    have HY59 := Lib.hid (HY49.out.below hb54)
    have HY60 := Lib.hid (HY50.out.below hb54)
    clear HF45 HX46 HY47 HY48 HY49 HY50
    clear hb54
    go_upto_region 18 with fail
    obtain ⟨U61, h63⟩ : ∃ U, w53.alloc (.cells #[.int .i64 x1.key, .int .i64 x1.val, .bool x1.dead] 29) = U := ⟨_, rfl⟩
    have ba64 : Below w53.heap.size w53 U61 := by rw [← h63]; exact (Below.refl _ _).alloc (Nat.le_refl _) _
    have bn65 : Blk U61 w53.heap.size 29 #[.int .i64 x1.key, .int .i64 x1.val, .bool x1.dead] := by rw [← h63]; exact Blk.new _ _ _
    try rw [h63]
    have HF66 := Lib.hid (bext HF55.out ba64)
    have HX67 := Lib.hid (HX56.out.below ba64 HX56.out.lt)
    have HY68 := Lib.hid (HY57.out.below ba64)
    have HY69 := Lib.hid (tab_below' HY58.out ba64)
    have HY70 := Lib.hid (HY59.out.below ba64)
    have HY71 := Lib.hid (HY60.out.below ba64)
    clear HF55 HX56 HY57 HY58 HY59 HY60
    obtain ⟨g62, h72⟩ : ∃ g, w53.heap.size = g := ⟨_, rfl⟩
    rw [h72] at bn65
    try rw [h72]
    have HX73 := Lib.hid bn65
    clear h63 ba64 bn65 h72
    go_wp2_with fail
    refine (samePairs_any A2 A l l c2 c _ HY71.out HY68.out (by omega) (by omega)).mono ?_
    rw [decide_eq_true rfl]
    rintro e w74 ⟨rfl, hb75⟩
    have HF76 := Lib.hid (bext HF66.out hb75)
    have HX77 := Lib.hid (HX67.out.below hb75 HX67.out.lt)
    have HX78 := Lib.hid (HX73.out.below hb75 HX73.out.lt)
    have HY79 := Lib.hid (HY68.out.below hb75)
    have HY80 := Lib.hid (tab_below' HY69.out hb75)
    have HY81 := Lib.hid (HY70.out.below hb75)
    have HY82 := Lib.hid (HY71.out.below hb75)
    clear HF66 HX67 HX73 HY68 HY69 HY70 HY71
    clear hb75
    have hth := HTH.out
    cases B
    · have h1 : ¬ e1 = 0 := by simpa using hth
      have d1 : (e1 == 0) = false := by simpa using h1
      clear hth h1
      go_wp2
      go_ret
      exact ⟨rfl, HF76.out⟩
    · have h1 : e1 = 0 := by simpa using hth
      subst h1
      clear hth
      go_wp2
      go_ret
      exact ⟨rfl, HF76.out⟩
end Go.Proofs.YtokomclcgegfkaaDoor
