/- Kq Tw Kr Kt Kh Ky G1: texts of the claim, in this order. -/
import Derived.Test.YtolclahkfmplfaaGreatDoorWg6
/- Contracts of kway.Merge and kway.Two, and of the references'. -/
namespace Go.Proofs.YtolclahkfmplfaaGreatDoor
open Go Go.RowKit
set_option maxRecDepth 100000

/-! ### what is merged may be built -/
theorem rises_ris {l : List Ent} (h : rises (l.map Ent.key) = true) : RisE l := by
  unfold rises at h
  have := of_decide_eq_true h
  exact List.pairwise_map.1 this
theorem ris_rises {l : List Ent} (h : RisE l) : rises (l.map Ent.key) = true := decide_eq_true (List.pairwise_map.2 h)
theorem chk_ris {l : List Ent} (h : chkE l = 0) : RisE (inL l) := rises_ris (chk_ok h).2.1
theorem inS_ris {Rs : List Rm} (h : chkAllE (Rs.map Rm.l) = 0) : ∀ r ∈ inS Rs, RisE r := by
  intro r hr
  obtain ⟨q, hq, rfl⟩ := List.mem_map.1 hr
  exact chk_ris (chkAll_ok h q.l (List.mem_map.2 ⟨q, hq, rfl⟩))
theorem all_ris {rs : List (List Ent)} (h : ∀ r ∈ rs, RisE r) : RisE (allE rs) := (fold_law rs RisE.nil h).1
theorem all_mem {rs : List (List Ent)} (h : ∀ r ∈ rs, RisE r) {e : Ent} (he : e ∈ allE rs) : ∃ r ∈ rs, e ∈ r := by
  have h1 := look_mem (all_ris h) he
  have h2 := (fold_law rs RisE.nil h).2 e.key
  have h3 : newest rs e.key = some e := by
    rw [← h1]
    have : look (allE rs) e.key = (look [] e.key).or (newest rs e.key) := h2
    rw [this]; simp [look]
  obtain ⟨a, r, hr, her, _⟩ := newest_mem h3
  exact ⟨r, List.mem_of_getElem? hr, her⟩
theorem chk_good {l : List Ent} (h : chkE l = 0) : ∀ e ∈ l, badEnt e = false := by
  have hf := (chk_ok h).1
  have h1 : ¬ l.length > 65536 := by have := (chk_ok h).2.2; omega
  have h2 : l.any badEnt = false := by
    cases hb : l.any badEnt with
    | false => rfl
    | true => unfold fairE at hf; rw [if_neg h1, hb] at hf; cases hf
  intro e he
  have := List.any_eq_false.1 h2 e he
  simpa using this
theorem mrg_build {Rs : List Rm} (bare : Bool) (h : mrgE Rs = 0) : buildE (bareE bare (allE (inS Rs))) = 0 ∧ chkAllE (Rs.map Rm.l) = 0 ∧ (allE (inS Rs)).length ≤ 65536 := by
  have hC : chkAllE (Rs.map Rm.l) = 0 := by
    unfold mrgE at h
    split at h
    · assumption
    · exact absurd h (by assumption)
  have hlen : (allE (inS Rs)).length ≤ 65536 := by
    unfold mrgE at h
    rw [if_pos hC] at h
    split at h
    · cases h
    · omega
  have hr := inS_ris hC
  have hmem : ∀ e ∈ bareE bare (allE (inS Rs)), e ∈ allE (inS Rs) := by
    intro e he
    unfold bareE at he
    split at he
    · exact (List.mem_filter.1 he).1
    · exact he
  have hle : (bareE bare (allE (inS Rs))).length ≤ 65536 := by
    unfold bareE
    split
    · have := live_le (allE (inS Rs)); omega
    · exact hlen
  have hris : RisE (bareE bare (allE (inS Rs))) := by
    unfold bareE
    split
    · exact live_ris (all_ris hr)
    · exact all_ris hr
  have hbad : (bareE bare (allE (inS Rs))).any badEnt = false := by
    rw [List.any_eq_false]
    intro e he
    obtain ⟨r, hrm, her⟩ := all_mem hr (hmem e he)
    obtain ⟨q, hq, rfl⟩ := List.mem_map.1 hrm
    have := chk_good (chkAll_ok hC q.l (List.mem_map.2 ⟨q, hq, rfl⟩)) e (inL_mem her)
    simp [this]
  refine ⟨?_, hC, hlen⟩
  unfold buildE
  rw [if_neg (by omega), hbad, ris_rises hris]
  rfl

theorem own_grow {w w' : World} {base base' s s' n n' : Nat} {e t : TypeId} {v v' : Value} {xs xs' : List Value} (hg : w.grownBy w' v.ownBlock) (ho : w.ownsRow base e s v n xs) (hb : w.ownsRow base' t s' v' n' xs') (hne : e ≠ t) : w'.ownsRow base' t s' v' n' xs' := by
  refine ⟨hb.1, ?_⟩
  rcases hb.2 with h1 | ⟨g, cap, cur, h1, h2, h3, h4⟩
  · exact .inl h1
  · refine .inr ⟨g, cap, cur, h1, h2, ?_, h4⟩
    have h5 : Blk w g t cur := h3
    refine h5.of (hg.block g h5.lt ?_)
    intro h
    rcases ho.2 with ⟨rfl, _⟩ | ⟨k, cap, cur, rfl, _, hk, _⟩
    · simp [Value.ownBlock] at h
    · simp [Value.ownBlock] at h
      subst h
      have := hk.symm.trans h3
      simp at this
      exact hne this.2

theorem ents_info : (Tryz.prog.info? 47).map (fun i => (i.zero, i.size, i.bytes)) = some (some (.slice none 0 0), 1, 24) := by kernel_rfl
theorem flat_one {α : Type} (f : α → Value) : ∀ l : List α, l.flatMap (fun x => [f x]) = l.map f
  | [] => rfl
  | x :: l => by rw [List.flatMap_cons, flat_one f l]; rfl

set_option maxHeartbeats 4000000 in
theorem merge_any (B : Option Addr) (Rs : List Rm) (c T : Nat) (bare : Bool) (w : World) (hB : RunsAt w B Rs) (hl : Rs.length ≤ 1099511627775) (hrs : ∀ r ∈ Rs, r.l.length ≤ 4611686018427387903)
    (hT : (Rs.map (fun r => r.l.length)).sum ≤ T) (hT2 : T ≤ 1099511627776) :
    Calls Tryz.prog 49 #[.slice B Rs.length c, .bool bare] w (GivesRun 46 (mrgL Rs bare) (mrgE Rs) w) := by
  obtain ⟨te0, hI1⟩ := info_parts ents_info
  obtain ⟨ti0, hI2⟩ := info_parts ent_info
  have HI1 := Lib.hid hI1
  have HI2 := Lib.hid hI2
  clear hI1 hI2
  obtain ⟨W0, hW0⟩ : ∃ W0, w.alloc (.cells #[.slice none 0 0] 49) = W0 := ⟨_, rfl⟩
  have hb0 : Below w.heap.size w W0 := by rw [← hW0]; exact (Below.refl _ _).alloc (Nat.le_refl _) _
  have hr0 : Blk W0 w.heap.size 49 #[.slice none 0 0] := by rw [← hW0]; exact Blk.new _ _ _
  have hs0 : W0.heap.size = w.heap.size + 1 := by rw [← hW0]; simp
  go_enter Tryz.func49, Tryz.ntmps49
  go_wp2
  try rw [hW0]
  clear hW0
  go_loopw [6, 17] (fun v i wr => ∃ (k : Nat) (Ss : List Rm) (A' : Option Addr) (c' : Nat), k ≤ Rs.length ∧ i = .int .i64 k ∧ Below W0.heap.size W0 wr ∧ v = .slice A' k c' ∧ Hid (Ss.length = k) ∧
      wr.ownsRow W0.heap.size 47 1 (.slice A' k c') k (Ss.map Rm.v) ∧ (∀ s ∈ Ss, wr.ownsRow W0.heap.size 46 3 s.v s.l.length (s.l.flatMap Ent.cells)) ∧
      Hid (Ss.map Rm.l = (inS Rs).take k) ∧ Hid (chkAllE ((Rs.map Rm.l).drop k) = chkAllE (Rs.map Rm.l))) (fun _ i _ => Rs.length - (intOf i).toNat)
  case atStart => exact ⟨0, [], none, 0, Nat.zero_le _, rfl, Below.refl _ _, rfl, rfl, World.ownsRow_nil _ _ _ _, by simp, rfl, rfl⟩
  case round =>
    obtain ⟨k, Ss, A', c', hk, rfl, hb, rfl, hSk, hown, hS, hin, hd⟩ := hrel
    have hbw : Below w.heap.size w wr := bext hb0 hb
    by_cases hlt : k < Rs.length
    · obtain ⟨b, off, rfl, hbl, cp⟩ := hB.sl.oneB hbw k hlt
      have hok := (hB.ok _ (List.getElem_mem hlt)).below hbw
      have hs := chkAll_drop (rs := Rs.map Rm.l) (k := k) (by simpa using hlt)
      rw [List.getElem_map] at hs
      have hrl := hrs _ (List.getElem_mem hlt)
      have hin2 : (inS Rs).take (k + 1) = (inS Rs).take k ++ [inL (Rs[k]'hlt).l] := by
        rw [List.take_succ_eq_append_getElem (by unfold inS; simpa using hlt)]; simp [inS]
      obtain ⟨r, hr⟩ : ∃ r, Rs[k]'hlt = r := ⟨_, rfl⟩
      rw [hr] at cp hok hs hrl hin2
      obtain ⟨l, A, cl⟩ := r
      have cp1 : wr.cell? ⟨b, off + k, none⟩ = some (.slice A l.length cl) := cp
      dsimp only at hs hrl hin2
      have hki : (0 : Int) ≤ (k : Int) := by omega
      have hki2 : (k : Int) < (Rs.length : Int) := by omega
      obtain ⟨E, hE⟩ : ∃ E, chkE l = E := ⟨_, rfl⟩
      rw [hE] at hs
      have HE := Lib.hid hE
      have HS := Lib.hid hs
      have HOK := Lib.hid hok.sl
      have HIN := Lib.hid hin2
      have HOW := Lib.hid hown
      have HSS := Lib.hid hS
      clear cp hr hE hs hok hin2 hown hS
      have hbX : Below wr.heap.size wr (wr.alloc (.cells #[.slice A l.length cl] 49)) := (Below.refl _ _).alloc (Nat.le_refl _) _
      have hbs := hb.size
      by_cases h0 : E = 0
      · subst h0
        have hsl : sortL l = inL l := by unfold sortL; rw [if_pos HE.out]
        have HSL := Lib.hid hsl
        have hll : l.length ≤ 65536 := (chk_ok HE.out).2.2
        have HIL := Lib.hid (inL_length l)
        clear hsl
        go_wp2_with fail
        refine (sortedE_any A l cl _ (HOK.out.below hbX) hrl).mono ?_
        rw [HSL.out, HE.out]
        rintro e w1 ⟨A1, c1, rfl, ho1, hb1⟩
        have hb2 : Below wr.heap.size wr w1 := bext hbX hb1
        have HO1 := Lib.hid (own_mono (B' := W0.heap.size) ho1 (by simp; omega))
        have HOW1 := Lib.hid (own_below HOW.out hb2)
        have hs1 := hb2.size
        clear ho1 hb1
        go_wp2_with (at_builtin; refine wpList_append_sl _ rfl (.tmp 30) (.tmp 32) _ rfl W0.heap.size 47 te0 _ 1 24 Tryz.underlying112 HI1.out.1 HI1.out.2.1 HI1.out.2.2.1 HI1.out.2.2.2 rfl (by omega) (.slice A' k c') k _ rfl (HOW1.out.alloc _) _ 1 _ [.slice A1 (inL l).length c1] rfl (by exact sl_new1 _ _ _) rfl (by simp [Value.oneCell']) (by unfold maxLen; omega) (by omega) (by simp; omega) ?_; intro v2 w2 hown2 hg2; obtain ⟨A2, q2, rfl, hle2, hmx2⟩ := own_form hown2; have HO2 := Lib.hid hown2; clear hown2)
        go_roundw
        case rel =>
          refine ⟨k + 1, Ss ++ [⟨inL l, A1, c1⟩], A2, q2, by omega, by go_num, ?_, rfl, ?_, ?_, ?_, ?_, ?_⟩
          · exact ((bext hb hb2).alloc (by omega) _).grown hg2 (by simp; omega) (fun q hq => (HOW1.out.lt q hq).1)
          · show _ = _
            rw [List.length_append, hSk.out]; rfl
          · rw [List.map_append]; exact HO2.out
          · intro s hs
            refine own_grow hg2 (HOW1.out.alloc _) ?_ (by decide)
            rcases List.mem_append.1 hs with hs | hs
            · exact (own_below (HSS.out s hs) hb2).alloc _
            · obtain rfl : s = ⟨inL l, A1, c1⟩ := by simpa using hs
              exact HO1.out.alloc _
          · show _ = _
            rw [List.map_append, hin.out, HIN.out]; rfl
          · show _ = _
            rw [← hd.out, HS.out]; simp
        case measure => simp [intOf]; omega
      · have h1 : (E != 0) = true := by simpa using h0
        have hsl : sortL l = [] := by unfold sortL; rw [if_neg (by rw [HE.out]; exact h0)]
        have HSL := Lib.hid hsl
        have hE2 : chkAllE (Rs.map Rm.l) = E := by rw [← hd.out, HS.out, if_neg h0]
        have hE3 : mrgE Rs = E := by unfold mrgE; rw [hE2, if_neg h0]
        have hL3 : mrgL Rs bare = [] := by unfold mrgL; rw [hE3, if_neg h0]
        have HE3 := Lib.hid hE3
        have HL3 := Lib.hid hL3
        have hrw := hr0.below hb hr0.lt
        have HRW := Lib.hid hrw
        have hrl2 := hrw.lt
        clear hsl h0 hE2 hE3 hL3 hrw
        go_wp2_with fail
        refine (sortedE_any A l cl _ (HOK.out.below hbX) hrl).mono ?_
        rw [HSL.out, HE.out]
        rintro e w1 ⟨A1, c1, rfl, ho1, hb1⟩
        have hb2 : Below wr.heap.size wr w1 := bext hbX hb1
        have hrw1 := HRW.out.below hb2 hrl2
        have hc1 : w1.cell? ⟨w.heap.size, 0, none⟩ = some (.slice none 0 0) := hrw1.cell 0
        have hf1 : w1.frozen? ⟨w.heap.size, 0, none⟩ = false := hrw1.frozen 0
        clear ho1 hb1 hrw1
        go_wp2
        refine bodyPost_ret (v := .tuple #[.agg #[.slice none 0 0], .int .i64 E]) (by simp [results, Tryz.results49, go_sem, hc1]) rfl ?_
        rw [HE3.out]
        exact gives_none ((bext hbw hb2).setCell (p := ⟨w.heap.size, 0, none⟩) (Nat.le_refl _) _) HL3.out
    · have hkn : k = Rs.length := by omega
      have hC : chkAllE (Rs.map Rm.l) = 0 := by rw [← hd.out, List.drop_eq_nil_of_le (by simp; omega)]; rfl
      have hinS : Ss.map Rm.l = inS Rs := by rw [hin.out, List.take_of_length_le (by unfold inS; simp; omega)]
      have hSok : ∀ s ∈ Ss, s.Ok wr := by
        intro s hs
        have h1 := hS s hs
        obtain ⟨A3, c3, h3, h4, h5⟩ := own_form h1
        obtain ⟨ls, As, cs⟩ := s
        have h6 : As = A3 ∧ cs = c3 := by simpa [Rm.v] using h3
        obtain ⟨rfl, rfl⟩ := h6
        exact ⟨own_sl h1, h4, h5⟩
      have hSsum : (Ss.map (fun r => r.l.length)).sum ≤ T := by
        have : Ss.map (fun r => r.l.length) = (inS Rs).map List.length := by rw [← hinS, List.map_map]; rfl
        rw [this, inS_sum]; exact hT
      have hSris : ∀ s ∈ Ss, RisE s.l := fun s hs => inS_ris hC _ (hinS ▸ List.mem_map.2 ⟨s, hs, rfl⟩)
      have hSl := own_sl hown
      have HSL := Lib.hid hSl
      have HSO := Lib.hid hSok
      have HSS := Lib.hid hSsum
      have HSR := Lib.hid hSris
      have HC := Lib.hid hC
      have HIN := Lib.hid hinS
      have hrw := hr0.below hb hr0.lt
      have HRW := Lib.hid hrw
      have hrl2 := hrw.lt
      have hSn : Ss.length = k := hSk.out
      have HSN := Lib.hid hSn
      have HKN := Lib.hid hkn
      clear hC hinS hSok hSsum hSris hSl hown hS hrw hSn hkn
      have hmg := merged_any wr A' Ss c' T HSL.out HSO.out HSR.out (by have := HSN.out; omega) HSS.out hT2
      rw [HSN.out, HIN.out] at hmg
      obtain ⟨O, hO⟩ : ∃ O, allE (inS Rs) = O := ⟨_, rfl⟩
      rw [hO] at hmg
      have hOT : O.length ≤ T := by
        rw [← hO]
        have h1 := fold_len (inS Rs) []
        rw [inS_sum] at h1
        unfold allE
        simp at h1
        omega
      have HO := Lib.hid hO
      have HMG := Lib.hid hmg
      have HEq : Hid (mrgE Rs = if O.length > 65536 then 4 else 0) := by
        show _ = _
        unfold mrgE
        rw [if_pos HC.out, hO]
      have HLq : Hid (mrgE Rs = 0 → mrgL Rs bare = laid (bareE bare O)) := by
        show _ → _
        intro h
        unfold mrgL
        rw [if_pos h, hO]
      clear hmg hO
      by_cases hbig : O.length > 65536
      · have hE3 : mrgE Rs = 4 := by rw [HEq.out, if_pos hbig]
        have hL3 : mrgL Rs bare = [] := by unfold mrgL; rw [hE3]; rfl
        have HE3 := Lib.hid hE3
        have HL3 := Lib.hid hL3
        clear hE3 hL3
        go_wp2_with fail
        refine HMG.out.mono ?_
        rintro e w1 ⟨A1, c1, rfl, ho1, hb1⟩
        have hrw1 := HRW.out.below hb1 hrl2
        have hc1 : w1.cell? ⟨w.heap.size, 0, none⟩ = some (.slice none 0 0) := hrw1.cell 0
        have hf1 : w1.frozen? ⟨w.heap.size, 0, none⟩ = false := hrw1.frozen 0
        clear ho1 hrw1
        go_wp2
        refine bodyPost_ret (v := .tuple #[.agg #[.slice none 0 0], .int .i64 4]) (by simp [results, Tryz.results49, go_sem, hc1]) rfl ?_
        rw [HE3.out]
        exact gives_none ((bext hbw hb1).setCell (p := ⟨w.heap.size, 0, none⟩) (Nat.le_refl _) _) HL3.out
      · have hE3 : mrgE Rs = 0 := by rw [HEq.out, if_neg hbig]
        have hL3 : mrgL Rs bare = laid (bareE bare O) := HLq.out hE3
        have hbe : buildE (bareE bare O) = 0 := by have := (mrg_build bare hE3).1; rwa [HO.out] at this
        have hbl : buildL (bareE bare O) = laid (bareE bare O) := by unfold buildL; rw [if_pos hbe]
        have HE3 := Lib.hid hE3
        have HL3 := Lib.hid hL3
        have HBE := Lib.hid hbe
        have HBL := Lib.hid hbl
        have hol : O.length ≤ 65536 := by omega
        clear hE3 hL3 hbe hbl
        cases bare with
        | false =>
          go_wp2_with fail
          refine HMG.out.mono ?_
          rintro e w1 ⟨A1, c1, rfl, ho1, hb1⟩
          have hs1 := own_sl ho1
          have HW1 := Lib.hid (HRW.out.below hb1 hrl2)
          clear ho1
          go_wp2_with fail
          refine (build_any A1 O c1 _ hs1 (by omega)).mono ?_
          rw [show O = bareE false O from rfl, HBE.out, HBL.out]
          rintro e w2 ⟨A2, c2, rfl, ho2, hb2⟩
          have hrw1 := HW1.out.below hb2 HW1.out.lt
          have hc1 : w2.cell? ⟨w.heap.size, 0, none⟩ = some (.slice none 0 0) := hrw1.cell 0
          have hf1 : w2.frozen? ⟨w.heap.size, 0, none⟩ = false := hrw1.frozen 0
          have HO2 := Lib.hid ho2
          have hlw : w.heap.size < w1.heap.size := HW1.out.lt
          clear ho2 hrw1
          go_wp2
          refine bodyPost_ret (v := .tuple #[.agg #[.slice A2 (laid (bareE false O)).length c2], .int .i64 0]) (by simp [results, Tryz.results49, go_sem, hc1]) rfl ?_
          rw [HE3.out, HL3.out]
          refine ⟨A2, c2, rfl, own_far (own_mono HO2.out (by omega)) ?_ _, (bext hbw (bext hb1 hb2)).setCell (p := ⟨w.heap.size, 0, none⟩) (Nat.le_refl _) _⟩
          intro e
          have := (HO2.out.lt _ e).1
          dsimp only at this
          omega
        | true =>
          go_wp2_with fail
          refine HMG.out.mono ?_
          rintro e w1 ⟨A1, c1, rfl, ho1, hb1⟩
          have HS1 := Lib.hid (own_sl ho1)
          have HW1 := Lib.hid (HRW.out.below hb1 hrl2)
          clear ho1
          go_wp2
          go_loopw [12, 44] (fun v i wr2 => ∃ (j : Nat) (o : List Ent) (A3 : Option Addr) (c3 : Nat), j ≤ O.length ∧ i = .int .i64 j ∧ Below w1.heap.size w1 wr2 ∧ v = .slice A3 o.length c3 ∧
            wr2.ownsRow w1.heap.size 46 3 (.slice A3 o.length c3) o.length (o.flatMap Ent.cells) ∧ Hid (o = liveE (O.take j))) (fun _ i _ => O.length - (intOf i).toNat)
          case atStart => exact ⟨0, [], none, 0, Nat.zero_le _, rfl, Below.refl _ _, rfl, World.ownsRow_nil _ _ _ _, rfl⟩
          case round =>
            obtain ⟨j, o, A3, c3, hj, rfl, hb3, rfl, hown3, ho3⟩ := hrel
            have hbs3 := hb3.size
            by_cases hlt2 : j < O.length
            · obtain ⟨b, off, rfl, hbl, e1, e2, e3⟩ := HS1.out.entB hb3 j hlt2
              have hol3 : o.length ≤ j := by rw [ho3.out]; have := live_le (O.take j); simp at this; omega
              have hki : (0 : Int) ≤ (j : Int) := by omega
              have hki2 : (j : Int) < (O.length : Int) := by omega
              have hs := live_succ hlt2
              obtain ⟨x, hx⟩ : ∃ x, O[j]'hlt2 = x := ⟨_, rfl⟩
              rw [hx] at e1 e2 e3 hs
              have HOW3 := Lib.hid hown3
              cases hd2 : x.dead
              · rw [hd2] at hs e3
                obtain ⟨wa, hwa⟩ : ∃ wa, wr.alloc (.cells #[.int .i64 x.key, .int .i64 x.val, .bool false] 46) = wa := ⟨_, rfl⟩
                have hba : Below wr.heap.size wr wa := by rw [← hwa]; exact (Below.refl _ _).alloc (Nat.le_refl _) _
                have bxa : Blk wa wr.heap.size 46 #[.int .i64 x.key, .int .i64 x.val, .bool false] := by rw [← hwa]; exact Blk.new _ _ _
                have x0 : wa.cell? ⟨wr.heap.size, 0, none⟩ = some (.int .i64 x.key) := bxa.cell 0
                have x1 : wa.cell? ⟨wr.heap.size, 1, none⟩ = some (.int .i64 x.val) := bxa.cell 1
                have x2 : wa.cell? ⟨wr.heap.size, 2, none⟩ = some (.bool false) := bxa.cell 2
                have hsa := hba.size
                have HD := Lib.hid hd2
                have HWA := Lib.hid hwa
                clear bxa hd2 hwa
                have hnew : Hid (o ++ [x] = liveE (O.take (j + 1))) := by
                  show _ = _
                  rw [ho3.out, hs]; simp
                have HOA := Lib.hid (own_below HOW3.out hba)
                clear hs hx
                go_upto_region 18 with fail
                rw [HWA.out]
                clear HWA
                go_wp2_with (at_builtin; refine wpList_append_sl _ rfl (.tmp 51) (.tmp 53) _ rfl w1.heap.size 46 ti0 _ 3 24 Tryz.underlying47 HI2.out.1 HI2.out.2.1 HI2.out.2.2.1 HI2.out.2.2.2 rfl (by omega) (.slice A3 o.length c3) o.length _ rfl (HOA.out.alloc _) _ 1 _ [.int .i64 x.key, .int .i64 x.val, .bool false] rfl (by exact sl_new1 _ _ _) rfl (by simp [Value.oneCell']) (by unfold maxLen; omega) (by omega) (by simp; omega) ?_; intro v2 w2 hown2 hg2; obtain ⟨A4, q4, rfl, hle4, hmx4⟩ := own_form hown2; have HO2 := Lib.hid hown2; clear hown2)
                go_roundw
                case rel =>
                  refine ⟨j + 1, o ++ [x], A4, q4, by omega, by go_num, ((bext hb3 hba).alloc (by omega) _).grown hg2 (by simp; omega) (fun q hq => (HOA.out.lt q hq).1), by simp, ?_, hnew⟩
                  rw [List.flatMap_append, List.length_append]
                  simpa [Ent.cells, HD.out] using HO2.out
                case measure => simp [intOf]; omega
              · rw [hd2] at hs e3
                obtain ⟨wa, hwa⟩ : ∃ wa, wr.alloc (.cells #[.int .i64 x.key, .int .i64 x.val, .bool true] 46) = wa := ⟨_, rfl⟩
                have hba : Below wr.heap.size wr wa := by rw [← hwa]; exact (Below.refl _ _).alloc (Nat.le_refl _) _
                have bxa : Blk wa wr.heap.size 46 #[.int .i64 x.key, .int .i64 x.val, .bool true] := by rw [← hwa]; exact Blk.new _ _ _
                have x0 : wa.cell? ⟨wr.heap.size, 0, none⟩ = some (.int .i64 x.key) := bxa.cell 0
                have x1 : wa.cell? ⟨wr.heap.size, 1, none⟩ = some (.int .i64 x.val) := bxa.cell 1
                have x2 : wa.cell? ⟨wr.heap.size, 2, none⟩ = some (.bool true) := bxa.cell 2
                have hsa := hba.size
                have HD := Lib.hid hd2
                have HWA := Lib.hid hwa
                clear bxa hd2 hwa
                have hnew : Hid (o = liveE (O.take (j + 1))) := by
                  show _ = _
                  rw [ho3.out, hs]; simp
                clear hs hx
                go_upto_region 18 with fail
                rw [HWA.out]
                clear HWA
                go_wp2_with fail
                go_roundw
                case rel => exact ⟨j + 1, o, A3, c3, by omega, by go_num, bext hb3 hba, rfl, own_below HOW3.out hba, hnew⟩
                case measure => simp [intOf]; omega
            · have hjn : j = O.length := by omega
              have ho4 : o = bareE true O := by rw [ho3.out, hjn, List.take_of_length_le (Nat.le_refl _)]; rfl
              have hs3 := own_sl hown3
              have hol4 : o.length ≤ 65536 := by rw [ho4]; have := live_le O; unfold bareE; simp; omega
              have HO4 := Lib.hid ho4
              have HW3 := Lib.hid (HW1.out.below hb3 HW1.out.lt)
              have hlw : w.heap.size < w1.heap.size := HW1.out.lt
              clear hjn ho4 hown3
              go_wp2_with fail
              refine (build_any A3 o c3 _ hs3 (by omega)).mono ?_
              rw [HO4.out, HBE.out, HBL.out]
              rintro e w2 ⟨A2, c2, rfl, ho2, hb2⟩
              have hrw1 := HW3.out.below hb2 HW3.out.lt
              have hc1 : w2.cell? ⟨w.heap.size, 0, none⟩ = some (.slice none 0 0) := hrw1.cell 0
              have hf1 : w2.frozen? ⟨w.heap.size, 0, none⟩ = false := hrw1.frozen 0
              have HO2 := Lib.hid ho2
              clear ho2 hrw1
              go_wp2
              refine bodyPost_ret (v := .tuple #[.agg #[.slice A2 (laid (bareE true O)).length c2], .int .i64 0]) (by simp [results, Tryz.results49, go_sem, hc1]) rfl ?_
              rw [HE3.out, HL3.out]
              refine ⟨A2, c2, rfl, own_far (own_mono HO2.out (by omega)) ?_ _, (bext hbw (bext hb1 (bext hb3 hb2))).setCell (p := ⟨w.heap.size, 0, none⟩) (Nat.le_refl _) _⟩
              intro e
              have := (HO2.out.lt _ e).1
              dsimp only at this
              omega
end Go.Proofs.YtolclahkfmplfaaGreatDoor

/- Contracts: copies of runs. -/
namespace Go.Proofs.YtolclahkfmplfaaGreatDoor
open Go Go.RowKit
set_option maxRecDepth 100000

theorem one_ents (l : List Ent) : ∀ u ∈ l.flatMap Ent.cells, u.oneCell' = true := by
  intro u hu; obtain ⟨e, _, he⟩ := List.mem_flatMap.1 hu; simp [Ent.cells] at he; rcases he with rfl | rfl | rfl <;> rfl
theorem ents_length (l : List Ent) : (l.flatMap Ent.cells).length = l.length * 3 := flat_length Ent.cells 3 Ent.cells_length l
theorem eql_nilE (A : Option Addr) (n c : Nat) (w : World) : (binOp .eql 47 (.slice A n c) (.slice none 0 0)).run Tryz.prog w = .ok (.bool A.isNone) w := Lib.run_eql_slice_nil w _ _ A n c _ _ Tryz.underlying47
theorem own_zeroE {w : World} {g B : Nat} (h : Blk w g 46 #[]) (hB : B ≤ g) : w.ownsRow B 46 3 (.slice (some ⟨g, 0, none⟩) 0 0) 0 [] :=
  ⟨rfl, .inr ⟨g, 0, _, rfl, hB, h, Nat.le_refl _, Nat.zero_le _, rfl, rfl⟩⟩
/-- hands back a run whose entries lie in new memory -/
def GivesTwin (l : List Ent) (w : World) (r : Ending) (w' : World) : Prop :=
  ∃ A c, r = .returned (.agg #[.slice A l.length c]) ∧ w'.ownsRow w.heap.size 46 3 (.slice A l.length c) l.length (l.flatMap Ent.cells) ∧ Below w.heap.size w w'

set_option maxHeartbeats 1000000 in
theorem cloneE_any (A : Option Addr) (l : List Ent) (c : Nat) (w : World) (hA : Sl w A (l.flatMap Ent.cells)) (hl : l.length ≤ 1000000) :
    Calls Tryz.prog 103 #[.slice A l.length c] w (GivesOwn 46 3 l.length (l.flatMap Ent.cells) w) := by
  obtain ⟨i0, hi, hz0, hz1, hz2⟩ := info_parts ent_info
  have hn := eql_nilE A l.length c w
  cases A with
  | none =>
    have hnil : l = [] := by
      rcases hA with h | ⟨b, off, h, _⟩
      · cases l with
        | nil => rfl
        | cons a l => simp [Ent.cells] at h
      · cases h
    subst hnil
    have hn2 : ∀ n, (binOp .eql 47 (.slice none n c) (.slice none 0 0)).run Tryz.prog w = .ok (.bool true) w := fun n => eql_nilE none n c w
    clear hn
    go_enter Tryz.func103, Tryz.ntmps103
    go_wp2
    go_ret
    exact ⟨none, 0, rfl, World.ownsRow_nil _ _ _ _, Below.refl _ _⟩
  | some a =>
    have hb0 : Below w.heap.size w (w.alloc (.cells #[] 46)) := (Below.refl _ _).alloc (Nat.le_refl _) _
    have hown0 : (w.alloc (.cells #[] 46)).ownsRow w.heap.size 46 3 (.slice (some ⟨w.heap.size, 0, none⟩) 0 0) 0 [] := own_zeroE (Blk.new _ _ _) (Nat.le_refl _)
    go_enter Tryz.func103, Tryz.ntmps103
    go_wp2_with (at_builtin; refine wpList_append_sl _ rfl (.tmp 5) (.tmp 6) _ rfl w.heap.size 46 i0 _ 3 24 Tryz.underlying47 hi hz0 hz1 hz2 rfl (by omega) (.slice (some ⟨w.heap.size, 0, none⟩) 0 0) 0 [] rfl hown0 (some a) l.length c (l.flatMap Ent.cells) rfl (hA.below hb0) (ents_length l) (one_ents l) (by unfold maxLen; omega) (by omega) (by simp) ?_; intro v1 w1 hown1 hg1; simp only [Nat.zero_add, List.nil_append] at hown1; obtain ⟨A1, c1, rfl, hlc1, hcm1⟩ := own_form hown1)
    go_ret
    exact ⟨A1, c1, rfl, hown1, hb0.grown hg1 (by simp) (fun k hk => (hown0.lt k hk).1)⟩
set_option maxHeartbeats 1000000 in
theorem twin_any (A : Option Addr) (l : List Ent) (c : Nat) (w : World) (hA : Sl w A (l.flatMap Ent.cells)) (hl : l.length ≤ 1000000) :
    Calls Tryz.prog 85 #[.agg #[.slice A l.length c]] w (GivesTwin l w) := by
  have hb0 : Below w.heap.size w ((w.alloc (.cells #[.slice A l.length c] 49)).alloc (.cells #[.slice none 0 0] 49)) := ((Below.refl _ _).alloc (Nat.le_refl _) _).alloc (by simp) _
  have bR : Blk ((w.alloc (.cells #[.slice A l.length c] 49)).alloc (.cells #[.slice none 0 0] 49)) (w.heap.size + 1) 49 #[.slice none 0 0] := by
    have := Blk.new (w.alloc (.cells #[.slice A l.length c] 49)) 49 #[.slice none 0 0]
    rwa [World.size_alloc] at this
  go_enter Tryz.func85, Tryz.ntmps85
  go_wp2_with fail
  refine (cloneE_any A l c _ (hA.below hb0) hl).mono ?_
  rintro e w1 ⟨A1, c1, rfl, ho1, hb1⟩
  have hb01 := bext hb0 hb1
  have bR1 := bR.below hb1 bR.lt
  have ho1 := own_mono ho1 (show w.heap.size + 1 + 1 ≤ _ by simp)
  have c0 : w1.cell? ⟨w.heap.size + 1, 0, none⟩ = some (.slice none 0 0) := bR1.cell 0
  have f0 : w1.frozen? ⟨w.heap.size + 1, 0, none⟩ = false := bR1.frozen 0
  go_wp2
  have e1 : (w1.setCell ⟨w.heap.size + 1, 0, none⟩ (.slice A1 l.length c1)).cell? ⟨w.heap.size + 1, 0, none⟩ = some (.slice A1 l.length c1) := (bR1.set_ 0 (.slice A1 l.length c1)).cell 0
  refine bodyPost_ret (v := .agg #[.slice A1 l.length c1]) (by simp [results, Tryz.results85, go_sem, e1]) rfl ?_
  refine ⟨A1, c1, rfl, own_far (own_mono ho1 (by omega)) ?_ _, hb01.setCell (p := ⟨w.heap.size + 1, 0, none⟩) (Nat.le_succ _) _⟩
  intro h
  have := (ho1.lt _ h).1
  simp at this
  omega

/-! ### keys that are written over -/
def Ki3 (w : World) (B h : Nat) (A : Option Addr) (n : Nat) : Prop := n = 0 ∨ ∃ g t cs, A = some ⟨g, 0, none⟩ ∧ B ≤ g ∧ g ≠ h ∧ Blk w g t cs ∧ ∀ j, j < n → ∃ k, cs[j * 3]? = some (.int .i64 k)
section
variable {w w' : World} {B h : Nat} {A : Option Addr} {n : Nat}
theorem Ki3.get (hk : Ki3 w B h A n) {j : Nat} (hj : j < n) : ∃ g k, A = some ⟨g, 0, none⟩ ∧ B ≤ g ∧ g ≠ h ∧ w.cell? ⟨g, j * 3, none⟩ = some (.int .i64 k) ∧ w.frozen? ⟨g, j * 3, none⟩ = false := by
  rcases hk with h0 | ⟨g, t, cs, h1, h2, h3, h4, h5⟩
  · omega
  · obtain ⟨k, hk⟩ := h5 j hj
    exact ⟨g, k, h1, h2, h3, (h4.cell _).trans hk, h4.frozen _⟩
theorem Ki3.set (hk : Ki3 w B h A n) (g i : Nat) (k : Int) : Ki3 (w.setCell ⟨g, i, none⟩ (.int .i64 k)) B h A n := by
  rcases hk with h0 | ⟨g', t, cs, h1, h2, h3, h4, h5⟩
  · exact .inl h0
  · by_cases e : g' = g
    · subst e
      refine .inr ⟨g', t, _, h1, h2, h3, h4.set_ i _, fun j hj => ?_⟩
      obtain ⟨k', hk'⟩ := h5 j hj
      rw [Array.getElem?_setIfInBounds]
      by_cases e2 : i = j * 3
      · rw [if_pos e2]
        have hlt : i < cs.size := by rw [e2]; exact (Array.getElem?_eq_some_iff.1 hk').1
        rw [if_pos hlt]
        exact ⟨k, rfl⟩
      · rw [if_neg e2]
        exact ⟨k', hk'⟩
    · exact .inr ⟨g', t, cs, h1, h2, h3, h4.far (p := ⟨g, i, none⟩) e _, h5⟩
theorem Ki3.of_own {B' c : Nat} {l : List Ent} {cs : Array Value} (hf : w.ownsRow B' 46 3 (.slice A l.length c) l.length (l.flatMap Ent.cells)) (hB : B ≤ B') (hh : Blk w h 49 cs) : Ki3 w B h A l.length := by
  by_cases h0 : l.length = 0
  · exact .inl h0
  · obtain ⟨g, cap, cur, hv, hg, hb, hn, _, hs, ht⟩ := own_blk hf (by omega)
    injection hv with h1 h2 h3
    have hne : g ≠ h := by
      rintro rfl
      have := hb.symm.trans hh
      simp at this
    refine .inr ⟨g, _, cur, h1, Nat.le_trans hB hg, hne, hb, fun j hj => ⟨(l[j]'hj).key, ?_⟩⟩
    have hc := flat_get Ent.cells 3 Ent.cells_length l j 0 hj (by omega)
    rw [← ht, List.getElem?_take, if_pos (by omega)] at hc
    simpa [Ent.cells] using hc
theorem Ki3.belowS (hb : Below w.heap.size w w') (hk : Ki3 w B h A n) : Ki3 w' B h A n := by
  rcases hk with h0 | ⟨g, t, cs, h1, h2, h3, h4, h5⟩
  · exact .inl h0
  · exact .inr ⟨g, t, cs, h1, h2, h3, h4.below hb h4.lt, h5⟩
end
end Go.Proofs.YtolclahkfmplfaaGreatDoor

/- Contracts: shelfmarkref25.Merge and Two, kway.Two. -/
namespace Go.Proofs.YtolclahkfmplfaaGreatDoor
open Go Go.RowKit
set_option maxRecDepth 100000

theorem GivesRun.re {t : TypeId} {m : List Ent} {e : Int} {w W : World} {r : Ending} {w' : World} (hb : Below w.heap.size w W) (h : GivesRun t m e W r w') : GivesRun t m e w r w' := by
  obtain ⟨A, c, h1, h2, h3⟩ := h
  exact ⟨A, c, h1, own_mono h2 hb.size, bext hb h3⟩
end Go.Proofs.YtolclahkfmplfaaGreatDoor

/- Contracts: shelfmarkref25.Two, kway.Two. -/
namespace Go.Proofs.YtolclahkfmplfaaGreatDoor
open Go Go.RowKit
set_option maxRecDepth 100000
set_option maxHeartbeats 1000000 in
theorem two_any (A B : Option Addr) (a b : List Ent) (ca cb : Nat) (bare : Bool) (w : World) (hA : Sl w A (a.flatMap Ent.cells)) (hB : Sl w B (b.flatMap Ent.cells)) (hca : a.length ≤ ca) (hcb : b.length ≤ cb) (hma : ca ≤ maxLen) (hmb : cb ≤ maxLen)
    (hl : a.length + b.length ≤ 1099511627776) :
    Calls Tryz.prog 27 #[.agg #[.slice A a.length ca], .agg #[.slice B b.length cb], .bool bare] w (GivesRun 46 (mrgL [⟨a, A, ca⟩, ⟨b, B, cb⟩] bare) (mrgE [⟨a, A, ca⟩, ⟨b, B, cb⟩]) w) := by
  obtain ⟨W0, hW0⟩ : ∃ W0, ((w.alloc (.cells #[.slice A a.length ca] 49)).alloc (.cells #[.slice B b.length cb] 49)).alloc (.cells #[.slice none 0 0] 49) = W0 := ⟨_, rfl⟩
  have hb0 : Below w.heap.size w W0 := by rw [← hW0]; exact (((Below.refl _ _).alloc (Nat.le_refl _) _).alloc (by simp) _).alloc (by simp; omega) _
  have hs0 : W0.heap.size = w.heap.size + 3 := by rw [← hW0]; simp
  have bA : Blk W0 w.heap.size 49 #[.slice A a.length ca] := by rw [← hW0]; exact ((Blk.new _ _ _).alloc _).alloc _
  have bB : Blk W0 (w.heap.size + 1) 49 #[.slice B b.length cb] := by
    rw [← hW0]
    have := Blk.new (w.alloc (.cells #[.slice A a.length ca] 49)) 49 #[.slice B b.length cb]
    rw [World.size_alloc] at this
    exact this.alloc _
  have bR : Blk W0 (w.heap.size + 2) 49 #[.slice none 0 0] := by
    rw [← hW0]
    have := Blk.new ((w.alloc (.cells #[.slice A a.length ca] 49)).alloc (.cells #[.slice B b.length cb] 49)) 49 #[.slice none 0 0]
    rwa [World.size_alloc, World.size_alloc] at this
  have cA : W0.cell? ⟨w.heap.size, 0, none⟩ = some (.slice A a.length ca) := bA.cell 0
  have cB : W0.cell? ⟨w.heap.size + 1, 0, none⟩ = some (.slice B b.length cb) := bB.cell 0
  obtain ⟨W1, hW1⟩ : ∃ W1, W0.alloc (.cells #[.slice A a.length ca, .slice B b.length cb] 49) = W1 := ⟨_, rfl⟩
  have hb1 : Below W0.heap.size W0 W1 := by rw [← hW1]; exact (Below.refl _ _).alloc (Nat.le_refl _) _
  have bS : Blk W1 W0.heap.size 49 #[.slice A a.length ca, .slice B b.length cb] := by rw [← hW1]; exact Blk.new _ _ _
  have hR : RunsAt W1 (some ⟨W0.heap.size, 0, none⟩) [⟨a, A, ca⟩, ⟨b, B, cb⟩] := by
    refine ⟨bS.sl 0 _ (by intro j u hu; simpa [Rm.v] using hu), ?_⟩
    intro r hr
    simp at hr
    rcases hr with rfl | rfl
    · exact ⟨hA.below (bext hb0 hb1), hca, hma⟩
    · exact ⟨hB.below (bext hb0 hb1), hcb, hmb⟩
  have HR := Lib.hid hR
  have HB := Lib.hid (bR.below hb1 bR.lt)
  have hb01 := bext hb0 hb1
  have hlr : ∀ r ∈ ([⟨a, A, ca⟩, ⟨b, B, cb⟩] : List Rm), r.l.length ≤ 4611686018427387903 := by
    intro r hr
    simp at hr
    rcases hr with rfl | rfl <;> dsimp only <;> omega
  have HLR := Lib.hid hlr
  have HS0 := Lib.hid hs0
  clear hR hlr hs0 bA bB bR bS
  obtain ⟨M, hM⟩ : ∃ M, mrgL [⟨a, A, ca⟩, ⟨b, B, cb⟩] bare = M := ⟨_, rfl⟩
  obtain ⟨E, hE⟩ : ∃ E, mrgE [⟨a, A, ca⟩, ⟨b, B, cb⟩] = E := ⟨_, rfl⟩
  rw [hM, hE]
  have HM := Lib.hid hM
  have HE := Lib.hid hE
  clear hM hE
  go_enter Tryz.func27, Tryz.ntmps27
  go_wp2_with fail
  try rw [hW0]
  try rw [hW1]
  clear hW0 hW1 cA cB
  refine (merge_any (some ⟨W0.heap.size, 0, none⟩) [⟨a, A, ca⟩, ⟨b, B, cb⟩] 2 (a.length + b.length) bare W1 HR.out (by simp) HLR.out (by simp) hl).mono ?_
  rw [HM.out, HE.out]
  rintro e w1 ⟨A1, c1, rfl, ho1, hb2⟩
  have hr1 := HB.out.below hb2 HB.out.lt
  have hc1 : w1.cell? ⟨w.heap.size + 2, 0, none⟩ = some (.slice none 0 0) := hr1.cell 0
  have hf1 : w1.frozen? ⟨w.heap.size + 2, 0, none⟩ = false := hr1.frozen 0
  have HO1 := Lib.hid ho1
  have hlw := HB.out.lt
  clear ho1 hr1
  go_wp2
  refine bodyPost_ret (v := .tuple #[.agg #[.slice A1 M.length c1], .int .i64 E]) (by simp [results, Tryz.results27, go_sem, hc1]) rfl ?_
  refine ⟨A1, c1, rfl, own_far (own_mono HO1.out hb01.size) ?_ _, (bext hb01 hb2).setCell (p := ⟨w.heap.size + 2, 0, none⟩) (by simp) _⟩
  intro e
  have := (HO1.out.lt _ e).1
  dsimp only at this
  omega
theorem inS_of (Rs : List Rm) : inS Rs = (Rs.map Rm.l).map inL := by unfold inS; rw [List.map_map]; rfl
theorem mrgE_congr {Rs Ss : List Rm} (h : Rs.map Rm.l = Ss.map Rm.l) : mrgE Rs = mrgE Ss := by unfold mrgE; rw [inS_of, inS_of, h]
theorem mrgL_congr {Rs Ss : List Rm} (h : Rs.map Rm.l = Ss.map Rm.l) (bare : Bool) : mrgL Rs bare = mrgL Ss bare := by unfold mrgL; rw [mrgE_congr h, inS_of, inS_of, h]
theorem mrg_len {Rs : List Rm} {T : Nat} (bare : Bool) (hT : (Rs.map (fun r => r.l.length)).sum ≤ T) : (mrgL Rs bare).length ≤ T := by
  unfold mrgL
  split
  · rw [laid_length]
    have h1 := fold_len (inS Rs) []
    rw [inS_sum] at h1
    have h2 : (allE (inS Rs)).length ≤ T := by unfold allE; simp at h1; omega
    unfold bareE
    split
    · have := live_le (allE (inS Rs)); omega
    · exact h2
  · exact Nat.zero_le _
end Go.Proofs.YtolclahkfmplfaaGreatDoor

/- Contracts of the laws' helpers of chapter 25: chapter, has, alive, Great. -/
namespace Go.Proofs.YtolclahkfmplfaaGreatDoor
open Go Go.RowKit
set_option maxRecDepth 100000

/-! ### what merging gives, on lists -/
def mE (rs : List (List Ent)) : Int := if chkAllE rs = 0 then (if (allE (rs.map inL)).length > 65536 then 4 else 0) else chkAllE rs
def mL (rs : List (List Ent)) (bare : Bool) : List Ent := if mE rs = 0 then laid (bareE bare (allE (rs.map inL))) else []
theorem mrgE_m (Rs : List Rm) : mrgE Rs = mE (Rs.map Rm.l) := by unfold mrgE mE; rw [inS_of]
theorem mrgL_m (Rs : List Rm) (bare : Bool) : mrgL Rs bare = mL (Rs.map Rm.l) bare := by unfold mrgL mL; rw [mrgE_m, inS_of]

def chA : List Ent := [⟨2, 0, true⟩, ⟨3, 33, false⟩]
def chB : List Ent := [⟨1, 10, false⟩, ⟨2, 20, false⟩, ⟨3, 30, false⟩]
def rA : List Ent := [⟨3, 33, false⟩, ⟨2, 0, true⟩]
def rB : List Ent := [⟨2, 20, false⟩, ⟨1, 10, false⟩, ⟨3, 30, false⟩]
theorem kinord2 : inord 2 0 = [1, 0] := by simp [inord]
theorem kinord3 : inord 3 0 = [1, 0, 2] := by simp [inord]
theorem kranks2 : ranks 2 = [1, 0] := by unfold ranks; rw [kinord2]; decide
theorem kranks3 : ranks 3 = [1, 0, 2] := by unfold ranks; rw [kinord3]; decide
theorem chA_E : buildE chA = 0 := by decide
theorem chB_E : buildE chB = 0 := by decide
theorem chA_L : buildL chA = rA := by unfold buildL; rw [if_pos chA_E]; unfold laid; rw [show chA.length = 2 from rfl, kranks2]; decide
theorem chB_L : buildL chB = rB := by unfold buildL; rw [if_pos chB_E]; unfold laid; rw [show chB.length = 3 from rfl, kranks3]; decide
theorem rA_laid : laid chA = rA := by rw [← chA_L]; unfold buildL; rw [if_pos chA_E]
theorem rB_laid : laid chB = rB := by rw [← chB_L]; unfold buildL; rw [if_pos chB_E]
theorem rA_in : inL rA = chA := by rw [← rA_laid, in_laid]
theorem rB_in : inL rB = chB := by rw [← rB_laid, in_laid]
theorem rA_chk : chkE rA = 0 := by rw [← rA_laid]; exact build_chk chA_E
theorem rB_chk : chkE rB = 0 := by rw [← rB_laid]; exact build_chk chB_E
def chM : List Ent := [⟨1, 10, false⟩, ⟨2, 0, true⟩, ⟨3, 33, false⟩]
def chN : List Ent := [⟨1, 10, false⟩, ⟨3, 33, false⟩]
theorem ch_all : allE [chA, chB] = chM := by simp [allE, bothE, chA, chB, chM]
theorem ch_mE : mE [rA, rB] = 0 := by
  unfold mE
  rw [show chkAllE [rA, rB] = 0 by simp [chkAllE, rA_chk, rB_chk]]
  rw [show [rA, rB].map inL = [chA, chB] by simp [rA_in, rB_in], ch_all]
  decide
theorem ch_mL : mL [rA, rB] false = laid chM := by
  unfold mL
  rw [if_pos ch_mE, show [rA, rB].map inL = [chA, chB] by simp [rA_in, rB_in], ch_all]
  rfl
theorem ch_mN : mL [rA, rB] true = laid chN := by
  unfold mL
  rw [if_pos ch_mE, show [rA, rB].map inL = [chA, chB] by simp [rA_in, rB_in], ch_all]
  rfl




theorem le_sum : ∀ {l : List Nat} {x : Nat}, x ∈ l → x ≤ l.sum
  | [], _, h => by simp at h
  | y :: l, x, h => by
    rw [List.sum_cons]
    rcases List.mem_cons.1 h with rfl | h
    · omega
    · have := le_sum h; omega
theorem rs_le {Rs : List Rm} {T : Nat} (h : (Rs.map (fun r => r.l.length)).sum ≤ T) : ∀ r ∈ Rs, r.l.length ≤ T := fun r hr => Nat.le_trans (le_sum (List.mem_map.2 ⟨r, hr, rfl⟩)) h
end Go.Proofs.YtolclahkfmplfaaGreatDoor

/- Plain facts on merged runs: lengths, a run merged with itself, folds. No program in sight. -/
namespace Go.Proofs.YtolclahkfmplfaaGreatDoor
open Go

theorem bothE_ge : ∀ (n : Nat) (a b : List Ent), a.length + b.length ≤ n → a.length ≤ (bothE a b).length ∧ b.length ≤ (bothE a b).length := by
  intro n
  induction n with
  | zero => intro a b h; cases a <;> cases b <;> simp at h; simp [bothE]
  | succ n ih =>
    intro a b h
    cases a with
    | nil => rw [bothE]; simp
    | cons x a =>
      cases b with
      | nil => rw [bothE]; simp
      | cons y b =>
        simp only [List.length_cons] at h ⊢
        rw [bothE]
        split
        · have := ih a (y :: b) (by simp; omega); simp at this ⊢; omega
        · split
          · have := ih a b (by omega); simp at this ⊢; omega
          · have := ih (x :: a) b (by simp; omega); simp at this ⊢; omega
theorem bothE_self : ∀ (l : List Ent), bothE l l = l
  | [] => by rw [bothE]
  | x :: l => by rw [bothE_eq rfl, bothE_self l]
theorem fold_ge : ∀ (rs : List (List Ent)) (acc : List Ent), acc.length ≤ (rs.foldl bothE acc).length ∧ ∀ r ∈ rs, r.length ≤ (rs.foldl bothE acc).length
  | [], acc => by simp
  | r :: rs, acc => by
    have h1 := bothE_ge _ acc r (Nat.le_refl _)
    obtain ⟨g1, g2⟩ := fold_ge rs (bothE acc r)
    rw [List.foldl_cons]
    refine ⟨by omega, fun q hq => ?_⟩
    rcases List.mem_cons.1 hq with rfl | hq
    · omega
    · exact g2 q hq
theorem all_one (l : List Ent) : allE [l] = l := by unfold allE; rw [List.foldl_cons, List.foldl_nil, bothE]
theorem all_two (a b : List Ent) : allE [a, b] = bothE a b := by unfold allE; rw [List.foldl_cons, List.foldl_cons, List.foldl_nil, bothE]

/-- a run with a right layout -/
theorem mE_chk {rs : List (List Ent)} (h : mE rs = 0) : chkAllE rs = 0 := by
  unfold mE at h
  split at h
  · assumption
  · exact absurd h (by assumption)
theorem mE_of {rs : List (List Ent)} (h : chkAllE rs = 0) (hT : (rs.map List.length).sum ≤ 65536) : mE rs = 0 := by
  unfold mE
  rw [if_pos h, if_neg]
  have h1 := fold_len (rs.map inL) []
  have h2 : ((rs.map inL).map List.length).sum = (rs.map List.length).sum := by
    rw [List.map_map]
    congr 1
    exact List.map_congr_left (fun r _ => inL_length r)
  rw [h2] at h1
  unfold allE
  simp at h1 ⊢
  omega
theorem mE_bad {rs : List (List Ent)} (hT : (rs.map List.length).sum ≤ 65536) : mE rs = chkAllE rs := by
  by_cases h : chkAllE rs = 0
  · rw [mE_of h hT, h]
  · unfold mE; rw [if_neg h]
theorem rms (rs : List (List Ent)) : (rs.map (fun l => (⟨l, none, 0⟩ : Rm))).map Rm.l = rs := by rw [List.map_map]; simp [Function.comp_def]
theorem mL_build {rs : List (List Ent)} (bare : Bool) (h : mE rs = 0) : buildE (bareE bare (allE (rs.map inL))) = 0 := by
  have h2 := mrg_build (Rs := rs.map (fun l => (⟨l, none, 0⟩ : Rm))) bare (by rw [mrgE_m, rms]; exact h)
  rw [inS_of, rms] at h2
  exact h2.1
theorem mL_is {rs : List (List Ent)} (bare : Bool) (h : mE rs = 0) : mL rs bare = laid (bareE bare (allE (rs.map inL))) := by unfold mL; rw [if_pos h]
theorem mL_chk {rs : List (List Ent)} (bare : Bool) (h : mE rs = 0) : chkE (mL rs bare) = 0 := by
  rw [mL_is bare h]
  exact build_chk (mL_build bare h)
theorem mL_in {rs : List (List Ent)} (bare : Bool) (h : mE rs = 0) : inL (mL rs bare) = bareE bare (allE (rs.map inL)) := by rw [mL_is bare h, in_laid]
theorem mL_len {rs : List (List Ent)} {T : Nat} (bare : Bool) (hT : (rs.map List.length).sum ≤ T) : (mL rs bare).length ≤ T := by
  have h := mrg_len (Rs := rs.map (fun l => (⟨l, none, 0⟩ : Rm))) (T := T) bare (by rw [List.map_map]; exact hT)
  rw [mrgL_m, rms] at h
  exact h
theorem mL_ge {rs : List (List Ent)} (h : mE rs = 0) {r : List Ent} (hr : r ∈ rs) : r.length ≤ (mL rs false).length := by
  rw [mL_is false h, laid_length]
  have := (fold_ge (rs.map inL) []).2 (inL r) (List.mem_map.2 ⟨r, hr, rfl⟩)
  rw [inL_length] at this
  exact this
theorem self_E {r : List Ent} (h : chkE r = 0) (hl : r.length ≤ 32768) : mE [r, r] = 0 := mE_of (by simp [chkAllE, h]) (by simp; omega)
theorem self_L {r : List Ent} (h : chkE r = 0) (hl : r.length ≤ 32768) : mL [r, r] false = r := by
  rw [mL_is false (self_E h hl)]
  show laid (allE [inL r, inL r]) = r
  rw [all_two, bothE_self, laid_in]
theorem chkAll_zero {rs : List (List Ent)} (h : ∀ r ∈ rs, chkE r = 0) : chkAllE rs = 0 := by
  induction rs with
  | nil => rfl
  | cons r rs ih =>
    rw [chkAllE, if_pos (h r (by simp))]
    exact ih fun q hq => h q (by simp [hq])
end Go.Proofs.YtolclahkfmplfaaGreatDoor

/- Plain facts on levels of runs: which may be, how an entry is let in. No program in sight. -/
namespace Go.Proofs.YtolclahkfmplfaaGreatDoor
open Go

def up (n : Nat) : Nat := if n ≤ 1 then 0 else Nat.log2 (n - 1) + 1
theorem up_spec {n : Nat} (_h : 0 < n) : n ≤ 2 ^ up n ∧ (0 < up n → 2 ^ (up n - 1) < n) := by
  unfold up
  split
  · exact ⟨by simp; omega, fun h => by omega⟩
  · have h1 := Nat.log2_self_le (n := n - 1) (by omega)
    have h2 := Nat.lt_log2_self (n := n - 1)
    rw [Nat.add_sub_cancel]
    exact ⟨by omega, fun _ => by omega⟩
theorem up_eq {n k : Nat} (h0 : 0 < n) (h1 : n ≤ 2 ^ k) (h2 : 0 < k → 2 ^ (k - 1) < n) : up n = k := by
  obtain ⟨a, b⟩ := up_spec h0
  rcases Nat.lt_trichotomy (up n) k with h | h | h
  · have h3 := h2 (by omega)
    have h4 : 2 ^ up n ≤ 2 ^ (k - 1) := Nat.pow_le_pow_right (by omega) (by omega)
    omega
  · exact h
  · have h3 := b (by omega)
    have h4 : 2 ^ k ≤ 2 ^ (up n - 1) := Nat.pow_le_pow_right (by omega) (by omega)
    omega
theorem up_le {n k : Nat} (h : n ≤ 2 ^ k) : up n ≤ k := by
  rcases Nat.eq_zero_or_pos n with rfl | h0
  · simp [up]
  · obtain ⟨_, b⟩ := up_spec h0
    rcases Nat.lt_or_ge k (up n) with h1 | h1
    · have h3 := b (by omega)
      have h4 : 2 ^ k ≤ 2 ^ (up n - 1) := Nat.pow_le_pow_right (by omega) (by omega)
      omega
    · exact h1
theorem up_mono {n m : Nat} (h : n ≤ m) : up n ≤ up m := by
  rcases Nat.eq_zero_or_pos m with rfl | h0
  · rw [show n = 0 by omega]; exact Nat.le_refl _
  · exact up_le (Nat.le_trans h (up_spec h0).1)
theorem up_16 {n : Nat} (h : n ≤ 65536) : up n ≤ 16 := up_le (by omega)

abbrev Lv := List (List Ent)
def lev (rs : Lv) (j : Nat) : List Ent := rs.getD j []
theorem lev_lt {rs : Lv} {j : Nat} (h : j < rs.length) : lev rs j = rs[j]'h := by simp [lev, h]
theorem lev_ge {rs : Lv} {j : Nat} (h : rs.length ≤ j) : lev rs j = [] := by unfold lev; rw [List.getD_eq_getElem?_getD, List.getElem?_eq_none h]; rfl
theorem lev_nil (j : Nat) : lev [] j = [] := lev_ge (Nat.zero_le _)
theorem lev_mem {rs : Lv} {j : Nat} (h : lev rs j ≠ []) : j < rs.length ∧ lev rs j ∈ rs := by
  rcases Nat.lt_or_ge j rs.length with h1 | h1
  · exact ⟨h1, by rw [lev_lt h1]; exact List.getElem_mem h1⟩
  · exact absurd (lev_ge h1) h
theorem lev_of_mem {rs : Lv} {l : List Ent} (h : l ∈ rs) : ∃ j, j < rs.length ∧ lev rs j = l := by
  obtain ⟨j, hj, e⟩ := List.getElem_of_mem h
  exact ⟨j, hj, by rw [lev_lt hj, e]⟩
def Top (rs : Lv) : Prop := rs = [] ∨ lev rs (rs.length - 1) ≠ []
theorem canon_le {a b : Lv} (ha : Top a) (h : ∀ j, lev a j = lev b j) : a.length ≤ b.length := by
  rcases ha with rfl | ha
  · simp
  · rcases Nat.lt_or_ge (a.length - 1) b.length with h1 | h1
    · omega
    · rw [h, lev_ge h1] at ha; exact absurd rfl ha
/-- levels without empty ones at the end are the same if each level is -/
theorem canon_ext {a b : Lv} (ha : Top a) (hb : Top b) (h : ∀ j, lev a j = lev b j) : a = b := by
  have hl := Nat.le_antisymm (canon_le ha h) (canon_le hb fun j => (h j).symm)
  refine List.ext_getElem hl fun i h1 h2 => ?_
  have := h i
  rwa [lev_lt h1, lev_lt h2] at this

/-! ### a run at its level -/
def padTo (rs : Lv) (m : Nat) : Lv := rs ++ List.replicate (m - rs.length) []
theorem pad_len (rs : Lv) (m : Nat) : (padTo rs m).length = max rs.length m := by simp [padTo]; omega
theorem lev_pad (rs : Lv) (m j : Nat) : lev (padTo rs m) j = lev rs j := by
  unfold padTo lev
  rw [List.getD_eq_getElem?_getD, List.getD_eq_getElem?_getD]
  rcases Nat.lt_or_ge j rs.length with h | h
  · rw [List.getElem?_append_left h]
  · rw [List.getElem?_append_right h, List.getElem?_eq_none h, List.getElem?_replicate]
    split <;> rfl
theorem pad_step (rs : Lv) {m : Nat} (h : rs.length ≤ m) : padTo rs (m + 1) = padTo rs m ++ [[]] := by
  unfold padTo
  rw [show m + 1 - rs.length = (m - rs.length) + 1 by omega, List.replicate_succ', List.append_assoc]
theorem pad_same (rs : Lv) {m : Nat} (h : m ≤ rs.length) : padTo rs m = rs := by unfold padTo; rw [show m - rs.length = 0 by omega]; simp
theorem lev_set {rs : Lv} {k : Nat} (r : List Ent) (h : k < rs.length) (j : Nat) : lev (rs.set k r) j = if j = k then r else lev rs j := by
  unfold lev
  rw [List.getD_eq_getElem?_getD, List.getD_eq_getElem?_getD, List.getElem?_set]
  by_cases e : k = j
  · subst e; simp [h]
  · rw [if_neg e, if_neg (fun x => e x.symm)]
theorem lev_set_nil (rs : Lv) (k j : Nat) : lev (rs.set k []) j = if j = k then [] else lev rs j := by
  rcases Nat.lt_or_ge k rs.length with h | h
  · exact lev_set [] h j
  · rw [List.set_eq_of_length_le h]
    split
    · rename_i e; subst e; exact lev_ge h
    · rfl
def standL (rs : Lv) (r : List Ent) : Lv := if r = [] then rs else (padTo rs (up r.length + 1)).set (up r.length) r
theorem stand_nil (rs : Lv) : standL rs [] = rs := by simp [standL]
theorem lev_stand (rs : Lv) (r : List Ent) (j : Nat) : lev (standL rs r) j = if r ≠ [] ∧ j = up r.length then r else lev rs j := by
  unfold standL
  by_cases h : r = []
  · rw [if_pos h, if_neg (fun x => x.1 h)]
  · rw [if_neg h, lev_set r (by rw [pad_len]; omega), lev_pad]
    by_cases e : j = up r.length
    · rw [if_pos e, if_pos ⟨h, e⟩]
    · rw [if_neg e, if_neg (fun x => e x.2)]
theorem stand_len (rs : Lv) (r : List Ent) : (standL rs r).length = if r = [] then rs.length else max rs.length (up r.length + 1) := by
  unfold standL
  split
  · rfl
  · rw [List.length_set, pad_len]
theorem stand_top {rs : Lv} {r : List Ent} (h : Top rs) : Top (standL rs r) := by
  by_cases e : r = []
  · subst e; rwa [stand_nil]
  · right
    rw [stand_len, if_neg e, lev_stand]
    split
    · exact e
    · rename_i h2
      have h3 : up r.length + 1 < rs.length := by
        rcases Nat.lt_or_ge (up r.length + 1) rs.length with h4 | h4
        · exact h4
        · exact absurd ⟨e, by omega⟩ h2
      rcases h with rfl | h
      · simp at h3
      · rw [show max rs.length (up r.length + 1) = rs.length by omega]; exact h

/-! ### the empty ones at the end are cut off -/
def cutN (rs : Lv) : Nat → Nat
  | 0 => 0
  | n + 1 => if lev rs n = [] then cutN rs n else n + 1
theorem cutN_le (rs : Lv) : ∀ n, cutN rs n ≤ n
  | 0 => Nat.le_refl _
  | n + 1 => by
    unfold cutN
    have := cutN_le rs n
    split <;> omega
theorem cutN_above (rs : Lv) : ∀ n j, cutN rs n ≤ j → j < n → lev rs j = []
  | 0, j, _, h => by omega
  | n + 1, j, h1, h2 => by
    unfold cutN at h1
    split at h1
    · rename_i e
      by_cases h3 : j = n
      · subst h3; exact e
      · exact cutN_above rs n j h1 (by omega)
    · omega
theorem cutN_top (rs : Lv) : ∀ n, cutN rs n = 0 ∨ lev rs (cutN rs n - 1) ≠ []
  | 0 => .inl rfl
  | n + 1 => by
    unfold cutN
    split
    · exact cutN_top rs n
    · rename_i e; exact .inr e
def cutL (rs : Lv) : Lv := rs.take (cutN rs rs.length)
theorem lev_take (rs : Lv) (n j : Nat) : lev (rs.take n) j = if j < n then lev rs j else [] := by
  unfold lev
  rw [List.getD_eq_getElem?_getD, List.getD_eq_getElem?_getD, List.getElem?_take]
  split <;> rfl
theorem lev_cut (rs : Lv) (j : Nat) : lev (cutL rs) j = lev rs j := by
  unfold cutL
  rw [lev_take]
  split
  · rfl
  · rename_i h
    rcases Nat.lt_or_ge j rs.length with h1 | h1
    · exact (cutN_above rs rs.length j (by omega) h1).symm
    · exact (lev_ge h1).symm
theorem cut_top (rs : Lv) : Top (cutL rs) := by
  have h1 := cutN_le rs rs.length
  rcases cutN_top rs rs.length with h | h
  · left; unfold cutL; rw [h]; rfl
  · by_cases h0 : cutN rs rs.length = 0
    · left; unfold cutL; rw [h0]; rfl
    · right
      unfold cutL
      rw [List.length_take, lev_take, Nat.min_eq_left h1, if_pos (by omega)]
      exact h
theorem cut_id {rs : Lv} (h : Top rs) : cutL rs = rs := canon_ext (cut_top rs) h (lev_cut rs)
theorem cut_len (rs : Lv) : (cutL rs).length ≤ rs.length := by unfold cutL; rw [List.length_take]; omega

/-! ### all runs, each at its level -/
def ofL (all : Lv) : Lv := all.foldl standL []
theorem of_snoc (all : Lv) (r : List Ent) : ofL (all ++ [r]) = standL (ofL all) r := by simp [ofL, List.foldl_append]
/-- each run stands at its level -/
def Stood (rs : Lv) : Prop := ∀ j, lev rs j = [] ∨ up (lev rs j).length = j
theorem of_top : ∀ all : Lv, Top (ofL all) := by
  intro all
  have h : ∀ (l acc : Lv), Top acc → Top (l.foldl standL acc) := by
    intro l
    induction l with
    | nil => exact fun acc h => h
    | cons x l ih => exact fun acc h => ih _ (stand_top h)
  exact h all [] (.inl rfl)
theorem of_take {rs : Lv} (h : Stood rs) : ∀ m, m ≤ rs.length → ∀ j, lev (ofL (rs.take m)) j = if j < m then lev rs j else []
  | 0, _, j => by simp [ofL, lev_nil]
  | m + 1, hm, j => by
    rw [List.take_add_one, List.getElem?_eq_getElem (by omega), Option.toList_some, of_snoc, lev_stand, of_take h m (by omega) j, ← lev_lt (by omega : m < rs.length)]
    rcases h m with e | e
    · rw [if_neg (fun x => x.1 e)]
      by_cases h1 : j < m
      · rw [if_pos h1, if_pos (by omega)]
      · rw [if_neg h1]
        by_cases h2 : j = m
        · subst h2; rw [if_pos (by omega), e]
        · rw [if_neg (by omega)]
    · by_cases h2 : j = m
      · subst h2
        by_cases h3 : lev rs j = []
        · rw [if_neg (fun x => x.1 h3), if_neg (by omega), if_pos (by omega), h3]
        · rw [if_pos ⟨h3, e.symm⟩, if_pos (by omega)]
      · rw [if_neg (fun x => h2 (by rw [x.2, e]))]
        by_cases h1 : j < m
        · rw [if_pos h1, if_pos (by omega)]
        · rw [if_neg h1, if_neg (by omega)]
theorem lev_of {rs : Lv} (h : Stood rs) (j : Nat) : lev (ofL rs) j = lev rs j := by
  have := of_take h rs.length (Nat.le_refl _) j
  rw [List.take_length] at this
  rw [this]
  split
  · rfl
  · rename_i h1; exact (lev_ge (by omega)).symm
theorem of_levels {rs : Lv} (r : List Ent) (h : Stood rs) : ofL (rs ++ [r]) = cutL (standL rs r) := by
  refine canon_ext (of_top _) (cut_top _) fun j => ?_
  rw [lev_cut, of_snoc, lev_stand, lev_stand, lev_of h]
theorem of_one (r : List Ent) : ofL [r] = standL [] r := rfl

/-! ### sizes -/
def tot (rs : Lv) : Nat := (rs.map List.length).sum
theorem tot_cons (l : List Ent) (rs : Lv) : tot (l :: rs) = l.length + tot rs := by simp [tot]
theorem tot_snoc (rs : Lv) (l : List Ent) : tot (rs ++ [l]) = tot rs + l.length := by simp [tot]
theorem tot_set_nil : ∀ (rs : Lv) (k : Nat), tot (rs.set k []) + (lev rs k).length = tot rs
  | [], k => by simp [tot, lev_nil]
  | l :: rs, 0 => by simp [tot, lev, Nat.add_comm]
  | l :: rs, k + 1 => by
    have := tot_set_nil rs k
    rw [List.set_cons_succ, tot_cons, tot_cons]
    have e : lev (l :: rs) (k + 1) = lev rs k := by simp [lev]
    rw [e]; omega
theorem tot_pad (rs : Lv) (m : Nat) : tot (padTo rs m) = tot rs := by simp [tot, padTo]
theorem tot_set {rs : Lv} {k : Nat} (r : List Ent) (h : k < rs.length) (e : lev rs k = []) : tot (rs.set k r) = tot rs + r.length := by
  induction rs generalizing k with
  | nil => simp at h
  | cons l rs ih =>
    cases k with
    | zero =>
      have : l = [] := by simpa [lev] using e
      subst this
      simp [tot, Nat.add_comm]
    | succ k =>
      rw [List.set_cons_succ, tot_cons, tot_cons, ih (by simpa using h) (by simpa [lev] using e)]
      omega
theorem tot_stand {rs : Lv} {r : List Ent} (e : r = [] ∨ lev rs (up r.length) = []) : tot (standL rs r) = tot rs + r.length := by
  unfold standL
  by_cases h : r = []
  · subst h; simp
  · rw [if_neg h, tot_set r (by rw [pad_len]; omega) (by rw [lev_pad]; exact e.resolve_left h), tot_pad]
theorem tot_take (rs : Lv) : ∀ n, (∀ j, n ≤ j → lev rs j = []) → tot (rs.take n) = tot rs := by
  induction rs with
  | nil => intro n _; simp
  | cons l rs ih =>
    intro n h
    cases n with
    | zero =>
      have h0 : l = [] := by simpa [lev] using h 0 (Nat.le_refl _)
      have := ih 0 (fun j _ => by simpa [lev] using h (j + 1) (Nat.zero_le _))
      rw [tot_cons, h0, ← this]; simp [tot]
    | succ n =>
      rw [List.take_succ_cons, tot_cons, tot_cons, ih n (fun j hj => by simpa [lev] using h (j + 1) (by omega))]
theorem tot_cut (rs : Lv) : tot (cutL rs) = tot rs := by
  refine tot_take rs _ fun j hj => ?_
  rcases Nat.lt_or_ge j rs.length with h1 | h1
  · exact cutN_above rs rs.length j hj h1
  · exact lev_ge h1
theorem tot_lev (rs : Lv) (j : Nat) : (lev rs j).length ≤ tot rs := by have := tot_set_nil rs j; omega

/-! ### which levels may be -/
def deadE (l : List Ent) : Bool := l.any (fun e => e.dead)
def okLv (n i : Nat) (l : List Ent) : Bool := decide (chkE l = 0) && (decide (l = []) || decide (up l.length = i)) && (decide (i + 1 ≠ n) || !deadE l)
def endOk (rs : Lv) : Bool := decide (rs.length ≤ 17) && (decide (rs.length = 0) || decide (lev rs (rs.length - 1) ≠ []))
def allOk (rs : Lv) (k : Nat) : Bool := decide (∀ i, i < k → okLv rs.length i (lev rs i) = true)
theorem allOk_succ (rs : Lv) (k : Nat) : allOk rs (k + 1) = (allOk rs k && okLv rs.length k (lev rs k)) := by
  unfold allOk
  rw [Bool.eq_iff_iff]
  simp only [decide_eq_true_eq, Bool.and_eq_true]
  constructor
  · exact fun h => ⟨fun i hi => h i (by omega), h k (by omega)⟩
  · intro ⟨h1, h2⟩ i hi
    by_cases e : i = k
    · subst e; exact h2
    · exact h1 i (by omega)
def mayB (rs : Lv) : Bool := endOk rs && allOk rs rs.length && decide (tot rs ≤ 65536)
def chkR (rs : Lv) : Int := if mayB rs = true then 0 else 8
structure May (rs : Lv) : Prop where
  len : rs.length ≤ 17
  top : Top rs
  chk : ∀ j, chkE (lev rs j) = 0
  stood : Stood rs
  last : ∀ j, j + 1 = rs.length → deadE (lev rs j) = false
  size : tot rs ≤ 65536
theorem chk_nil : chkE [] = 0 := by
  have h : inL [] = [] := by unfold inL; simp [inord]
  unfold chkE; rw [h]; decide
theorem may_iff (rs : Lv) : mayB rs = true ↔ May rs := by
  unfold mayB endOk allOk okLv
  simp only [Bool.and_eq_true, Bool.or_eq_true, decide_eq_true_eq, Bool.not_eq_true']
  constructor
  · rintro ⟨⟨⟨h1, h2⟩, h3⟩, h4⟩
    refine ⟨h1, ?_, fun j => ?_, fun j => ?_, fun j hj => ?_, h4⟩
    · rcases h2 with h2 | h2
      · exact .inl (List.eq_nil_of_length_eq_zero h2)
      · exact .inr h2
    · rcases Nat.lt_or_ge j rs.length with h | h
      · exact (h3 j h).1.1
      · rw [lev_ge h]; exact chk_nil
    · rcases Nat.lt_or_ge j rs.length with h | h
      · exact (h3 j h).1.2
      · exact .inl (lev_ge h)
    · rcases (h3 j (by omega)).2 with h | h
      · exact absurd hj h
      · exact h
  · intro h
    refine ⟨⟨⟨h.len, ?_⟩, fun i hi => ⟨⟨h.chk i, h.stood i⟩, ?_⟩⟩, h.size⟩
    · rcases h.top with e | e
      · left; rw [e]; rfl
      · exact .inr e
    · by_cases e : i + 1 = rs.length
      · exact .inr (h.last i e)
      · exact .inl e
theorem chkR_zero {rs : Lv} : chkR rs = 0 ↔ May rs := by
  rw [← may_iff]
  unfold chkR
  split <;> simp_all
theorem May.chkAll {rs : Lv} (h : May rs) : chkAllE rs = 0 := chkAll_zero fun r hr => by
  obtain ⟨j, _, e⟩ := lev_of_mem hr
  rw [← e]; exact h.chk j
theorem May.mE {rs : Lv} (h : May rs) : mE rs = 0 := mE_of h.chkAll h.size
end Go.Proofs.YtolclahkfmplfaaGreatDoor
