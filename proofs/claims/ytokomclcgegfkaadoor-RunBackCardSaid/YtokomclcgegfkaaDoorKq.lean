/- Contracts of kway.Merge and kway.Two, and of the references'. -/
import Derived.Test.YtokomclcgegfkaaDoorKo
namespace Go.Proofs.YtokomclcgegfkaaDoor
open Go Go.RowKit
set_option maxRecDepth 100000

/-! ### what is merged may be built -/
theorem rises_ris {l : List Ent} (h : rises (l.map Ent.key) = true) : RisE l := by
  unfold rises at h
  have := of_decide_eq_true h
  exact List.pairwise_map.1 this
theorem ris_rises {l : List Ent} (h : RisE l) : rises (l.map Ent.key) = true := decide_eq_true (List.pairwise_map.2 h)
theorem chk_ris {l : List Ent} (h : chkE l = 0) : RisE (inL l) := rises_ris (chk_ok h).2.1
theorem inS_ris {Rs : List Rm} (h : chkAllE (Rs.map Rm.l) = 0) : ∀ r ∈ inS Rs, RisE r := by
  intro r hr
  obtain ⟨q, hq, rfl⟩ := List.mem_map.1 hr
  exact chk_ris (chkAll_ok h q.l (List.mem_map.2 ⟨q, hq, rfl⟩))
theorem all_ris {rs : List (List Ent)} (h : ∀ r ∈ rs, RisE r) : RisE (allE rs) := (fold_law rs RisE.nil h).1
theorem all_mem {rs : List (List Ent)} (h : ∀ r ∈ rs, RisE r) {e : Ent} (he : e ∈ allE rs) : ∃ r ∈ rs, e ∈ r := by
  have h1 := look_mem (all_ris h) he
  have h2 := (fold_law rs RisE.nil h).2 e.key
  have h3 : newest rs e.key = some e := by
    rw [← h1]
    have : look (allE rs) e.key = (look [] e.key).or (newest rs e.key) := h2
    rw [this]; simp [look]
  obtain ⟨a, r, hr, her, _⟩ := newest_mem h3
  exact ⟨r, List.mem_of_getElem? hr, her⟩
theorem chk_good {l : List Ent} (h : chkE l = 0) : ∀ e ∈ l, badEnt e = false := by
  have hf := (chk_ok h).1
  have h1 : ¬ l.length > 65536 := by have := (chk_ok h).2.2; omega
  have h2 : l.any badEnt = false := by
    cases hb : l.any badEnt with
    | false => rfl
    | true => unfold fairE at hf; rw [if_neg h1, hb] at hf; cases hf
  intro e he
  have := List.any_eq_false.1 h2 e he
  simpa using this
theorem mrg_build {Rs : List Rm} (bare : Bool) (h : mrgE Rs = 0) : buildE (bareE bare (allE (inS Rs))) = 0 ∧ chkAllE (Rs.map Rm.l) = 0 ∧ (allE (inS Rs)).length ≤ 65536 := by
  have hC : chkAllE (Rs.map Rm.l) = 0 := by
    unfold mrgE at h
    split at h
    · assumption
    · exact absurd h (by assumption)
  have hlen : (allE (inS Rs)).length ≤ 65536 := by
    unfold mrgE at h
    rw [if_pos hC] at h
    split at h
    · cases h
    · omega
  have hr := inS_ris hC
  have hmem : ∀ e ∈ bareE bare (allE (inS Rs)), e ∈ allE (inS Rs) := by
    intro e he
    unfold bareE at he
    split at he
    · exact (List.mem_filter.1 he).1
    · exact he
  have hle : (bareE bare (allE (inS Rs))).length ≤ 65536 := by
    unfold bareE
    split
    · have := live_le (allE (inS Rs)); omega
    · exact hlen
  have hris : RisE (bareE bare (allE (inS Rs))) := by
    unfold bareE
    split
    · exact live_ris (all_ris hr)
    · exact all_ris hr
  have hbad : (bareE bare (allE (inS Rs))).any badEnt = false := by
    rw [List.any_eq_false]
    intro e he
    obtain ⟨r, hrm, her⟩ := all_mem hr (hmem e he)
    obtain ⟨q, hq, rfl⟩ := List.mem_map.1 hrm
    have := chk_good (chkAll_ok hC q.l (List.mem_map.2 ⟨q, hq, rfl⟩)) e (inL_mem her)
    simp [this]
  refine ⟨?_, hC, hlen⟩
  unfold buildE
  rw [if_neg (by omega), hbad, ris_rises hris]
  rfl

theorem own_grow {w w' : World} {base base' s s' n n' : Nat} {e t : TypeId} {v v' : Value} {xs xs' : List Value} (hg : w.grownBy w' v.ownBlock) (ho : w.ownsRow base e s v n xs) (hb : w.ownsRow base' t s' v' n' xs') (hne : e ≠ t) : w'.ownsRow base' t s' v' n' xs' := by
  refine ⟨hb.1, ?_⟩
  rcases hb.2 with h1 | ⟨g, cap, cur, h1, h2, h3, h4⟩
  · exact .inl h1
  · refine .inr ⟨g, cap, cur, h1, h2, ?_, h4⟩
    have h5 : Blk w g t cur := h3
    refine h5.of (hg.block g h5.lt ?_)
    intro h
    rcases ho.2 with ⟨rfl, _⟩ | ⟨k, cap, cur, rfl, _, hk, _⟩
    · simp [Value.ownBlock] at h
    · simp [Value.ownBlock] at h
      subst h
      have := hk.symm.trans h3
      simp at this
      exact hne this.2

theorem ents_info : (Tryd.prog.info? 22).map (fun i => (i.zero, i.size, i.bytes)) = some (some (.slice none 0 0), 1, 24) := by kernel_rfl
theorem flat_one {α : Type} (f : α → Value) : ∀ l : List α, l.flatMap (fun x => [f x]) = l.map f
  | [] => rfl
  | x :: l => by rw [List.flatMap_cons, flat_one f l]; rfl

set_option maxHeartbeats 4000000 in
theorem merge_any (B : Option Addr) (Rs : List Rm) (c T : Nat) (bare : Bool) (w : World) (hB : RunsAt w B Rs) (hl : Rs.length ≤ 1099511627775) (hrs : ∀ r ∈ Rs, r.l.length ≤ 4611686018427387903)
    (hT : (Rs.map (fun r => r.l.length)).sum ≤ T) (hT2 : T ≤ 1099511627776) :
    Calls Tryd.prog 46 #[.slice B Rs.length c, .bool bare] w (GivesRun 29 (mrgL Rs bare) (mrgE Rs) w) := by
  obtain ⟨te0, hI1⟩ := info_parts ents_info
  obtain ⟨ti0, hI2⟩ := info_parts ent_info
  have HI1 := Lib.hid hI1
  have HI2 := Lib.hid hI2
  clear hI1 hI2
  obtain ⟨W0, hW0⟩ : ∃ W0, w.alloc (.cells #[.slice none 0 0] 24) = W0 := ⟨_, rfl⟩
  have hb0 : Below w.heap.size w W0 := by rw [← hW0]; exact (Below.refl _ _).alloc (Nat.le_refl _) _
  have hr0 : Blk W0 w.heap.size 24 #[.slice none 0 0] := by rw [← hW0]; exact Blk.new _ _ _
  have hs0 : W0.heap.size = w.heap.size + 1 := by rw [← hW0]; simp
  go_enter Tryd.func46, Tryd.ntmps46
  go_wp2
  try rw [hW0]
  clear hW0
  go_loopw [6, 17] (fun v i wr => ∃ (k : Nat) (Ss : List Rm) (A' : Option Addr) (c' : Nat), k ≤ Rs.length ∧ i = .int .i64 k ∧ Below W0.heap.size W0 wr ∧ v = .slice A' k c' ∧ Hid (Ss.length = k) ∧
      wr.ownsRow W0.heap.size 22 1 (.slice A' k c') k (Ss.map Rm.v) ∧ (∀ s ∈ Ss, wr.ownsRow W0.heap.size 29 3 s.v s.l.length (s.l.flatMap Ent.cells)) ∧
      Hid (Ss.map Rm.l = (inS Rs).take k) ∧ Hid (chkAllE ((Rs.map Rm.l).drop k) = chkAllE (Rs.map Rm.l))) (fun _ i _ => Rs.length - (intOf i).toNat)
  case atStart => exact ⟨0, [], none, 0, Nat.zero_le _, rfl, Below.refl _ _, rfl, rfl, World.ownsRow_nil _ _ _ _, by simp, rfl, rfl⟩
  case round =>
    obtain ⟨k, Ss, A', c', hk, rfl, hb, rfl, hSk, hown, hS, hin, hd⟩ := hrel
    have hbw : Below w.heap.size w wr := bext hb0 hb
    by_cases hlt : k < Rs.length
    · obtain ⟨b, off, rfl, hbl, cp⟩ := hB.sl.oneB hbw k hlt
      have hok := (hB.ok _ (List.getElem_mem hlt)).below hbw
      have hs := chkAll_drop (rs := Rs.map Rm.l) (k := k) (by simpa using hlt)
      rw [List.getElem_map] at hs
      have hrl := hrs _ (List.getElem_mem hlt)
      have hin2 : (inS Rs).take (k + 1) = (inS Rs).take k ++ [inL (Rs[k]'hlt).l] := by
        rw [List.take_succ_eq_append_getElem (by unfold inS; simpa using hlt)]; simp [inS]
      obtain ⟨r, hr⟩ : ∃ r, Rs[k]'hlt = r := ⟨_, rfl⟩
      rw [hr] at cp hok hs hrl hin2
      obtain ⟨l, A, cl⟩ := r
      have cp1 : wr.cell? ⟨b, off + k, none⟩ = some (.slice A l.length cl) := cp
      dsimp only at hs hrl hin2
      have hki : (0 : Int) ≤ (k : Int) := by omega
      have hki2 : (k : Int) < (Rs.length : Int) := by omega
      obtain ⟨E, hE⟩ : ∃ E, chkE l = E := ⟨_, rfl⟩
      rw [hE] at hs
      have HE := Lib.hid hE
      have HS := Lib.hid hs
      have HOK := Lib.hid hok.sl
      have HIN := Lib.hid hin2
      have HOW := Lib.hid hown
      have HSS := Lib.hid hS
      clear cp hr hE hs hok hin2 hown hS
      have hbX : Below wr.heap.size wr (wr.alloc (.cells #[.slice A l.length cl] 24)) := (Below.refl _ _).alloc (Nat.le_refl _) _
      have hbs := hb.size
      by_cases h0 : E = 0
      · subst h0
        have hsl : sortL l = inL l := by unfold sortL; rw [if_pos HE.out]
        have HSL := Lib.hid hsl
        have hll : l.length ≤ 65536 := (chk_ok HE.out).2.2
        have HIL := Lib.hid (inL_length l)
        clear hsl
        go_wp2_with fail
        refine (sortedE_any A l cl _ (HOK.out.below hbX) hrl).mono ?_
        rw [HSL.out, HE.out]
        rintro e w1 ⟨A1, c1, rfl, ho1, hb1⟩
        have hb2 : Below wr.heap.size wr w1 := bext hbX hb1
        have HO1 := Lib.hid (own_mono (B' := W0.heap.size) ho1 (by simp; omega))
        have HOW1 := Lib.hid (own_below HOW.out hb2)
        have hs1 := hb2.size
        clear ho1 hb1
        go_wp2_with (at_builtin; refine wpList_append_sl _ rfl (.tmp 30) (.tmp 32) _ rfl W0.heap.size 22 te0 _ 1 24 Tryd.underlying103 HI1.out.1 HI1.out.2.1 HI1.out.2.2.1 HI1.out.2.2.2 rfl (by omega) (.slice A' k c') k _ rfl (HOW1.out.alloc _) _ 1 _ [.slice A1 (inL l).length c1] rfl (by exact sl_new1 _ _ _) rfl (by simp [Value.oneCell']) (by unfold maxLen; omega) (by omega) (by simp; omega) ?_; intro v2 w2 hown2 hg2; obtain ⟨A2, q2, rfl, hle2, hmx2⟩ := own_form hown2; have HO2 := Lib.hid hown2; clear hown2)
        go_roundw
        case rel =>
          refine ⟨k + 1, Ss ++ [⟨inL l, A1, c1⟩], A2, q2, by omega, by go_num, ?_, rfl, ?_, ?_, ?_, ?_, ?_⟩
          · exact ((bext hb hb2).alloc (by omega) _).grown hg2 (by simp; omega) (fun q hq => (HOW1.out.lt q hq).1)
          · show _ = _
            rw [List.length_append, hSk.out]; rfl
          · rw [List.map_append]; exact HO2.out
          · intro s hs
            refine own_grow hg2 (HOW1.out.alloc _) ?_ (by decide)
            rcases List.mem_append.1 hs with hs | hs
            · exact (own_below (HSS.out s hs) hb2).alloc _
            · obtain rfl : s = ⟨inL l, A1, c1⟩ := by simpa using hs
              exact HO1.out.alloc _
          · show _ = _
            rw [List.map_append, hin.out, HIN.out]; rfl
          · show _ = _
            rw [← hd.out, HS.out]; simp
        case measure => simp [intOf]; omega
      · have h1 : (E != 0) = true := by simpa using h0
        have hsl : sortL l = [] := by unfold sortL; rw [if_neg (by rw [HE.out]; exact h0)]
        have HSL := Lib.hid hsl
        have hE2 : chkAllE (Rs.map Rm.l) = E := by rw [← hd.out, HS.out, if_neg h0]
        have hE3 : mrgE Rs = E := by unfold mrgE; rw [hE2, if_neg h0]
        have hL3 : mrgL Rs bare = [] := by unfold mrgL; rw [hE3, if_neg h0]
        have HE3 := Lib.hid hE3
        have HL3 := Lib.hid hL3
        have hrw := hr0.below hb hr0.lt
        have HRW := Lib.hid hrw
        have hrl2 := hrw.lt
        clear hsl h0 hE2 hE3 hL3 hrw
        go_wp2_with fail
        refine (sortedE_any A l cl _ (HOK.out.below hbX) hrl).mono ?_
        rw [HSL.out, HE.out]
        rintro e w1 ⟨A1, c1, rfl, ho1, hb1⟩
        have hb2 : Below wr.heap.size wr w1 := bext hbX hb1
        have hrw1 := HRW.out.below hb2 hrl2
        have hc1 : w1.cell? ⟨w.heap.size, 0, none⟩ = some (.slice none 0 0) := hrw1.cell 0
        have hf1 : w1.frozen? ⟨w.heap.size, 0, none⟩ = false := hrw1.frozen 0
        clear ho1 hb1 hrw1
        go_wp2
        refine bodyPost_ret (v := .tuple #[.agg #[.slice none 0 0], .int .i64 E]) (by simp [results, Tryd.results46, go_sem, hc1]) rfl ?_
        rw [HE3.out]
        exact gives_none ((bext hbw hb2).setCell (p := ⟨w.heap.size, 0, none⟩) (Nat.le_refl _) _) HL3.out
    · have hkn : k = Rs.length := by omega
      have hC : chkAllE (Rs.map Rm.l) = 0 := by rw [← hd.out, List.drop_eq_nil_of_le (by simp; omega)]; rfl
      have hinS : Ss.map Rm.l = inS Rs := by rw [hin.out, List.take_of_length_le (by unfold inS; simp; omega)]
      have hSok : ∀ s ∈ Ss, s.Ok wr := by
        intro s hs
        have h1 := hS s hs
        obtain ⟨A3, c3, h3, h4, h5⟩ := own_form h1
        obtain ⟨ls, As, cs⟩ := s
        have h6 : As = A3 ∧ cs = c3 := by simpa [Rm.v] using h3
        obtain ⟨rfl, rfl⟩ := h6
        exact ⟨own_sl h1, h4, h5⟩
      have hSsum : (Ss.map (fun r => r.l.length)).sum ≤ T := by
        have : Ss.map (fun r => r.l.length) = (inS Rs).map List.length := by rw [← hinS, List.map_map]; rfl
        rw [this, inS_sum]; exact hT
      have hSris : ∀ s ∈ Ss, RisE s.l := fun s hs => inS_ris hC _ (hinS ▸ List.mem_map.2 ⟨s, hs, rfl⟩)
      have hSl := own_sl hown
      have HSL := Lib.hid hSl
      have HSO := Lib.hid hSok
      have HSS := Lib.hid hSsum
      have HSR := Lib.hid hSris
      have HC := Lib.hid hC
      have HIN := Lib.hid hinS
      have hrw := hr0.below hb hr0.lt
      have HRW := Lib.hid hrw
      have hrl2 := hrw.lt
      have hSn : Ss.length = k := hSk.out
      have HSN := Lib.hid hSn
      have HKN := Lib.hid hkn
      clear hC hinS hSok hSsum hSris hSl hown hS hrw hSn hkn
      have hmg := merged_any wr A' Ss c' T HSL.out HSO.out HSR.out (by have := HSN.out; omega) HSS.out hT2
      rw [HSN.out, HIN.out] at hmg
      obtain ⟨O, hO⟩ : ∃ O, allE (inS Rs) = O := ⟨_, rfl⟩
      rw [hO] at hmg
      have hOT : O.length ≤ T := by
        rw [← hO]
        have h1 := fold_len (inS Rs) []
        rw [inS_sum] at h1
        unfold allE
        simp at h1
        omega
      have HO := Lib.hid hO
      have HMG := Lib.hid hmg
      have HEq : Hid (mrgE Rs = if O.length > 65536 then 4 else 0) := by
        show _ = _
        unfold mrgE
        rw [if_pos HC.out, hO]
      have HLq : Hid (mrgE Rs = 0 → mrgL Rs bare = laid (bareE bare O)) := by
        show _ → _
        intro h
        unfold mrgL
        rw [if_pos h, hO]
      clear hmg hO
      by_cases hbig : O.length > 65536
      · have hE3 : mrgE Rs = 4 := by rw [HEq.out, if_pos hbig]
        have hL3 : mrgL Rs bare = [] := by unfold mrgL; rw [hE3]; rfl
        have HE3 := Lib.hid hE3
        have HL3 := Lib.hid hL3
        clear hE3 hL3
        go_wp2_with fail
        refine HMG.out.mono ?_
        rintro e w1 ⟨A1, c1, rfl, ho1, hb1⟩
        have hrw1 := HRW.out.below hb1 hrl2
        have hc1 : w1.cell? ⟨w.heap.size, 0, none⟩ = some (.slice none 0 0) := hrw1.cell 0
        have hf1 : w1.frozen? ⟨w.heap.size, 0, none⟩ = false := hrw1.frozen 0
        clear ho1 hrw1
        go_wp2
        refine bodyPost_ret (v := .tuple #[.agg #[.slice none 0 0], .int .i64 4]) (by simp [results, Tryd.results46, go_sem, hc1]) rfl ?_
        rw [HE3.out]
        exact gives_none ((bext hbw hb1).setCell (p := ⟨w.heap.size, 0, none⟩) (Nat.le_refl _) _) HL3.out
      · have hE3 : mrgE Rs = 0 := by rw [HEq.out, if_neg hbig]
        have hL3 : mrgL Rs bare = laid (bareE bare O) := HLq.out hE3
        have hbe : buildE (bareE bare O) = 0 := by have := (mrg_build bare hE3).1; rwa [HO.out] at this
        have hbl : buildL (bareE bare O) = laid (bareE bare O) := by unfold buildL; rw [if_pos hbe]
        have HE3 := Lib.hid hE3
        have HL3 := Lib.hid hL3
        have HBE := Lib.hid hbe
        have HBL := Lib.hid hbl
        have hol : O.length ≤ 65536 := by omega
        clear hE3 hL3 hbe hbl
        cases bare with
        | false =>
          go_wp2_with fail
          refine HMG.out.mono ?_
          rintro e w1 ⟨A1, c1, rfl, ho1, hb1⟩
          have hs1 := own_sl ho1
          have HW1 := Lib.hid (HRW.out.below hb1 hrl2)
          clear ho1
          go_wp2_with fail
          refine (build_any A1 O c1 _ hs1 (by omega)).mono ?_
          rw [show O = bareE false O from rfl, HBE.out, HBL.out]
          rintro e w2 ⟨A2, c2, rfl, ho2, hb2⟩
          have hrw1 := HW1.out.below hb2 HW1.out.lt
          have hc1 : w2.cell? ⟨w.heap.size, 0, none⟩ = some (.slice none 0 0) := hrw1.cell 0
          have hf1 : w2.frozen? ⟨w.heap.size, 0, none⟩ = false := hrw1.frozen 0
          have HO2 := Lib.hid ho2
          have hlw : w.heap.size < w1.heap.size := HW1.out.lt
          clear ho2 hrw1
          go_wp2
          refine bodyPost_ret (v := .tuple #[.agg #[.slice A2 (laid (bareE false O)).length c2], .int .i64 0]) (by simp [results, Tryd.results46, go_sem, hc1]) rfl ?_
          rw [HE3.out, HL3.out]
          refine ⟨A2, c2, rfl, own_far (own_mono HO2.out (by omega)) ?_ _, (bext hbw (bext hb1 hb2)).setCell (p := ⟨w.heap.size, 0, none⟩) (Nat.le_refl _) _⟩
          intro e
          have := (HO2.out.lt _ e).1
          dsimp only at this
          omega
        | true =>
          go_wp2_with fail
          refine HMG.out.mono ?_
          rintro e w1 ⟨A1, c1, rfl, ho1, hb1⟩
          have HS1 := Lib.hid (own_sl ho1)
          have HW1 := Lib.hid (HRW.out.below hb1 hrl2)
          clear ho1
          go_wp2
          go_loopw [12, 44] (fun v i wr2 => ∃ (j : Nat) (o : List Ent) (A3 : Option Addr) (c3 : Nat), j ≤ O.length ∧ i = .int .i64 j ∧ Below w1.heap.size w1 wr2 ∧ v = .slice A3 o.length c3 ∧
            wr2.ownsRow w1.heap.size 29 3 (.slice A3 o.length c3) o.length (o.flatMap Ent.cells) ∧ Hid (o = liveE (O.take j))) (fun _ i _ => O.length - (intOf i).toNat)
          case atStart => exact ⟨0, [], none, 0, Nat.zero_le _, rfl, Below.refl _ _, rfl, World.ownsRow_nil _ _ _ _, rfl⟩
          case round =>
            obtain ⟨j, o, A3, c3, hj, rfl, hb3, rfl, hown3, ho3⟩ := hrel
            have hbs3 := hb3.size
            by_cases hlt2 : j < O.length
            · obtain ⟨b, off, rfl, hbl, e1, e2, e3⟩ := HS1.out.entB hb3 j hlt2
              have hol3 : o.length ≤ j := by rw [ho3.out]; have := live_le (O.take j); simp at this; omega
              have hki : (0 : Int) ≤ (j : Int) := by omega
              have hki2 : (j : Int) < (O.length : Int) := by omega
              have hs := live_succ hlt2
              obtain ⟨x, hx⟩ : ∃ x, O[j]'hlt2 = x := ⟨_, rfl⟩
              rw [hx] at e1 e2 e3 hs
              have HOW3 := Lib.hid hown3
              cases hd2 : x.dead
              · rw [hd2] at hs e3
                obtain ⟨wa, hwa⟩ : ∃ wa, wr.alloc (.cells #[.int .i64 x.key, .int .i64 x.val, .bool false] 29) = wa := ⟨_, rfl⟩
                have hba : Below wr.heap.size wr wa := by rw [← hwa]; exact (Below.refl _ _).alloc (Nat.le_refl _) _
                have bxa : Blk wa wr.heap.size 29 #[.int .i64 x.key, .int .i64 x.val, .bool false] := by rw [← hwa]; exact Blk.new _ _ _
                have x0 : wa.cell? ⟨wr.heap.size, 0, none⟩ = some (.int .i64 x.key) := bxa.cell 0
                have x1 : wa.cell? ⟨wr.heap.size, 1, none⟩ = some (.int .i64 x.val) := bxa.cell 1
                have x2 : wa.cell? ⟨wr.heap.size, 2, none⟩ = some (.bool false) := bxa.cell 2
                have hsa := hba.size
                have HD := Lib.hid hd2
                have HWA := Lib.hid hwa
                clear bxa hd2 hwa
                have hnew : Hid (o ++ [x] = liveE (O.take (j + 1))) := by
                  show _ = _
                  rw [ho3.out, hs]; simp
                have HOA := Lib.hid (own_below HOW3.out hba)
                clear hs hx
                go_upto_region 18 with fail
                rw [HWA.out]
                clear HWA
                go_wp2_with (at_builtin; refine wpList_append_sl _ rfl (.tmp 51) (.tmp 53) _ rfl w1.heap.size 29 ti0 _ 3 24 Tryd.underlying22 HI2.out.1 HI2.out.2.1 HI2.out.2.2.1 HI2.out.2.2.2 rfl (by omega) (.slice A3 o.length c3) o.length _ rfl (HOA.out.alloc _) _ 1 _ [.int .i64 x.key, .int .i64 x.val, .bool false] rfl (by exact sl_new1 _ _ _) rfl (by simp [Value.oneCell']) (by unfold maxLen; omega) (by omega) (by simp; omega) ?_; intro v2 w2 hown2 hg2; obtain ⟨A4, q4, rfl, hle4, hmx4⟩ := own_form hown2; have HO2 := Lib.hid hown2; clear hown2)
                go_roundw
                case rel =>
                  refine ⟨j + 1, o ++ [x], A4, q4, by omega, by go_num, ((bext hb3 hba).alloc (by omega) _).grown hg2 (by simp; omega) (fun q hq => (HOA.out.lt q hq).1), by simp, ?_, hnew⟩
                  rw [List.flatMap_append, List.length_append]
                  simpa [Ent.cells, HD.out] using HO2.out
                case measure => simp [intOf]; omega
              · rw [hd2] at hs e3
                obtain ⟨wa, hwa⟩ : ∃ wa, wr.alloc (.cells #[.int .i64 x.key, .int .i64 x.val, .bool true] 29) = wa := ⟨_, rfl⟩
                have hba : Below wr.heap.size wr wa := by rw [← hwa]; exact (Below.refl _ _).alloc (Nat.le_refl _) _
                have bxa : Blk wa wr.heap.size 29 #[.int .i64 x.key, .int .i64 x.val, .bool true] := by rw [← hwa]; exact Blk.new _ _ _
                have x0 : wa.cell? ⟨wr.heap.size, 0, none⟩ = some (.int .i64 x.key) := bxa.cell 0
                have x1 : wa.cell? ⟨wr.heap.size, 1, none⟩ = some (.int .i64 x.val) := bxa.cell 1
                have x2 : wa.cell? ⟨wr.heap.size, 2, none⟩ = some (.bool true) := bxa.cell 2
                have hsa := hba.size
                have HD := Lib.hid hd2
                have HWA := Lib.hid hwa
                clear bxa hd2 hwa
                have hnew : Hid (o = liveE (O.take (j + 1))) := by
                  show _ = _
                  rw [ho3.out, hs]; simp
                clear hs hx
                go_upto_region 18 with fail
                rw [HWA.out]
                clear HWA
                go_wp2_with fail
                go_roundw
                case rel => exact ⟨j + 1, o, A3, c3, by omega, by go_num, bext hb3 hba, rfl, own_below HOW3.out hba, hnew⟩
                case measure => simp [intOf]; omega
            · have hjn : j = O.length := by omega
              have ho4 : o = bareE true O := by rw [ho3.out, hjn, List.take_of_length_le (Nat.le_refl _)]; rfl
              have hs3 := own_sl hown3
              have hol4 : o.length ≤ 65536 := by rw [ho4]; have := live_le O; unfold bareE; simp; omega
              have HO4 := Lib.hid ho4
              have HW3 := Lib.hid (HW1.out.below hb3 HW1.out.lt)
              have hlw : w.heap.size < w1.heap.size := HW1.out.lt
              clear hjn ho4 hown3
              go_wp2_with fail
              refine (build_any A3 o c3 _ hs3 (by omega)).mono ?_
              rw [HO4.out, HBE.out, HBL.out]
              rintro e w2 ⟨A2, c2, rfl, ho2, hb2⟩
              have hrw1 := HW3.out.below hb2 HW3.out.lt
              have hc1 : w2.cell? ⟨w.heap.size, 0, none⟩ = some (.slice none 0 0) := hrw1.cell 0
              have hf1 : w2.frozen? ⟨w.heap.size, 0, none⟩ = false := hrw1.frozen 0
              have HO2 := Lib.hid ho2
              clear ho2 hrw1
              go_wp2
              refine bodyPost_ret (v := .tuple #[.agg #[.slice A2 (laid (bareE true O)).length c2], .int .i64 0]) (by simp [results, Tryd.results46, go_sem, hc1]) rfl ?_
              rw [HE3.out, HL3.out]
              refine ⟨A2, c2, rfl, own_far (own_mono HO2.out (by omega)) ?_ _, (bext hbw (bext hb1 (bext hb3 hb2))).setCell (p := ⟨w.heap.size, 0, none⟩) (Nat.le_refl _) _⟩
              intro e
              have := (HO2.out.lt _ e).1
              dsimp only at this
              omega
end Go.Proofs.YtokomclcgegfkaaDoor
