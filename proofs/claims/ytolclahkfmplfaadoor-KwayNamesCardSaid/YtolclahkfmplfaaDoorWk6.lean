/- Kq Tw Kr Kt Kh Ky Gp: texts of the claim, in this order. -/
import Derived.Test.YtolclahkfmplfaaDoorWk5
import Derived.Test.YtolclahkfmplfaaDoorWk3
/- Contracts of kway.Merge and kway.Two, and of the references'. -/
namespace Go.Proofs.YtolclahkfmplfaaDoor
open Go Go.RowKit
set_option maxRecDepth 100000

/-! ### what is merged may be built -/
theorem rises_ris {l : List Ent} (h : rises (l.map Ent.key) = true) : RisE l := by
  unfold rises at h
  have := of_decide_eq_true h
  exact List.pairwise_map.1 this
theorem ris_rises {l : List Ent} (h : RisE l) : rises (l.map Ent.key) = true := decide_eq_true (List.pairwise_map.2 h)
theorem chk_ris {l : List Ent} (h : chkE l = 0) : RisE (inL l) := rises_ris (chk_ok h).2.1
theorem inS_ris {Rs : List Rm} (h : chkAllE (Rs.map Rm.l) = 0) : ∀ r ∈ inS Rs, RisE r := by
  intro r hr
  obtain ⟨q, hq, rfl⟩ := List.mem_map.1 hr
  exact chk_ris (chkAll_ok h q.l (List.mem_map.2 ⟨q, hq, rfl⟩))
theorem all_ris {rs : List (List Ent)} (h : ∀ r ∈ rs, RisE r) : RisE (allE rs) := (fold_law rs RisE.nil h).1
theorem all_mem {rs : List (List Ent)} (h : ∀ r ∈ rs, RisE r) {e : Ent} (he : e ∈ allE rs) : ∃ r ∈ rs, e ∈ r := by
  have h1 := look_mem (all_ris h) he
  have h2 := (fold_law rs RisE.nil h).2 e.key
  have h3 : newest rs e.key = some e := by
    rw [← h1]
    have : look (allE rs) e.key = (look [] e.key).or (newest rs e.key) := h2
    rw [this]; simp [look]
  obtain ⟨a, r, hr, her, _⟩ := newest_mem h3
  exact ⟨r, List.mem_of_getElem? hr, her⟩
theorem chk_good {l : List Ent} (h : chkE l = 0) : ∀ e ∈ l, badEnt e = false := by
  have hf := (chk_ok h).1
  have h1 : ¬ l.length > 65536 := by have := (chk_ok h).2.2; omega
  have h2 : l.any badEnt = false := by
    cases hb : l.any badEnt with
    | false => rfl
    | true => unfold fairE at hf; rw [if_neg h1, hb] at hf; cases hf
  intro e he
  have := List.any_eq_false.1 h2 e he
  simpa using this
theorem mrg_build {Rs : List Rm} (bare : Bool) (h : mrgE Rs = 0) : buildE (bareE bare (allE (inS Rs))) = 0 ∧ chkAllE (Rs.map Rm.l) = 0 ∧ (allE (inS Rs)).length ≤ 65536 := by
  have hC : chkAllE (Rs.map Rm.l) = 0 := by
    unfold mrgE at h
    split at h
    · assumption
    · exact absurd h (by assumption)
  have hlen : (allE (inS Rs)).length ≤ 65536 := by
    unfold mrgE at h
    rw [if_pos hC] at h
    split at h
    · cases h
    · omega
  have hr := inS_ris hC
  have hmem : ∀ e ∈ bareE bare (allE (inS Rs)), e ∈ allE (inS Rs) := by
    intro e he
    unfold bareE at he
    split at he
    · exact (List.mem_filter.1 he).1
    · exact he
  have hle : (bareE bare (allE (inS Rs))).length ≤ 65536 := by
    unfold bareE
    split
    · have := live_le (allE (inS Rs)); omega
    · exact hlen
  have hris : RisE (bareE bare (allE (inS Rs))) := by
    unfold bareE
    split
    · exact live_ris (all_ris hr)
    · exact all_ris hr
  have hbad : (bareE bare (allE (inS Rs))).any badEnt = false := by
    rw [List.any_eq_false]
    intro e he
    obtain ⟨r, hrm, her⟩ := all_mem hr (hmem e he)
    obtain ⟨q, hq, rfl⟩ := List.mem_map.1 hrm
    have := chk_good (chkAll_ok hC q.l (List.mem_map.2 ⟨q, hq, rfl⟩)) e (inL_mem her)
    simp [this]
  refine ⟨?_, hC, hlen⟩
  unfold buildE
  rw [if_neg (by omega), hbad, ris_rises hris]
  rfl

theorem own_grow {w w' : World} {base base' s s' n n' : Nat} {e t : TypeId} {v v' : Value} {xs xs' : List Value} (hg : w.grownBy w' v.ownBlock) (ho : w.ownsRow base e s v n xs) (hb : w.ownsRow base' t s' v' n' xs') (hne : e ≠ t) : w'.ownsRow base' t s' v' n' xs' := by
  refine ⟨hb.1, ?_⟩
  rcases hb.2 with h1 | ⟨g, cap, cur, h1, h2, h3, h4⟩
  · exact .inl h1
  · refine .inr ⟨g, cap, cur, h1, h2, ?_, h4⟩
    have h5 : Blk w g t cur := h3
    refine h5.of (hg.block g h5.lt ?_)
    intro h
    rcases ho.2 with ⟨rfl, _⟩ | ⟨k, cap, cur, rfl, _, hk, _⟩
    · simp [Value.ownBlock] at h
    · simp [Value.ownBlock] at h
      subst h
      have := hk.symm.trans h3
      simp at this
      exact hne this.2

theorem ents_info : (Tryd.prog.info? 22).map (fun i => (i.zero, i.size, i.bytes)) = some (some (.slice none 0 0), 1, 24) := by kernel_rfl
theorem flat_one {α : Type} (f : α → Value) : ∀ l : List α, l.flatMap (fun x => [f x]) = l.map f
  | [] => rfl
  | x :: l => by rw [List.flatMap_cons, flat_one f l]; rfl

set_option maxHeartbeats 4000000 in
theorem merge_any (B : Option Addr) (Rs : List Rm) (c T : Nat) (bare : Bool) (w : World) (hB : RunsAt w B Rs) (hl : Rs.length ≤ 1099511627775) (hrs : ∀ r ∈ Rs, r.l.length ≤ 4611686018427387903)
    (hT : (Rs.map (fun r => r.l.length)).sum ≤ T) (hT2 : T ≤ 1099511627776) :
    Calls Tryd.prog 4 #[.slice B Rs.length c, .bool bare] w (GivesRun 29 (mrgL Rs bare) (mrgE Rs) w) := by
  obtain ⟨te0, hI1⟩ := info_parts ents_info
  obtain ⟨ti0, hI2⟩ := info_parts ent_info
  have HI1 := Lib.hid hI1
  have HI2 := Lib.hid hI2
  clear hI1 hI2
  obtain ⟨W0, hW0⟩ : ∃ W0, w.alloc (.cells #[.slice none 0 0] 24) = W0 := ⟨_, rfl⟩
  have hb0 : Below w.heap.size w W0 := by rw [← hW0]; exact (Below.refl _ _).alloc (Nat.le_refl _) _
  have hr0 : Blk W0 w.heap.size 24 #[.slice none 0 0] := by rw [← hW0]; exact Blk.new _ _ _
  have hs0 : W0.heap.size = w.heap.size + 1 := by rw [← hW0]; simp
  go_enter Tryd.func4, Tryd.ntmps4
  go_wp2
  try rw [hW0]
  clear hW0
  go_loopw [6, 17] (fun v i wr => ∃ (k : Nat) (Ss : List Rm) (A' : Option Addr) (c' : Nat), k ≤ Rs.length ∧ i = .int .i64 k ∧ Below W0.heap.size W0 wr ∧ v = .slice A' k c' ∧ Hid (Ss.length = k) ∧
      wr.ownsRow W0.heap.size 22 1 (.slice A' k c') k (Ss.map Rm.v) ∧ (∀ s ∈ Ss, wr.ownsRow W0.heap.size 29 3 s.v s.l.length (s.l.flatMap Ent.cells)) ∧
      Hid (Ss.map Rm.l = (inS Rs).take k) ∧ Hid (chkAllE ((Rs.map Rm.l).drop k) = chkAllE (Rs.map Rm.l))) (fun _ i _ => Rs.length - (intOf i).toNat)
  case atStart => exact ⟨0, [], none, 0, Nat.zero_le _, rfl, Below.refl _ _, rfl, rfl, World.ownsRow_nil _ _ _ _, by simp, rfl, rfl⟩
  case round =>
    obtain ⟨k, Ss, A', c', hk, rfl, hb, rfl, hSk, hown, hS, hin, hd⟩ := hrel
    have hbw : Below w.heap.size w wr := bext hb0 hb
    by_cases hlt : k < Rs.length
    · obtain ⟨b, off, rfl, hbl, cp⟩ := hB.sl.oneB hbw k hlt
      have hok := (hB.ok _ (List.getElem_mem hlt)).below hbw
      have hs := chkAll_drop (rs := Rs.map Rm.l) (k := k) (by simpa using hlt)
      rw [List.getElem_map] at hs
      have hrl := hrs _ (List.getElem_mem hlt)
      have hin2 : (inS Rs).take (k + 1) = (inS Rs).take k ++ [inL (Rs[k]'hlt).l] := by
        rw [List.take_succ_eq_append_getElem (by unfold inS; simpa using hlt)]; simp [inS]
      obtain ⟨r, hr⟩ : ∃ r, Rs[k]'hlt = r := ⟨_, rfl⟩
      rw [hr] at cp hok hs hrl hin2
      obtain ⟨l, A, cl⟩ := r
      have cp1 : wr.cell? ⟨b, off + k, none⟩ = some (.slice A l.length cl) := cp
      dsimp only at hs hrl hin2
      have hki : (0 : Int) ≤ (k : Int) := by omega
      have hki2 : (k : Int) < (Rs.length : Int) := by omega
      obtain ⟨E, hE⟩ : ∃ E, chkE l = E := ⟨_, rfl⟩
      rw [hE] at hs
      have HE := Lib.hid hE
      have HS := Lib.hid hs
      have HOK := Lib.hid hok.sl
      have HIN := Lib.hid hin2
      have HOW := Lib.hid hown
      have HSS := Lib.hid hS
      clear cp hr hE hs hok hin2 hown hS
      have hbX : Below wr.heap.size wr (wr.alloc (.cells #[.slice A l.length cl] 24)) := (Below.refl _ _).alloc (Nat.le_refl _) _
      have hbs := hb.size
      by_cases h0 : E = 0
      · subst h0
        have hsl : sortL l = inL l := by unfold sortL; rw [if_pos HE.out]
        have HSL := Lib.hid hsl
        have hll : l.length ≤ 65536 := (chk_ok HE.out).2.2
        have HIL := Lib.hid (inL_length l)
        clear hsl
        go_wp2_with fail
        refine (sortedE_any A l cl _ (HOK.out.below hbX) hrl).mono ?_
        rw [HSL.out, HE.out]
        rintro e w1 ⟨A1, c1, rfl, ho1, hb1⟩
        have hb2 : Below wr.heap.size wr w1 := bext hbX hb1
        have HO1 := Lib.hid (own_mono (B' := W0.heap.size) ho1 (by simp; omega))
        have HOW1 := Lib.hid (own_below HOW.out hb2)
        have hs1 := hb2.size
        clear ho1 hb1
        go_wp2_with (at_builtin; refine wpList_append_sl _ rfl (.tmp 30) (.tmp 32) _ rfl W0.heap.size 22 te0 _ 1 24 Tryd.underlying37 HI1.out.1 HI1.out.2.1 HI1.out.2.2.1 HI1.out.2.2.2 rfl (by omega) (.slice A' k c') k _ rfl (HOW1.out.alloc _) _ 1 _ [.slice A1 (inL l).length c1] rfl (by exact sl_new1 _ _ _) rfl (by simp [Value.oneCell']) (by unfold maxLen; omega) (by omega) (by simp; omega) ?_; intro v2 w2 hown2 hg2; obtain ⟨A2, q2, rfl, hle2, hmx2⟩ := own_form hown2; have HO2 := Lib.hid hown2; clear hown2)
        go_roundw
        case rel =>
          refine ⟨k + 1, Ss ++ [⟨inL l, A1, c1⟩], A2, q2, by omega, by go_num, ?_, rfl, ?_, ?_, ?_, ?_, ?_⟩
          · exact ((bext hb hb2).alloc (by omega) _).grown hg2 (by simp; omega) (fun q hq => (HOW1.out.lt q hq).1)
          · show _ = _
            rw [List.length_append, hSk.out]; rfl
          · rw [List.map_append]; exact HO2.out
          · intro s hs
            refine own_grow hg2 (HOW1.out.alloc _) ?_ (by decide)
            rcases List.mem_append.1 hs with hs | hs
            · exact (own_below (HSS.out s hs) hb2).alloc _
            · obtain rfl : s = ⟨inL l, A1, c1⟩ := by simpa using hs
              exact HO1.out.alloc _
          · show _ = _
            rw [List.map_append, hin.out, HIN.out]; rfl
          · show _ = _
            rw [← hd.out, HS.out]; simp
        case measure => simp [intOf]; omega
      · have h1 : (E != 0) = true := by simpa using h0
        have hsl : sortL l = [] := by unfold sortL; rw [if_neg (by rw [HE.out]; exact h0)]
        have HSL := Lib.hid hsl
        have hE2 : chkAllE (Rs.map Rm.l) = E := by rw [← hd.out, HS.out, if_neg h0]
        have hE3 : mrgE Rs = E := by unfold mrgE; rw [hE2, if_neg h0]
        have hL3 : mrgL Rs bare = [] := by unfold mrgL; rw [hE3, if_neg h0]
        have HE3 := Lib.hid hE3
        have HL3 := Lib.hid hL3
        have hrw := hr0.below hb hr0.lt
        have HRW := Lib.hid hrw
        have hrl2 := hrw.lt
        clear hsl h0 hE2 hE3 hL3 hrw
        go_wp2_with fail
        refine (sortedE_any A l cl _ (HOK.out.below hbX) hrl).mono ?_
        rw [HSL.out, HE.out]
        rintro e w1 ⟨A1, c1, rfl, ho1, hb1⟩
        have hb2 : Below wr.heap.size wr w1 := bext hbX hb1
        have hrw1 := HRW.out.below hb2 hrl2
        have hc1 : w1.cell? ⟨w.heap.size, 0, none⟩ = some (.slice none 0 0) := hrw1.cell 0
        have hf1 : w1.frozen? ⟨w.heap.size, 0, none⟩ = false := hrw1.frozen 0
        clear ho1 hb1 hrw1
        go_wp2
        refine bodyPost_ret (v := .tuple #[.agg #[.slice none 0 0], .int .i64 E]) (by simp [results, Tryd.results4, go_sem, hc1]) rfl ?_
        rw [HE3.out]
        exact gives_none ((bext hbw hb2).setCell (p := ⟨w.heap.size, 0, none⟩) (Nat.le_refl _) _) HL3.out
    · have hkn : k = Rs.length := by omega
      have hC : chkAllE (Rs.map Rm.l) = 0 := by rw [← hd.out, List.drop_eq_nil_of_le (by simp; omega)]; rfl
      have hinS : Ss.map Rm.l = inS Rs := by rw [hin.out, List.take_of_length_le (by unfold inS; simp; omega)]
      have hSok : ∀ s ∈ Ss, s.Ok wr := by
        intro s hs
        have h1 := hS s hs
        obtain ⟨A3, c3, h3, h4, h5⟩ := own_form h1
        obtain ⟨ls, As, cs⟩ := s
        have h6 : As = A3 ∧ cs = c3 := by simpa [Rm.v] using h3
        obtain ⟨rfl, rfl⟩ := h6
        exact ⟨own_sl h1, h4, h5⟩
      have hSsum : (Ss.map (fun r => r.l.length)).sum ≤ T := by
        have : Ss.map (fun r => r.l.length) = (inS Rs).map List.length := by rw [← hinS, List.map_map]; rfl
        rw [this, inS_sum]; exact hT
      have hSris : ∀ s ∈ Ss, RisE s.l := fun s hs => inS_ris hC _ (hinS ▸ List.mem_map.2 ⟨s, hs, rfl⟩)
      have hSl := own_sl hown
      have HSL := Lib.hid hSl
      have HSO := Lib.hid hSok
      have HSS := Lib.hid hSsum
      have HSR := Lib.hid hSris
      have HC := Lib.hid hC
      have HIN := Lib.hid hinS
      have hrw := hr0.below hb hr0.lt
      have HRW := Lib.hid hrw
      have hrl2 := hrw.lt
      have hSn : Ss.length = k := hSk.out
      have HSN := Lib.hid hSn
      have HKN := Lib.hid hkn
      clear hC hinS hSok hSsum hSris hSl hown hS hrw hSn hkn
      have hmg := merged_any wr A' Ss c' T HSL.out HSO.out HSR.out (by have := HSN.out; omega) HSS.out hT2
      rw [HSN.out, HIN.out] at hmg
      obtain ⟨O, hO⟩ : ∃ O, allE (inS Rs) = O := ⟨_, rfl⟩
      rw [hO] at hmg
      have hOT : O.length ≤ T := by
        rw [← hO]
        have h1 := fold_len (inS Rs) []
        rw [inS_sum] at h1
        unfold allE
        simp at h1
        omega
      have HO := Lib.hid hO
      have HMG := Lib.hid hmg
      have HEq : Hid (mrgE Rs = if O.length > 65536 then 4 else 0) := by
        show _ = _
        unfold mrgE
        rw [if_pos HC.out, hO]
      have HLq : Hid (mrgE Rs = 0 → mrgL Rs bare = laid (bareE bare O)) := by
        show _ → _
        intro h
        unfold mrgL
        rw [if_pos h, hO]
      clear hmg hO
      by_cases hbig : O.length > 65536
      · have hE3 : mrgE Rs = 4 := by rw [HEq.out, if_pos hbig]
        have hL3 : mrgL Rs bare = [] := by unfold mrgL; rw [hE3]; rfl
        have HE3 := Lib.hid hE3
        have HL3 := Lib.hid hL3
        clear hE3 hL3
        go_wp2_with fail
        refine HMG.out.mono ?_
        rintro e w1 ⟨A1, c1, rfl, ho1, hb1⟩
        have hrw1 := HRW.out.below hb1 hrl2
        have hc1 : w1.cell? ⟨w.heap.size, 0, none⟩ = some (.slice none 0 0) := hrw1.cell 0
        have hf1 : w1.frozen? ⟨w.heap.size, 0, none⟩ = false := hrw1.frozen 0
        clear ho1 hrw1
        go_wp2
        refine bodyPost_ret (v := .tuple #[.agg #[.slice none 0 0], .int .i64 4]) (by simp [results, Tryd.results4, go_sem, hc1]) rfl ?_
        rw [HE3.out]
        exact gives_none ((bext hbw hb1).setCell (p := ⟨w.heap.size, 0, none⟩) (Nat.le_refl _) _) HL3.out
      · have hE3 : mrgE Rs = 0 := by rw [HEq.out, if_neg hbig]
        have hL3 : mrgL Rs bare = laid (bareE bare O) := HLq.out hE3
        have hbe : buildE (bareE bare O) = 0 := by have := (mrg_build bare hE3).1; rwa [HO.out] at this
        have hbl : buildL (bareE bare O) = laid (bareE bare O) := by unfold buildL; rw [if_pos hbe]
        have HE3 := Lib.hid hE3
        have HL3 := Lib.hid hL3
        have HBE := Lib.hid hbe
        have HBL := Lib.hid hbl
        have hol : O.length ≤ 65536 := by omega
        clear hE3 hL3 hbe hbl
        cases bare with
        | false =>
          go_wp2_with fail
          refine HMG.out.mono ?_
          rintro e w1 ⟨A1, c1, rfl, ho1, hb1⟩
          have hs1 := own_sl ho1
          have HW1 := Lib.hid (HRW.out.below hb1 hrl2)
          clear ho1
          go_wp2_with fail
          refine (build_any A1 O c1 _ hs1 (by omega)).mono ?_
          rw [show O = bareE false O from rfl, HBE.out, HBL.out]
          rintro e w2 ⟨A2, c2, rfl, ho2, hb2⟩
          have hrw1 := HW1.out.below hb2 HW1.out.lt
          have hc1 : w2.cell? ⟨w.heap.size, 0, none⟩ = some (.slice none 0 0) := hrw1.cell 0
          have hf1 : w2.frozen? ⟨w.heap.size, 0, none⟩ = false := hrw1.frozen 0
          have HO2 := Lib.hid ho2
          have hlw : w.heap.size < w1.heap.size := HW1.out.lt
          clear ho2 hrw1
          go_wp2
          refine bodyPost_ret (v := .tuple #[.agg #[.slice A2 (laid (bareE false O)).length c2], .int .i64 0]) (by simp [results, Tryd.results4, go_sem, hc1]) rfl ?_
          rw [HE3.out, HL3.out]
          refine ⟨A2, c2, rfl, own_far (own_mono HO2.out (by omega)) ?_ _, (bext hbw (bext hb1 hb2)).setCell (p := ⟨w.heap.size, 0, none⟩) (Nat.le_refl _) _⟩
          intro e
          have := (HO2.out.lt _ e).1
          dsimp only at this
          omega
        | true =>
          go_wp2_with fail
          refine HMG.out.mono ?_
          rintro e w1 ⟨A1, c1, rfl, ho1, hb1⟩
          have HS1 := Lib.hid (own_sl ho1)
          have HW1 := Lib.hid (HRW.out.below hb1 hrl2)
          clear ho1
          go_wp2
          go_loopw [12, 44] (fun v i wr2 => ∃ (j : Nat) (o : List Ent) (A3 : Option Addr) (c3 : Nat), j ≤ O.length ∧ i = .int .i64 j ∧ Below w1.heap.size w1 wr2 ∧ v = .slice A3 o.length c3 ∧
            wr2.ownsRow w1.heap.size 29 3 (.slice A3 o.length c3) o.length (o.flatMap Ent.cells) ∧ Hid (o = liveE (O.take j))) (fun _ i _ => O.length - (intOf i).toNat)
          case atStart => exact ⟨0, [], none, 0, Nat.zero_le _, rfl, Below.refl _ _, rfl, World.ownsRow_nil _ _ _ _, rfl⟩
          case round =>
            obtain ⟨j, o, A3, c3, hj, rfl, hb3, rfl, hown3, ho3⟩ := hrel
            have hbs3 := hb3.size
            by_cases hlt2 : j < O.length
            · obtain ⟨b, off, rfl, hbl, e1, e2, e3⟩ := HS1.out.entB hb3 j hlt2
              have hol3 : o.length ≤ j := by rw [ho3.out]; have := live_le (O.take j); simp at this; omega
              have hki : (0 : Int) ≤ (j : Int) := by omega
              have hki2 : (j : Int) < (O.length : Int) := by omega
              have hs := live_succ hlt2
              obtain ⟨x, hx⟩ : ∃ x, O[j]'hlt2 = x := ⟨_, rfl⟩
              rw [hx] at e1 e2 e3 hs
              have HOW3 := Lib.hid hown3
              cases hd2 : x.dead
              · rw [hd2] at hs e3
                obtain ⟨wa, hwa⟩ : ∃ wa, wr.alloc (.cells #[.int .i64 x.key, .int .i64 x.val, .bool false] 29) = wa := ⟨_, rfl⟩
                have hba : Below wr.heap.size wr wa := by rw [← hwa]; exact (Below.refl _ _).alloc (Nat.le_refl _) _
                have bxa : Blk wa wr.heap.size 29 #[.int .i64 x.key, .int .i64 x.val, .bool false] := by rw [← hwa]; exact Blk.new _ _ _
                have x0 : wa.cell? ⟨wr.heap.size, 0, none⟩ = some (.int .i64 x.key) := bxa.cell 0
                have x1 : wa.cell? ⟨wr.heap.size, 1, none⟩ = some (.int .i64 x.val) := bxa.cell 1
                have x2 : wa.cell? ⟨wr.heap.size, 2, none⟩ = some (.bool false) := bxa.cell 2
                have hsa := hba.size
                have HD := Lib.hid hd2
                have HWA := Lib.hid hwa
                clear bxa hd2 hwa
                have hnew : Hid (o ++ [x] = liveE (O.take (j + 1))) := by
                  show _ = _
                  rw [ho3.out, hs]; simp
                have HOA := Lib.hid (own_below HOW3.out hba)
                clear hs hx
                go_upto_region 18 with fail
                rw [HWA.out]
                clear HWA
                go_wp2_with (at_builtin; refine wpList_append_sl _ rfl (.tmp 51) (.tmp 53) _ rfl w1.heap.size 29 ti0 _ 3 24 Tryd.underlying22 HI2.out.1 HI2.out.2.1 HI2.out.2.2.1 HI2.out.2.2.2 rfl (by omega) (.slice A3 o.length c3) o.length _ rfl (HOA.out.alloc _) _ 1 _ [.int .i64 x.key, .int .i64 x.val, .bool false] rfl (by exact sl_new1 _ _ _) rfl (by simp [Value.oneCell']) (by unfold maxLen; omega) (by omega) (by simp; omega) ?_; intro v2 w2 hown2 hg2; obtain ⟨A4, q4, rfl, hle4, hmx4⟩ := own_form hown2; have HO2 := Lib.hid hown2; clear hown2)
                go_roundw
                case rel =>
                  refine ⟨j + 1, o ++ [x], A4, q4, by omega, by go_num, ((bext hb3 hba).alloc (by omega) _).grown hg2 (by simp; omega) (fun q hq => (HOA.out.lt q hq).1), by simp, ?_, hnew⟩
                  rw [List.flatMap_append, List.length_append]
                  simpa [Ent.cells, HD.out] using HO2.out
                case measure => simp [intOf]; omega
              · rw [hd2] at hs e3
                obtain ⟨wa, hwa⟩ : ∃ wa, wr.alloc (.cells #[.int .i64 x.key, .int .i64 x.val, .bool true] 29) = wa := ⟨_, rfl⟩
                have hba : Below wr.heap.size wr wa := by rw [← hwa]; exact (Below.refl _ _).alloc (Nat.le_refl _) _
                have bxa : Blk wa wr.heap.size 29 #[.int .i64 x.key, .int .i64 x.val, .bool true] := by rw [← hwa]; exact Blk.new _ _ _
                have x0 : wa.cell? ⟨wr.heap.size, 0, none⟩ = some (.int .i64 x.key) := bxa.cell 0
                have x1 : wa.cell? ⟨wr.heap.size, 1, none⟩ = some (.int .i64 x.val) := bxa.cell 1
                have x2 : wa.cell? ⟨wr.heap.size, 2, none⟩ = some (.bool true) := bxa.cell 2
                have hsa := hba.size
                have HD := Lib.hid hd2
                have HWA := Lib.hid hwa
                clear bxa hd2 hwa
                have hnew : Hid (o = liveE (O.take (j + 1))) := by
                  show _ = _
                  rw [ho3.out, hs]; simp
                clear hs hx
                go_upto_region 18 with fail
                rw [HWA.out]
                clear HWA
                go_wp2_with fail
                go_roundw
                case rel => exact ⟨j + 1, o, A3, c3, by omega, by go_num, bext hb3 hba, rfl, own_below HOW3.out hba, hnew⟩
                case measure => simp [intOf]; omega
            · have hjn : j = O.length := by omega
              have ho4 : o = bareE true O := by rw [ho3.out, hjn, List.take_of_length_le (Nat.le_refl _)]; rfl
              have hs3 := own_sl hown3
              have hol4 : o.length ≤ 65536 := by rw [ho4]; have := live_le O; unfold bareE; simp; omega
              have HO4 := Lib.hid ho4
              have HW3 := Lib.hid (HW1.out.below hb3 HW1.out.lt)
              have hlw : w.heap.size < w1.heap.size := HW1.out.lt
              clear hjn ho4 hown3
              go_wp2_with fail
              refine (build_any A3 o c3 _ hs3 (by omega)).mono ?_
              rw [HO4.out, HBE.out, HBL.out]
              rintro e w2 ⟨A2, c2, rfl, ho2, hb2⟩
              have hrw1 := HW3.out.below hb2 HW3.out.lt
              have hc1 : w2.cell? ⟨w.heap.size, 0, none⟩ = some (.slice none 0 0) := hrw1.cell 0
              have hf1 : w2.frozen? ⟨w.heap.size, 0, none⟩ = false := hrw1.frozen 0
              have HO2 := Lib.hid ho2
              clear ho2 hrw1
              go_wp2
              refine bodyPost_ret (v := .tuple #[.agg #[.slice A2 (laid (bareE true O)).length c2], .int .i64 0]) (by simp [results, Tryd.results4, go_sem, hc1]) rfl ?_
              rw [HE3.out, HL3.out]
              refine ⟨A2, c2, rfl, own_far (own_mono HO2.out (by omega)) ?_ _, (bext hbw (bext hb1 (bext hb3 hb2))).setCell (p := ⟨w.heap.size, 0, none⟩) (Nat.le_refl _) _⟩
              intro e
              have := (HO2.out.lt _ e).1
              dsimp only at this
              omega
end Go.Proofs.YtolclahkfmplfaaDoor

/- Contracts: copies of runs. -/
namespace Go.Proofs.YtolclahkfmplfaaDoor
open Go Go.RowKit
set_option maxRecDepth 100000

theorem one_ents (l : List Ent) : ∀ u ∈ l.flatMap Ent.cells, u.oneCell' = true := by
  intro u hu; obtain ⟨e, _, he⟩ := List.mem_flatMap.1 hu; simp [Ent.cells] at he; rcases he with rfl | rfl | rfl <;> rfl
theorem ents_length (l : List Ent) : (l.flatMap Ent.cells).length = l.length * 3 := flat_length Ent.cells 3 Ent.cells_length l
theorem eql_nilE (A : Option Addr) (n c : Nat) (w : World) : (binOp .eql 22 (.slice A n c) (.slice none 0 0)).run Tryd.prog w = .ok (.bool A.isNone) w := Lib.run_eql_slice_nil w _ _ A n c _ _ Tryd.underlying22
theorem own_zeroE {w : World} {g B : Nat} (h : Blk w g 29 #[]) (hB : B ≤ g) : w.ownsRow B 29 3 (.slice (some ⟨g, 0, none⟩) 0 0) 0 [] :=
  ⟨rfl, .inr ⟨g, 0, _, rfl, hB, h, Nat.le_refl _, Nat.zero_le _, rfl, rfl⟩⟩
/-- hands back a run whose entries lie in new memory -/
def GivesTwin (l : List Ent) (w : World) (r : Ending) (w' : World) : Prop :=
  ∃ A c, r = .returned (.agg #[.slice A l.length c]) ∧ w'.ownsRow w.heap.size 29 3 (.slice A l.length c) l.length (l.flatMap Ent.cells) ∧ Below w.heap.size w w'


/-! ### keys that are written over -/
def Ki3 (w : World) (B h : Nat) (A : Option Addr) (n : Nat) : Prop := n = 0 ∨ ∃ g t cs, A = some ⟨g, 0, none⟩ ∧ B ≤ g ∧ g ≠ h ∧ Blk w g t cs ∧ ∀ j, j < n → ∃ k, cs[j * 3]? = some (.int .i64 k)
section
variable {w w' : World} {B h : Nat} {A : Option Addr} {n : Nat}
theorem Ki3.get (hk : Ki3 w B h A n) {j : Nat} (hj : j < n) : ∃ g k, A = some ⟨g, 0, none⟩ ∧ B ≤ g ∧ g ≠ h ∧ w.cell? ⟨g, j * 3, none⟩ = some (.int .i64 k) ∧ w.frozen? ⟨g, j * 3, none⟩ = false := by
  rcases hk with h0 | ⟨g, t, cs, h1, h2, h3, h4, h5⟩
  · omega
  · obtain ⟨k, hk⟩ := h5 j hj
    exact ⟨g, k, h1, h2, h3, (h4.cell _).trans hk, h4.frozen _⟩
theorem Ki3.set (hk : Ki3 w B h A n) (g i : Nat) (k : Int) : Ki3 (w.setCell ⟨g, i, none⟩ (.int .i64 k)) B h A n := by
  rcases hk with h0 | ⟨g', t, cs, h1, h2, h3, h4, h5⟩
  · exact .inl h0
  · by_cases e : g' = g
    · subst e
      refine .inr ⟨g', t, _, h1, h2, h3, h4.set_ i _, fun j hj => ?_⟩
      obtain ⟨k', hk'⟩ := h5 j hj
      rw [Array.getElem?_setIfInBounds]
      by_cases e2 : i = j * 3
      · rw [if_pos e2]
        have hlt : i < cs.size := by rw [e2]; exact (Array.getElem?_eq_some_iff.1 hk').1
        rw [if_pos hlt]
        exact ⟨k, rfl⟩
      · rw [if_neg e2]
        exact ⟨k', hk'⟩
    · exact .inr ⟨g', t, cs, h1, h2, h3, h4.far (p := ⟨g, i, none⟩) e _, h5⟩
theorem Ki3.of_own {B' c : Nat} {l : List Ent} {cs : Array Value} (hf : w.ownsRow B' 29 3 (.slice A l.length c) l.length (l.flatMap Ent.cells)) (hB : B ≤ B') (hh : Blk w h 24 cs) : Ki3 w B h A l.length := by
  by_cases h0 : l.length = 0
  · exact .inl h0
  · obtain ⟨g, cap, cur, hv, hg, hb, hn, _, hs, ht⟩ := own_blk hf (by omega)
    injection hv with h1 h2 h3
    have hne : g ≠ h := by
      rintro rfl
      have := hb.symm.trans hh
      simp at this
    refine .inr ⟨g, _, cur, h1, Nat.le_trans hB hg, hne, hb, fun j hj => ⟨(l[j]'hj).key, ?_⟩⟩
    have hc := flat_get Ent.cells 3 Ent.cells_length l j 0 hj (by omega)
    rw [← ht, List.getElem?_take, if_pos (by omega)] at hc
    simpa [Ent.cells] using hc
theorem Ki3.belowS (hb : Below w.heap.size w w') (hk : Ki3 w B h A n) : Ki3 w' B h A n := by
  rcases hk with h0 | ⟨g, t, cs, h1, h2, h3, h4, h5⟩
  · exact .inl h0
  · exact .inr ⟨g, t, cs, h1, h2, h3, h4.below hb h4.lt, h5⟩
end
end Go.Proofs.YtolclahkfmplfaaDoor

/- Contracts: shelfmarkref25.Merge and Two, kway.Two. -/
namespace Go.Proofs.YtolclahkfmplfaaDoor
open Go Go.RowKit
set_option maxRecDepth 100000

theorem GivesRun.re {t : TypeId} {m : List Ent} {e : Int} {w W : World} {r : Ending} {w' : World} (hb : Below w.heap.size w W) (h : GivesRun t m e W r w') : GivesRun t m e w r w' := by
  obtain ⟨A, c, h1, h2, h3⟩ := h
  exact ⟨A, c, h1, own_mono h2 hb.size, bext hb h3⟩
end Go.Proofs.YtolclahkfmplfaaDoor

/- Contracts: shelfmarkref25.Two, kway.Two. -/
namespace Go.Proofs.YtolclahkfmplfaaDoor
open Go Go.RowKit
set_option maxRecDepth 100000
set_option maxHeartbeats 1000000 in
theorem two_any (A B : Option Addr) (a b : List Ent) (ca cb : Nat) (bare : Bool) (w : World) (hA : Sl w A (a.flatMap Ent.cells)) (hB : Sl w B (b.flatMap Ent.cells)) (hca : a.length ≤ ca) (hcb : b.length ≤ cb) (hma : ca ≤ maxLen) (hmb : cb ≤ maxLen)
    (hl : a.length + b.length ≤ 1099511627776) :
    Calls Tryd.prog 7 #[.agg #[.slice A a.length ca], .agg #[.slice B b.length cb], .bool bare] w (GivesRun 29 (mrgL [⟨a, A, ca⟩, ⟨b, B, cb⟩] bare) (mrgE [⟨a, A, ca⟩, ⟨b, B, cb⟩]) w) := by
  obtain ⟨W0, hW0⟩ : ∃ W0, ((w.alloc (.cells #[.slice A a.length ca] 24)).alloc (.cells #[.slice B b.length cb] 24)).alloc (.cells #[.slice none 0 0] 24) = W0 := ⟨_, rfl⟩
  have hb0 : Below w.heap.size w W0 := by rw [← hW0]; exact (((Below.refl _ _).alloc (Nat.le_refl _) _).alloc (by simp) _).alloc (by simp; omega) _
  have hs0 : W0.heap.size = w.heap.size + 3 := by rw [← hW0]; simp
  have bA : Blk W0 w.heap.size 24 #[.slice A a.length ca] := by rw [← hW0]; exact ((Blk.new _ _ _).alloc _).alloc _
  have bB : Blk W0 (w.heap.size + 1) 24 #[.slice B b.length cb] := by
    rw [← hW0]
    have := Blk.new (w.alloc (.cells #[.slice A a.length ca] 24)) 24 #[.slice B b.length cb]
    rw [World.size_alloc] at this
    exact this.alloc _
  have bR : Blk W0 (w.heap.size + 2) 24 #[.slice none 0 0] := by
    rw [← hW0]
    have := Blk.new ((w.alloc (.cells #[.slice A a.length ca] 24)).alloc (.cells #[.slice B b.length cb] 24)) 24 #[.slice none 0 0]
    rwa [World.size_alloc, World.size_alloc] at this
  have cA : W0.cell? ⟨w.heap.size, 0, none⟩ = some (.slice A a.length ca) := bA.cell 0
  have cB : W0.cell? ⟨w.heap.size + 1, 0, none⟩ = some (.slice B b.length cb) := bB.cell 0
  obtain ⟨W1, hW1⟩ : ∃ W1, W0.alloc (.cells #[.slice A a.length ca, .slice B b.length cb] 24) = W1 := ⟨_, rfl⟩
  have hb1 : Below W0.heap.size W0 W1 := by rw [← hW1]; exact (Below.refl _ _).alloc (Nat.le_refl _) _
  have bS : Blk W1 W0.heap.size 24 #[.slice A a.length ca, .slice B b.length cb] := by rw [← hW1]; exact Blk.new _ _ _
  have hR : RunsAt W1 (some ⟨W0.heap.size, 0, none⟩) [⟨a, A, ca⟩, ⟨b, B, cb⟩] := by
    refine ⟨bS.sl 0 _ (by intro j u hu; simpa [Rm.v] using hu), ?_⟩
    intro r hr
    simp at hr
    rcases hr with rfl | rfl
    · exact ⟨hA.below (bext hb0 hb1), hca, hma⟩
    · exact ⟨hB.below (bext hb0 hb1), hcb, hmb⟩
  have HR := Lib.hid hR
  have HB := Lib.hid (bR.below hb1 bR.lt)
  have hb01 := bext hb0 hb1
  have hlr : ∀ r ∈ ([⟨a, A, ca⟩, ⟨b, B, cb⟩] : List Rm), r.l.length ≤ 4611686018427387903 := by
    intro r hr
    simp at hr
    rcases hr with rfl | rfl <;> dsimp only <;> omega
  have HLR := Lib.hid hlr
  have HS0 := Lib.hid hs0
  clear hR hlr hs0 bA bB bR bS
  obtain ⟨M, hM⟩ : ∃ M, mrgL [⟨a, A, ca⟩, ⟨b, B, cb⟩] bare = M := ⟨_, rfl⟩
  obtain ⟨E, hE⟩ : ∃ E, mrgE [⟨a, A, ca⟩, ⟨b, B, cb⟩] = E := ⟨_, rfl⟩
  rw [hM, hE]
  have HM := Lib.hid hM
  have HE := Lib.hid hE
  clear hM hE
  go_enter Tryd.func7, Tryd.ntmps7
  go_wp2_with fail
  try rw [hW0]
  try rw [hW1]
  clear hW0 hW1 cA cB
  refine (merge_any (some ⟨W0.heap.size, 0, none⟩) [⟨a, A, ca⟩, ⟨b, B, cb⟩] 2 (a.length + b.length) bare W1 HR.out (by simp) HLR.out (by simp) hl).mono ?_
  rw [HM.out, HE.out]
  rintro e w1 ⟨A1, c1, rfl, ho1, hb2⟩
  have hr1 := HB.out.below hb2 HB.out.lt
  have hc1 : w1.cell? ⟨w.heap.size + 2, 0, none⟩ = some (.slice none 0 0) := hr1.cell 0
  have hf1 : w1.frozen? ⟨w.heap.size + 2, 0, none⟩ = false := hr1.frozen 0
  have HO1 := Lib.hid ho1
  have hlw := HB.out.lt
  clear ho1 hr1
  go_wp2
  refine bodyPost_ret (v := .tuple #[.agg #[.slice A1 M.length c1], .int .i64 E]) (by simp [results, Tryd.results7, go_sem, hc1]) rfl ?_
  refine ⟨A1, c1, rfl, own_far (own_mono HO1.out hb01.size) ?_ _, (bext hb01 hb2).setCell (p := ⟨w.heap.size + 2, 0, none⟩) (by simp) _⟩
  intro e
  have := (HO1.out.lt _ e).1
  dsimp only at this
  omega
theorem inS_of (Rs : List Rm) : inS Rs = (Rs.map Rm.l).map inL := by unfold inS; rw [List.map_map]; rfl
theorem mrgE_congr {Rs Ss : List Rm} (h : Rs.map Rm.l = Ss.map Rm.l) : mrgE Rs = mrgE Ss := by unfold mrgE; rw [inS_of, inS_of, h]
theorem mrgL_congr {Rs Ss : List Rm} (h : Rs.map Rm.l = Ss.map Rm.l) (bare : Bool) : mrgL Rs bare = mrgL Ss bare := by unfold mrgL; rw [mrgE_congr h, inS_of, inS_of, h]
theorem mrg_len {Rs : List Rm} {T : Nat} (bare : Bool) (hT : (Rs.map (fun r => r.l.length)).sum ≤ T) : (mrgL Rs bare).length ≤ T := by
  unfold mrgL
  split
  · rw [laid_length]
    have h1 := fold_len (inS Rs) []
    rw [inS_sum] at h1
    have h2 : (allE (inS Rs)).length ≤ T := by unfold allE; simp at h1; omega
    unfold bareE
    split
    · have := live_le (allE (inS Rs)); omega
    · exact h2
  · exact Nat.zero_le _
end Go.Proofs.YtolclahkfmplfaaDoor

/- Contracts of the laws' helpers of chapter 25: chapter, has, alive, Great. -/
namespace Go.Proofs.YtolclahkfmplfaaDoor
open Go Go.RowKit
set_option maxRecDepth 100000

/-! ### what merging gives, on lists -/
def mE (rs : List (List Ent)) : Int := if chkAllE rs = 0 then (if (allE (rs.map inL)).length > 65536 then 4 else 0) else chkAllE rs
def mL (rs : List (List Ent)) (bare : Bool) : List Ent := if mE rs = 0 then laid (bareE bare (allE (rs.map inL))) else []
theorem mrgE_m (Rs : List Rm) : mrgE Rs = mE (Rs.map Rm.l) := by unfold mrgE mE; rw [inS_of]
theorem mrgL_m (Rs : List Rm) (bare : Bool) : mrgL Rs bare = mL (Rs.map Rm.l) bare := by unfold mrgL mL; rw [mrgE_m, inS_of]

def chA : List Ent := [⟨2, 0, true⟩, ⟨3, 33, false⟩]
def chB : List Ent := [⟨1, 10, false⟩, ⟨2, 20, false⟩, ⟨3, 30, false⟩]
def rA : List Ent := [⟨3, 33, false⟩, ⟨2, 0, true⟩]
def rB : List Ent := [⟨2, 20, false⟩, ⟨1, 10, false⟩, ⟨3, 30, false⟩]
theorem kinord2 : inord 2 0 = [1, 0] := by simp [inord]
theorem kinord3 : inord 3 0 = [1, 0, 2] := by simp [inord]
theorem kranks2 : ranks 2 = [1, 0] := by unfold ranks; rw [kinord2]; decide
theorem kranks3 : ranks 3 = [1, 0, 2] := by unfold ranks; rw [kinord3]; decide
theorem chA_E : buildE chA = 0 := by decide
theorem chB_E : buildE chB = 0 := by decide
theorem chA_L : buildL chA = rA := by unfold buildL; rw [if_pos chA_E]; unfold laid; rw [show chA.length = 2 from rfl, kranks2]; decide
theorem chB_L : buildL chB = rB := by unfold buildL; rw [if_pos chB_E]; unfold laid; rw [show chB.length = 3 from rfl, kranks3]; decide
theorem rA_laid : laid chA = rA := by rw [← chA_L]; unfold buildL; rw [if_pos chA_E]
theorem rB_laid : laid chB = rB := by rw [← chB_L]; unfold buildL; rw [if_pos chB_E]
theorem rA_in : inL rA = chA := by rw [← rA_laid, in_laid]
theorem rB_in : inL rB = chB := by rw [← rB_laid, in_laid]
theorem rA_chk : chkE rA = 0 := by rw [← rA_laid]; exact build_chk chA_E
theorem rB_chk : chkE rB = 0 := by rw [← rB_laid]; exact build_chk chB_E
def chM : List Ent := [⟨1, 10, false⟩, ⟨2, 0, true⟩, ⟨3, 33, false⟩]
def chN : List Ent := [⟨1, 10, false⟩, ⟨3, 33, false⟩]
theorem ch_all : allE [chA, chB] = chM := by simp [allE, bothE, chA, chB, chM]
theorem ch_mE : mE [rA, rB] = 0 := by
  unfold mE
  rw [show chkAllE [rA, rB] = 0 by simp [chkAllE, rA_chk, rB_chk]]
  rw [show [rA, rB].map inL = [chA, chB] by simp [rA_in, rB_in], ch_all]
  decide
theorem ch_mL : mL [rA, rB] false = laid chM := by
  unfold mL
  rw [if_pos ch_mE, show [rA, rB].map inL = [chA, chB] by simp [rA_in, rB_in], ch_all]
  rfl
theorem ch_mN : mL [rA, rB] true = laid chN := by
  unfold mL
  rw [if_pos ch_mE, show [rA, rB].map inL = [chA, chB] by simp [rA_in, rB_in], ch_all]
  rfl

set_option maxHeartbeats 2000000 in
theorem chapter25_any (w : World) : Calls Tryd.prog 6 #[] w fun r w' => ∃ g A1 c1 A2 c2, r = .returned (.slice (some ⟨g, 0, none⟩) 2 2) ∧ Blk w' g 24 #[.slice A1 2 c1, .slice A2 3 c2] ∧
    RunsAt w' (some ⟨g, 0, none⟩) [⟨rA, A1, c1⟩, ⟨rB, A2, c2⟩] ∧ Below w.heap.size w w' := by
  go_enter Tryd.func6, Tryd.ntmps6
  go_wp2_with fail
  refine (build_n (some ⟨w.heap.size, 0, none⟩) chA 2 2 _ rfl (by exact sl_new1 _ _ _) (by decide)).mono ?_
  rw [chA_E, chA_L]
  rintro e w1 ⟨A1, c1, hr, ho1, hb1⟩
  rw [show rA.length = 2 from rfl] at hr ho1
  subst hr
  have hb01 : Below w.heap.size w w1 := bext ((Below.refl _ _).alloc (Nat.le_refl _) _) hb1
  have HO1 := Lib.hid ho1
  have ba1 : Below w1.heap.size w1 (w1.alloc (.cells #[.slice A1 2 c1] 24)) := (Below.refl _ _).alloc (Nat.le_refl _) _
  have bx1 : Blk (w1.alloc (.cells #[.slice A1 2 c1] 24)) w1.heap.size 24 #[.slice A1 2 c1] := Blk.new _ _ _
  obtain ⟨W1, hW1⟩ : ∃ W, w1.alloc (.cells #[.slice A1 2 c1] 24) = W := ⟨_, rfl⟩
  rw [hW1] at ba1 bx1
  have HBA1 := Lib.hid ba1
  have HBX1 := Lib.hid bx1
  clear ho1 hb1 ba1 bx1
  go_upto_region 2 with fail
  try rw [hW1]
  clear hW1
  go_wp2_with fail
  refine (build_n (some ⟨W1.heap.size, 0, none⟩) chB 3 3 _ rfl (by exact sl_new1 _ _ _) (by decide)).mono ?_
  rw [chB_E, chB_L]
  rintro e w2 ⟨A2, c2, hr, ho2, hb2⟩
  rw [show rB.length = 3 from rfl] at hr ho2
  subst hr
  have hb12 : Below W1.heap.size W1 w2 := bext ((Below.refl _ _).alloc (Nat.le_refl _) _) hb2
  have HO2 := Lib.hid ho2
  have bx1 := HBX1.out.below hb12 HBX1.out.lt
  have ba2 : Below w2.heap.size w2 (w2.alloc (.cells #[.slice A2 3 c2] 24)) := (Below.refl _ _).alloc (Nat.le_refl _) _
  have bx2 : Blk (w2.alloc (.cells #[.slice A2 3 c2] 24)) w2.heap.size 24 #[.slice A2 3 c2] := Blk.new _ _ _
  have bx1 := bx1.below ba2 bx1.lt
  obtain ⟨W2, hW2⟩ : ∃ W, w2.alloc (.cells #[.slice A2 3 c2] 24) = W := ⟨_, rfl⟩
  rw [hW2] at ba2 bx1 bx2
  have k1 : W2.cell? ⟨w1.heap.size, 0, none⟩ = some (.slice A1 2 c1) := bx1.cell 0
  have k2 : W2.cell? ⟨w2.heap.size, 0, none⟩ = some (.slice A2 3 c2) := bx2.cell 0
  have HB2 := Lib.hid ba2
  have HB12 := Lib.hid hb12
  clear ho2 hb2 ba2 bx1 bx2 hb12
  go_upto_region 3 with fail
  try rw [hW2]
  clear hW2
  go_wp2_with fail
  go_ret
  have hbn : Below W2.heap.size W2 (W2.alloc (.cells #[.slice A1 2 c1, .slice A2 3 c2] 24)) := (Below.refl _ _).alloc (Nat.le_refl _) _
  have bn : Blk (W2.alloc (.cells #[.slice A1 2 c1, .slice A2 3 c2] 24)) W2.heap.size 24 #[.slice A1 2 c1, .slice A2 3 c2] := Blk.new _ _ _
  obtain ⟨A1', c1', e1, l1, m1⟩ := own_form HO1.out
  obtain ⟨rfl, rfl⟩ : A1 = A1' ∧ c1 = c1' := by simpa using e1
  obtain ⟨A2', c2', e2, l2, m2⟩ := own_form HO2.out
  obtain ⟨rfl, rfl⟩ : A2 = A2' ∧ c2 = c2' := by simpa using e2
  refine ⟨_, A1, c1, A2, c2, rfl, bn, ⟨bn.sl 0 _ (by intro j u hu; have hu2 : ([.slice A1 2 c1, .slice A2 3 c2] : List Value)[j]? = some u := hu; simpa using hu2), ?_⟩, bext hb01 (bext HBA1.out (bext HB12.out (bext HB2.out hbn)))⟩
  intro r hr
  simp at hr
  rcases hr with rfl | rfl
  · exact ⟨(own_sl HO1.out).below (bext HBA1.out (bext HB12.out (bext HB2.out hbn))), l1, m1⟩
  · exact ⟨(own_sl HO2.out).below (bext HB2.out hbn), l2, m2⟩

set_option maxHeartbeats 1000000 in
theorem has25_yes (A B : Option Addr) (l m : List Ent) (n k c d : Nat) (w : World) (hn : l.length = n) (hk : m.length = k) (hA : Sl w A (l.flatMap Ent.cells)) (hB : Sl w B (m.flatMap Ent.cells)) (hl : l.length ≤ 65536) (hC : chkE l = 0) (hm : inL l = m) :
    Calls Tryd.prog 9 #[.agg #[.slice A n c], .slice B k d] w fun r w' => r = .returned (.bool true) ∧ Below w.heap.size w w' := by
  subst hn hk
  have hsl : sortL l = m := by unfold sortL; rw [if_pos hC]; exact hm
  have hml : m.length ≤ 65536 := by rw [← hm, inL_length]; exact hl
  have HS := Lib.hid hsl
  have HC := Lib.hid hC
  have hb0 : Below w.heap.size w (w.alloc (.cells #[.slice A l.length c] 24)) := (Below.refl _ _).alloc (Nat.le_refl _) _
  clear hsl hC hm
  go_enter Tryd.func9, Tryd.ntmps9
  go_wp2_with fail
  refine (sortedE_any A l c _ (hA.below hb0) (by omega)).mono ?_
  rw [HS.out, HC.out]
  rintro e w1 ⟨A1, c1, rfl, ho1, hb1⟩
  have hs1 := Lib.hid (own_sl ho1)
  clear ho1
  go_wp2_with fail
  refine (sameEntries_any A1 B m m c1 d _ hs1.out (hB.below (bext hb0 hb1)) (by omega) (by omega)).mono ?_
  rw [decide_eq_true rfl]
  rintro e w2 ⟨rfl, hb2⟩
  go_wp2
  go_ret
  exact ⟨rfl, bext hb0 (bext hb1 hb2)⟩

set_option maxHeartbeats 4000000 in
theorem alive25_any (w : World) : Calls Tryd.prog 8 #[] w fun r w' => r = .returned (.bool true) ∧ Below w.heap.size w w' := by
  have hcM : chkE (laid chM) = 0 := build_chk (by decide)
  have hcN : chkE (laid chN) = 0 := build_chk (by decide)
  have hlM : (laid chM).length = 3 := laid_length _
  have hlN : (laid chN).length = 2 := laid_length _
  have HCM := Lib.hid hcM
  have HCN := Lib.hid hcN
  have HLM := Lib.hid hlM
  have HLN := Lib.hid hlN
  clear hcM hcN hlM hlN
  go_enter Tryd.func8, Tryd.ntmps8
  go_wp2_with fail
  refine (chapter25_any _).mono ?_
  rintro e w1 ⟨g1, A1, c1, A2, c2, rfl, -, hR1, hb1⟩
  go_wp2_with fail
  refine (merge_any (some ⟨g1, 0, none⟩) [⟨rA, A1, c1⟩, ⟨rB, A2, c2⟩] 2 5 false _ hR1 (by simp) (by intro r hr; simp at hr; rcases hr with rfl | rfl <;> (show List.length _ ≤ _; first | exact (by decide : rA.length ≤ 4611686018427387903) | exact (by decide : rB.length ≤ 4611686018427387903))) (Nat.le_refl 5) (by omega)).mono ?_
  rw [mrgE_m, mrgL_m, show ([⟨rA, A1, c1⟩, ⟨rB, A2, c2⟩] : List Rm).map Rm.l = [rA, rB] from rfl, ch_mE, ch_mL]
  rintro e w2 ⟨A3, c3, hr, ho3, hb2⟩
  rw [HLM.out] at hr ho3
  subst hr
  have hs3 := Lib.hid (own_sl ho3)
  have HB02 := Lib.hid (bext hb1 hb2)
  clear ho3 hb1 hb2 hR1
  have ba2 : Below w2.heap.size w2 (w2.alloc (.cells #[.slice A3 3 c3] 24)) := (Below.refl _ _).alloc (Nat.le_refl _) _
  have bx2 : Blk (w2.alloc (.cells #[.slice A3 3 c3] 24)) w2.heap.size 24 #[.slice A3 3 c3] := Blk.new _ _ _
  go_upto_region 2 with fail
  obtain ⟨W2, hW2⟩ : ∃ W, w2.alloc (.cells #[.slice A3 3 c3] 24) = W := ⟨_, rfl⟩
  rw [hW2] at ba2 bx2
  rw [hW2]
  have HB2 := Lib.hid (bext HB02.out ba2)
  have hs3 := Lib.hid (hs3.out.below ba2)
  have HX2 := Lib.hid bx2
  clear hW2 ba2 bx2
  go_wp2_with fail
  refine (chapter25_any _).mono ?_
  rintro e w3 ⟨g1, A4, c4, A5, c5, rfl, -, hR3, hb3⟩
  go_wp2_with fail
  refine (merge_any (some ⟨g1, 0, none⟩) [⟨rA, A4, c4⟩, ⟨rB, A5, c5⟩] 2 5 true _ hR3 (by simp) (by intro r hr; simp at hr; rcases hr with rfl | rfl <;> (show List.length _ ≤ _; first | exact (by decide : rA.length ≤ 4611686018427387903) | exact (by decide : rB.length ≤ 4611686018427387903))) (Nat.le_refl 5) (by omega)).mono ?_
  rw [mrgE_m, mrgL_m, show ([⟨rA, A4, c4⟩, ⟨rB, A5, c5⟩] : List Rm).map Rm.l = [rA, rB] from rfl, ch_mE, ch_mN]
  rintro e w4 ⟨A6, c6, hr, ho6, hb4⟩
  rw [HLN.out] at hr ho6
  subst hr
  have hs6 := Lib.hid (own_sl ho6)
  have HB04 := Lib.hid (bext hb3 hb4)
  clear ho6 hb3 hb4 hR3
  have ba4 : Below w4.heap.size w4 (w4.alloc (.cells #[.slice A6 2 c6] 24)) := (Below.refl _ _).alloc (Nat.le_refl _) _
  have bx4 : Blk (w4.alloc (.cells #[.slice A6 2 c6] 24)) w4.heap.size 24 #[.slice A6 2 c6] := Blk.new _ _ _
  go_upto_region 3 with fail
  obtain ⟨W4, hW4⟩ : ∃ W, w4.alloc (.cells #[.slice A6 2 c6] 24) = W := ⟨_, rfl⟩
  rw [hW4] at ba4 bx4
  rw [hW4]
  have hb24 := bext HB04.out ba4
  have HB4 := Lib.hid (bext HB2.out hb24)
  have bx2 := HX2.out.below hb24 HX2.out.lt
  have hs3 := Lib.hid (hs3.out.below hb24)
  have hs6 := Lib.hid (hs6.out.below ba4)
  have k1 : W4.cell? ⟨w2.heap.size, 0, none⟩ = some (.slice A3 3 c3) := bx2.cell 0
  have k2 : W4.cell? ⟨w4.heap.size, 0, none⟩ = some (.slice A6 2 c6) := bx4.cell 0
  have l1 := bx2.lt
  have l2 := bx4.lt
  clear hW4 ba4 bx2 bx4 hb24
  have hbm : Below W4.heap.size W4 (W4.alloc (.cells #[.int .i64 1, .int .i64 10, .bool false, .int .i64 2, .int .i64 0, .bool true, .int .i64 3, .int .i64 33, .bool false] 29)) := (Below.refl _ _).alloc (Nat.le_refl _) _
  have HBM := Lib.hid hbm
  clear hbm
  go_wp2_with fail
  refine (has25_yes A3 (some ⟨W4.heap.size, 0, none⟩) (laid chM) chM 3 3 c3 3 _ HLM.out rfl (hs3.out.below HBM.out) (by exact sl_new1 _ _ _) (by rw [HLM.out]; omega) HCM.out (in_laid _)).mono ?_
  rintro e w5 ⟨rfl, hb5⟩
  have hb45 := bext HBM.out hb5
  have k3 : w5.cell? ⟨w4.heap.size, 0, none⟩ = some (.slice A6 2 c6) := ((bcell hb45).1 _ _ l2).trans k2
  have l3 : w4.heap.size < w5.heap.size := Nat.lt_of_lt_of_le l2 hb45.size
  have HB5 := Lib.hid (bext HB4.out hb45)
  have hs6 := Lib.hid (hs6.out.below hb45)
  have hbn : Below w5.heap.size w5 (w5.alloc (.cells #[.int .i64 1, .int .i64 10, .bool false, .int .i64 3, .int .i64 33, .bool false] 29)) := (Below.refl _ _).alloc (Nat.le_refl _) _
  have HBN := Lib.hid hbn
  clear k1 k2 hb5 hb45 hbn
  go_wp2_with fail
  refine (has25_yes A6 (some ⟨w5.heap.size, 0, none⟩) (laid chN) chN 2 2 c6 2 _ HLN.out rfl (hs6.out.below HBN.out) (by exact sl_new1 _ _ _) (by rw [HLN.out]; omega) HCN.out (in_laid _)).mono ?_
  rintro e w6 ⟨rfl, hb6⟩
  go_wp2
  go_ret
  exact ⟨rfl, bext HB5.out (bext HBN.out hb6)⟩

theorem le_sum : ∀ {l : List Nat} {x : Nat}, x ∈ l → x ≤ l.sum
  | [], _, h => by simp at h
  | y :: l, x, h => by
    rw [List.sum_cons]
    rcases List.mem_cons.1 h with rfl | h
    · omega
    · have := le_sum h; omega
theorem rs_le {Rs : List Rm} {T : Nat} (h : (Rs.map (fun r => r.l.length)).sum ≤ T) : ∀ r ∈ Rs, r.l.length ≤ T := fun r hr => Nat.le_trans (le_sum (List.mem_map.2 ⟨r, hr, rfl⟩)) h
end Go.Proofs.YtolclahkfmplfaaDoor

/- Plain facts on merged runs: lengths, a run merged with itself, folds. No program in sight. -/
namespace Go.Proofs.YtolclahkfmplfaaDoor
open Go

theorem bothE_ge : ∀ (n : Nat) (a b : List Ent), a.length + b.length ≤ n → a.length ≤ (bothE a b).length ∧ b.length ≤ (bothE a b).length := by
  intro n
  induction n with
  | zero => intro a b h; cases a <;> cases b <;> simp at h; simp [bothE]
  | succ n ih =>
    intro a b h
    cases a with
    | nil => rw [bothE]; simp
    | cons x a =>
      cases b with
      | nil => rw [bothE]; simp
      | cons y b =>
        simp only [List.length_cons] at h ⊢
        rw [bothE]
        split
        · have := ih a (y :: b) (by simp; omega); simp at this ⊢; omega
        · split
          · have := ih a b (by omega); simp at this ⊢; omega
          · have := ih (x :: a) b (by simp; omega); simp at this ⊢; omega
theorem bothE_self : ∀ (l : List Ent), bothE l l = l
  | [] => by rw [bothE]
  | x :: l => by rw [bothE_eq rfl, bothE_self l]
theorem fold_ge : ∀ (rs : List (List Ent)) (acc : List Ent), acc.length ≤ (rs.foldl bothE acc).length ∧ ∀ r ∈ rs, r.length ≤ (rs.foldl bothE acc).length
  | [], acc => by simp
  | r :: rs, acc => by
    have h1 := bothE_ge _ acc r (Nat.le_refl _)
    obtain ⟨g1, g2⟩ := fold_ge rs (bothE acc r)
    rw [List.foldl_cons]
    refine ⟨by omega, fun q hq => ?_⟩
    rcases List.mem_cons.1 hq with rfl | hq
    · omega
    · exact g2 q hq
theorem all_one (l : List Ent) : allE [l] = l := by unfold allE; rw [List.foldl_cons, List.foldl_nil, bothE]
theorem all_two (a b : List Ent) : allE [a, b] = bothE a b := by unfold allE; rw [List.foldl_cons, List.foldl_cons, List.foldl_nil, bothE]

/-- a run with a right layout -/
theorem mE_chk {rs : List (List Ent)} (h : mE rs = 0) : chkAllE rs = 0 := by
  unfold mE at h
  split at h
  · assumption
  · exact absurd h (by assumption)
theorem mE_of {rs : List (List Ent)} (h : chkAllE rs = 0) (hT : (rs.map List.length).sum ≤ 65536) : mE rs = 0 := by
  unfold mE
  rw [if_pos h, if_neg]
  have h1 := fold_len (rs.map inL) []
  have h2 : ((rs.map inL).map List.length).sum = (rs.map List.length).sum := by
    rw [List.map_map]
    congr 1
    exact List.map_congr_left (fun r _ => inL_length r)
  rw [h2] at h1
  unfold allE
  simp at h1 ⊢
  omega
theorem mE_bad {rs : List (List Ent)} (hT : (rs.map List.length).sum ≤ 65536) : mE rs = chkAllE rs := by
  by_cases h : chkAllE rs = 0
  · rw [mE_of h hT, h]
  · unfold mE; rw [if_neg h]
theorem rms (rs : List (List Ent)) : (rs.map (fun l => (⟨l, none, 0⟩ : Rm))).map Rm.l = rs := by rw [List.map_map]; simp [Function.comp_def]
theorem mL_build {rs : List (List Ent)} (bare : Bool) (h : mE rs = 0) : buildE (bareE bare (allE (rs.map inL))) = 0 := by
  have h2 := mrg_build (Rs := rs.map (fun l => (⟨l, none, 0⟩ : Rm))) bare (by rw [mrgE_m, rms]; exact h)
  rw [inS_of, rms] at h2
  exact h2.1
theorem mL_is {rs : List (List Ent)} (bare : Bool) (h : mE rs = 0) : mL rs bare = laid (bareE bare (allE (rs.map inL))) := by unfold mL; rw [if_pos h]
theorem mL_chk {rs : List (List Ent)} (bare : Bool) (h : mE rs = 0) : chkE (mL rs bare) = 0 := by
  rw [mL_is bare h]
  exact build_chk (mL_build bare h)
theorem mL_in {rs : List (List Ent)} (bare : Bool) (h : mE rs = 0) : inL (mL rs bare) = bareE bare (allE (rs.map inL)) := by rw [mL_is bare h, in_laid]
theorem mL_len {rs : List (List Ent)} {T : Nat} (bare : Bool) (hT : (rs.map List.length).sum ≤ T) : (mL rs bare).length ≤ T := by
  have h := mrg_len (Rs := rs.map (fun l => (⟨l, none, 0⟩ : Rm))) (T := T) bare (by rw [List.map_map]; exact hT)
  rw [mrgL_m, rms] at h
  exact h
theorem mL_ge {rs : List (List Ent)} (h : mE rs = 0) {r : List Ent} (hr : r ∈ rs) : r.length ≤ (mL rs false).length := by
  rw [mL_is false h, laid_length]
  have := (fold_ge (rs.map inL) []).2 (inL r) (List.mem_map.2 ⟨r, hr, rfl⟩)
  rw [inL_length] at this
  exact this
theorem self_E {r : List Ent} (h : chkE r = 0) (hl : r.length ≤ 32768) : mE [r, r] = 0 := mE_of (by simp [chkAllE, h]) (by simp; omega)
theorem self_L {r : List Ent} (h : chkE r = 0) (hl : r.length ≤ 32768) : mL [r, r] false = r := by
  rw [mL_is false (self_E h hl)]
  show laid (allE [inL r, inL r]) = r
  rw [all_two, bothE_self, laid_in]
theorem chkAll_zero {rs : List (List Ent)} (h : ∀ r ∈ rs, chkE r = 0) : chkAllE rs = 0 := by
  induction rs with
  | nil => rfl
  | cons r rs ih =>
    rw [chkAllE, if_pos (h r (by simp))]
    exact ih fun q hq => h q (by simp [hq])
end Go.Proofs.YtolclahkfmplfaaDoor

/- Plain facts: what is found in a run, by the entries themselves. No program in sight. -/
namespace Go.Proofs.YtolclahkfmplfaaDoor
open Go

theorem look_isNone {l : List Ent} {k : Int} (h : look l k = none) : ∀ e ∈ l, e.key ≠ k := by
  unfold look at h
  rw [List.find?_eq_none] at h
  intro e he
  simpa using h e he
theorem look_perm {l m : List Ent} (hp : l.Perm m) (hr : RisE m) (k : Int) : look l k = look m k := by
  cases h : look l k with
  | some e =>
    obtain ⟨h1, h2⟩ := look_key h
    have := look_mem hr (hp.mem_iff.1 h2)
    rw [h1] at this
    exact this.symm
  | none =>
    cases h2 : look m k with
    | none => rfl
    | some e =>
      obtain ⟨h3, h4⟩ := look_key h2
      exact absurd h3 (look_isNone h e (hp.mem_iff.2 h4))
theorem look_in {l : List Ent} (h : chkE l = 0) (k : Int) : look l k = look (inL l) k := look_perm (inL_perm l).symm (chk_ris h) k
theorem ris_count : ∀ {m : List Ent} (k : Int), RisE m → ∀ i (hi : i < m.length), ((m[i]'hi).key < k ↔ i < belK m k)
  | [], k, _, i, hi => by simp at hi
  | a :: m, k, h, i, hi => by
    obtain ⟨h1, h2⟩ := RisE.cons.1 h
    have hb : belK (a :: m) k = belK m k + (if a.key < k then 1 else 0) := by
      unfold belK
      rw [List.countP_cons]
      simp
    rw [hb]
    by_cases ha : a.key < k
    · rw [if_pos ha]
      cases i with
      | zero => simp [ha]
      | succ i =>
        have := ris_count k h2 i (by simpa using hi)
        simp at this ⊢
        exact this
    · rw [if_neg ha]
      have h0 : belK m k = 0 := by
        unfold belK
        rw [List.countP_eq_zero]
        intro e he
        have := h1 e he
        simp; omega
      rw [h0]
      cases i with
      | zero => simp; omega
      | succ i =>
        have := h1 _ (List.getElem_mem (by simpa using hi : i < m.length))
        simp; omega
/-- sorted entries from a key on -/
theorem ris_at {m : List Ent} {k : Int} (h : RisE m) (hlt : belK m k < m.length) : k ≤ (m[belK m k]'hlt).key := by
  have := (ris_count k h _ hlt)
  omega
theorem ris_look {m : List Ent} {k : Int} (h : RisE m) : look m k = if hlt : belK m k < m.length then (if (m[belK m k]'hlt).key = k then some (m[belK m k]'hlt) else none) else none := by
  cases hl : look m k with
  | some e =>
    obtain ⟨h1, h2⟩ := look_key hl
    obtain ⟨i, hi, he⟩ := List.getElem_of_mem h2
    have hK : belK m k = i := by
      have h3 := ris_count k h i hi
      rw [he] at h3
      have h4 : ¬ i < belK m k := fun hh => by have := h3.2 hh; omega
      have h5 : ¬ belK m k < i := fun hh => by
        have h6 := (List.pairwise_iff_getElem.1 h) (belK m k) i (by omega) hi hh
        have h7 := ris_count k h (belK m k) (by omega)
        rw [he] at h6
        omega
      omega
    subst hK
    rw [dif_pos hi, he, if_pos h1]
  | none =>
    have h2 := look_isNone hl
    split
    · rename_i hlt
      rw [if_neg (h2 _ (List.getElem_mem hlt))]
    · rfl
/-- what Lower tells, by the sorted entries -/
theorem low_inE {l : List Ent} {key : Int} (h : chkE l = 0) (hk : ¬ lowK l key = l.length) :
    ∃ hlt : belK (inL l) key < (inL l).length, entAt l (lowAt l key) = (inL l)[belK (inL l) key]'hlt ∧ lowAt l key < l.length := by
  obtain ⟨_, h2, h3⟩ := low_at h hk
  have hK : lowK l key = belK (inL l) key := by
    rw [lowK_bel]
    unfold belK
    exact ((inL_perm l).countP_eq _).symm
  have hlt : belK (inL l) key < (inL l).length := by
    rw [inL_length, ← hK]
    have := lowK_le l key
    omega
  refine ⟨hlt, ?_, h3⟩
  rw [inL_get]
  congr 1
  rw [hK] at h2
  exact (List.getElem?_eq_some_iff.1 h2).2.symm
theorem low_end {l : List Ent} {key : Int} (hk : lowK l key = l.length) : ¬ belK (inL l) key < (inL l).length := by
  have hK : lowK l key = belK (inL l) key := by
    rw [lowK_bel]
    unfold belK
    exact ((inL_perm l).countP_eq _).symm
  rw [inL_length, ← hK, hk]
  omega
/-- what Find tells, by the entries -/
theorem fd_look {l : List Ent} (key : Int) (h : chkE l = 0) :
    (fdE l key = 0 ∧ fdAt l key < l.length ∧ look l key = some (entAt l (fdAt l key))) ∨ (fdE l key = 6 ∧ look l key = none) := by
  by_cases hk : lowK l key = l.length
  · right
    have h6 := (low_six h hk).1
    refine ⟨by unfold fdE; rw [h6]; rfl, ?_⟩
    rw [look_in h, ris_look (chk_ris h), dif_neg (low_end hk)]
  · obtain ⟨hlt, h1, h2⟩ := low_inE h hk
    have h0 := (low_at h hk).1
    have hfe : fdE l key = if (entAt l (lowAt l key)).key = key then 0 else 6 := by unfold fdE; rw [h0]; rfl
    by_cases hkey : (entAt l (lowAt l key)).key = key
    · left
      rw [if_pos hkey] at hfe
      have hat : fdAt l key = lowAt l key := by unfold fdAt; rw [if_pos hfe]
      refine ⟨hfe, by rw [hat]; exact h2, ?_⟩
      rw [look_in h, ris_look (chk_ris h), dif_pos hlt, ← h1, if_pos hkey, hat]
    · right
      rw [if_neg hkey] at hfe
      refine ⟨hfe, ?_⟩
      rw [look_in h, ris_look (chk_ris h), dif_pos hlt, ← h1, if_neg hkey]
theorem fd_bad {l : List Ent} (key : Int) (h : ¬ chkE l = 0) : fdE l key = chkE l := by
  have := (low_bad key h).1
  unfold fdE
  rw [this, if_pos h]

def zeroE : Ent := ⟨0, 0, false⟩
/-- what Get tells -/
def gtE (l : List Ent) (key : Int) : Int := if chkE l = 0 then (if (look l key).isSome then 0 else 6) else chkE l
def gtX (l : List Ent) (key : Int) : Ent := if chkE l = 0 then (look l key).getD zeroE else zeroE
theorem gt_fd (l : List Ent) (key : Int) : gtE l key = fdE l key ∧ (fdE l key = 0 → fdAt l key < l.length ∧ gtX l key = entAt l (fdAt l key)) ∧ (fdE l key ≠ 0 → gtX l key = zeroE) := by
  unfold gtE gtX
  by_cases h : chkE l = 0
  · rw [if_pos h, if_pos h]
    rcases fd_look key h with ⟨h1, h2, h3⟩ | ⟨h1, h2⟩
    · rw [h1, h3]
      exact ⟨rfl, fun _ => ⟨h2, rfl⟩, fun hh => absurd rfl hh⟩
    · rw [h1, h2]
      exact ⟨rfl, fun hh => by omega, fun _ => rfl⟩
  · rw [if_neg h, if_neg h, fd_bad key h]
    exact ⟨rfl, fun hh => absurd hh h, fun _ => rfl⟩
theorem gt_vals (l : List Ent) (key : Int) : gtE l key = 0 ∨ gtE l key = 6 ∨ (chkE l ≠ 0 ∧ gtE l key = chkE l) := by
  unfold gtE
  split
  · split
    · exact .inl rfl
    · exact .inr (.inl rfl)
  · exact .inr (.inr ⟨by assumption, rfl⟩)

/-- what is found of a key in runs -/
def kfE (rs : List (List Ent)) (key : Int) : Int := if chkAllE rs = 0 then (if (newest rs key).isSome then 0 else 6) else chkAllE rs
def kfX (rs : List (List Ent)) (key : Int) : Ent := if chkAllE rs = 0 then (newest rs key).getD zeroE else zeroE
theorem newest_nil (key : Int) : newest [] key = none := rfl
theorem newest_append (rs qs : List (List Ent)) (key : Int) : newest (rs ++ qs) key = (newest rs key).or (newest qs key) := by
  induction rs with
  | nil => rfl
  | cons r rs ih => rw [List.cons_append, newest_cons, newest_cons, ih, Option.or_assoc]
theorem newest_succ {rs : List (List Ent)} {k : Nat} (h : k < rs.length) (key : Int) : newest (rs.take (k + 1)) key = (newest (rs.take k) key).or (look (rs[k]'h) key) := by
  rw [List.take_succ_eq_append_getElem h, newest_append, newest_cons, newest_nil, Option.or_none]
theorem chkAll_take {rs : List (List Ent)} {k : Nat} (h : k < rs.length) (h0 : chkAllE (rs.take k) = 0) : chkAllE (rs.take (k + 1)) = chkE (rs[k]'h) ∧ (chkE (rs[k]'h) ≠ 0 → chkAllE rs = chkE (rs[k]'h)) := by
  have key : ∀ (a b : List (List Ent)), chkAllE a = 0 → chkAllE (a ++ b) = chkAllE b := by
    intro a b ha
    induction a with
    | nil => rfl
    | cons r a ih =>
      rw [chkAllE] at ha
      by_cases h1 : chkE r = 0
      · rw [if_pos h1] at ha
        rw [List.cons_append, chkAllE, if_pos h1, ih ha]
      · rw [if_neg h1] at ha
        exact absurd ha h1
  constructor
  · rw [List.take_succ_eq_append_getElem h, key _ _ h0, chkAllE, chkAllE]
    split
    · rename_i h; exact h.symm
    · rfl
  · intro hne
    have h2 := key (rs.take k) (rs.drop k) h0
    rw [List.take_append_drop, List.drop_eq_getElem_cons h, chkAllE, if_neg hne] at h2
    exact h2
theorem newest_in {rs : List (List Ent)} (h : chkAllE rs = 0) (key : Int) : newest (rs.map inL) key = newest rs key := by
  induction rs with
  | nil => rfl
  | cons r rs ih =>
    have h1 := chkAll_ok h r (by simp)
    have h2 : chkAllE rs = 0 := chkAll_zero fun q hq => chkAll_ok h q (by simp [hq])
    rw [List.map_cons, newest_cons, newest_cons, ih h2, look_in h1]
theorem ins_ris {rs : List (List Ent)} (h : chkAllE rs = 0) : ∀ r ∈ rs.map inL, RisE r := by
  intro r hr
  obtain ⟨q, hq, rfl⟩ := List.mem_map.1 hr
  exact chk_ris (chkAll_ok h q hq)
/-- what is found in runs merged -/
theorem mL_look {rs : List (List Ent)} (h : mE rs = 0) (key : Int) : look (mL rs false) key = newest rs key := by
  have hc := mE_chk h
  have hr := all_ris (ins_ris hc)
  rw [look_in (mL_chk false h), mL_in false h]
  show look (allE (rs.map inL)) key = _
  have := (fold_law (rs.map inL) RisE.nil (ins_ris hc)).2 key
  unfold allE
  rw [this]
  have h2 : look ([] : List Ent) key = none := rfl
  rw [h2, Option.none_or, newest_in hc]
theorem look_live {l : List Ent} (hr : RisE l) (key : Int) : look (liveE l) key = (look l key).bind (fun e => if e.dead then none else some e) := by
  cases h : look l key with
  | none =>
    have h2 := look_isNone h
    cases h3 : look (liveE l) key with
    | none => rfl
    | some e =>
      obtain ⟨h4, h5⟩ := look_key h3
      exact absurd h4 (h2 e (List.mem_filter.1 h5).1)
  | some e =>
    obtain ⟨h1, h2⟩ := look_key h
    show _ = if e.dead then none else some e
    cases hd : e.dead with
    | false =>
      have := look_mem (live_ris hr) (List.mem_filter.2 ⟨h2, by simp [hd]⟩ : e ∈ liveE l)
      rw [h1] at this
      rw [this]; rfl
    | true =>
      cases h3 : look (liveE l) key with
      | none => rfl
      | some x =>
        obtain ⟨h4, h5⟩ := look_key h3
        obtain ⟨h6, h7⟩ := List.mem_filter.1 h5
        have := look_mem hr h6
        rw [h4, h] at this
        obtain rfl := Option.some.inj this
        rw [hd] at h7
        simp at h7
theorem mL_look_bare {rs : List (List Ent)} (h : mE rs = 0) (key : Int) : look (mL rs true) key = (newest rs key).bind (fun e => if e.dead then none else some e) := by
  have hc := mE_chk h
  have hr := all_ris (ins_ris hc)
  rw [look_in (mL_chk true h), mL_in true h]
  show look (liveE (allE (rs.map inL))) key = _
  rw [look_live hr]
  have := (fold_law (rs.map inL) RisE.nil (ins_ris hc)).2 key
  have h2 : look ([] : List Ent) key = none := rfl
  rw [h2, Option.none_or, newest_in hc] at this
  show (look (List.foldl bothE [] (rs.map inL)) key).bind _ = _
  rw [this]
end Go.Proofs.YtolclahkfmplfaaDoor
