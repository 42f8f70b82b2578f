/- Gu G9 Hb Ha: texts of the claim, in this order. -/
import Derived.Test.YthbppblmecdekaaGreatDoorWg11
import Derived.Test.YthbppblmecdekaaGreatDoorWg1
import Derived.Deep.RegionHeld3
import Derived.Test.YthbppblmecdekaaGreatDoorWg12
import Derived.Deep.LoopGhost
import Derived.Test.YthbppblmecdekaaGreatDoorWg8
/- Contracts: the reference's Get, Newest, kway.Find, the reference's Find; copies of runs, and whether runs are the same. -/
namespace Go.Proofs.YthbppblmecdekaaGreatDoor
open Go Go.RowKit
set_option maxRecDepth 100000




theorem run_info1 : (Tryz.prog.info? 74).map (fun i => (i.zero, i.size, i.bytes)) = some (some (.agg #[.slice none 0 0]), 1, 24) := by kernel_rfl
/-- hands back copies of runs, in new memory -/
def GivesTwins (ls : List (List Ent)) (w : World) (r : Ending) (w' : World) : Prop :=
  ∃ (A : Option Addr) (c : Nat) (Ts : List Rm), r = .returned (.slice A Ts.length c) ∧ Ts.map Rm.l = ls ∧ RunsAt w' A Ts ∧ Below w.heap.size w w'
set_option maxHeartbeats 2000000 in
theorem twins_any (B : Option Addr) (Rs : List Rm) (c : Nat) (w : World) (hB : RunsAt w B Rs) (hl : Rs.length ≤ 1000000) (hrs : ∀ r ∈ Rs, r.l.length ≤ 1000000) :
    Calls Tryz.prog 75 #[.slice B Rs.length c] w (GivesTwins (Rs.map Rm.l) w) := by
  obtain ⟨te0, hI⟩ := info_parts run_info1
  have HI := Lib.hid hI
  have HB := Lib.hid hB
  have HHR := Lib.hid hrs
  clear hI hB hrs
  go_enter Tryz.func75, Tryz.ntmps75
  go_wp2
  go_loopw [3, 4] (fun v i wr => ∃ (k : Nat) (Ts : List Rm) (A' : Option Addr) (c' : Nat), k ≤ Rs.length ∧ i = .int .i64 k ∧ Below w.heap.size w wr ∧ v = .slice A' k c' ∧ Hid (Ts.length = k) ∧
      wr.ownsRow w.heap.size 74 1 (.slice A' k c') k (Ts.map Rm.v) ∧ (∀ s ∈ Ts, wr.ownsRow w.heap.size 71 3 s.v s.l.length (s.l.flatMap Ent.cells)) ∧ Hid (Ts.map Rm.l = (Rs.map Rm.l).take k)) (fun _ i _ => Rs.length - (intOf i).toNat)
  case atStart => exact ⟨0, [], none, 0, Nat.zero_le _, rfl, Below.refl _ _, rfl, rfl, World.ownsRow_nil _ _ _ _, by simp, rfl⟩
  case round =>
    obtain ⟨k, Ts, A', c', hk, rfl, hb, rfl, hTk, hown, hS, hin⟩ := hrel
    have hbs := hb.size
    by_cases hlt : k < Rs.length
    · obtain ⟨b, off, rfl, hbl, cp⟩ := HB.out.sl.oneB hb k hlt
      have hok := (HB.out.ok _ (List.getElem_mem hlt)).below hb
      have hrl := HHR.out _ (List.getElem_mem hlt)
      have hin2 : (Rs.map Rm.l).take (k + 1) = (Rs.map Rm.l).take k ++ [(Rs[k]'hlt).l] := by
        rw [List.take_succ_eq_append_getElem (by simpa using hlt)]; simp
      obtain ⟨r, hr⟩ : ∃ r, Rs[k]'hlt = r := ⟨_, rfl⟩
      rw [hr] at cp hok hrl hin2
      obtain ⟨l, A, cl⟩ := r
      have cp1 : wr.cell? ⟨b, off + k, none⟩ = some (.slice A l.length cl) := cp
      dsimp only at hrl hin2
      have hki : (0 : Int) ≤ (k : Int) := by omega
      have hki2 : (k : Int) < (Rs.length : Int) := by omega
      have HOK := Lib.hid hok.sl
      have HIN := Lib.hid hin2
      have HOW := Lib.hid hown
      have HSS := Lib.hid hS
      clear cp hr hok hin2 hown hS
      go_wp2_with fail
      refine (refTwin_any A l cl _ HOK.out hrl).mono ?_
      rintro e w1 ⟨A1, c1, rfl, ho1, hb1⟩
      have HO1 := Lib.hid (own_mono (B' := w.heap.size) ho1 (by omega))
      have HOW1 := Lib.hid (own_below HOW.out hb1)
      have hs1 := hb1.size
      clear ho1 cp1
      go_wp2_with (at_builtin; refine wpList_append_sl _ rfl (.tmp 11) (.tmp 17) _ rfl w.heap.size 74 te0 _ 1 24 Tryz.underlying24 HI.out.1 HI.out.2.1 HI.out.2.2.1 HI.out.2.2.2 rfl (by omega) (.slice A' k c') k _ rfl (HOW1.out.alloc _) _ 1 _ [.slice A1 l.length c1] rfl (by exact sl_new1 _ _ _) rfl (by simp [Value.oneCell']) (by unfold maxLen; omega) (by omega) (by simp; omega) ?_; intro v2 w2 hown2 hg2; obtain ⟨A2, q2, rfl, hle2, hmx2⟩ := own_form hown2; have HO2 := Lib.hid hown2; clear hown2)
      go_roundw
      case rel =>
        refine ⟨k + 1, Ts ++ [⟨l, A1, c1⟩], A2, q2, by omega, by go_num, ?_, rfl, ?_, ?_, ?_, ?_⟩
        · exact ((bext hb hb1).alloc (by omega) _).grown hg2 (by simp; omega) (fun q hq => (HOW1.out.lt q hq).1)
        · show _ = _
          rw [List.length_append, hTk.out]; rfl
        · rw [List.map_append]; exact HO2.out
        · intro s hs
          refine own_grow hg2 (HOW1.out.alloc _) ?_ (by decide)
          rcases List.mem_append.1 hs with hs | hs
          · exact (own_below (HSS.out s hs) hb1).alloc _
          · obtain rfl : s = ⟨l, A1, c1⟩ := by simpa using hs
            exact HO1.out.alloc _
        · show _ = _
          rw [List.map_append, hin.out, HIN.out]; rfl
      case measure => simp [intOf]; omega
    · have hkn : k = Rs.length := by omega
      have HIN : Hid (Ts.map Rm.l = Rs.map Rm.l) := by show _ = _; rw [hin.out, List.take_of_length_le (by simp; omega)]
      have HTN : Hid (Ts.length = k) := hTk
      have hO : RunsAt wr A' Ts := by
        refine ⟨own_sl hown, fun s hs => ?_⟩
        have h1 := hS s hs
        obtain ⟨A3, c3, h3, h4, h5⟩ := own_form h1
        obtain ⟨ls, As, cs⟩ := s
        have h6 : As = A3 ∧ cs = c3 := by simpa [Rm.v] using h3
        obtain ⟨rfl, rfl⟩ := h6
        exact ⟨own_sl h1, h4, h5⟩
      have HO := Lib.hid hO
      clear hkn hO hown hS hin hTk
      go_wp2
      go_ret
      exact ⟨A', c', Ts, by rw [HTN.out]; rfl, HIN.out, HO.out, hb⟩

set_option maxHeartbeats 1000000 in
theorem sameAll_yes (B D : Option Addr) (Rs Ts : List Rm) (n c d : Nat) (w : World) (hn : Ts.length = n) (hB : RunsAt w B Rs) (hD : RunsAt w D Ts) (he : Ts.map Rm.l = Rs.map Rm.l) (hl : Rs.length ≤ 1000000) (hrs : ∀ r ∈ Rs, r.l.length ≤ 1000000) :
    Calls Tryz.prog 97 #[.slice D n d, .slice B Rs.length c] w fun r w' => r = .returned (.bool true) ∧ Below w.heap.size w w' := by
  have hlen : Ts.length = Rs.length := by have := congrArg List.length he; simpa using this
  obtain rfl : n = Rs.length := by omega
  have HB := Lib.hid hB
  have HD := Lib.hid hD
  have HE := Lib.hid he
  have HLL := Lib.hid hlen
  have HHR := Lib.hid hrs
  clear hB hD he hlen hn hrs
  go_enter Tryz.func97, Tryz.ntmps97
  go_wp2
  go_loopw [5] (fun i wr => ∃ k : Nat, k ≤ Rs.length ∧ i = .int .i64 k ∧ Below w.heap.size w wr) (fun i _ => Rs.length - (intOf i).toNat)
  case atStart => exact ⟨0, Nat.zero_le _, rfl, Below.refl _ _⟩
  case round =>
    obtain ⟨k, hk, rfl, hb⟩ := hrel
    by_cases hlt : k < Rs.length
    · have hlt2 : k < Ts.length := by rw [HLL.out]; exact hlt
      obtain ⟨b, off, rfl, hbl, cp⟩ := HB.out.sl.oneB hb k hlt
      obtain ⟨b2, off2, rfl, hbl2, cq⟩ := HD.out.sl.oneB hb k hlt2
      have hok := (HB.out.ok _ (List.getElem_mem hlt)).below hb
      have hok2 := (HD.out.ok _ (List.getElem_mem hlt2)).below hb
      have hll : (Ts[k]'hlt2).l = (Rs[k]'hlt).l := by
        have h := HE.out
        have h2 : (Ts.map Rm.l)[k]? = (Rs.map Rm.l)[k]? := by rw [h]
        simpa [hlt, hlt2] using h2
      have hrl := HHR.out _ (List.getElem_mem hlt)
      obtain ⟨r, hr⟩ : ∃ r, Rs[k]'hlt = r := ⟨_, rfl⟩
      obtain ⟨s, hs⟩ : ∃ s, Ts[k]'hlt2 = s := ⟨_, rfl⟩
      rw [hr] at cp hok hll hrl
      rw [hs] at cq hok2 hll
      obtain ⟨l, A, cl⟩ := r
      obtain ⟨l2, A2, cl2⟩ := s
      dsimp only at hll
      subst hll
      have cp1 : wr.cell? ⟨b, off + k, none⟩ = some (.slice A l2.length cl) := cp
      have cq1 : wr.cell? ⟨b2, off2 + k, none⟩ = some (.slice A2 l2.length cl2) := cq
      dsimp only at hrl
      have htw : ∀ W, Below wr.heap.size wr W → Calls Tryz.prog 133 #[.agg #[.slice A2 l2.length cl2], .agg #[.slice A l2.length cl]] W (fun r w' => r = .returned (.bool true) ∧ Below W.heap.size W w') := by
        intro W hW
        have h8 := refSame_any A2 A l2 l2 cl2 cl W (hok2.sl.below hW) (hok.sl.below hW) (by omega) (by omega)
        rw [decide_eq_true rfl] at h8
        exact h8
      have HTW := Lib.hid htw
      have lb1 : b < wr.heap.size := Nat.lt_of_lt_of_le hbl hb.size
      have lb2 : b2 < wr.heap.size := Nat.lt_of_lt_of_le hbl2 hb.size
      have hki : (0 : Int) ≤ (k : Int) := by omega
      have hki2 : (k : Int) < (Rs.length : Int) := by omega
      clear cp cq hr hs hok hok2 htw hbl hbl2
      go_upto_region 6 with fail
      go_cut [26] from 17 to 26 (fun v wx => v = .bool false ∧ Below wr.heap.size wr wx)
      case first =>
        go_region_held3 (fun w' => (∀ bq jq, bq < wr.heap.size → w'.cell? ⟨bq, jq, none⟩ = wr.cell? ⟨bq, jq, none⟩) ∧ (∀ bq jq, bq < wr.heap.size → w'.frozen? ⟨bq, jq, none⟩ = wr.frozen? ⟨bq, jq, none⟩) ∧ wr.heap.size ≤ w'.heap.size ∧ Below wr.heap.size wr w') ((with_reducible first | exact SB.init | exact SB.init0 | exact SB.below (by assumption) (by assumption) | assumption))
          (first
            | (go_at_call 133; refine (HTW.out _ (SB.bel (by assumption))).mono ?_; rintro e22 v22 ⟨rfl, hv22⟩; have hl22 := SB.le hv22 (by assumption); obtain ⟨hc22, hz22, hs22⟩ := wfacts hv22)
            | fail "no arm")
        all_goals
          go_wp2_with fail
          go_meet
          exact ⟨by simp, SB.bel (by assumption)⟩
      case rest =>
        obtain ⟨rfl, hbx⟩ := hcut
        clear cp1 cq1
        go_wp2
        go_roundw
        case rel => exact ⟨k + 1, by omega, by go_num, bext hb hbx⟩
        case measure => simp [intOf]; omega
    · go_wp2
      go_ret
      exact ⟨rfl, hb⟩
end Go.Proofs.YthbppblmecdekaaGreatDoor

/- Contracts: copies of levels. -/
namespace Go.Proofs.YthbppblmecdekaaGreatDoor
open Go Go.RowKit
set_option maxRecDepth 100000
set_option maxHeartbeats 2000000 in
theorem twinsO_any (B : Option Addr) (Rs : List Rm) (c : Nat) (w : World) (hB : RunsAt w B Rs) (hl : Rs.length ≤ 1000000) (hrs : ∀ r ∈ Rs, r.l.length ≤ 1000000) :
    Calls Tryz.prog 75 #[.slice B Rs.length c] w (GivesLs (lvs Rs) w) := by
  obtain ⟨te0, hI⟩ := info_parts run_info1
  have HI := Lib.hid hI
  have HB := Lib.hid hB
  have HHR := Lib.hid hrs
  clear hI hB hrs
  go_enter Tryz.func75, Tryz.ntmps75
  go_wp2
  go_loopw [3, 4] (fun v i wr => ∃ (k : Nat) (Ts : List Rm) (A' : Option Addr) (c' : Nat), k ≤ Rs.length ∧ i = .int .i64 k ∧ Below w.heap.size w wr ∧ v = .slice A' k c' ∧ Hid (Ts.length = k) ∧
      wr.ownsRow w.heap.size 74 1 (.slice A' k c') k (Ts.map Rm.v) ∧ (∀ s ∈ Ts, wr.ownsRow w.heap.size 71 3 s.v s.l.length (s.l.flatMap Ent.cells)) ∧ Hid (Ts.map Rm.l = (Rs.map Rm.l).take k)) (fun _ i _ => Rs.length - (intOf i).toNat)
  case atStart => exact ⟨0, [], none, 0, Nat.zero_le _, rfl, Below.refl _ _, rfl, rfl, World.ownsRow_nil _ _ _ _, by simp, rfl⟩
  case round =>
    obtain ⟨k, Ts, A', c', hk, rfl, hb, rfl, hTk, hown, hS, hin⟩ := hrel
    have hbs := hb.size
    by_cases hlt : k < Rs.length
    · obtain ⟨b, off, rfl, hbl, cp⟩ := HB.out.sl.oneB hb k hlt
      have hok := (HB.out.ok _ (List.getElem_mem hlt)).below hb
      have hrl := HHR.out _ (List.getElem_mem hlt)
      have hin2 : (Rs.map Rm.l).take (k + 1) = (Rs.map Rm.l).take k ++ [(Rs[k]'hlt).l] := by
        rw [List.take_succ_eq_append_getElem (by simpa using hlt)]; simp
      obtain ⟨r, hr⟩ : ∃ r, Rs[k]'hlt = r := ⟨_, rfl⟩
      rw [hr] at cp hok hrl hin2
      obtain ⟨l, A, cl⟩ := r
      have cp1 : wr.cell? ⟨b, off + k, none⟩ = some (.slice A l.length cl) := cp
      dsimp only at hrl hin2
      have hki : (0 : Int) ≤ (k : Int) := by omega
      have hki2 : (k : Int) < (Rs.length : Int) := by omega
      have HOK := Lib.hid hok.sl
      have HIN := Lib.hid hin2
      have HOW := Lib.hid hown
      have HSS := Lib.hid hS
      clear cp hr hok hin2 hown hS
      go_wp2_with fail
      refine (refTwin_any A l cl _ HOK.out hrl).mono ?_
      rintro e w1 ⟨A1, c1, rfl, ho1, hb1⟩
      have HO1 := Lib.hid (own_mono (B' := w.heap.size) ho1 (by omega))
      have HOW1 := Lib.hid (own_below HOW.out hb1)
      have hs1 := hb1.size
      clear ho1 cp1
      go_wp2_with (at_builtin; refine wpList_append_sl _ rfl (.tmp 11) (.tmp 17) _ rfl w.heap.size 74 te0 _ 1 24 Tryz.underlying24 HI.out.1 HI.out.2.1 HI.out.2.2.1 HI.out.2.2.2 rfl (by omega) (.slice A' k c') k _ rfl (HOW1.out.alloc _) _ 1 _ [.slice A1 l.length c1] rfl (by exact sl_new1 _ _ _) rfl (by simp [Value.oneCell']) (by unfold maxLen; omega) (by omega) (by simp; omega) ?_; intro v2 w2 hown2 hg2; obtain ⟨A2, q2, rfl, hle2, hmx2⟩ := own_form hown2; have HO2 := Lib.hid hown2; clear hown2)
      go_roundw
      case rel =>
        refine ⟨k + 1, Ts ++ [⟨l, A1, c1⟩], A2, q2, by omega, by go_num, ?_, rfl, ?_, ?_, ?_, ?_⟩
        · exact ((bext hb hb1).alloc (by omega) _).grown hg2 (by simp; omega) (fun q hq => (HOW1.out.lt q hq).1)
        · show _ = _
          rw [List.length_append, hTk.out]; rfl
        · rw [List.map_append]; exact HO2.out
        · intro s hs
          refine own_grow hg2 (HOW1.out.alloc _) ?_ (by decide)
          rcases List.mem_append.1 hs with hs | hs
          · exact (own_below (HSS.out s hs) hb1).alloc _
          · obtain rfl : s = ⟨l, A1, c1⟩ := by simpa using hs
            exact HO1.out.alloc _
        · show _ = _
          rw [List.map_append, hin.out, HIN.out]; rfl
      case measure => simp [intOf]; omega
    · have hkn : k = Rs.length := by omega
      have HIN : Hid (Ts.map Rm.l = Rs.map Rm.l) := by show _ = _; rw [hin.out, List.take_of_length_le (by simp; omega)]
      have HTN : Hid (Ts.length = k) := hTk
      have hO : OwnRs wr w.heap.size A' c' Ts := ⟨by rw [HTN.out]; exact hown, hS⟩
      have HO := Lib.hid hO
      clear hkn hO hown hS hin hTk
      go_wp2
      go_ret
      exact ⟨A', c', Ts, by rw [HTN.out]; rfl, HIN.out, HO.out, hb⟩
/-- a result that lies in a box of two cells -/
theorem box2 {w : World} {g : Nat} {t : TypeId} {x0 x1 : Value} (h : Blk w g t #[x0, x1]) (y0 y1 : Value) : Blk ((w.setCell ⟨g, 0, none⟩ y0).setCell ⟨g, 1, none⟩ y1) g t #[y0, y1] := by
  have := (h.set_ 0 y0).set_ 1 y1
  simpa using this
theorem below2 {B : Nat} {a w : World} {g : Nat} (h : Below B a w) (hg : B ≤ g) (y0 y1 : Value) : Below B a ((w.setCell ⟨g, 0, none⟩ y0).setCell ⟨g, 1, none⟩ y1) :=
  (h.setCell (p := ⟨g, 0, none⟩) hg _).setCell (p := ⟨g, 1, none⟩) hg _
theorem OwnRs.set2 {w : World} {B0 g : Nat} {B : Option Addr} {c : Nat} {Rs : List Rm} {t : TypeId} {x0 x1 : Value} (h : OwnRs w B0 B c Rs) (hB : Blk w g t #[x0, x1]) (h1 : 74 ≠ t) (h2 : 71 ≠ t) (y0 y1 : Value) : OwnRs ((w.setCell ⟨g, 0, none⟩ y0).setCell ⟨g, 1, none⟩ y1) B0 B c Rs :=
  (h.setT hB h1 h2 0 y0).setT (hB.set_ 0 y0) h1 h2 1 y1
set_option maxHeartbeats 2000000 in
theorem twin26_any (B : Option Addr) (Rs : List Rm) (c : Nat) (n : Int) (w : World) (hB : RunsAt w B Rs) (hl : Rs.length ≤ 1000000) (hrs : ∀ r ∈ Rs, r.l.length ≤ 1000000) :
    Calls Tryz.prog 37 #[.agg #[.slice B Rs.length c, .int .u64 n]] w (GivesRg (lvs Rs) n w) := by
  obtain ⟨W0, hW0⟩ : ∃ W0, (w.alloc (.cells #[.slice B Rs.length c, .int .u64 n] 27)).alloc (.cells #[.slice none 0 0, .int .u64 0] 27) = W0 := ⟨_, rfl⟩
  have hb0 : Below w.heap.size w W0 := by rw [← hW0]; exact ((Below.refl _ _).alloc (Nat.le_refl _) _).alloc (by simp) _
  have b1 : Blk W0 w.heap.size 27 #[.slice B Rs.length c, .int .u64 n] := by rw [← hW0]; exact (Blk.new _ _ _).alloc _
  have b2 : Blk W0 (w.heap.size + 1) 27 #[.slice none 0 0, .int .u64 0] := by
    rw [← hW0]
    have := Blk.new (w.alloc (.cells #[.slice B Rs.length c, .int .u64 n] 27)) 27 #[.slice none 0 0, .int .u64 0]
    rwa [World.size_alloc] at this
  have hs0 : W0.heap.size = w.heap.size + 2 := by rw [← hW0]; simp
  have HW0 := Lib.hid hW0
  have HS0 := Lib.hid hs0
  have HB := Lib.hid hB
  have HHR := Lib.hid hrs
  clear hW0 hB hrs hs0
  go_enter Tryz.func37, Tryz.ntmps37
  go_upto_region 1 with fail
  rw [HW0.out]
  have l1 := b1.lt
  have l2 := b2.lt
  have c10 : W0.cell? ⟨w.heap.size, 0, none⟩ = some (.slice B Rs.length c) := b1.cell 0
  have c11 : W0.cell? ⟨w.heap.size, 1, none⟩ = some (.int .u64 n) := b1.cell 1
  have c20 : W0.cell? ⟨w.heap.size + 1, 0, none⟩ = some (.slice none 0 0) := b2.cell 0
  have c21 : W0.cell? ⟨w.heap.size + 1, 1, none⟩ = some (.int .u64 0) := b2.cell 1
  have f20 := b2.frozen 0
  have f21 := b2.frozen 1
  go_region_with (go_at_call 75; refine (twinsO_any B Rs c _ (HB.out.below (bext hb0 (by first | exact (Below.refl _ _).drew | exact Below.refl _ _))) hl HHR.out).mono ?_; rintro e w5 ⟨A5, c5, Ts5, rfl, h51, h52, hb5⟩; have hb6 : Below W0.heap.size W0 w5 := (by first | exact hb5 | exact bext ((Below.refl _ _).drew) hb5); have d10 : w5.cell? ⟨w.heap.size, 0, none⟩ = some (.slice B Rs.length c) := ((bcell hb6).1 _ _ l1).trans c10; have d11 : w5.cell? ⟨w.heap.size, 1, none⟩ = some (.int .u64 n) := ((bcell hb6).1 _ _ l1).trans c11; have b25 := b2.below hb6 l2; have d20 : w5.cell? ⟨w.heap.size + 1, 0, none⟩ = some (.slice none 0 0) := b25.cell 0; have d21 : w5.cell? ⟨w.heap.size + 1, 1, none⟩ = some (.int .u64 0) := b25.cell 1; have e20 := b25.frozen 0; have e21 := b25.frozen 1; have H51 := Lib.hid h51; have H52 := Lib.hid h52; have H6 := Lib.hid hb6; clear h51 h52 hb5 hb6)
  all_goals
    go_wp2_with fail
    have hbx := box2 b25 (.slice A5 Ts5.length c5) (.int .u64 n)
    have e0 := hbx.cell 0
    have e1 := hbx.cell 1
    refine bodyPost_ret (v := .agg #[.slice A5 Ts5.length c5, .int .u64 n]) (by first | (simp [results, Tryz.results37, go_sem, e0, e1]; done) | (simp at e0 e1; simp [results, Tryz.results37, go_sem, e0, e1])) rfl ?_
    exact ⟨A5, c5, Ts5, rfl, H51.out, (H52.out.mono (by simp [HS0.out])).set2 b25 (by decide) (by decide) _ _, below2 (bext hb0 H6.out) (Nat.le_succ _) _ _⟩
end Go.Proofs.YthbppblmecdekaaGreatDoor

/- Contracts: the reference's levels (stand, Alone). -/
namespace Go.Proofs.YthbppblmecdekaaGreatDoor
open Go Go.RowKit
set_option maxRecDepth 100000
/-- writes in memory of the call's own -/
theorem OwnRs.belowB {w w' : World} {B0 : Nat} {B : Option Addr} {c : Nat} {Rs : List Rm} (h : OwnRs w B0 B c Rs) (hb : Below w.heap.size w w') : OwnRs w' B0 B c Rs := h.below hb
theorem pad_eq {Ts Ts3 : Lv} {U : Nat} (_h1 : Ts.length ≤ Ts3.length) (h2 : Ts3.length ≤ max Ts.length (U + 1)) (h3 : U < Ts3.length) : padTo Ts Ts3.length = padTo Ts (U + 1) := by
  by_cases h4 : Ts.length ≤ U
  · rw [show Ts3.length = U + 1 by omega]
  · rw [pad_same _ (by omega), pad_same _ (by omega)]
theorem stand_grow {w : World} {B0 n d3 : Nat} {A3 : Option Addr} {Ts3 : List Rm} {v5 : Value} {w5 : World} {g : Nat} {t : TypeId} {cs : Array Value} (o : Obj) (hr : OwnRs w B0 A3 d3 Ts3) (hB : Blk w g t cs) (hne : ∀ q, A3 = some q → q.block ≠ g)
    (hn : n = Ts3.length + 1) (ho : w5.ownsRow B0 74 1 v5 n (Ts3.map Rm.v ++ [.slice none 0 0])) (hg : (w.alloc o).grownBy w5 (Value.slice A3 Ts3.length d3).ownBlock) (hk : v5.ownBlock = (Value.slice A3 Ts3.length d3).ownBlock ∨ v5.ownBlock = some (w.alloc o).heap.size) (hlt : g < w.heap.size) :
    ∃ A5 d5, v5 = .slice A5 n d5 ∧ OwnRs w5 B0 A5 d5 (Ts3 ++ [⟨[], none, 0⟩]) ∧ Blk w5 g t cs ∧ (∀ q, A5 = some q → q.block ≠ g) := by
  subst hn
  obtain ⟨A5, d5, h1, _, _⟩ := own_form ho
  subst h1
  refine ⟨A5, d5, rfl, OwnRs.push (hr.alloc o) ⟨[], none, 0⟩ (own_empty _ _) ho hg, (hB.alloc o).grown hg ?_, fun q hq => ?_⟩
  · intro h
    cases A3 with
    | none => simp [Value.ownBlock] at h
    | some q => exact hne q rfl (by simpa [Value.ownBlock] using h)
  · subst hq
    rcases hk with h1 | h1
    · cases A3 with
      | none => simp [Value.ownBlock] at h1
      | some q3 => have := hne q3 rfl; simp [Value.ownBlock] at h1; omega
    · simp [Value.ownBlock] at h1; omega
set_option maxHeartbeats 4000000 in
/-- 'B0': a block number from which on memory is the caller's own -/
theorem stand26_any (B Al : Option Addr) (Rs : List Rm) (l : List Ent) (c cl B0 : Nat) (w : World) (hB : OwnRs w B0 B c Rs) (hA : w.ownsRow B0 71 3 (.slice Al l.length cl) l.length (l.flatMap Ent.cells)) (hl : Rs.length ≤ 17) (hl6 : l.length ≤ 65536) (hB0 : B0 ≤ w.heap.size) :
    Calls Tryz.prog 140 #[.slice B Rs.length c, .agg #[.slice Al l.length cl]] w fun r w' => ∃ A d Ts, r = .returned (.slice A Ts.length d) ∧ lvs Ts = standL (lvs Rs) l ∧ OwnRs w' B0 A d Ts ∧ Below B0 w w' := by
  obtain ⟨te0, hI⟩ := info_parts run_info1
  have HI := Lib.hid hI
  obtain ⟨W0, hW0⟩ : ∃ W0, w.alloc (.cells #[.slice Al l.length cl] 74) = W0 := ⟨_, rfl⟩
  have hb0 : Below w.heap.size w W0 := by rw [← hW0]; exact (Below.refl _ _).alloc (Nat.le_refl _) _
  have b1 : Blk W0 w.heap.size 74 #[.slice Al l.length cl] := by rw [← hW0]; exact Blk.new _ _ _
  have c10 : W0.cell? ⟨w.heap.size, 0, none⟩ = some (.slice Al l.length cl) := b1.cell 0
  have hs0 : W0.heap.size = w.heap.size + 1 := by rw [← hW0]; simp
  have HW0 := Lib.hid hW0
  have HB := Lib.hid (hB.below hb0)
  have HA := Lib.hid (own_below hA hb0)
  have hneB : Hid (∀ q, B = some q → q.block ≠ w.heap.size) := fun q hq => by
    have := (hB.row.lt q.block (by rw [hq]; simp [Value.ownBlock])).2
    omega
  clear hW0 hB hA hI
  go_enter Tryz.func140, Tryz.ntmps140
  by_cases h0 : l.length = 0
  · have hnil : l = [] := List.eq_nil_of_length_eq_zero h0
    subst hnil
    clear h0
    go_wp2
    go_ret
    have e1 : w.alloc (.cells #[.slice Al 0 cl] 74) = W0 := HW0.out
    first
    | (rw [e1]; exact ⟨B, c, Rs, rfl, (stand_nil _).symm, HB.out, hb0.mono hB0⟩)
    | exact ⟨B, c, Rs, rfl, (stand_nil _).symm, HB.out, hb0.mono hB0⟩
  · have hpos : ¬ ((l.length : Int) = 0) := by omega
    have hne2 : Hid (¬ l = []) := by
      show ¬ l = []
      intro h; apply h0; rw [h]; rfl
    have hl0 : 0 < l.length := by omega
    have HL0 := Lib.hid hl0
    have HL6 := Lib.hid hl6
    obtain ⟨U, hU⟩ : ∃ U, up l.length = U := ⟨_, rfl⟩
    have hU16 : U ≤ 16 := by rw [← hU]; exact up_16 hl6
    have HU := Lib.hid hU
    have hx : ¬ l = [] := hne2.out
    clear hU h0
    go_wp2_with fail
    rw [HW0.out]
    refine (ceil_any l.length _ HL0.out HL6.out).mono ?_
    rw [HU.out]
    rintro e w2 ⟨rfl, rfl⟩
    clear hx
    go_wp2_with fail
    go_loopg [0] (U + 1 - Rs.length) (fun gk v wr => ∃ (Ts : List Rm) (A : Option Addr) (d : Nat), v = .slice A Ts.length d ∧ Below B0 w wr ∧ Blk wr w.heap.size 74 #[.slice Al l.length cl] ∧ w.heap.size < wr.heap.size ∧ Ts.length ≤ 17 ∧
      Hid (OwnRs wr B0 A d Ts ∧ (∀ q, A = some q → q.block ≠ w.heap.size) ∧ lvs Ts = padTo (lvs Rs) Ts.length ∧ Rs.length ≤ Ts.length ∧ Ts.length ≤ max Rs.length (U + 1) ∧ gk = U + 1 - Ts.length ∧ wr.ownsRow B0 71 3 (.slice Al l.length cl) l.length (l.flatMap Ent.cells)))
    case atStart => exact ⟨Rs, B, c, rfl, hb0.mono hB0, b1, by omega, hl, HB.out, hneB.out, by rw [pad_same _ (by rw [lvs_len]; exact Nat.le_refl _)], Nat.le_refl _, by omega, rfl, HA.out⟩
    case round =>
      obtain ⟨Ts, A, d, rfl, hb, bX, hlx, h17, hH⟩ := hrel
      have cX : wr.cell? ⟨w.heap.size, 0, none⟩ = some (.slice Al l.length cl) := bX.cell 0
      by_cases hle : Ts.length ≤ U
      · have g1 : (Ts.length : Int) ≤ (U : Int) := by omega
        have HT1 : Hid (Ts.length ≤ U) := hle
        clear cX c10
        go_wp2_with (at_builtin; refine wpList_append_at _ rfl (.tmp 19) (.tmp 21) _ rfl B0 74 te0 _ 1 24 Tryz.underlying24 HI.out.1 HI.out.2.1 HI.out.2.2.1 HI.out.2.2.2 rfl (by omega) (.slice A Ts.length d) Ts.length _ rfl (hH.out.1.row.alloc _) wr.heap.size 1 _ [.slice none 0 0] rfl (by intro j u hu; rw [(Blk.new wr 74 #[.slice none 0 0]).cell j]; simpa using hu) rfl (by simp [Value.oneCell']) (by unfold maxLen; omega) (by omega) (by simp; omega) ?_; intro v5 w5 hown5 hg5 hblk5; obtain ⟨A5, d5, hv5, ho5, bX5, hne5⟩ := stand_grow _ hH.out.1 bX hH.out.2.1 rfl hown5 hg5 hblk5 hlx; subst hv5; have HO5 := Lib.hid ho5; have HG5 := Lib.hid hg5; have HN5 := Lib.hid hne5; clear hown5 hg5 hblk5 ho5 hne5)
        go_roundg (U + 1 - (Ts.length + 1))
        case measure => have := hH.out.2.2.2.2.2.1; have := HT1.out; omega
        case rel =>
          have hHo := hH.out
          have hT1 := HT1.out
          have hsz : (wr.alloc (.cells #[.slice none 0 0] 74)).heap.size = wr.heap.size + 1 := by simp
          refine ⟨Ts ++ [⟨[], none, 0⟩], A5, d5, by rw [List.length_append]; rfl, (hb.alloc (by omega) _).grown HG5.out (by omega) (fun q hq => (hHo.1.row.lt q hq).1), bX5, by have := HG5.out.size; omega, by rw [List.length_append]; simp; omega, HO5.out, HN5.out, ?_, ?_, ?_, ?_, ?_⟩
          · rw [lvs_append, hHo.2.2.1, List.length_append]
            exact (pad_step (lvs Rs) (by rw [lvs_len]; exact hHo.2.2.2.1)).symm
          · rw [List.length_append]; omega
          · rw [List.length_append]; simp; omega
          · rw [List.length_append]; rfl
          · exact own_grow HG5.out (hHo.1.row.alloc _) (hHo.2.2.2.2.2.2.alloc _) (by decide)
      · have hU3 : U < Ts.length := by omega
        obtain ⟨gT, cur, rfl, hgT, bT, hcs, hcell⟩ := hH.out.1.at (by omega)
        have cT := hcell U hU3
        have fT := bT.frozen U
        have g1 : ¬ (Ts.length : Int) ≤ (U : Int) := by omega
        have g2 : (0 : Int) ≤ (U : Int) := by omega
        have g3 : (U : Int) < (Ts.length : Int) := by omega
        have ltT := bT.lt
        have HU3 := Lib.hid hU3
        clear hcell
        go_wp2
        go_ret
        have hHo := hH.out
        refine ⟨some ⟨gT, 0, none⟩, d, Ts.set U ⟨l, Al, cl⟩, by rw [List.length_set]; rfl, ?_, hHo.1.set HU3.out ⟨l, Al, cl⟩ hHo.2.2.2.2.2.2, hb.setCell (p := ⟨gT, U, none⟩) hgT _⟩
        rw [lvs_set, hHo.2.2.1]
        have hp := pad_eq (Ts := lvs Rs) (Ts3 := lvs Ts) (U := U) (by rw [lvs_len, lvs_len]; exact hHo.2.2.2.1) (by rw [lvs_len, lvs_len]; exact hHo.2.2.2.2.1) (by rw [lvs_len]; exact HU3.out)
        rw [lvs_len] at hp
        rw [hp]
        unfold standL
        rw [if_neg hne2.out, HU.out]
set_option maxHeartbeats 4000000 in
theorem alone26_any (A : Option Addr) (l : List Pr) (c : Nat) (n : Int) (w : World) (hA : Sl w A (l.flatMap Pr.cells)) (hl : l.length ≤ 65536) :
    Calls Tryz.prog 104 #[.slice A l.length c, .int .u64 n] w (GivesRg (standL [] (laid (l.map aliveE))) (IntKind.u64.wrap (n + l.length)) w) := by
  obtain ⟨W0, hW0⟩ : ∃ W0, w.alloc (.cells #[.slice none 0 0, .int .u64 0] 27) = W0 := ⟨_, rfl⟩
  have hb0 : Below w.heap.size w W0 := by rw [← hW0]; exact (Below.refl _ _).alloc (Nat.le_refl _) _
  have hsz0 : W0.heap.size = w.heap.size + 1 := by rw [← hW0]; simp
  have b4 : Blk W0 w.heap.size 27 #[.slice none 0 0, .int .u64 0] := by rw [← hW0]; exact Blk.new _ _ _
  have HW0 := Lib.hid hW0
  have HA := Lib.hid (hA.below hb0)
  have HLN : Hid ((laid (l.map aliveE)).length = l.length) := by show _ = _; rw [laid_length, List.length_map]
  have hlm : (l.map aliveE).length = l.length := List.length_map _
  have HLM := Lib.hid hlm
  obtain ⟨E, hE⟩ : ∃ E, l.map aliveE = E := ⟨_, rfl⟩
  have HE := Lib.hid hE
  clear hW0 hA hlm hE
  go_enter Tryz.func104, Tryz.ntmps104
  go_wp2_with fail
  rw [HW0.out]
  refine (refAlive_any A l c _ HA.out hl).mono ?_
  rw [HE.out]
  rintro e w1 ⟨A1, c1, rfl, ho1, hb1⟩
  have hb01 := bext hb0 hb1
  have b41 := b4.below hb1 b4.lt
  have hEl : E.length = l.length := by rw [← HE.out]; exact HLM.out
  have hSl := own_sl ho1
  have HSL := Lib.hid hSl
  have HEL := Lib.hid hEl
  clear ho1 hSl hEl
  go_wp2_with fail
  have hlaid := refLaid_any A1 E c1 w1 HSL.out (by rw [HEL.out]; exact hl)
  rw [HEL.out] at hlaid
  refine hlaid.mono ?_
  clear hlaid
  rintro e w2 ⟨A2, c2, rfl, ho2, hb2⟩
  have hs1 := hb1.size
  have hs2 := hb2.size
  have hs0 := hb01.size
  have b42 := b41.below hb2 b41.lt
  have l42 := b42.lt
  have hb02 : Below w.heap.size w w2 := bext hb01 hb2
  obtain ⟨L, hL⟩ : ∃ L, laid E = L := ⟨_, rfl⟩
  have hLn : L.length = l.length := by rw [← hL, ← HE.out]; exact HLN.out
  rw [hL] at ho2
  have HO2 := Lib.hid (own_mono (B' := w.heap.size + 1) ho2 (by omega))
  have HLNN := Lib.hid hLn
  have HLL := Lib.hid hL
  clear ho2 hLn hL
  obtain ⟨W3, hW3⟩ : ∃ W3, w2.alloc (.cells #[.slice A2 l.length c2] 74) = W3 := ⟨_, rfl⟩
  have hb3 : Below w2.heap.size w2 W3 := by rw [← hW3]; exact (Below.refl _ _).alloc (Nat.le_refl _) _
  have hs3 := hb3.size
  have b43 := b42.below hb3 b42.lt
  have HW3 := Lib.hid hW3
  have HO3 := Lib.hid (own_below HO2.out hb3)
  clear hW3
  go_wp2_with fail
  rw [HW3.out]
  have hst := stand26_any none A2 [] L 0 c2 (w.heap.size + 1) W3 (OwnRs.nil _ _) (by rw [HLNN.out]; exact HO3.out) (by simp) (by rw [HLNN.out]; exact hl) (by omega)
  rw [HLNN.out] at hst
  refine hst.mono ?_
  clear hst
  rintro e w4 ⟨A4, d4, Ts, rfl, hTs, ho4, hb4⟩
  have b44 := b43.below hb4 (Nat.lt_succ_self _)
  have hb04 : Below w.heap.size w w4 := (bext hb02 hb3).trans (hb4.mono (Nat.le_succ _))
  have HTS := Lib.hid hTs
  have HO4 := Lib.hid ho4
  have HB04 := Lib.hid hb04
  have c40 : w4.cell? ⟨w.heap.size, 0, none⟩ = some (.slice none 0 0) := b44.cell 0
  have c41 : w4.cell? ⟨w.heap.size, 1, none⟩ = some (.int .u64 0) := b44.cell 1
  have f40 := b44.frozen 0
  have f41 := b44.frozen 1
  have l44 := b44.lt
  have hcv : IntKind.u64.wrap (l.length : Int) = (l.length : Int) := IntWalk.u64_in _ (by omega)
  clear hTs ho4 hb4 hb04
  go_wp2
  have hbx := box2 b44 (.slice A4 Ts.length d4) (.int .u64 (IntKind.u64.wrap (n + l.length)))
  have e0 : ((w4.setCell ⟨w.heap.size, 0, none⟩ (.slice A4 Ts.length d4)).setCell ⟨w.heap.size, 1, none⟩ (.int .u64 (IntKind.u64.wrap (n + l.length)))).cell? ⟨w.heap.size, 0, none⟩ = some (.slice A4 Ts.length d4) := hbx.cell 0
  have e1 : ((w4.setCell ⟨w.heap.size, 0, none⟩ (.slice A4 Ts.length d4)).setCell ⟨w.heap.size, 1, none⟩ (.int .u64 (IntKind.u64.wrap (n + l.length)))).cell? ⟨w.heap.size, 1, none⟩ = some (.int .u64 (IntKind.u64.wrap (n + l.length))) := hbx.cell 1
  refine bodyPost_ret (v := .agg #[.slice A4 Ts.length d4, .int .u64 (IntKind.u64.wrap (n + l.length))]) (by simp [results, Tryz.results104, go_sem, e0, e1]) rfl ?_
  exact ⟨A4, d4, Ts, rfl, by rw [HTS.out, HE.out, HLL.out]; rfl, (HO4.out.mono (Nat.le_succ _)).set2 b44 (by decide) (by decide) _ _, below2 HB04.out (Nat.le_refl _) _ _⟩
end Go.Proofs.YthbppblmecdekaaGreatDoor

/- Contracts: the reference's levels (Entries, dead, held, cut, All, Great). -/
namespace Go.Proofs.YthbppblmecdekaaGreatDoor
open Go Go.RowKit
set_option maxRecDepth 100000
set_option maxHeartbeats 1000000 in
theorem entries26_any (B : Option Addr) (Rs : List Rm) (c : Nat) (n : Int) (w : World) (hB : RunsAt w B Rs) (hT : tot (lvs Rs) ≤ 1000000) (hl : Rs.length ≤ 1000000) :
    Calls Tryz.prog 57 #[.agg #[.slice B Rs.length c, .int .u64 n]] w fun r w' => r = .returned (.int .i64 (tot (lvs Rs) : Nat)) ∧ Below w.heap.size w w' := by
  obtain ⟨W0, hW0⟩ : ∃ W0, w.alloc (.cells #[.slice B Rs.length c, .int .u64 n] 27) = W0 := ⟨_, rfl⟩
  have hb0 : Below w.heap.size w W0 := by rw [← hW0]; exact (Below.refl _ _).alloc (Nat.le_refl _) _
  have b1 : Blk W0 w.heap.size 27 #[.slice B Rs.length c, .int .u64 n] := by rw [← hW0]; exact Blk.new _ _ _
  have c10 : W0.cell? ⟨w.heap.size, 0, none⟩ = some (.slice B Rs.length c) := b1.cell 0
  have HW0 := Lib.hid hW0
  have HB := Lib.hid (hB.below hb0)
  have HB0 := Lib.hid hb0
  clear hW0 hB
  go_enter Tryz.func57, Tryz.ntmps57
  go_wp2
  rw [HW0.out]
  go_loopw [3, 4] (fun a i wr => ∃ k m : Nat, k ≤ Rs.length ∧ i = .int .i64 k ∧ a = .int .i64 m ∧ wr = W0 ∧ m ≤ 1000000 ∧ Hid (m = tot ((lvs Rs).take k))) (fun _ i _ => Rs.length - (intOf i).toNat)
  case atStart => exact ⟨0, 0, Nat.zero_le _, rfl, rfl, rfl, by omega, rfl⟩
  case round =>
    obtain ⟨k, m, hk, rfl, rfl, rfl, hm, hd⟩ := hrel
    by_cases hlt : k < Rs.length
    · obtain ⟨b, off, rfl, hbl, cp⟩ := HB.out.sl.oneB (Below.refl _ _) k hlt
      have hs := tot_take_succ (rs := lvs Rs) (k := k) (by simpa using hlt)
      rw [lvs_lev hlt] at hs
      have hle := tot_take_le (lvs Rs) (k + 1)
      obtain ⟨r, hr⟩ : ∃ r, Rs[k]'hlt = r := ⟨_, rfl⟩
      rw [hr] at cp hs
      obtain ⟨l, A, cl⟩ := r
      have cp1 : wr.cell? ⟨b, off + k, none⟩ = some (.slice A l.length cl) := cp
      dsimp only at hs
      have hki : (0 : Int) ≤ (k : Int) := by omega
      have hki2 : (k : Int) < (Rs.length : Int) := by omega
      have hsum : m + l.length ≤ 1000000 := by have := hd.out; omega
      have hw : IntKind.i64.wrap ((m : Int) + (l.length : Int)) = ((m + l.length : Nat) : Int) := (IntWalk.i64_in _ (by omega)).trans (by omega)
      have HS := Lib.hid hs
      clear cp hr hs hle
      go_wp2
      go_roundw
      case rel => exact ⟨k + 1, m + l.length, by omega, by go_num, by go_num, by first | trivial | rfl, hsum, by show _ = _; rw [HS.out, hd.out]⟩
      case measure => simp [intOf]; omega
    · have hkn : k = Rs.length := by omega
      have hf : m = tot (lvs Rs) := by rw [hd.out, List.take_of_length_le (by simp; omega)]
      have HF := Lib.hid hf
      have hkf : ¬ (k : Int) < (Rs.length : Int) := by omega
      clear hkn hf
      go_wp2
      go_ret
      exact ⟨ret_int (by rw [HF.out]), HB0.out⟩
theorem dead_len (l : List Ent) : decide ((plainE l).length < l.length) = deadE l := by
  have h1 : (plainE l).length = (liveE l).length := by unfold plainE; rw [List.length_map]
  rw [h1]
  cases hd : deadE l with
  | true =>
    refine decide_eq_true ?_
    unfold deadE at hd
    unfold liveE
    refine Classical.byContradiction fun hn => ?_
    have h2 : (l.filter (fun e => !e.dead)).length = l.length := Nat.le_antisymm (List.length_filter_le _ _) (by omega)
    rw [List.length_filter_eq_length_iff] at h2
    obtain ⟨e, he, hx⟩ := List.any_eq_true.1 hd
    have := h2 e he
    rw [hx] at this
    simp at this
  | false =>
    refine decide_eq_false ?_
    unfold deadE at hd
    rw [List.any_eq_false] at hd
    unfold liveE
    rw [List.filter_eq_self.2 (fun e he => by have := hd e he; simpa using this)]
    omega
set_option maxHeartbeats 1000000 in
theorem dead26_any (A : Option Addr) (l : List Ent) (c : Nat) (w : World) (hA : Sl w A (l.flatMap Ent.cells)) (hn : l.length ≤ 1099511627776) :
    Calls Tryz.prog 94 #[.agg #[.slice A l.length c]] w fun r w' => r = .returned (.bool (deadE l)) ∧ Below w.heap.size w w' := by
  obtain ⟨W0, hW0⟩ : ∃ W0, w.alloc (.cells #[.slice A l.length c] 74) = W0 := ⟨_, rfl⟩
  have hb0 : Below w.heap.size w W0 := by rw [← hW0]; exact (Below.refl _ _).alloc (Nat.le_refl _) _
  have b1 : Blk W0 w.heap.size 74 #[.slice A l.length c] := by rw [← hW0]; exact Blk.new _ _ _
  have HW0 := Lib.hid hW0
  have HA := Lib.hid hA
  have HB0 := Lib.hid hb0
  have hpl : Hid (decide ((plainE l).length < l.length) = deadE l) := dead_len l
  have hpn : (plainE l).length ≤ l.length := by unfold plainE; rw [List.length_map]; exact live_le l
  obtain ⟨N, hN⟩ : ∃ N, (plainE l).length = N := ⟨_, rfl⟩
  rw [hN] at hpl hpn
  have HN := Lib.hid hN
  clear hW0 hA hN
  go_enter Tryz.func94, Tryz.ntmps94
  go_upto_region 1 with fail
  rw [HW0.out]
  have c10 : W0.cell? ⟨w.heap.size, 0, none⟩ = some (.slice A l.length c) := b1.cell 0
  have l1 := b1.lt
  go_region_with (go_at_call 120; refine (refPlain_any A l c _ (HA.out.below (bext HB0.out (by first | exact (Below.refl _ _).drew | exact Below.refl _ _))) hn).mono ?_; unfold GivesOwn; rw [HN.out]; rintro e w5 ⟨A5, c5, rfl, h51, hb5⟩; have hb9 : Below W0.heap.size W0 w5 := (by first | exact hb5 | exact bext ((Below.refl _ _).drew) hb5); have d10 : w5.cell? ⟨w.heap.size, 0, none⟩ = some (.slice A l.length c) := ((bcell hb9).1 _ _ l1).trans c10; have HB9 := Lib.hid hb9; clear h51 hb5 hb9)
  all_goals
    go_wp2
    go_ret
    exact ⟨ret_bool (by rw [← hpl.out]), bext HB0.out HB9.out⟩
set_option maxHeartbeats 1000000 in
theorem held26_any (B : Option Addr) (Rs : List Rm) (c k : Nat) (w : World) (hB : RunsAt w B Rs) (hl : Rs.length ≤ 1000000) (hk0 : k ≤ 1000000) :
    Calls Tryz.prog 163 #[.slice B Rs.length c, .int .i64 k] w fun r w' => r = .returned (.bool (heldB (lvs Rs) k)) ∧ w' = w := by
  have HB := Lib.hid hB
  clear hB
  have hw0 : IntKind.i64.wrap ((k : Int) + 1) = ((k + 1 : Nat) : Int) := (IntWalk.i64_in _ (by omega)).trans (by omega)
  go_enter Tryz.func163, Tryz.ntmps163
  go_wp2
  clear hw0
  go_loopw [5] (fun i wr => ∃ j : Nat, k < j ∧ j ≤ max (k + 1) Rs.length ∧ i = .int .i64 j ∧ wr = w ∧ Hid (∀ q, k < q → q < j → lev (lvs Rs) q = [])) (fun i _ => Rs.length - (intOf i).toNat)
  case atStart => exact ⟨k + 1, by omega, by omega, by go_num, rfl, fun q h1 h2 => by omega⟩
  case round =>
    obtain ⟨j, hkj, hj, rfl, rfl, hd⟩ := hrel
    by_cases hlt : j < Rs.length
    · obtain ⟨b, off, rfl, hbl, cp⟩ := HB.out.sl.oneB (Below.refl _ _) j hlt
      have hlv := lvs_lev hlt
      obtain ⟨r, hr⟩ : ∃ r, Rs[j]'hlt = r := ⟨_, rfl⟩
      rw [hr] at cp hlv
      obtain ⟨l, A, cl⟩ := r
      have cp1 : wr.cell? ⟨b, off + j, none⟩ = some (.slice A l.length cl) := cp
      dsimp only at hlv
      have hki : (0 : Int) ≤ (j : Int) := by omega
      have hki2 : (j : Int) < (Rs.length : Int) := by omega
      have HL := Lib.hid hlv
      clear cp hr hlv
      by_cases h0 : l.length = 0
      · have hnil : l = [] := List.eq_nil_of_length_eq_zero h0
        have HNIL := Lib.hid hnil
        have h00 : ¬ (0 : Int) < (l.length : Int) := by omega
        clear hnil h0
        go_wp2
        go_roundw
        case rel =>
          refine ⟨j + 1, by omega, by omega, by go_num, by first | trivial | rfl, fun q h1 h2 => ?_⟩
          by_cases e : q = j
          · rw [e, HL.out, HNIL.out]
          · exact hd.out q h1 (by omega)
        case measure => simp [intOf]; omega
      · have h00 : (0 : Int) < (l.length : Int) := by omega
        have hT : heldB (lvs Rs) k = true := by
          cases hx : heldB (lvs Rs) k with
          | true => rfl
          | false =>
            have := held_false.1 hx j hkj
            rw [HL.out] at this
            rw [this] at h0
            simp at h0
        have HTT := Lib.hid hT
        have hne2 : ¬ l = [] := by intro h; apply h0; rw [h]; rfl
        clear hT h0
        go_wp2
        go_ret
        exact ⟨ret_bool (by rw [HTT.out]), rfl⟩
    · have hF : heldB (lvs Rs) k = false := held_false.2 fun q hq => by
        by_cases e : q < j
        · exact hd.out q hq e
        · exact lev_ge (by rw [lvs_len]; omega)
      have HF := Lib.hid hF
      clear hF
      have hkf : ¬ (j : Int) < (Rs.length : Int) := by omega
      go_wp2
      go_ret
      exact ⟨ret_bool (by rw [HF.out]), rfl⟩
theorem own_take {w : World} {B0 : Nat} {B : Option Addr} {c : Nat} {Rs : List Rm} (h : OwnRs w B0 B c Rs) {m : Nat} (hm : m ≤ Rs.length) (h0 : B ≠ none) : OwnRs w B0 B c (Rs.take m) := by
  refine ⟨?_, fun r hr => h.ent r (List.mem_of_mem_take hr)⟩
  rw [List.length_take, Nat.min_eq_left hm]
  rcases h.row.2 with ⟨hv, _⟩ | ⟨g, cap, cur, hv, hg, hb, h1, h2, h3, h4⟩
  · exact absurd (by simpa using hv : B = none ∧ _).1 h0
  · obtain ⟨rfl, rfl⟩ : B = some ⟨g, 0, none⟩ ∧ c = cap := by simpa using hv
    refine ⟨by simp; omega, .inr ⟨g, c, cur, rfl, hg, hb, by omega, h2, h3, ?_⟩⟩
    rw [List.map_take, ← h4, List.take_take, Nat.mul_one, Nat.mul_one, Nat.min_eq_left hm]
theorem cutN_step {rs : Lv} {n m : Nat} (h1 : cutN rs (n + 1) = m) (h2 : lev rs n = []) : cutN rs n = m := by rw [cutN, if_pos h2] at h1; exact h1
set_option maxHeartbeats 1000000 in
theorem cut26_any (B : Option Addr) (Rs : List Rm) (c B0 : Nat) (w : World) (hB : OwnRs w B0 B c Rs) (hl : Rs.length ≤ 1000000) :
    Calls Tryz.prog 165 #[.slice B Rs.length c] w fun r w' => ∃ m, r = .returned (.slice B m c) ∧ m = cutN (lvs Rs) Rs.length ∧ w' = w := by
  obtain ⟨hlc, hcm⟩ := hB.le
  have hmx : c ≤ 9223372036854775807 := by unfold maxLen at hcm; omega
  have HB := Lib.hid hB
  clear hB hcm
  have hB0 : B = none → Rs.length = 0 ∧ c = 0 := by
    intro h
    rcases HB.out.row.2 with ⟨hv, h0⟩ | ⟨g, cap, cur, hv, _⟩
    · exact ⟨h0, by simpa using (by simpa using hv : B = none ∧ Rs.length = 0 ∧ c = 0).2.2⟩
    · rw [h] at hv; cases hv
  cases B with
  | none =>
    obtain ⟨h1, rfl⟩ := hB0 rfl
    have h2 : Rs = [] := List.eq_nil_of_length_eq_zero h1
    subst h2
    clear h1 hB0
    go_enter Tryz.func165, Tryz.ntmps165
    go_wp2
    refine wp_loop_rounds 1 ?_
    rw [rounds_succ]
    go_wp2
    go_ret
    exact ⟨0, rfl, rfl, rfl⟩
  | some a =>
    clear hB0
    go_enter Tryz.func165, Tryz.ntmps165
    go_wp2
    go_loopw [3] (fun i wr => ∃ m : Nat, m ≤ Rs.length ∧ i = .int .i64 m ∧ wr = w ∧ Hid (cutN (lvs Rs) m = cutN (lvs Rs) Rs.length)) (fun i _ => (intOf i).toNat)
    case atStart => exact ⟨Rs.length, Nat.le_refl _, rfl, rfl, rfl⟩
    case round =>
      obtain ⟨m, hm, rfl, rfl, hd⟩ := hrel
      by_cases h0 : m = 0
      · subst h0
        have HF : Hid (0 = cutN (lvs Rs) Rs.length) := by show _ = _; rw [← hd.out]; rfl
        have hc0 : (0 : Int) ≤ (c : Int) := by omega
        go_wp2
        go_ret
        exact ⟨0, rfl, HF.out, rfl⟩
      · obtain ⟨j, rfl⟩ : ∃ j, m = j + 1 := ⟨m - 1, by omega⟩
        have hlt : j < Rs.length := by omega
        obtain ⟨b, off, hBa, hbl, cp⟩ := HB.out.runsAt.sl.oneB (Below.refl _ _) j hlt
        obtain rfl : a = ⟨b, off, none⟩ := by simpa using hBa
        have hlv := lvs_lev hlt
        obtain ⟨r, hr⟩ : ∃ r, Rs[j]'hlt = r := ⟨_, rfl⟩
        rw [hr] at cp hlv
        obtain ⟨l, A, cl⟩ := r
        have cp1 : wr.cell? ⟨b, off + j, none⟩ = some (.slice A l.length cl) := cp
        dsimp only at hlv
        have g1 : (0 : Int) < ((j + 1 : Nat) : Int) := by omega
        have g2 : IntKind.i64.wrap (((j + 1 : Nat) : Int) - 1) = (j : Int) := (IntWalk.i64_in _ (by omega)).trans (by omega)
        have g3 : (0 : Int) ≤ (j : Int) := by omega
        have g4 : (j : Int) < (Rs.length : Int) := by omega
        have HL := Lib.hid hlv
        clear cp hr hlv hBa h0
        by_cases h0 : l.length = 0
        · have hnil : l = [] := List.eq_nil_of_length_eq_zero h0
          have HNIL := Lib.hid hnil
          have h00 : ((l.length : Int) = 0) := by omega
          clear hnil h0
          go_wp2
          go_roundw
          case rel => exact ⟨j, by omega, by first | rfl | go_num, by first | trivial | rfl, cutN_step hd.out (by rw [HL.out, HNIL.out])⟩
          case measure => simp [intOf]
        · have hne2 : ¬ l = [] := by intro h; apply h0; rw [h]; rfl
          have h00 : ¬ ((l.length : Int) = 0) := by omega
          have HF : Hid (j + 1 = cutN (lvs Rs) Rs.length) := by
            show _ = _
            rw [← hd.out, cutN, if_neg]
            rw [HL.out]; exact hne2
          clear h0
          have g5 : (0 : Int) ≤ (j : Int) + 1 := by omega
          have g6 : (j : Int) + 1 ≤ (c : Int) := by omega
          go_wp2
          go_ret
          exact ⟨j + 1, by first | rfl | simp, HF.out, by first | trivial | rfl⟩
set_option maxHeartbeats 1000000 in
theorem all26_any (B : Option Addr) (Rs : List Rm) (c : Nat) (n : Int) (w : World) (hB : RunsAt w B Rs) (hl : Rs.length ≤ 1000000) (hsm : ∀ r ∈ Rs, r.l.length ≤ 65536) (hT : tot (lvs Rs) ≤ 1000000) :
    Calls Tryz.prog 86 #[.agg #[.slice B Rs.length c, .int .u64 n]] w (GivesOwn 47 2 (plainE (allE (inS Rs))).length ((plainE (allE (inS Rs))).flatMap Pr.cells) w) := by
  have hT2 : (Rs.map (fun r => r.l.length)).sum ≤ 1000000 := by rw [← tot_rs]; exact hT
  have hal : (allE (inS Rs)).length ≤ 1099511627776 := by
    have h := all_take_len (inS Rs) (inS Rs).length 1000000 (by rw [inS_sum]; exact hT2)
    rw [List.take_length] at h
    omega
  obtain ⟨L, hL⟩ : ∃ L, allE (inS Rs) = L := ⟨_, rfl⟩
  rw [hL] at hal
  have HL := Lib.hid hL
  have hb0 : Below w.heap.size w (w.alloc (.cells #[.slice B Rs.length c, .int .u64 n] 27)) := (Below.refl _ _).alloc (Nat.le_refl _) _
  have hcall := fun W (hW : Below w.heap.size w W) => refAll_any B Rs c 1000000 W (hB.below hW) (by omega) hsm hT2 (by omega)
  rw [hL] at hcall ⊢
  have HC := Lib.hid hcall
  clear hcall hL hB hsm hT hT2
  go_enter Tryz.func86, Tryz.ntmps86
  go_wp2_with fail
  refine (HC.out _ hb0).mono ?_
  rintro e w1 ⟨A1, c1, rfl, ho1, hb1⟩
  have HO1 := Lib.hid ho1
  clear ho1
  go_wp2_with fail
  refine (refPlain_any A1 L c1 _ (own_sl HO1.out) hal).mono ?_
  rintro e w2 ⟨A2, c2, rfl, ho2, hb2⟩
  have HO2 := Lib.hid ho2
  have hs1 := hb1.size
  have hs2 : w.heap.size ≤ w1.heap.size := by simp at hs1; omega
  clear ho2
  go_wp2
  go_ret
  exact ⟨A2, c2, rfl, own_mono HO2.out hs2, bext (bext hb0 hb1) hb2⟩
theorem great26_any (B : Option Addr) (Rs : List Rm) (c most : Nat) (n : Int) (w : World) (hB : RunsAt w B Rs) (hm : most ≤ 1000000) :
    Calls Tryz.prog 36 #[.agg #[.slice B Rs.length c, .int .u64 n], .int .i64 most] w fun r w' => ∃ G : Bool, r = .returned (.bool G) ∧ (G = false → Rs.length + tot (lvs Rs) ≤ most) ∧ Below w.heap.size w w' := by
  have hb0 : Below w.heap.size w (w.alloc (.cells #[.slice B Rs.length c, .int .u64 n] 27)) := (Below.refl _ _).alloc (Nat.le_refl _) _
  have HB := Lib.hid hB
  clear hB
  go_enter Tryz.func36, Tryz.ntmps36
  go_wp2_with fail
  refine (great25_any B Rs c most _ (HB.out.below hb0) hm).mono ?_
  rintro e w1 ⟨G, rfl, hG, rfl⟩
  have HG := Lib.hid hG
  clear hG
  go_wp2
  go_ret
  exact ⟨G, rfl, fun h => by rw [tot_rs]; exact HG.out h, hb0⟩
end Go.Proofs.YthbppblmecdekaaGreatDoor
