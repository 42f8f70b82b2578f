/- G9 Hb Ha Hm Hn Hc Gw G7: texts of the claim, in this order. -/
import Derived.Test.YtolclahkfmplfaaGreatWz11
import Derived.Deep.LoopGhost
import Derived.Test.YtolclahkfmplfaaGreatWz7
import Derived.Test.YtolclahkfmplfaaGreatWz8
import Derived.Deep.CutBlock
import Derived.Deep.RegionWith
import Derived.Deep.RegionLaw
import Derived.Maps.OwnOps
/- Contracts: copies of levels. -/
namespace Go.Proofs.YtolclahkfmplfaaGreat
open Go Go.RowKit
set_option maxRecDepth 100000
set_option maxHeartbeats 2000000 in
theorem twinsO_any (B : Option Addr) (Rs : List Rm) (c : Nat) (w : World) (hB : RunsAt w B Rs) (hl : Rs.length ≤ 1000000) (hrs : ∀ r ∈ Rs, r.l.length ≤ 1000000) :
    Calls Tryz.prog 30 #[.slice B Rs.length c] w (GivesLs (lvs Rs) w) := by
  obtain ⟨te0, hI⟩ := info_parts run_info1
  have HI := Lib.hid hI
  have HB := Lib.hid hB
  have HHR := Lib.hid hrs
  clear hI hB hrs
  go_enter Tryz.func30, Tryz.ntmps30
  go_wp2
  go_loopw [3, 4] (fun v i wr => ∃ (k : Nat) (Ts : List Rm) (A' : Option Addr) (c' : Nat), k ≤ Rs.length ∧ i = .int .i64 k ∧ Below w.heap.size w wr ∧ v = .slice A' k c' ∧ Hid (Ts.length = k) ∧
      wr.ownsRow w.heap.size 58 1 (.slice A' k c') k (Ts.map Rm.v) ∧ (∀ s ∈ Ts, wr.ownsRow w.heap.size 68 3 s.v s.l.length (s.l.flatMap Ent.cells)) ∧ Hid (Ts.map Rm.l = (Rs.map Rm.l).take k)) (fun _ i _ => Rs.length - (intOf i).toNat)
  case atStart => exact ⟨0, [], none, 0, Nat.zero_le _, rfl, Below.refl _ _, rfl, rfl, World.ownsRow_nil _ _ _ _, by simp, rfl⟩
  case round =>
    obtain ⟨k, Ts, A', c', hk, rfl, hb, rfl, hTk, hown, hS, hin⟩ := hrel
    have hbs := hb.size
    by_cases hlt : k < Rs.length
    · obtain ⟨b, off, rfl, hbl, cp⟩ := HB.out.sl.oneB hb k hlt
      have hok := (HB.out.ok _ (List.getElem_mem hlt)).below hb
      have hrl := HHR.out _ (List.getElem_mem hlt)
      have hin2 : (Rs.map Rm.l).take (k + 1) = (Rs.map Rm.l).take k ++ [(Rs[k]'hlt).l] := by
        rw [List.take_succ_eq_append_getElem (by simpa using hlt)]; simp
      obtain ⟨r, hr⟩ : ∃ r, Rs[k]'hlt = r := ⟨_, rfl⟩
      rw [hr] at cp hok hrl hin2
      obtain ⟨l, A, cl⟩ := r
      have cp1 : wr.cell? ⟨b, off + k, none⟩ = some (.slice A l.length cl) := cp
      dsimp only at hrl hin2
      have hki : (0 : Int) ≤ (k : Int) := by omega
      have hki2 : (k : Int) < (Rs.length : Int) := by omega
      have HOK := Lib.hid hok.sl
      have HIN := Lib.hid hin2
      have HOW := Lib.hid hown
      have HSS := Lib.hid hS
      clear cp hr hok hin2 hown hS
      go_wp2_with fail
      refine (refTwin_any A l cl _ HOK.out hrl).mono ?_
      rintro e w1 ⟨A1, c1, rfl, ho1, hb1⟩
      have HO1 := Lib.hid (own_mono (B' := w.heap.size) ho1 (by omega))
      have HOW1 := Lib.hid (own_below HOW.out hb1)
      have hs1 := hb1.size
      clear ho1 cp1
      go_wp2_with (at_builtin; refine wpList_append_sl _ rfl (.tmp 11) (.tmp 17) _ rfl w.heap.size 58 te0 _ 1 24 Tryz.underlying24 HI.out.1 HI.out.2.1 HI.out.2.2.1 HI.out.2.2.2 rfl (by omega) (.slice A' k c') k _ rfl (HOW1.out.alloc _) _ 1 _ [.slice A1 l.length c1] rfl (by exact sl_new1 _ _ _) rfl (by simp [Value.oneCell']) (by unfold maxLen; omega) (by omega) (by simp; omega) ?_; intro v2 w2 hown2 hg2; obtain ⟨A2, q2, rfl, hle2, hmx2⟩ := own_form hown2; have HO2 := Lib.hid hown2; clear hown2)
      go_roundw
      case rel =>
        refine ⟨k + 1, Ts ++ [⟨l, A1, c1⟩], A2, q2, by omega, by go_num, ?_, rfl, ?_, ?_, ?_, ?_⟩
        · exact ((bext hb hb1).alloc (by omega) _).grown hg2 (by simp; omega) (fun q hq => (HOW1.out.lt q hq).1)
        · show _ = _
          rw [List.length_append, hTk.out]; rfl
        · rw [List.map_append]; exact HO2.out
        · intro s hs
          refine own_grow hg2 (HOW1.out.alloc _) ?_ (by decide)
          rcases List.mem_append.1 hs with hs | hs
          · exact (own_below (HSS.out s hs) hb1).alloc _
          · obtain rfl : s = ⟨l, A1, c1⟩ := by simpa using hs
            exact HO1.out.alloc _
        · show _ = _
          rw [List.map_append, hin.out, HIN.out]; rfl
      case measure => simp [intOf]; omega
    · have hkn : k = Rs.length := by omega
      have HIN : Hid (Ts.map Rm.l = Rs.map Rm.l) := by show _ = _; rw [hin.out, List.take_of_length_le (by simp; omega)]
      have HTN : Hid (Ts.length = k) := hTk
      have hO : OwnRs wr w.heap.size A' c' Ts := ⟨by rw [HTN.out]; exact hown, hS⟩
      have HO := Lib.hid hO
      clear hkn hO hown hS hin hTk
      go_wp2
      go_ret
      exact ⟨A', c', Ts, by rw [HTN.out]; rfl, HIN.out, HO.out, hb⟩
/-- a result that lies in a box of two cells -/
theorem box2 {w : World} {g : Nat} {t : TypeId} {x0 x1 : Value} (h : Blk w g t #[x0, x1]) (y0 y1 : Value) : Blk ((w.setCell ⟨g, 0, none⟩ y0).setCell ⟨g, 1, none⟩ y1) g t #[y0, y1] := by
  have := (h.set_ 0 y0).set_ 1 y1
  simpa using this
theorem below2 {B : Nat} {a w : World} {g : Nat} (h : Below B a w) (hg : B ≤ g) (y0 y1 : Value) : Below B a ((w.setCell ⟨g, 0, none⟩ y0).setCell ⟨g, 1, none⟩ y1) :=
  (h.setCell (p := ⟨g, 0, none⟩) hg _).setCell (p := ⟨g, 1, none⟩) hg _
theorem OwnRs.set2 {w : World} {B0 g : Nat} {B : Option Addr} {c : Nat} {Rs : List Rm} {t : TypeId} {x0 x1 : Value} (h : OwnRs w B0 B c Rs) (hB : Blk w g t #[x0, x1]) (h1 : 58 ≠ t) (h2 : 68 ≠ t) (y0 y1 : Value) : OwnRs ((w.setCell ⟨g, 0, none⟩ y0).setCell ⟨g, 1, none⟩ y1) B0 B c Rs :=
  (h.setT hB h1 h2 0 y0).setT (hB.set_ 0 y0) h1 h2 1 y1
set_option maxHeartbeats 2000000 in
theorem twin26_any (B : Option Addr) (Rs : List Rm) (c : Nat) (n : Int) (w : World) (hB : RunsAt w B Rs) (hl : Rs.length ≤ 1000000) (hrs : ∀ r ∈ Rs, r.l.length ≤ 1000000) :
    Calls Tryz.prog 16 #[.agg #[.slice B Rs.length c, .int .u64 n]] w (GivesRg (lvs Rs) n w) := by
  obtain ⟨W0, hW0⟩ : ∃ W0, (w.alloc (.cells #[.slice B Rs.length c, .int .u64 n] 27)).alloc (.cells #[.slice none 0 0, .int .u64 0] 27) = W0 := ⟨_, rfl⟩
  have hb0 : Below w.heap.size w W0 := by rw [← hW0]; exact ((Below.refl _ _).alloc (Nat.le_refl _) _).alloc (by simp) _
  have b1 : Blk W0 w.heap.size 27 #[.slice B Rs.length c, .int .u64 n] := by rw [← hW0]; exact (Blk.new _ _ _).alloc _
  have b2 : Blk W0 (w.heap.size + 1) 27 #[.slice none 0 0, .int .u64 0] := by
    rw [← hW0]
    have := Blk.new (w.alloc (.cells #[.slice B Rs.length c, .int .u64 n] 27)) 27 #[.slice none 0 0, .int .u64 0]
    rwa [World.size_alloc] at this
  have hs0 : W0.heap.size = w.heap.size + 2 := by rw [← hW0]; simp
  have HW0 := Lib.hid hW0
  have HS0 := Lib.hid hs0
  have HB := Lib.hid hB
  have HHR := Lib.hid hrs
  clear hW0 hB hrs hs0
  go_enter Tryz.func16, Tryz.ntmps16
  go_upto_region 1 with fail
  rw [HW0.out]
  have l1 := b1.lt
  have l2 := b2.lt
  have c10 : W0.cell? ⟨w.heap.size, 0, none⟩ = some (.slice B Rs.length c) := b1.cell 0
  have c11 : W0.cell? ⟨w.heap.size, 1, none⟩ = some (.int .u64 n) := b1.cell 1
  have c20 : W0.cell? ⟨w.heap.size + 1, 0, none⟩ = some (.slice none 0 0) := b2.cell 0
  have c21 : W0.cell? ⟨w.heap.size + 1, 1, none⟩ = some (.int .u64 0) := b2.cell 1
  have f20 := b2.frozen 0
  have f21 := b2.frozen 1
  go_region_with (go_at_call 30; refine (twinsO_any B Rs c _ (HB.out.below (bext hb0 (by first | exact (Below.refl _ _).drew | exact Below.refl _ _))) hl HHR.out).mono ?_; rintro e w5 ⟨A5, c5, Ts5, rfl, h51, h52, hb5⟩; have hb6 : Below W0.heap.size W0 w5 := (by first | exact hb5 | exact bext ((Below.refl _ _).drew) hb5); have d10 : w5.cell? ⟨w.heap.size, 0, none⟩ = some (.slice B Rs.length c) := ((bcell hb6).1 _ _ l1).trans c10; have d11 : w5.cell? ⟨w.heap.size, 1, none⟩ = some (.int .u64 n) := ((bcell hb6).1 _ _ l1).trans c11; have b25 := b2.below hb6 l2; have d20 : w5.cell? ⟨w.heap.size + 1, 0, none⟩ = some (.slice none 0 0) := b25.cell 0; have d21 : w5.cell? ⟨w.heap.size + 1, 1, none⟩ = some (.int .u64 0) := b25.cell 1; have e20 := b25.frozen 0; have e21 := b25.frozen 1; have H51 := Lib.hid h51; have H52 := Lib.hid h52; have H6 := Lib.hid hb6; clear h51 h52 hb5 hb6)
  all_goals
    go_wp2_with fail
    have hbx := box2 b25 (.slice A5 Ts5.length c5) (.int .u64 n)
    have e0 := hbx.cell 0
    have e1 := hbx.cell 1
    refine bodyPost_ret (v := .agg #[.slice A5 Ts5.length c5, .int .u64 n]) (by first | (simp [results, Tryz.results16, go_sem, e0, e1]; done) | (simp at e0 e1; simp [results, Tryz.results16, go_sem, e0, e1])) rfl ?_
    exact ⟨A5, c5, Ts5, rfl, H51.out, (H52.out.mono (by simp [HS0.out])).set2 b25 (by decide) (by decide) _ _, below2 (bext hb0 H6.out) (Nat.le_succ _) _ _⟩
end Go.Proofs.YtolclahkfmplfaaGreat

/- Contracts: the reference's levels (stand, Alone). -/
namespace Go.Proofs.YtolclahkfmplfaaGreat
open Go Go.RowKit
set_option maxRecDepth 100000
/-- writes in memory of the call's own -/
theorem OwnRs.belowB {w w' : World} {B0 : Nat} {B : Option Addr} {c : Nat} {Rs : List Rm} (h : OwnRs w B0 B c Rs) (hb : Below w.heap.size w w') : OwnRs w' B0 B c Rs := h.below hb
theorem pad_eq {Ts Ts3 : Lv} {U : Nat} (_h1 : Ts.length ≤ Ts3.length) (h2 : Ts3.length ≤ max Ts.length (U + 1)) (h3 : U < Ts3.length) : padTo Ts Ts3.length = padTo Ts (U + 1) := by
  by_cases h4 : Ts.length ≤ U
  · rw [show Ts3.length = U + 1 by omega]
  · rw [pad_same _ (by omega), pad_same _ (by omega)]
theorem stand_grow {w : World} {B0 n d3 : Nat} {A3 : Option Addr} {Ts3 : List Rm} {v5 : Value} {w5 : World} {g : Nat} {t : TypeId} {cs : Array Value} (o : Obj) (hr : OwnRs w B0 A3 d3 Ts3) (hB : Blk w g t cs) (hne : ∀ q, A3 = some q → q.block ≠ g)
    (hn : n = Ts3.length + 1) (ho : w5.ownsRow B0 58 1 v5 n (Ts3.map Rm.v ++ [.slice none 0 0])) (hg : (w.alloc o).grownBy w5 (Value.slice A3 Ts3.length d3).ownBlock) (hk : v5.ownBlock = (Value.slice A3 Ts3.length d3).ownBlock ∨ v5.ownBlock = some (w.alloc o).heap.size) (hlt : g < w.heap.size) :
    ∃ A5 d5, v5 = .slice A5 n d5 ∧ OwnRs w5 B0 A5 d5 (Ts3 ++ [⟨[], none, 0⟩]) ∧ Blk w5 g t cs ∧ (∀ q, A5 = some q → q.block ≠ g) := by
  subst hn
  obtain ⟨A5, d5, h1, _, _⟩ := own_form ho
  subst h1
  refine ⟨A5, d5, rfl, OwnRs.push (hr.alloc o) ⟨[], none, 0⟩ (own_empty _ _) ho hg, (hB.alloc o).grown hg ?_, fun q hq => ?_⟩
  · intro h
    cases A3 with
    | none => simp [Value.ownBlock] at h
    | some q => exact hne q rfl (by simpa [Value.ownBlock] using h)
  · subst hq
    rcases hk with h1 | h1
    · cases A3 with
      | none => simp [Value.ownBlock] at h1
      | some q3 => have := hne q3 rfl; simp [Value.ownBlock] at h1; omega
    · simp [Value.ownBlock] at h1; omega
set_option maxHeartbeats 4000000 in
/-- 'B0': a block number from which on memory is the caller's own -/
theorem stand26_any (B Al : Option Addr) (Rs : List Rm) (l : List Ent) (c cl B0 : Nat) (w : World) (hB : OwnRs w B0 B c Rs) (hA : w.ownsRow B0 68 3 (.slice Al l.length cl) l.length (l.flatMap Ent.cells)) (hl : Rs.length ≤ 17) (hl6 : l.length ≤ 65536) (hB0 : B0 ≤ w.heap.size) :
    Calls Tryz.prog 64 #[.slice B Rs.length c, .agg #[.slice Al l.length cl]] w fun r w' => ∃ A d Ts, r = .returned (.slice A Ts.length d) ∧ lvs Ts = standL (lvs Rs) l ∧ OwnRs w' B0 A d Ts ∧ Below B0 w w' := by
  obtain ⟨te0, hI⟩ := info_parts run_info1
  have HI := Lib.hid hI
  obtain ⟨W0, hW0⟩ : ∃ W0, w.alloc (.cells #[.slice Al l.length cl] 58) = W0 := ⟨_, rfl⟩
  have hb0 : Below w.heap.size w W0 := by rw [← hW0]; exact (Below.refl _ _).alloc (Nat.le_refl _) _
  have b1 : Blk W0 w.heap.size 58 #[.slice Al l.length cl] := by rw [← hW0]; exact Blk.new _ _ _
  have c10 : W0.cell? ⟨w.heap.size, 0, none⟩ = some (.slice Al l.length cl) := b1.cell 0
  have hs0 : W0.heap.size = w.heap.size + 1 := by rw [← hW0]; simp
  have HW0 := Lib.hid hW0
  have HB := Lib.hid (hB.below hb0)
  have HA := Lib.hid (own_below hA hb0)
  have hneB : Hid (∀ q, B = some q → q.block ≠ w.heap.size) := fun q hq => by
    have := (hB.row.lt q.block (by rw [hq]; simp [Value.ownBlock])).2
    omega
  clear hW0 hB hA hI
  go_enter Tryz.func64, Tryz.ntmps64
  by_cases h0 : l.length = 0
  · have hnil : l = [] := List.eq_nil_of_length_eq_zero h0
    subst hnil
    clear h0
    go_wp2
    go_ret
    have e1 : w.alloc (.cells #[.slice Al 0 cl] 58) = W0 := HW0.out
    first
    | (rw [e1]; exact ⟨B, c, Rs, rfl, (stand_nil _).symm, HB.out, hb0.mono hB0⟩)
    | exact ⟨B, c, Rs, rfl, (stand_nil _).symm, HB.out, hb0.mono hB0⟩
  · have hpos : ¬ ((l.length : Int) = 0) := by omega
    have hne2 : Hid (¬ l = []) := by
      show ¬ l = []
      intro h; apply h0; rw [h]; rfl
    have hl0 : 0 < l.length := by omega
    have HL0 := Lib.hid hl0
    have HL6 := Lib.hid hl6
    obtain ⟨U, hU⟩ : ∃ U, up l.length = U := ⟨_, rfl⟩
    have hU16 : U ≤ 16 := by rw [← hU]; exact up_16 hl6
    have HU := Lib.hid hU
    have hx : ¬ l = [] := hne2.out
    clear hU h0
    go_wp2_with fail
    rw [HW0.out]
    refine (ceil_any l.length _ HL0.out HL6.out).mono ?_
    rw [HU.out]
    rintro e w2 ⟨rfl, rfl⟩
    clear hx
    go_wp2_with fail
    go_loopg [0] (U + 1 - Rs.length) (fun gk v wr => ∃ (Ts : List Rm) (A : Option Addr) (d : Nat), v = .slice A Ts.length d ∧ Below B0 w wr ∧ Blk wr w.heap.size 58 #[.slice Al l.length cl] ∧ w.heap.size < wr.heap.size ∧ Ts.length ≤ 17 ∧
      Hid (OwnRs wr B0 A d Ts ∧ (∀ q, A = some q → q.block ≠ w.heap.size) ∧ lvs Ts = padTo (lvs Rs) Ts.length ∧ Rs.length ≤ Ts.length ∧ Ts.length ≤ max Rs.length (U + 1) ∧ gk = U + 1 - Ts.length ∧ wr.ownsRow B0 68 3 (.slice Al l.length cl) l.length (l.flatMap Ent.cells)))
    case atStart => exact ⟨Rs, B, c, rfl, hb0.mono hB0, b1, by omega, hl, HB.out, hneB.out, by rw [pad_same _ (by rw [lvs_len]; exact Nat.le_refl _)], Nat.le_refl _, by omega, rfl, HA.out⟩
    case round =>
      obtain ⟨Ts, A, d, rfl, hb, bX, hlx, h17, hH⟩ := hrel
      have cX : wr.cell? ⟨w.heap.size, 0, none⟩ = some (.slice Al l.length cl) := bX.cell 0
      by_cases hle : Ts.length ≤ U
      · have g1 : (Ts.length : Int) ≤ (U : Int) := by omega
        have HT1 : Hid (Ts.length ≤ U) := hle
        clear cX c10
        go_wp2_with (at_builtin; refine wpList_append_at _ rfl (.tmp 19) (.tmp 21) _ rfl B0 58 te0 _ 1 24 Tryz.underlying24 HI.out.1 HI.out.2.1 HI.out.2.2.1 HI.out.2.2.2 rfl (by omega) (.slice A Ts.length d) Ts.length _ rfl (hH.out.1.row.alloc _) wr.heap.size 1 _ [.slice none 0 0] rfl (by intro j u hu; rw [(Blk.new wr 58 #[.slice none 0 0]).cell j]; simpa using hu) rfl (by simp [Value.oneCell']) (by unfold maxLen; omega) (by omega) (by simp; omega) ?_; intro v5 w5 hown5 hg5 hblk5; obtain ⟨A5, d5, hv5, ho5, bX5, hne5⟩ := stand_grow _ hH.out.1 bX hH.out.2.1 rfl hown5 hg5 hblk5 hlx; subst hv5; have HO5 := Lib.hid ho5; have HG5 := Lib.hid hg5; have HN5 := Lib.hid hne5; clear hown5 hg5 hblk5 ho5 hne5)
        go_roundg (U + 1 - (Ts.length + 1))
        case measure => have := hH.out.2.2.2.2.2.1; have := HT1.out; omega
        case rel =>
          have hHo := hH.out
          have hT1 := HT1.out
          have hsz : (wr.alloc (.cells #[.slice none 0 0] 58)).heap.size = wr.heap.size + 1 := by simp
          refine ⟨Ts ++ [⟨[], none, 0⟩], A5, d5, by rw [List.length_append]; rfl, (hb.alloc (by omega) _).grown HG5.out (by omega) (fun q hq => (hHo.1.row.lt q hq).1), bX5, by have := HG5.out.size; omega, by rw [List.length_append]; simp; omega, HO5.out, HN5.out, ?_, ?_, ?_, ?_, ?_⟩
          · rw [lvs_append, hHo.2.2.1, List.length_append]
            exact (pad_step (lvs Rs) (by rw [lvs_len]; exact hHo.2.2.2.1)).symm
          · rw [List.length_append]; omega
          · rw [List.length_append]; simp; omega
          · rw [List.length_append]; rfl
          · exact own_grow HG5.out (hHo.1.row.alloc _) (hHo.2.2.2.2.2.2.alloc _) (by decide)
      · have hU3 : U < Ts.length := by omega
        obtain ⟨gT, cur, rfl, hgT, bT, hcs, hcell⟩ := hH.out.1.at (by omega)
        have cT := hcell U hU3
        have fT := bT.frozen U
        have g1 : ¬ (Ts.length : Int) ≤ (U : Int) := by omega
        have g2 : (0 : Int) ≤ (U : Int) := by omega
        have g3 : (U : Int) < (Ts.length : Int) := by omega
        have ltT := bT.lt
        have HU3 := Lib.hid hU3
        clear hcell
        go_wp2
        go_ret
        have hHo := hH.out
        refine ⟨some ⟨gT, 0, none⟩, d, Ts.set U ⟨l, Al, cl⟩, by rw [List.length_set]; rfl, ?_, hHo.1.set HU3.out ⟨l, Al, cl⟩ hHo.2.2.2.2.2.2, hb.setCell (p := ⟨gT, U, none⟩) hgT _⟩
        rw [lvs_set, hHo.2.2.1]
        have hp := pad_eq (Ts := lvs Rs) (Ts3 := lvs Ts) (U := U) (by rw [lvs_len, lvs_len]; exact hHo.2.2.2.1) (by rw [lvs_len, lvs_len]; exact hHo.2.2.2.2.1) (by rw [lvs_len]; exact HU3.out)
        rw [lvs_len] at hp
        rw [hp]
        unfold standL
        rw [if_neg hne2.out, HU.out]
set_option maxHeartbeats 4000000 in
theorem alone26_any (A : Option Addr) (l : List Pr) (c : Nat) (n : Int) (w : World) (hA : Sl w A (l.flatMap Pr.cells)) (hl : l.length ≤ 65536) :
    Calls Tryz.prog 39 #[.slice A l.length c, .int .u64 n] w (GivesRg (standL [] (laid (l.map aliveE))) (IntKind.u64.wrap (n + l.length)) w) := by
  obtain ⟨W0, hW0⟩ : ∃ W0, w.alloc (.cells #[.slice none 0 0, .int .u64 0] 27) = W0 := ⟨_, rfl⟩
  have hb0 : Below w.heap.size w W0 := by rw [← hW0]; exact (Below.refl _ _).alloc (Nat.le_refl _) _
  have hsz0 : W0.heap.size = w.heap.size + 1 := by rw [← hW0]; simp
  have b4 : Blk W0 w.heap.size 27 #[.slice none 0 0, .int .u64 0] := by rw [← hW0]; exact Blk.new _ _ _
  have HW0 := Lib.hid hW0
  have HA := Lib.hid (hA.below hb0)
  have HLN : Hid ((laid (l.map aliveE)).length = l.length) := by show _ = _; rw [laid_length, List.length_map]
  have hlm : (l.map aliveE).length = l.length := List.length_map _
  have HLM := Lib.hid hlm
  obtain ⟨E, hE⟩ : ∃ E, l.map aliveE = E := ⟨_, rfl⟩
  have HE := Lib.hid hE
  clear hW0 hA hlm hE
  go_enter Tryz.func39, Tryz.ntmps39
  go_wp2_with fail
  rw [HW0.out]
  refine (refAlive_any A l c _ HA.out hl).mono ?_
  rw [HE.out]
  rintro e w1 ⟨A1, c1, rfl, ho1, hb1⟩
  have hb01 := bext hb0 hb1
  have b41 := b4.below hb1 b4.lt
  have hEl : E.length = l.length := by rw [← HE.out]; exact HLM.out
  have hSl := own_sl ho1
  have HSL := Lib.hid hSl
  have HEL := Lib.hid hEl
  clear ho1 hSl hEl
  go_wp2_with fail
  have hlaid := refLaid_any A1 E c1 w1 HSL.out (by rw [HEL.out]; exact hl)
  rw [HEL.out] at hlaid
  refine hlaid.mono ?_
  clear hlaid
  rintro e w2 ⟨A2, c2, rfl, ho2, hb2⟩
  have hs1 := hb1.size
  have hs2 := hb2.size
  have hs0 := hb01.size
  have b42 := b41.below hb2 b41.lt
  have l42 := b42.lt
  have hb02 : Below w.heap.size w w2 := bext hb01 hb2
  obtain ⟨L, hL⟩ : ∃ L, laid E = L := ⟨_, rfl⟩
  have hLn : L.length = l.length := by rw [← hL, ← HE.out]; exact HLN.out
  rw [hL] at ho2
  have HO2 := Lib.hid (own_mono (B' := w.heap.size + 1) ho2 (by omega))
  have HLNN := Lib.hid hLn
  have HLL := Lib.hid hL
  clear ho2 hLn hL
  obtain ⟨W3, hW3⟩ : ∃ W3, w2.alloc (.cells #[.slice A2 l.length c2] 58) = W3 := ⟨_, rfl⟩
  have hb3 : Below w2.heap.size w2 W3 := by rw [← hW3]; exact (Below.refl _ _).alloc (Nat.le_refl _) _
  have hs3 := hb3.size
  have b43 := b42.below hb3 b42.lt
  have HW3 := Lib.hid hW3
  have HO3 := Lib.hid (own_below HO2.out hb3)
  clear hW3
  go_wp2_with fail
  rw [HW3.out]
  have hst := stand26_any none A2 [] L 0 c2 (w.heap.size + 1) W3 (OwnRs.nil _ _) (by rw [HLNN.out]; exact HO3.out) (by simp) (by rw [HLNN.out]; exact hl) (by omega)
  rw [HLNN.out] at hst
  refine hst.mono ?_
  clear hst
  rintro e w4 ⟨A4, d4, Ts, rfl, hTs, ho4, hb4⟩
  have b44 := b43.below hb4 (Nat.lt_succ_self _)
  have hb04 : Below w.heap.size w w4 := (bext hb02 hb3).trans (hb4.mono (Nat.le_succ _))
  have HTS := Lib.hid hTs
  have HO4 := Lib.hid ho4
  have HB04 := Lib.hid hb04
  have c40 : w4.cell? ⟨w.heap.size, 0, none⟩ = some (.slice none 0 0) := b44.cell 0
  have c41 : w4.cell? ⟨w.heap.size, 1, none⟩ = some (.int .u64 0) := b44.cell 1
  have f40 := b44.frozen 0
  have f41 := b44.frozen 1
  have l44 := b44.lt
  have hcv : IntKind.u64.wrap (l.length : Int) = (l.length : Int) := IntWalk.u64_in _ (by omega)
  clear hTs ho4 hb4 hb04
  go_wp2
  have hbx := box2 b44 (.slice A4 Ts.length d4) (.int .u64 (IntKind.u64.wrap (n + l.length)))
  have e0 : ((w4.setCell ⟨w.heap.size, 0, none⟩ (.slice A4 Ts.length d4)).setCell ⟨w.heap.size, 1, none⟩ (.int .u64 (IntKind.u64.wrap (n + l.length)))).cell? ⟨w.heap.size, 0, none⟩ = some (.slice A4 Ts.length d4) := hbx.cell 0
  have e1 : ((w4.setCell ⟨w.heap.size, 0, none⟩ (.slice A4 Ts.length d4)).setCell ⟨w.heap.size, 1, none⟩ (.int .u64 (IntKind.u64.wrap (n + l.length)))).cell? ⟨w.heap.size, 1, none⟩ = some (.int .u64 (IntKind.u64.wrap (n + l.length))) := hbx.cell 1
  refine bodyPost_ret (v := .agg #[.slice A4 Ts.length d4, .int .u64 (IntKind.u64.wrap (n + l.length))]) (by simp [results, Tryz.results39, go_sem, e0, e1]) rfl ?_
  exact ⟨A4, d4, Ts, rfl, by rw [HTS.out, HE.out, HLL.out]; rfl, (HO4.out.mono (Nat.le_succ _)).set2 b44 (by decide) (by decide) _ _, below2 HB04.out (Nat.le_refl _) _ _⟩
end Go.Proofs.YtolclahkfmplfaaGreat

/- Contracts: the reference's levels (Entries, dead, held, cut, All, Great). -/
namespace Go.Proofs.YtolclahkfmplfaaGreat
open Go Go.RowKit
set_option maxRecDepth 100000
set_option maxHeartbeats 1000000 in
theorem entries26_any (B : Option Addr) (Rs : List Rm) (c : Nat) (n : Int) (w : World) (hB : RunsAt w B Rs) (hT : tot (lvs Rs) ≤ 1000000) (hl : Rs.length ≤ 1000000) :
    Calls Tryz.prog 38 #[.agg #[.slice B Rs.length c, .int .u64 n]] w fun r w' => r = .returned (.int .i64 (tot (lvs Rs) : Nat)) ∧ Below w.heap.size w w' := by
  obtain ⟨W0, hW0⟩ : ∃ W0, w.alloc (.cells #[.slice B Rs.length c, .int .u64 n] 27) = W0 := ⟨_, rfl⟩
  have hb0 : Below w.heap.size w W0 := by rw [← hW0]; exact (Below.refl _ _).alloc (Nat.le_refl _) _
  have b1 : Blk W0 w.heap.size 27 #[.slice B Rs.length c, .int .u64 n] := by rw [← hW0]; exact Blk.new _ _ _
  have c10 : W0.cell? ⟨w.heap.size, 0, none⟩ = some (.slice B Rs.length c) := b1.cell 0
  have HW0 := Lib.hid hW0
  have HB := Lib.hid (hB.below hb0)
  have HB0 := Lib.hid hb0
  clear hW0 hB
  go_enter Tryz.func38, Tryz.ntmps38
  go_wp2
  rw [HW0.out]
  go_loopw [3, 4] (fun a i wr => ∃ k m : Nat, k ≤ Rs.length ∧ i = .int .i64 k ∧ a = .int .i64 m ∧ wr = W0 ∧ m ≤ 1000000 ∧ Hid (m = tot ((lvs Rs).take k))) (fun _ i _ => Rs.length - (intOf i).toNat)
  case atStart => exact ⟨0, 0, Nat.zero_le _, rfl, rfl, rfl, by omega, rfl⟩
  case round =>
    obtain ⟨k, m, hk, rfl, rfl, rfl, hm, hd⟩ := hrel
    by_cases hlt : k < Rs.length
    · obtain ⟨b, off, rfl, hbl, cp⟩ := HB.out.sl.oneB (Below.refl _ _) k hlt
      have hs := tot_take_succ (rs := lvs Rs) (k := k) (by simpa using hlt)
      rw [lvs_lev hlt] at hs
      have hle := tot_take_le (lvs Rs) (k + 1)
      obtain ⟨r, hr⟩ : ∃ r, Rs[k]'hlt = r := ⟨_, rfl⟩
      rw [hr] at cp hs
      obtain ⟨l, A, cl⟩ := r
      have cp1 : wr.cell? ⟨b, off + k, none⟩ = some (.slice A l.length cl) := cp
      dsimp only at hs
      have hki : (0 : Int) ≤ (k : Int) := by omega
      have hki2 : (k : Int) < (Rs.length : Int) := by omega
      have hsum : m + l.length ≤ 1000000 := by have := hd.out; omega
      have hw : IntKind.i64.wrap ((m : Int) + (l.length : Int)) = ((m + l.length : Nat) : Int) := (IntWalk.i64_in _ (by omega)).trans (by omega)
      have HS := Lib.hid hs
      clear cp hr hs hle
      go_wp2
      go_roundw
      case rel => exact ⟨k + 1, m + l.length, by omega, by go_num, by go_num, by first | trivial | rfl, hsum, by show _ = _; rw [HS.out, hd.out]⟩
      case measure => simp [intOf]; omega
    · have hkn : k = Rs.length := by omega
      have hf : m = tot (lvs Rs) := by rw [hd.out, List.take_of_length_le (by simp; omega)]
      have HF := Lib.hid hf
      have hkf : ¬ (k : Int) < (Rs.length : Int) := by omega
      clear hkn hf
      go_wp2
      go_ret
      exact ⟨ret_int (by rw [HF.out]), HB0.out⟩
theorem dead_len (l : List Ent) : decide ((plainE l).length < l.length) = deadE l := by
  have h1 : (plainE l).length = (liveE l).length := by unfold plainE; rw [List.length_map]
  rw [h1]
  cases hd : deadE l with
  | true =>
    refine decide_eq_true ?_
    unfold deadE at hd
    unfold liveE
    refine Classical.byContradiction fun hn => ?_
    have h2 : (l.filter (fun e => !e.dead)).length = l.length := Nat.le_antisymm (List.length_filter_le _ _) (by omega)
    rw [List.length_filter_eq_length_iff] at h2
    obtain ⟨e, he, hx⟩ := List.any_eq_true.1 hd
    have := h2 e he
    rw [hx] at this
    simp at this
  | false =>
    refine decide_eq_false ?_
    unfold deadE at hd
    rw [List.any_eq_false] at hd
    unfold liveE
    rw [List.filter_eq_self.2 (fun e he => by have := hd e he; simpa using this)]
    omega
set_option maxHeartbeats 1000000 in
theorem dead26_any (A : Option Addr) (l : List Ent) (c : Nat) (w : World) (hA : Sl w A (l.flatMap Ent.cells)) (hn : l.length ≤ 1099511627776) :
    Calls Tryz.prog 60 #[.agg #[.slice A l.length c]] w fun r w' => r = .returned (.bool (deadE l)) ∧ Below w.heap.size w w' := by
  obtain ⟨W0, hW0⟩ : ∃ W0, w.alloc (.cells #[.slice A l.length c] 58) = W0 := ⟨_, rfl⟩
  have hb0 : Below w.heap.size w W0 := by rw [← hW0]; exact (Below.refl _ _).alloc (Nat.le_refl _) _
  have b1 : Blk W0 w.heap.size 58 #[.slice A l.length c] := by rw [← hW0]; exact Blk.new _ _ _
  have HW0 := Lib.hid hW0
  have HA := Lib.hid hA
  have HB0 := Lib.hid hb0
  have hpl : Hid (decide ((plainE l).length < l.length) = deadE l) := dead_len l
  have hpn : (plainE l).length ≤ l.length := by unfold plainE; rw [List.length_map]; exact live_le l
  obtain ⟨N, hN⟩ : ∃ N, (plainE l).length = N := ⟨_, rfl⟩
  rw [hN] at hpl hpn
  have HN := Lib.hid hN
  clear hW0 hA hN
  go_enter Tryz.func60, Tryz.ntmps60
  go_upto_region 1 with fail
  rw [HW0.out]
  have c10 : W0.cell? ⟨w.heap.size, 0, none⟩ = some (.slice A l.length c) := b1.cell 0
  have l1 := b1.lt
  go_region_with (go_at_call 84; refine (refPlain_any A l c _ (HA.out.below (bext HB0.out (by first | exact (Below.refl _ _).drew | exact Below.refl _ _))) hn).mono ?_; unfold GivesOwn; rw [HN.out]; rintro e w5 ⟨A5, c5, rfl, h51, hb5⟩; have hb9 : Below W0.heap.size W0 w5 := (by first | exact hb5 | exact bext ((Below.refl _ _).drew) hb5); have d10 : w5.cell? ⟨w.heap.size, 0, none⟩ = some (.slice A l.length c) := ((bcell hb9).1 _ _ l1).trans c10; have HB9 := Lib.hid hb9; clear h51 hb5 hb9)
  all_goals
    go_wp2
    go_ret
    exact ⟨ret_bool (by rw [← hpl.out]), bext HB0.out HB9.out⟩
theorem own_take {w : World} {B0 : Nat} {B : Option Addr} {c : Nat} {Rs : List Rm} (h : OwnRs w B0 B c Rs) {m : Nat} (hm : m ≤ Rs.length) (h0 : B ≠ none) : OwnRs w B0 B c (Rs.take m) := by
  refine ⟨?_, fun r hr => h.ent r (List.mem_of_mem_take hr)⟩
  rw [List.length_take, Nat.min_eq_left hm]
  rcases h.row.2 with ⟨hv, _⟩ | ⟨g, cap, cur, hv, hg, hb, h1, h2, h3, h4⟩
  · exact absurd (by simpa using hv : B = none ∧ _).1 h0
  · obtain ⟨rfl, rfl⟩ : B = some ⟨g, 0, none⟩ ∧ c = cap := by simpa using hv
    refine ⟨by simp; omega, .inr ⟨g, c, cur, rfl, hg, hb, by omega, h2, h3, ?_⟩⟩
    rw [List.map_take, ← h4, List.take_take, Nat.mul_one, Nat.mul_one, Nat.min_eq_left hm]
theorem cutN_step {rs : Lv} {n m : Nat} (h1 : cutN rs (n + 1) = m) (h2 : lev rs n = []) : cutN rs n = m := by rw [cutN, if_pos h2] at h1; exact h1
set_option maxHeartbeats 1000000 in
theorem all26_any (B : Option Addr) (Rs : List Rm) (c : Nat) (n : Int) (w : World) (hB : RunsAt w B Rs) (hl : Rs.length ≤ 1000000) (hsm : ∀ r ∈ Rs, r.l.length ≤ 65536) (hT : tot (lvs Rs) ≤ 1000000) :
    Calls Tryz.prog 61 #[.agg #[.slice B Rs.length c, .int .u64 n]] w (GivesOwn 50 2 (plainE (allE (inS Rs))).length ((plainE (allE (inS Rs))).flatMap Pr.cells) w) := by
  have hT2 : (Rs.map (fun r => r.l.length)).sum ≤ 1000000 := by rw [← tot_rs]; exact hT
  have hal : (allE (inS Rs)).length ≤ 1099511627776 := by
    have h := all_take_len (inS Rs) (inS Rs).length 1000000 (by rw [inS_sum]; exact hT2)
    rw [List.take_length] at h
    omega
  obtain ⟨L, hL⟩ : ∃ L, allE (inS Rs) = L := ⟨_, rfl⟩
  rw [hL] at hal
  have HL := Lib.hid hL
  have hb0 : Below w.heap.size w (w.alloc (.cells #[.slice B Rs.length c, .int .u64 n] 27)) := (Below.refl _ _).alloc (Nat.le_refl _) _
  have hcall := fun W (hW : Below w.heap.size w W) => refAll_any B Rs c 1000000 W (hB.below hW) (by omega) hsm hT2 (by omega)
  rw [hL] at hcall ⊢
  have HC := Lib.hid hcall
  clear hcall hL hB hsm hT hT2
  go_enter Tryz.func61, Tryz.ntmps61
  go_wp2_with fail
  refine (HC.out _ hb0).mono ?_
  rintro e w1 ⟨A1, c1, rfl, ho1, hb1⟩
  have HO1 := Lib.hid ho1
  clear ho1
  go_wp2_with fail
  refine (refPlain_any A1 L c1 _ (own_sl HO1.out) hal).mono ?_
  rintro e w2 ⟨A2, c2, rfl, ho2, hb2⟩
  have HO2 := Lib.hid ho2
  have hs1 := hb1.size
  have hs2 : w.heap.size ≤ w1.heap.size := by simp at hs1; omega
  clear ho2
  go_wp2
  go_ret
  exact ⟨A2, c2, rfl, own_mono HO2.out hs2, bext (bext hb0 hb1) hb2⟩
theorem great26_any (B : Option Addr) (Rs : List Rm) (c most : Nat) (n : Int) (w : World) (hB : RunsAt w B Rs) (hm : most ≤ 1000000) :
    Calls Tryz.prog 15 #[.agg #[.slice B Rs.length c, .int .u64 n], .int .i64 most] w fun r w' => ∃ G : Bool, r = .returned (.bool G) ∧ (G = false → Rs.length + tot (lvs Rs) ≤ most) ∧ Below w.heap.size w w' := by
  have hb0 : Below w.heap.size w (w.alloc (.cells #[.slice B Rs.length c, .int .u64 n] 27)) := (Below.refl _ _).alloc (Nat.le_refl _) _
  have HB := Lib.hid hB
  clear hB
  go_enter Tryz.func15, Tryz.ntmps15
  go_wp2_with fail
  refine (great25_any B Rs c most _ (HB.out.below hb0) hm).mono ?_
  rintro e w1 ⟨G, rfl, hG, rfl⟩
  have HG := Lib.hid hG
  clear hG
  go_wp2
  go_ret
  exact ⟨G, rfl, fun h => by rw [tot_rs]; exact HG.out h, hb0⟩
end Go.Proofs.YtolclahkfmplfaaGreat

/- Contract: which levels may be, by the reference (May). -/
namespace Go.Proofs.YtolclahkfmplfaaGreat
open Go Go.RowKit
set_option maxRecDepth 100000
theorem mayB_bad {rs : Lv} {k : Nat} (h : k < rs.length) (hb : okLv rs.length k (lev rs k) = false) : mayB rs = false := by
  cases hm : mayB rs with
  | false => rfl
  | true =>
    unfold mayB allOk at hm
    simp only [Bool.and_eq_true, decide_eq_true_eq] at hm
    rw [hm.1.2 k h] at hb
    cases hb
theorem mayB_end {rs : Lv} (h : endOk rs = false) : mayB rs = false := by unfold mayB; rw [h]; rfl
theorem mayB_all {rs : Lv} (h : endOk rs = true) (h2 : allOk rs rs.length = true) : mayB rs = decide (tot rs ≤ 65536) := by unfold mayB; rw [h, h2]; rfl
set_option maxHeartbeats 16000000 in
theorem may26_any (B : Option Addr) (Rs : List Rm) (c : Nat) (n : Int) (w : World) (hB : RunsAt w B Rs) (hT : tot (lvs Rs) ≤ 1000000) (hl : Rs.length ≤ 1000000) :
    Calls Tryz.prog 36 #[.agg #[.slice B Rs.length c, .int .u64 n]] w fun r w' => r = .returned (.bool (mayB (lvs Rs))) ∧ Below w.heap.size w w' := by
  obtain ⟨W0, hW0⟩ : ∃ W0, w.alloc (.cells #[.slice B Rs.length c, .int .u64 n] 27) = W0 := ⟨_, rfl⟩
  have hb0 : Below w.heap.size w W0 := by rw [← hW0]; exact (Below.refl _ _).alloc (Nat.le_refl _) _
  have b1 : Blk W0 w.heap.size 27 #[.slice B Rs.length c, .int .u64 n] := by rw [← hW0]; exact Blk.new _ _ _
  have HW0 := Lib.hid hW0
  have HB := Lib.hid hB
  have HB0 := Lib.hid hb0
  clear hW0 hB
  have c10 : W0.cell? ⟨w.heap.size, 0, none⟩ = some (.slice B Rs.length c) := b1.cell 0
  have c11 : W0.cell? ⟨w.heap.size, 1, none⟩ = some (.int .u64 n) := b1.cell 1
  by_cases hend : endOk (lvs Rs) = true
  · have hEnd := Lib.hid hend
    have hl17 : Rs.length ≤ 17 := by
      unfold endOk at hend
      simp at hend
      exact hend.1
    go_enter Tryz.func36, Tryz.ntmps36
    go_upto_region 2 with fail
    rw [HW0.out]
    go_cut [25] from 9 to 25 (fun v wx => v = .bool false ∧ wx = W0)
    case first =>
      have g1 : ¬ (17 : Int) < (Rs.length : Int) := by omega
      by_cases h0 : Rs.length = 0
      · have g2 : ¬ (0 : Int) < (Rs.length : Int) := by omega
        clear hend h0
        go_wp2
        go_meet
        exact ⟨by simp, by first | trivial | rfl⟩
      · have g2 : (0 : Int) < (Rs.length : Int) := by omega
        obtain ⟨j, hj⟩ : ∃ j, Rs.length = j + 1 := ⟨Rs.length - 1, by omega⟩
        obtain ⟨b, off, rfl, hbl, cp⟩ := HB.out.sl.oneB hb0 j (by omega)
        have hne : (Rs[j]'(by omega)).l ≠ [] := by
          unfold endOk at hend
          rw [lvs_len, hj] at hend
          simp at hend
          have h2 := hend.2
          rw [lvs_lev (by omega)] at h2
          exact h2
        obtain ⟨r, hr⟩ : ∃ r, Rs[j]'(by omega) = r := ⟨_, rfl⟩
        rw [hr] at cp hne
        obtain ⟨l, A, cl⟩ := r
        have cp1 : W0.cell? ⟨b, off + j, none⟩ = some (.slice A l.length cl) := cp
        have hne2 : ¬ l = [] := hne
        have hl0 : ¬ ((l.length : Int) = 0) := by have := List.length_pos_iff.2 hne; dsimp only at this; omega
        have g4 : IntKind.i64.wrap ((Rs.length : Int) - 1) = (j : Int) := (IntWalk.i64_in _ (by omega)).trans (by omega)
        have g5 : (0 : Int) ≤ (j : Int) := by omega
        have g6 : (j : Int) < (Rs.length : Int) := by omega
        clear cp hr hne hj hend h0
        go_wp2
        go_meet
        exact ⟨by simp [hne2], by first | trivial | rfl⟩
    case rest =>
    obtain ⟨rfl, rfl⟩ := hcut
    clear hend c10 c11
    go_wp2
    go_loopw [4] (fun i wr => ∃ k : Nat, k ≤ Rs.length ∧ i = .int .i64 k ∧ Below w.heap.size w wr ∧ Blk wr w.heap.size 27 #[.slice B Rs.length c, .int .u64 n] ∧ Hid (allOk (lvs Rs) k = true)) (fun i _ => Rs.length - (intOf i).toNat)
    case atStart => exact ⟨0, Nat.zero_le _, rfl, hb0, b1, by show _ = _; unfold allOk; simp⟩
    case round =>
      obtain ⟨k, hk, rfl, hb, bX, hA⟩ := hrel
      have x10 : wr.cell? ⟨w.heap.size, 0, none⟩ = some (.slice B Rs.length c) := bX.cell 0
      have x11 : wr.cell? ⟨w.heap.size, 1, none⟩ = some (.int .u64 n) := bX.cell 1
      by_cases hlt : k < Rs.length
      · obtain ⟨b, off, rfl, hbl, cp⟩ := HB.out.sl.oneB hb k hlt
        have hok := (HB.out.ok _ (List.getElem_mem hlt)).below hb
        have ha := allOk_succ (lvs Rs) k
        have hbad := mayB_bad (rs := lvs Rs) (k := k) (by simpa using hlt)
        have hle := tot_lev (lvs Rs) k
        rw [lvs_lev hlt, lvs_len] at ha hbad
        rw [lvs_lev hlt] at hle
        obtain ⟨r, hr⟩ : ∃ r, Rs[k]'hlt = r := ⟨_, rfl⟩
        rw [hr] at cp hok ha hbad hle
        obtain ⟨l, A, cl⟩ := r
        have cp1 : wr.cell? ⟨b, off + k, none⟩ = some (.slice A l.length cl) := cp
        dsimp only at ha hbad hle
        have hbl2 : b < wr.heap.size := Nat.lt_of_lt_of_le hbl hb.size
        have hki : (0 : Int) ≤ (k : Int) := by omega
        have hki2 : (k : Int) < (Rs.length : Int) := by omega
        have hw2 : IntKind.i64.wrap ((Rs.length : Int) - 1) = ((Rs.length - 1 : Nat) : Int) := (IntWalk.i64_in _ (by omega)).trans (by omega)
        obtain ⟨E, hE⟩ : ∃ E, chkE l = E := ⟨_, rfl⟩
        have hOK : okLv Rs.length k l = (decide (E = 0) && (decide (l = []) || decide (up l.length = k)) && (decide (k + 1 ≠ Rs.length) || !deadE l)) := by unfold okLv; rw [hE]
        have hE16 : E = 0 → l.length ≤ 65536 := by rw [← hE]; exact fun h => (chk_ok h).2.2
        have hll : l.length ≤ 1000000 := by omega
        have HOKS := Lib.hid hok.sl
        have HA := Lib.hid ha
        have HBAD := Lib.hid hbad
        have HE := Lib.hid hE
        have HE16 := Lib.hid hE16
        have HBB := Lib.hid hb
        have hbs := hb.size
        have lX := bX.lt
        clear cp hr hok ha hbad hE hE16 hle
        obtain ⟨U, hU⟩ : ∃ U, up l.length = U := ⟨_, rfl⟩
        rw [hU] at hOK
        have HU := Lib.hid hU
        obtain ⟨DD, hDD⟩ : ∃ DD, deadE l = DD := ⟨_, rfl⟩
        rw [hDD] at hOK
        have HDD := Lib.hid hDD
        have HOK := Lib.hid hOK
        clear hU hOK hDD
        obtain ⟨J, hJ⟩ : ∃ J : Nat, Rs.length - 1 = J := ⟨_, rfl⟩
        rw [hJ] at hw2
        by_cases hE0 : E = 0
        · have hl6 := HE16.out hE0
          have HL6 := Lib.hid hl6
          clear hl6
          by_cases hl0' : l.length = 0
          · have hnil : l = [] := List.eq_nil_of_length_eq_zero hl0'
            have hl00 : ¬ (0 : Int) < (l.length : Int) := by omega
            have hDF : DD = false := by rw [← HDD.out, hnil]; rfl
            clear hl0'
            have hK : okLv Rs.length k l = true := by rw [HOK.out]; rw [hE0, hnil, hDF]; simp
            have HK := Lib.hid hK
            clear hK
            clear hnil
            subst hDF
            subst hE0
            by_cases hkn : k = J
            · subst hkn
              go_wp2_with fail
              refine (refCheck_any A l cl _ HOKS.out (by omega)).mono ?_
              rw [HE.out]
              rintro e w1 ⟨rfl, hb1⟩
              have y10 : w1.cell? ⟨w.heap.size, 0, none⟩ = some (.slice (some ⟨b, off, none⟩) Rs.length c) := (bX.below hb1 lX).cell 0
              have y11 : w1.cell? ⟨w.heap.size, 1, none⟩ = some (.int .u64 n) := (bX.below hb1 lX).cell 1
              have yp1 : w1.cell? ⟨b, off + k, none⟩ = some (.slice A l.length cl) := ((bcell hb1).1 _ _ hbl2).trans cp1
              have bY := bX.below hb1 lX
              have HB1 := Lib.hid (bext HBB.out hb1)
              go_wp2_with fail
              refine (dead26_any A l cl _ (HOKS.out.below hb1) (by omega)).mono ?_
              rw [HDD.out]
              rintro e w3 ⟨rfl, hb3⟩
              have bZ := bY.below hb3 bY.lt
              have HB3 := Lib.hid (bext HB1.out hb3)
              go_wp2
              go_roundw
              case rel => exact ⟨k + 1, by omega, by go_num, HB3.out, bZ, by show _ = _; rw [HA.out, hA.out, HK.out]; rfl⟩
              case measure => simp [intOf]; omega
              
            · go_wp2_with fail
              refine (refCheck_any A l cl _ HOKS.out (by omega)).mono ?_
              rw [HE.out]
              rintro e w1 ⟨rfl, hb1⟩
              have y10 : w1.cell? ⟨w.heap.size, 0, none⟩ = some (.slice (some ⟨b, off, none⟩) Rs.length c) := (bX.below hb1 lX).cell 0
              have y11 : w1.cell? ⟨w.heap.size, 1, none⟩ = some (.int .u64 n) := (bX.below hb1 lX).cell 1
              have yp1 : w1.cell? ⟨b, off + k, none⟩ = some (.slice A l.length cl) := ((bcell hb1).1 _ _ hbl2).trans cp1
              have bY := bX.below hb1 lX
              have HB1 := Lib.hid (bext HBB.out hb1)
              go_wp2
              go_roundw
              case rel => exact ⟨k + 1, by omega, by go_num, HB1.out, bY, by show _ = _; rw [HA.out, hA.out, HK.out]; rfl⟩
              case measure => simp [intOf]; omega
              
          · have hl0 : 0 < l.length := by omega
            have hne : ¬ l = [] := List.length_pos_iff.1 hl0
            have hl00 : (0 : Int) < (l.length : Int) := by omega
            have HL0 := Lib.hid hl0
            clear hl0 hl0'
            by_cases hu : U = k
            · by_cases hkn : k = J
              · cases DD
                · have hK : okLv Rs.length k l = true := by rw [HOK.out]; rw [hE0]; simp [hu]
                  have HK := Lib.hid hK
                  clear hK
                  subst hkn
                  subst hu
                  subst hE0
                  go_wp2_with fail
                  refine (refCheck_any A l cl _ HOKS.out (by omega)).mono ?_
                  rw [HE.out]
                  rintro e w1 ⟨rfl, hb1⟩
                  have y10 : w1.cell? ⟨w.heap.size, 0, none⟩ = some (.slice (some ⟨b, off, none⟩) Rs.length c) := (bX.below hb1 lX).cell 0
                  have y11 : w1.cell? ⟨w.heap.size, 1, none⟩ = some (.int .u64 n) := (bX.below hb1 lX).cell 1
                  have yp1 : w1.cell? ⟨b, off + U, none⟩ = some (.slice A l.length cl) := ((bcell hb1).1 _ _ hbl2).trans cp1
                  have bY := bX.below hb1 lX
                  have HB1 := Lib.hid (bext HBB.out hb1)
                  go_wp2_with fail
                  refine (ceil_any l.length _ HL0.out HL6.out).mono ?_
                  rw [HU.out]
                  rintro e w2 ⟨rfl, rfl⟩
                  go_wp2_with fail
                  refine (dead26_any A l cl _ (HOKS.out.below hb1) (by omega)).mono ?_
                  rw [HDD.out]
                  rintro e w3 ⟨rfl, hb3⟩
                  have bZ := bY.below hb3 bY.lt
                  have HB3 := Lib.hid (bext HB1.out hb3)
                  go_wp2
                  go_roundw
                  case rel => exact ⟨U + 1, by omega, by go_num, HB3.out, bZ, by show _ = _; rw [HA.out, hA.out, HK.out]; rfl⟩
                  case measure => simp [intOf]; omega
                  
                · have hK : okLv Rs.length k l = false := by rw [HOK.out]; rw [hE0]; simp; omega
                  have HK := Lib.hid hK
                  clear hK
                  subst hkn
                  subst hu
                  subst hE0
                  go_wp2_with fail
                  refine (refCheck_any A l cl _ HOKS.out (by omega)).mono ?_
                  rw [HE.out]
                  rintro e w1 ⟨rfl, hb1⟩
                  have y10 : w1.cell? ⟨w.heap.size, 0, none⟩ = some (.slice (some ⟨b, off, none⟩) Rs.length c) := (bX.below hb1 lX).cell 0
                  have y11 : w1.cell? ⟨w.heap.size, 1, none⟩ = some (.int .u64 n) := (bX.below hb1 lX).cell 1
                  have yp1 : w1.cell? ⟨b, off + U, none⟩ = some (.slice A l.length cl) := ((bcell hb1).1 _ _ hbl2).trans cp1
                  have bY := bX.below hb1 lX
                  have HB1 := Lib.hid (bext HBB.out hb1)
                  go_wp2_with fail
                  refine (ceil_any l.length _ HL0.out HL6.out).mono ?_
                  rw [HU.out]
                  rintro e w2 ⟨rfl, rfl⟩
                  go_wp2_with fail
                  refine (dead26_any A l cl _ (HOKS.out.below hb1) (by omega)).mono ?_
                  rw [HDD.out]
                  rintro e w3 ⟨rfl, hb3⟩
                  have bZ := bY.below hb3 bY.lt
                  have HB3 := Lib.hid (bext HB1.out hb3)
                  go_wp2
                  go_ret
                  exact ⟨ret_bool (HBAD.out HK.out).symm, HB3.out⟩
                  
              · have hK : okLv Rs.length k l = true := by rw [HOK.out]; rw [hE0]; simp [hu]; omega
                have HK := Lib.hid hK
                clear hK
                subst hu
                subst hE0
                go_wp2_with fail
                refine (refCheck_any A l cl _ HOKS.out (by omega)).mono ?_
                rw [HE.out]
                rintro e w1 ⟨rfl, hb1⟩
                have y10 : w1.cell? ⟨w.heap.size, 0, none⟩ = some (.slice (some ⟨b, off, none⟩) Rs.length c) := (bX.below hb1 lX).cell 0
                have y11 : w1.cell? ⟨w.heap.size, 1, none⟩ = some (.int .u64 n) := (bX.below hb1 lX).cell 1
                have yp1 : w1.cell? ⟨b, off + U, none⟩ = some (.slice A l.length cl) := ((bcell hb1).1 _ _ hbl2).trans cp1
                have bY := bX.below hb1 lX
                have HB1 := Lib.hid (bext HBB.out hb1)
                go_wp2_with fail
                refine (ceil_any l.length _ HL0.out HL6.out).mono ?_
                rw [HU.out]
                rintro e w2 ⟨rfl, rfl⟩
                go_wp2
                go_roundw
                case rel => exact ⟨U + 1, by omega, by go_num, HB1.out, bY, by show _ = _; rw [HA.out, hA.out, HK.out]; rfl⟩
                case measure => simp [intOf]; omega
                
            · have hK : okLv Rs.length k l = false := by rw [HOK.out]; rw [hE0]; simp [hu, hne]
              have HK := Lib.hid hK
              clear hK
              subst hE0
              go_wp2_with fail
              refine (refCheck_any A l cl _ HOKS.out (by omega)).mono ?_
              rw [HE.out]
              rintro e w1 ⟨rfl, hb1⟩
              have y10 : w1.cell? ⟨w.heap.size, 0, none⟩ = some (.slice (some ⟨b, off, none⟩) Rs.length c) := (bX.below hb1 lX).cell 0
              have y11 : w1.cell? ⟨w.heap.size, 1, none⟩ = some (.int .u64 n) := (bX.below hb1 lX).cell 1
              have yp1 : w1.cell? ⟨b, off + k, none⟩ = some (.slice A l.length cl) := ((bcell hb1).1 _ _ hbl2).trans cp1
              have bY := bX.below hb1 lX
              have HB1 := Lib.hid (bext HBB.out hb1)
              go_wp2_with fail
              refine (ceil_any l.length _ HL0.out HL6.out).mono ?_
              rw [HU.out]
              rintro e w2 ⟨rfl, rfl⟩
              go_wp2
              go_ret
              exact ⟨ret_bool (HBAD.out HK.out).symm, HB1.out⟩
              
        · have hK : okLv Rs.length k l = false := by rw [HOK.out]; simp [hE0]
          have HK := Lib.hid hK
          clear hK
          go_wp2_with fail
          refine (refCheck_any A l cl _ HOKS.out (by omega)).mono ?_
          rw [HE.out]
          rintro e w1 ⟨rfl, hb1⟩
          have y10 : w1.cell? ⟨w.heap.size, 0, none⟩ = some (.slice (some ⟨b, off, none⟩) Rs.length c) := (bX.below hb1 lX).cell 0
          have y11 : w1.cell? ⟨w.heap.size, 1, none⟩ = some (.int .u64 n) := (bX.below hb1 lX).cell 1
          have yp1 : w1.cell? ⟨b, off + k, none⟩ = some (.slice A l.length cl) := ((bcell hb1).1 _ _ hbl2).trans cp1
          have bY := bX.below hb1 lX
          have HB1 := Lib.hid (bext HBB.out hb1)
          go_wp2
          go_ret
          exact ⟨ret_bool (HBAD.out HK.out).symm, HB1.out⟩
          
      · have hkn : k = Rs.length := by omega
        have hall : allOk (lvs Rs) (lvs Rs).length = true := by rw [lvs_len, ← hkn]; exact hA.out
        have hfin := mayB_all hEnd.out hall
        have HF := Lib.hid hfin
        have hkf : ¬ (k : Int) < (Rs.length : Int) := by omega
        have HBB := Lib.hid hb
        clear hfin hall hkn hb
        go_wp2_with fail
        refine (entries26_any B Rs c n _ (HB.out.below HBB.out) hT hl).mono ?_
        rintro e w4 ⟨rfl, hb4⟩
        go_wp2
        go_ret
        exact ⟨ret_bool (by rw [HF.out]; first | rfl | (simp; omega) | (rw [decide_eq_decide]; omega)), bext HBB.out hb4⟩
  · have hE8 : mayB (lvs Rs) = false := mayB_end (by simpa using hend)
    have HE8 := Lib.hid hE8
    clear hE8
    by_cases h17 : 17 < Rs.length
    · have g1 : (17 : Int) < (Rs.length : Int) := by omega
      clear hend
      go_enter Tryz.func36, Tryz.ntmps36
      go_wp2
      go_ret
      exact ⟨ret_bool HE8.out.symm, by first | exact HB0.out | (have := HB0.out; rw [← HW0.out] at this; exact this)⟩
    · have g1 : ¬ (17 : Int) < (Rs.length : Int) := by omega
      have h0 : Rs.length ≠ 0 := by
        intro h0
        apply hend
        unfold endOk
        rw [lvs_len, h0]; rfl
      have g2 : (0 : Int) < (Rs.length : Int) := by omega
      obtain ⟨j, hj⟩ : ∃ j, Rs.length = j + 1 := ⟨Rs.length - 1, by omega⟩
      obtain ⟨b, off, rfl, hbl, cp⟩ := HB.out.sl.oneB (Below.refl _ _) j (by omega)
      have hne : (Rs[j]'(by omega)).l = [] := by
        refine Classical.byContradiction fun hx => hend ?_
        unfold endOk
        rw [lvs_len, hj, Nat.add_sub_cancel, lvs_lev (by omega)]
        simp [hx]
        omega
      obtain ⟨r, hr⟩ : ∃ r, Rs[j]'(by omega) = r := ⟨_, rfl⟩
      rw [hr] at cp hne
      obtain ⟨l, A, cl⟩ := r
      have hnl : l = [] := hne
      subst hnl
      have cp1 : w.cell? ⟨b, off + j, none⟩ = some (.slice A 0 cl) := cp
      have g4 : IntKind.i64.wrap ((Rs.length : Int) - 1) = (j : Int) := (IntWalk.i64_in _ (by omega)).trans (by omega)
      have g5 : (0 : Int) ≤ (j : Int) := by omega
      have g6 : (j : Int) < (Rs.length : Int) := by omega
      clear cp hr hne hj hend
      go_enter Tryz.func36, Tryz.ntmps36
      go_wp2
      go_ret
      exact ⟨ret_bool HE8.out.symm, by first | exact HB0.out | (have := HB0.out; rw [← HW0.out] at this; exact this)⟩
end Go.Proofs.YtolclahkfmplfaaGreat

/- Contract: an entry is let in, by the reference (In). -/
namespace Go.Proofs.YtolclahkfmplfaaGreat
open Go Go.RowKit
set_option maxRecDepth 100000
theorem OwnRs.setFar' {w : World} {B0 g : Nat} {B : Option Addr} {c : Nat} {Rs : List Rm} {cs : Array Value} (h : OwnRs w B0 B c Rs) (hB : Blk w g 58 cs) (hne : ∀ q, B = some q → q.block ≠ g) (i : Nat) (u : Value) : OwnRs (w.setCell ⟨g, i, none⟩ u) B0 B c Rs :=
  ⟨own_far (p := ⟨g, i, none⟩) h.row (by
    cases B with
    | none => simp [Value.ownBlock]
    | some q => have := hne q rfl; simp [Value.ownBlock]; exact this) u, fun r hr => own_setT hB (h.ent r hr) (by decide) i u⟩
theorem own_form2d {w : World} {B n c s : Nat} {e : TypeId} {A : Option Addr} {xs : List Value} (h : w.ownsRow B e s (.slice A n c) n xs) : n ≤ c ∧ c ≤ maxLen := by
  obtain ⟨A', c', h4, h5, h6⟩ := own_form h
  obtain ⟨rfl, rfl⟩ : A = A' ∧ c = c' := by simpa using h4
  exact ⟨h5, h6⟩
end Go.Proofs.YtolclahkfmplfaaGreat

/- Contract: does one of runs hold entries (slices.ContainsFunc, the closure of rungs.in). -/
namespace Go.Proofs.YtolclahkfmplfaaGreat
open Go Go.RowKit
set_option maxRecDepth 100000
def anyR (Qs : List Rm) : Bool := Qs.any (fun r => decide (r.l ≠ []))
theorem any_none {Qs : List Rm} (h : ∀ j (hj : j < Qs.length), (Qs[j]'hj).l = []) : anyR Qs = false := by
  unfold anyR
  rw [List.any_eq_false]
  intro r hr
  obtain ⟨j, hj, e⟩ := List.getElem_of_mem hr
  have := h j hj
  rw [e] at this
  simp [this]
theorem any_one {Qs : List Rm} {j : Nat} (hj : j < Qs.length) (h : (Qs[j]'hj).l ≠ []) : anyR Qs = true := by
  unfold anyR
  exact List.any_eq_true.2 ⟨_, List.getElem_mem hj, by simpa using h⟩
theorem any_drop (Rs : List Rm) (k : Nat) : anyR (Rs.drop (k + 1)) = heldB (lvs Rs) k := by
  unfold anyR heldB lvs
  rw [← List.map_drop, List.any_map]
  rfl
end Go.Proofs.YtolclahkfmplfaaGreat

/- Contract: rungs.Twin. -/
namespace Go.Proofs.YtolclahkfmplfaaGreat
open Go Go.RowKit
set_option maxRecDepth 100000
section
variable {w W V V' : World}
/-- nothing below the call is touched -/
abbrev SO (w W V : World) : Prop := Below w.heap.size w V ∧ W.heap.size ≤ V.heap.size
theorem SO.init (h : Below w.heap.size w W) : SO w W W.drew := ⟨h.drew, Nat.le_refl _⟩
theorem SO.init0 (h : Below w.heap.size w W) : SO w W W := ⟨h, Nat.le_refl _⟩
theorem SO.alloc (x : Obj) (h : SO w W V) : SO w W (V.alloc x) := ⟨h.1.alloc h.1.size x, by have := h.2; simp; omega⟩
theorem SO.allocD (x : Obj) (h : SO w W V.drew) : SO w W (V.alloc x).drew := ⟨(undrew h.1).alloc (undrew h.1).size x |>.drew, by have := h.2; have e : V.drew.heap.size = V.heap.size := rfl; rw [e] at this; show W.heap.size ≤ (V.alloc x).heap.size; simp; omega⟩
theorem SO.below (hb : Below V.heap.size V V') (h : SO w W V) : SO w W V' := ⟨bext h.1 hb, Nat.le_trans h.2 hb.size⟩
theorem SO.grown {v : Value} (hg : V.grownBy V' v.ownBlock) (ho : ∀ q, v.ownBlock = some q → w.heap.size ≤ q) (h : SO w W V) : SO w W V' := ⟨h.1.grown hg h.1.size ho, Nat.le_trans h.2 hg.size⟩
theorem SO.set {g : Nat} (hg : w.heap.size ≤ g) (i : Nat) (y : Value) (h : SO w W V) : SO w W (V.setCell ⟨g, i, none⟩ y) := ⟨h.1.setCell (p := ⟨g, i, none⟩) hg y, by have := h.2; simp [World.setCell]; omega⟩
end
theorem own_hid {w : World} {B0 k : Nat} {A : Option Addr} {d : Nat} {Ts : List Rm} {o : Obj} (h : Hid (OwnRs w B0 A d Ts)) (hk : Hid (Ts.length = k)) : (w.alloc o).ownsRow B0 58 1 (.slice A k d) k (Ts.map Rm.v) := by
  have := h.out.row.alloc o
  rw [hk.out] at this
  exact this
end Go.Proofs.YtolclahkfmplfaaGreat

/- Contract: which levels hold a run, as a map (rungs.held). -/
namespace Go.Proofs.YtolclahkfmplfaaGreat
open Go Go.RowKit Go.Maps
set_option maxRecDepth 100000
end Go.Proofs.YtolclahkfmplfaaGreat
