/- Gw Ha Hb Hm Hs Tq: texts of the claim, in this order. -/
import Derived.Test.YthbppblmecdekaaDoorWb13
import Derived.Deep.RegionLaw
import Derived.Test.YthbppblmecdekaaDoorWb9
import Derived.Test.YthbppblmecdekaaDoorWb7
import Derived.Deep.LoopGhost
import Derived.BigRegion
import Derived.OrdersHeld
import Derived.StillTail
import Derived.Deep.RegionHeld3
import Derived.ScopeJumps
/- Contract: rungs.Twin. -/
namespace Go.Proofs.YthbppblmecdekaaDoor
open Go Go.RowKit
set_option maxRecDepth 100000
section
variable {w W V V' : World}
/-- nothing below the call is touched -/
abbrev SO (w W V : World) : Prop := Below w.heap.size w V ∧ W.heap.size ≤ V.heap.size
theorem SO.init (h : Below w.heap.size w W) : SO w W W.drew := ⟨h.drew, Nat.le_refl _⟩
theorem SO.init0 (h : Below w.heap.size w W) : SO w W W := ⟨h, Nat.le_refl _⟩
theorem SO.alloc (x : Obj) (h : SO w W V) : SO w W (V.alloc x) := ⟨h.1.alloc h.1.size x, by have := h.2; simp; omega⟩
theorem SO.allocD (x : Obj) (h : SO w W V.drew) : SO w W (V.alloc x).drew := ⟨(undrew h.1).alloc (undrew h.1).size x |>.drew, by have := h.2; have e : V.drew.heap.size = V.heap.size := rfl; rw [e] at this; show W.heap.size ≤ (V.alloc x).heap.size; simp; omega⟩
theorem SO.below (hb : Below V.heap.size V V') (h : SO w W V) : SO w W V' := ⟨bext h.1 hb, Nat.le_trans h.2 hb.size⟩
theorem SO.grown {v : Value} (hg : V.grownBy V' v.ownBlock) (ho : ∀ q, v.ownBlock = some q → w.heap.size ≤ q) (h : SO w W V) : SO w W V' := ⟨h.1.grown hg h.1.size ho, Nat.le_trans h.2 hg.size⟩
theorem SO.set {g : Nat} (hg : w.heap.size ≤ g) (i : Nat) (y : Value) (h : SO w W V) : SO w W (V.setCell ⟨g, i, none⟩ y) := ⟨h.1.setCell (p := ⟨g, i, none⟩) hg y, by have := h.2; simp [World.setCell]; omega⟩
end
theorem own_hid {w : World} {B0 k : Nat} {A : Option Addr} {d : Nat} {Ts : List Rm} {o : Obj} (h : Hid (OwnRs w B0 A d Ts)) (hk : Hid (Ts.length = k)) : (w.alloc o).ownsRow B0 61 1 (.slice A k d) k (Ts.map Rm.v) := by
  have := h.out.row.alloc o
  rw [hk.out] at this
  exact this
set_option maxHeartbeats 4000000 in
theorem twinR_any (B : Option Addr) (Rs : List Rm) (c : Nat) (n : Int) (w : World) (hB : RunsAt w B Rs) (hl : Rs.length ≤ 1000000) (hrs : ∀ r ∈ Rs, r.l.length ≤ 1000000) :
    Calls Tryd.prog 17 #[.agg #[.slice B Rs.length c, .int .u64 n]] w (GivesRg (lvs Rs) n w) := by
  obtain ⟨te0, hI⟩ := info_parts run_info1
  have HI := Lib.hid hI
  obtain ⟨W0, hW0⟩ : ∃ W0, ((w.alloc (.cells #[.slice B Rs.length c, .int .u64 n] 25)).alloc (.cells #[.slice none 0 0, .int .u64 0] 25)).alloc (.cells #[.slice none 0 0, .int .u64 n] 25) = W0 := ⟨_, rfl⟩
  have hb0 : Below w.heap.size w W0 := by rw [← hW0]; exact (((Below.refl _ _).alloc (Nat.le_refl _) _).alloc (by simp) _).alloc (by simp; omega) _
  have b20 : Blk W0 (w.heap.size + 1) 25 #[.slice none 0 0, .int .u64 0] := by
    rw [← hW0]
    have := Blk.new (w.alloc (.cells #[.slice B Rs.length c, .int .u64 n] 25)) 25 #[.slice none 0 0, .int .u64 0]
    rw [World.size_alloc] at this
    exact this.alloc _
  have b30 : Blk W0 (w.heap.size + 2) 25 #[.slice none 0 0, .int .u64 n] := by
    rw [← hW0]
    have := Blk.new ((w.alloc (.cells #[.slice B Rs.length c, .int .u64 n] 25)).alloc (.cells #[.slice none 0 0, .int .u64 0] 25)) 25 #[.slice none 0 0, .int .u64 n]
    rwa [World.size_alloc, World.size_alloc] at this
  have HB := Lib.hid hB
  have HHR := Lib.hid hrs
  have HW0 := Lib.hid hW0
  clear hB hrs hI hW0
  go_enter Tryd.func17, Tryd.ntmps17
  go_wp2
  rw [HW0.out]
  go_loopw [12] (fun i wr => ∃ (k : Nat) (Ts : List Rm) (A : Option Addr) (d : Nat), k ≤ Rs.length ∧ i = .int .i64 k ∧ Below w.heap.size w wr ∧ Blk wr (w.heap.size + 1) 25 #[.slice none 0 0, .int .u64 0] ∧ Blk wr (w.heap.size + 2) 25 #[.slice A k d, .int .u64 n] ∧
      Hid (OwnRs wr w.heap.size A d Ts ∧ lvs Ts = (lvs Rs).take k ∧ Ts.length = k)) (fun i _ => Rs.length - (intOf i).toNat)
  case atStart => exact ⟨0, [], none, 0, Nat.zero_le _, rfl, hb0, b20, b30, OwnRs.nil _ _, rfl, rfl⟩
  case round =>
    obtain ⟨k, Ts, A, d, hk, rfl, hb, b2, b3, hH⟩ := hrel
    have hbs := hb.size
    have c30 : wr.cell? ⟨w.heap.size + 1 + 1, 0, none⟩ = some (.slice A k d) := b3.cell 0
    have c31 : wr.cell? ⟨w.heap.size + 1 + 1, 1, none⟩ = some (.int .u64 n) := b3.cell 1
    have f30 := b3.frozen 0
    have l3 := b3.lt
    by_cases hlt : k < Rs.length
    · obtain ⟨b, off, rfl, hbl, cp⟩ := HB.out.sl.oneB hb k hlt
      have hok := HB.out.ok _ (List.getElem_mem hlt)
      have hrl := HHR.out _ (List.getElem_mem hlt)
      have hin2 : (lvs Rs).take (k + 1) = (lvs Rs).take k ++ [(Rs[k]'hlt).l] := by
        rw [List.take_succ_eq_append_getElem (by simpa using hlt)]; simp
      obtain ⟨r, hr⟩ : ∃ r, Rs[k]'hlt = r := ⟨_, rfl⟩
      rw [hr] at cp hok hrl hin2
      obtain ⟨l, Al, cl⟩ := r
      have cp1 : wr.cell? ⟨b, off + k, none⟩ = some (.slice Al l.length cl) := cp
      dsimp only at hrl hin2
      have hki : (0 : Int) ≤ (k : Int) := by omega
      have hki2 : (k : Int) < (Rs.length : Int) := by omega
      have HOK := Lib.hid hok.sl
      have HIN := Lib.hid hin2
      obtain ⟨W1, hW1⟩ : ∃ W1, wr.alloc (.cells #[.slice Al l.length cl] 61) = W1 := ⟨_, rfl⟩
      have hb1 : Below wr.heap.size wr W1 := by rw [← hW1]; exact (Below.refl _ _).alloc (Nat.le_refl _) _
      have b51 : Blk W1 wr.heap.size 61 #[.slice Al l.length cl] := by rw [← hW1]; exact Blk.new _ _ _
      have HW1 := Lib.hid hW1
      clear cp hr hok hin2 hW1
      go_upto_region 5 with fail
      rw [HW1.out]
      clear c30 c31 f30 cp1
      have b21 := b2.below hb1 b2.lt
      have b31 := b3.below hb1 b3.lt
      have hb01 : Below w.heap.size w W1 := bext hb hb1
      have O1 : Hid (OwnRs W1 w.heap.size A d Ts) := hH.out.1.below hb1
      have c50 : W1.cell? ⟨wr.heap.size, 0, none⟩ = some (.slice Al l.length cl) := b51.cell 0
      have c30 : W1.cell? ⟨w.heap.size + 1 + 1, 0, none⟩ = some (.slice A k d) := b31.cell 0
      have c31 : W1.cell? ⟨w.heap.size + 1 + 1, 1, none⟩ = some (.int .u64 n) := b31.cell 1
      have f30 := b31.frozen 0
      have hTk : Hid (Ts.length = k) := hH.out.2.2
      have HB01 := Lib.hid hb01
      have hwl : w.heap.size ≤ W1.heap.size := hb01.size
      go_region_law (first
        | (refine step_append_sl _ (by rfl) (.tmp 17) (.tmp 20) _ (by rfl) w.heap.size 61 te0 _ 1 24 Tryd.underlying22 HI.out.1 HI.out.2.1 HI.out.2.2.1 HI.out.2.2.2 rfl (by omega) (.slice A k d) k (Ts.map Rm.v) (by rfl) (own_hid O6 hTk) _ 1 _ [.slice A6 l.length c6] (by rfl) (by exact sl_new1 _ _ _) rfl (by simp [Value.oneCell']) (by unfold maxLen; omega) (by omega) (by simp; omega) ?_; intro v7 w7 hown7 hg7; obtain ⟨A7, d7, rfl, hle7, hmx7⟩ := own_form hown7; have b37 := (b36.alloc (.cells #[.slice A6 l.length c6] 61)).grown hg7 (own_typ (own_hid O6 hTk) (b36.alloc (.cells #[.slice A6 l.length c6] 61)) (by decide)); have b27 := (b26.alloc (.cells #[.slice A6 l.length c6] 61)).grown hg7 (own_typ (own_hid O6 hTk) (b26.alloc (.cells #[.slice A6 l.length c6] 61)) (by decide)); have c37 : w7.cell? ⟨w.heap.size + 1 + 1, 0, none⟩ = some (.slice A k d) := b37.cell 0; have f37 : w7.frozen? ⟨w.heap.size + 1 + 1, 0, none⟩ = false := b37.frozen 0; have HO7 := Lib.hid hown7; have HG7 := Lib.hid hg7; clear hown7 hg7)
        | (go_simp; go_at_call 55; refine (twin_any Al l cl _ (HOK.out.below (by first | exact HB01.out.drew | exact HB01.out)) hrl).mono ?_; rintro e w6 ⟨A6, c6, rfl, ho6, hb6⟩; have hb16 : Below W1.heap.size W1 w6 := (by first | exact hb6 | exact bext ((Below.refl _ _).drew) hb6); have O6 := Lib.hid (O1.out.below hb16); have b26 := b21.below hb16 b21.lt; have b36 := b31.below hb16 b31.lt; have HO6 := Lib.hid (own_mono (B' := w.heap.size) ho6 (by first | exact hwl | (simp; omega))); have HB6 := Lib.hid hb16; have hs6 := hb16.size; have c36 : w6.cell? ⟨w.heap.size + 1 + 1, 0, none⟩ = some (.slice A k d) := b36.cell 0; have f36 : w6.frozen? ⟨w.heap.size + 1 + 1, 0, none⟩ = false := b36.frozen 0; have l36 : w.heap.size + 1 + 1 < w6.heap.size := b36.lt; clear ho6 hb6 hb16)
        | fail "no arm")
      all_goals
        go_wp2_with fail
        go_roundw
        case rel =>
          have hb7 : Below w.heap.size w w7 := ((bext HB01.out HB6.out).alloc (by have := (bext HB01.out HB6.out).size; omega) _).grown HG7.out (by have := (bext HB01.out HB6.out).size; simp; omega) (fun q hq => (O1.out.row.lt q (by rw [hTk.out]; exact hq)).1)
          have hO7 : OwnRs w7 w.heap.size A7 d7 (Ts ++ [⟨l, A6, c6⟩]) := OwnRs.push (O6.out.alloc (.cells #[.slice A6 l.length c6] 61)) ⟨l, A6, c6⟩ (HO6.out.alloc _) (by rw [hTk.out]; exact HO7.out) (by rw [hTk.out]; exact HG7.out)
          refine ⟨k + 1, Ts ++ [⟨l, A6, c6⟩], A7, d7, by omega, by go_num, hb7.setCell (p := ⟨w.heap.size + 1 + 1, 0, none⟩) (by show w.heap.size ≤ w.heap.size + 1 + 1; omega) _, b27.far (p := ⟨w.heap.size + 1 + 1, 0, none⟩) (by simp) _, ?_, hO7.setT b37 (by decide) (by decide) 0 _, ?_, ?_⟩
          · have := b37.set_ 0 (.slice A7 (k + 1) d7)
            simpa using this
          · rw [lvs_append, hH.out.2.1, HIN.out]; rfl
          · rw [List.length_append, hTk.out]; rfl
        case measure => simp [intOf]; omega
    · have hkn : k = Rs.length := by omega
      have HF : Hid (lvs Ts = lvs Rs) := by
        have h := hH.out.2.1
        rw [List.take_of_length_le (by rw [lvs_len]; omega)] at h
        exact h
      have HTK : Hid (Ts.length = k) := hH.out.2.2
      clear hkn
      have f20 := b2.frozen 0
      have f21 := b2.frozen 1
      have c20 : wr.cell? ⟨w.heap.size + 1, 0, none⟩ = some (.slice none 0 0) := b2.cell 0
      have c21 : wr.cell? ⟨w.heap.size + 1, 1, none⟩ = some (.int .u64 0) := b2.cell 1
      go_wp2
      have hbx := box2 b2 (.slice A k d) (.int .u64 n)
      have e0 : ((wr.setCell ⟨w.heap.size + 1, 0, none⟩ (.slice A k d)).setCell ⟨w.heap.size + 1, 1, none⟩ (.int .u64 n)).cell? ⟨w.heap.size + 1, 0, none⟩ = some (.slice A k d) := hbx.cell 0
      have e1 : ((wr.setCell ⟨w.heap.size + 1, 0, none⟩ (.slice A k d)).setCell ⟨w.heap.size + 1, 1, none⟩ (.int .u64 n)).cell? ⟨w.heap.size + 1, 1, none⟩ = some (.int .u64 n) := hbx.cell 1
      refine bodyPost_ret (v := .agg #[.slice A k d, .int .u64 n]) (by simp [results, Tryd.results17, go_sem, e0, e1]) rfl ?_
      exact ⟨A, d, Ts, by rw [HTK.out], HF.out, hH.out.1.set2 b2 (by decide) (by decide) _ _, below2 hb (Nat.le_succ _) _ _⟩
end Go.Proofs.YthbppblmecdekaaDoor

/- Contracts: the reference's levels (Entries, dead, held, cut, All, Great). -/
namespace Go.Proofs.YthbppblmecdekaaDoor
open Go Go.RowKit
set_option maxRecDepth 100000
set_option maxHeartbeats 1000000 in
theorem entries26_any (B : Option Addr) (Rs : List Rm) (c : Nat) (n : Int) (w : World) (hB : RunsAt w B Rs) (hT : tot (lvs Rs) ≤ 1000000) (hl : Rs.length ≤ 1000000) :
    Calls Tryd.prog 59 #[.agg #[.slice B Rs.length c, .int .u64 n]] w fun r w' => r = .returned (.int .i64 (tot (lvs Rs) : Nat)) ∧ Below w.heap.size w w' := by
  obtain ⟨W0, hW0⟩ : ∃ W0, w.alloc (.cells #[.slice B Rs.length c, .int .u64 n] 25) = W0 := ⟨_, rfl⟩
  have hb0 : Below w.heap.size w W0 := by rw [← hW0]; exact (Below.refl _ _).alloc (Nat.le_refl _) _
  have b1 : Blk W0 w.heap.size 25 #[.slice B Rs.length c, .int .u64 n] := by rw [← hW0]; exact Blk.new _ _ _
  have c10 : W0.cell? ⟨w.heap.size, 0, none⟩ = some (.slice B Rs.length c) := b1.cell 0
  have HW0 := Lib.hid hW0
  have HB := Lib.hid (hB.below hb0)
  have HB0 := Lib.hid hb0
  clear hW0 hB
  go_enter Tryd.func59, Tryd.ntmps59
  go_wp2
  rw [HW0.out]
  go_loopw [3, 4] (fun a i wr => ∃ k m : Nat, k ≤ Rs.length ∧ i = .int .i64 k ∧ a = .int .i64 m ∧ wr = W0 ∧ m ≤ 1000000 ∧ Hid (m = tot ((lvs Rs).take k))) (fun _ i _ => Rs.length - (intOf i).toNat)
  case atStart => exact ⟨0, 0, Nat.zero_le _, rfl, rfl, rfl, by omega, rfl⟩
  case round =>
    obtain ⟨k, m, hk, rfl, rfl, rfl, hm, hd⟩ := hrel
    by_cases hlt : k < Rs.length
    · obtain ⟨b, off, rfl, hbl, cp⟩ := HB.out.sl.oneB (Below.refl _ _) k hlt
      have hs := tot_take_succ (rs := lvs Rs) (k := k) (by simpa using hlt)
      rw [lvs_lev hlt] at hs
      have hle := tot_take_le (lvs Rs) (k + 1)
      obtain ⟨r, hr⟩ : ∃ r, Rs[k]'hlt = r := ⟨_, rfl⟩
      rw [hr] at cp hs
      obtain ⟨l, A, cl⟩ := r
      have cp1 : wr.cell? ⟨b, off + k, none⟩ = some (.slice A l.length cl) := cp
      dsimp only at hs
      have hki : (0 : Int) ≤ (k : Int) := by omega
      have hki2 : (k : Int) < (Rs.length : Int) := by omega
      have hsum : m + l.length ≤ 1000000 := by have := hd.out; omega
      have hw : IntKind.i64.wrap ((m : Int) + (l.length : Int)) = ((m + l.length : Nat) : Int) := (IntWalk.i64_in _ (by omega)).trans (by omega)
      have HS := Lib.hid hs
      clear cp hr hs hle
      go_wp2
      go_roundw
      case rel => exact ⟨k + 1, m + l.length, by omega, by go_num, by go_num, by first | trivial | rfl, hsum, by show _ = _; rw [HS.out, hd.out]⟩
      case measure => simp [intOf]; omega
    · have hkn : k = Rs.length := by omega
      have hf : m = tot (lvs Rs) := by rw [hd.out, List.take_of_length_le (by simp; omega)]
      have HF := Lib.hid hf
      have hkf : ¬ (k : Int) < (Rs.length : Int) := by omega
      clear hkn hf
      go_wp2
      go_ret
      exact ⟨ret_int (by rw [HF.out]), HB0.out⟩
theorem dead_len (l : List Ent) : decide ((plainE l).length < l.length) = deadE l := by
  have h1 : (plainE l).length = (liveE l).length := by unfold plainE; rw [List.length_map]
  rw [h1]
  cases hd : deadE l with
  | true =>
    refine decide_eq_true ?_
    unfold deadE at hd
    unfold liveE
    refine Classical.byContradiction fun hn => ?_
    have h2 : (l.filter (fun e => !e.dead)).length = l.length := Nat.le_antisymm (List.length_filter_le _ _) (by omega)
    rw [List.length_filter_eq_length_iff] at h2
    obtain ⟨e, he, hx⟩ := List.any_eq_true.1 hd
    have := h2 e he
    rw [hx] at this
    simp at this
  | false =>
    refine decide_eq_false ?_
    unfold deadE at hd
    rw [List.any_eq_false] at hd
    unfold liveE
    rw [List.filter_eq_self.2 (fun e he => by have := hd e he; simpa using this)]
    omega
set_option maxHeartbeats 1000000 in
theorem dead26_any (A : Option Addr) (l : List Ent) (c : Nat) (w : World) (hA : Sl w A (l.flatMap Ent.cells)) (hn : l.length ≤ 1099511627776) :
    Calls Tryd.prog 94 #[.agg #[.slice A l.length c]] w fun r w' => r = .returned (.bool (deadE l)) ∧ Below w.heap.size w w' := by
  obtain ⟨W0, hW0⟩ : ∃ W0, w.alloc (.cells #[.slice A l.length c] 61) = W0 := ⟨_, rfl⟩
  have hb0 : Below w.heap.size w W0 := by rw [← hW0]; exact (Below.refl _ _).alloc (Nat.le_refl _) _
  have b1 : Blk W0 w.heap.size 61 #[.slice A l.length c] := by rw [← hW0]; exact Blk.new _ _ _
  have HW0 := Lib.hid hW0
  have HA := Lib.hid hA
  have HB0 := Lib.hid hb0
  have hpl : Hid (decide ((plainE l).length < l.length) = deadE l) := dead_len l
  have hpn : (plainE l).length ≤ l.length := by unfold plainE; rw [List.length_map]; exact live_le l
  obtain ⟨N, hN⟩ : ∃ N, (plainE l).length = N := ⟨_, rfl⟩
  rw [hN] at hpl hpn
  have HN := Lib.hid hN
  clear hW0 hA hN
  go_enter Tryd.func94, Tryd.ntmps94
  go_upto_region 1 with fail
  rw [HW0.out]
  have c10 : W0.cell? ⟨w.heap.size, 0, none⟩ = some (.slice A l.length c) := b1.cell 0
  have l1 := b1.lt
  go_region_with (go_at_call 95; refine (refPlain_any A l c _ (HA.out.below (bext HB0.out (by first | exact (Below.refl _ _).drew | exact Below.refl _ _))) hn).mono ?_; unfold GivesOwn; rw [HN.out]; rintro e w5 ⟨A5, c5, rfl, h51, hb5⟩; have hb9 : Below W0.heap.size W0 w5 := (by first | exact hb5 | exact bext ((Below.refl _ _).drew) hb5); have d10 : w5.cell? ⟨w.heap.size, 0, none⟩ = some (.slice A l.length c) := ((bcell hb9).1 _ _ l1).trans c10; have HB9 := Lib.hid hb9; clear h51 hb5 hb9)
  all_goals
    go_wp2
    go_ret
    exact ⟨ret_bool (by rw [← hpl.out]), bext HB0.out HB9.out⟩
theorem own_take {w : World} {B0 : Nat} {B : Option Addr} {c : Nat} {Rs : List Rm} (h : OwnRs w B0 B c Rs) {m : Nat} (hm : m ≤ Rs.length) (h0 : B ≠ none) : OwnRs w B0 B c (Rs.take m) := by
  refine ⟨?_, fun r hr => h.ent r (List.mem_of_mem_take hr)⟩
  rw [List.length_take, Nat.min_eq_left hm]
  rcases h.row.2 with ⟨hv, _⟩ | ⟨g, cap, cur, hv, hg, hb, h1, h2, h3, h4⟩
  · exact absurd (by simpa using hv : B = none ∧ _).1 h0
  · obtain ⟨rfl, rfl⟩ : B = some ⟨g, 0, none⟩ ∧ c = cap := by simpa using hv
    refine ⟨by simp; omega, .inr ⟨g, c, cur, rfl, hg, hb, by omega, h2, h3, ?_⟩⟩
    rw [List.map_take, ← h4, List.take_take, Nat.mul_one, Nat.mul_one, Nat.min_eq_left hm]
theorem cutN_step {rs : Lv} {n m : Nat} (h1 : cutN rs (n + 1) = m) (h2 : lev rs n = []) : cutN rs n = m := by rw [cutN, if_pos h2] at h1; exact h1
set_option maxHeartbeats 1000000 in
theorem all26_any (B : Option Addr) (Rs : List Rm) (c : Nat) (n : Int) (w : World) (hB : RunsAt w B Rs) (hl : Rs.length ≤ 1000000) (hsm : ∀ r ∈ Rs, r.l.length ≤ 65536) (hT : tot (lvs Rs) ≤ 1000000) :
    Calls Tryd.prog 58 #[.agg #[.slice B Rs.length c, .int .u64 n]] w (GivesOwn 56 2 (plainE (allE (inS Rs))).length ((plainE (allE (inS Rs))).flatMap Pr.cells) w) := by
  have hT2 : (Rs.map (fun r => r.l.length)).sum ≤ 1000000 := by rw [← tot_rs]; exact hT
  have hal : (allE (inS Rs)).length ≤ 1099511627776 := by
    have h := all_take_len (inS Rs) (inS Rs).length 1000000 (by rw [inS_sum]; exact hT2)
    rw [List.take_length] at h
    omega
  obtain ⟨L, hL⟩ : ∃ L, allE (inS Rs) = L := ⟨_, rfl⟩
  rw [hL] at hal
  have HL := Lib.hid hL
  have hb0 : Below w.heap.size w (w.alloc (.cells #[.slice B Rs.length c, .int .u64 n] 25)) := (Below.refl _ _).alloc (Nat.le_refl _) _
  have hcall := fun W (hW : Below w.heap.size w W) => refAll_any B Rs c 1000000 W (hB.below hW) (by omega) hsm hT2 (by omega)
  rw [hL] at hcall ⊢
  have HC := Lib.hid hcall
  clear hcall hL hB hsm hT hT2
  go_enter Tryd.func58, Tryd.ntmps58
  go_wp2_with fail
  refine (HC.out _ hb0).mono ?_
  rintro e w1 ⟨A1, c1, rfl, ho1, hb1⟩
  have HO1 := Lib.hid ho1
  clear ho1
  go_wp2_with fail
  refine (refPlain_any A1 L c1 _ (own_sl HO1.out) hal).mono ?_
  rintro e w2 ⟨A2, c2, rfl, ho2, hb2⟩
  have HO2 := Lib.hid ho2
  have hs1 := hb1.size
  have hs2 : w.heap.size ≤ w1.heap.size := by simp at hs1; omega
  clear ho2
  go_wp2
  go_ret
  exact ⟨A2, c2, rfl, own_mono HO2.out hs2, bext (bext hb0 hb1) hb2⟩
theorem great26_any (B : Option Addr) (Rs : List Rm) (c most : Nat) (n : Int) (w : World) (hB : RunsAt w B Rs) (hm : most ≤ 1000000) :
    Calls Tryd.prog 12 #[.agg #[.slice B Rs.length c, .int .u64 n], .int .i64 most] w fun r w' => ∃ G : Bool, r = .returned (.bool G) ∧ (G = false → Rs.length + tot (lvs Rs) ≤ most) ∧ Below w.heap.size w w' := by
  have hb0 : Below w.heap.size w (w.alloc (.cells #[.slice B Rs.length c, .int .u64 n] 25)) := (Below.refl _ _).alloc (Nat.le_refl _) _
  have HB := Lib.hid hB
  clear hB
  go_enter Tryd.func12, Tryd.ntmps12
  go_wp2_with fail
  refine (great25_any B Rs c most _ (HB.out.below hb0) hm).mono ?_
  rintro e w1 ⟨G, rfl, hG, rfl⟩
  have HG := Lib.hid hG
  clear hG
  go_wp2
  go_ret
  exact ⟨G, rfl, fun h => by rw [tot_rs]; exact HG.out h, hb0⟩
end Go.Proofs.YthbppblmecdekaaDoor

/- Contracts: the reference's levels (stand, Alone). -/
namespace Go.Proofs.YthbppblmecdekaaDoor
open Go Go.RowKit
set_option maxRecDepth 100000
/-- writes in memory of the call's own -/
theorem OwnRs.belowB {w w' : World} {B0 : Nat} {B : Option Addr} {c : Nat} {Rs : List Rm} (h : OwnRs w B0 B c Rs) (hb : Below w.heap.size w w') : OwnRs w' B0 B c Rs := h.below hb
theorem pad_eq {Ts Ts3 : Lv} {U : Nat} (_h1 : Ts.length ≤ Ts3.length) (h2 : Ts3.length ≤ max Ts.length (U + 1)) (h3 : U < Ts3.length) : padTo Ts Ts3.length = padTo Ts (U + 1) := by
  by_cases h4 : Ts.length ≤ U
  · rw [show Ts3.length = U + 1 by omega]
  · rw [pad_same _ (by omega), pad_same _ (by omega)]
theorem stand_grow {w : World} {B0 n d3 : Nat} {A3 : Option Addr} {Ts3 : List Rm} {v5 : Value} {w5 : World} {g : Nat} {t : TypeId} {cs : Array Value} (o : Obj) (hr : OwnRs w B0 A3 d3 Ts3) (hB : Blk w g t cs) (hne : ∀ q, A3 = some q → q.block ≠ g)
    (hn : n = Ts3.length + 1) (ho : w5.ownsRow B0 61 1 v5 n (Ts3.map Rm.v ++ [.slice none 0 0])) (hg : (w.alloc o).grownBy w5 (Value.slice A3 Ts3.length d3).ownBlock) (hk : v5.ownBlock = (Value.slice A3 Ts3.length d3).ownBlock ∨ v5.ownBlock = some (w.alloc o).heap.size) (hlt : g < w.heap.size) :
    ∃ A5 d5, v5 = .slice A5 n d5 ∧ OwnRs w5 B0 A5 d5 (Ts3 ++ [⟨[], none, 0⟩]) ∧ Blk w5 g t cs ∧ (∀ q, A5 = some q → q.block ≠ g) := by
  subst hn
  obtain ⟨A5, d5, h1, _, _⟩ := own_form ho
  subst h1
  refine ⟨A5, d5, rfl, OwnRs.push (hr.alloc o) ⟨[], none, 0⟩ (own_empty _ _) ho hg, (hB.alloc o).grown hg ?_, fun q hq => ?_⟩
  · intro h
    cases A3 with
    | none => simp [Value.ownBlock] at h
    | some q => exact hne q rfl (by simpa [Value.ownBlock] using h)
  · subst hq
    rcases hk with h1 | h1
    · cases A3 with
      | none => simp [Value.ownBlock] at h1
      | some q3 => have := hne q3 rfl; simp [Value.ownBlock] at h1; omega
    · simp [Value.ownBlock] at h1; omega
end Go.Proofs.YthbppblmecdekaaDoor

/- Contract: which levels may be, by the reference (May). -/
namespace Go.Proofs.YthbppblmecdekaaDoor
open Go Go.RowKit
set_option maxRecDepth 100000
theorem mayB_bad {rs : Lv} {k : Nat} (h : k < rs.length) (hb : okLv rs.length k (lev rs k) = false) : mayB rs = false := by
  cases hm : mayB rs with
  | false => rfl
  | true =>
    unfold mayB allOk at hm
    simp only [Bool.and_eq_true, decide_eq_true_eq] at hm
    rw [hm.1.2 k h] at hb
    cases hb
theorem mayB_end {rs : Lv} (h : endOk rs = false) : mayB rs = false := by unfold mayB; rw [h]; rfl
theorem mayB_all {rs : Lv} (h : endOk rs = true) (h2 : allOk rs rs.length = true) : mayB rs = decide (tot rs ≤ 65536) := by unfold mayB; rw [h, h2]; rfl
set_option maxHeartbeats 16000000 in
theorem may26_any (B : Option Addr) (Rs : List Rm) (c : Nat) (n : Int) (w : World) (hB : RunsAt w B Rs) (hT : tot (lvs Rs) ≤ 1000000) (hl : Rs.length ≤ 1000000) :
    Calls Tryd.prog 57 #[.agg #[.slice B Rs.length c, .int .u64 n]] w fun r w' => r = .returned (.bool (mayB (lvs Rs))) ∧ Below w.heap.size w w' := by
  obtain ⟨W0, hW0⟩ : ∃ W0, w.alloc (.cells #[.slice B Rs.length c, .int .u64 n] 25) = W0 := ⟨_, rfl⟩
  have hb0 : Below w.heap.size w W0 := by rw [← hW0]; exact (Below.refl _ _).alloc (Nat.le_refl _) _
  have b1 : Blk W0 w.heap.size 25 #[.slice B Rs.length c, .int .u64 n] := by rw [← hW0]; exact Blk.new _ _ _
  have HW0 := Lib.hid hW0
  have HB := Lib.hid hB
  have HB0 := Lib.hid hb0
  clear hW0 hB
  have c10 : W0.cell? ⟨w.heap.size, 0, none⟩ = some (.slice B Rs.length c) := b1.cell 0
  have c11 : W0.cell? ⟨w.heap.size, 1, none⟩ = some (.int .u64 n) := b1.cell 1
  by_cases hend : endOk (lvs Rs) = true
  · have hEnd := Lib.hid hend
    have hl17 : Rs.length ≤ 17 := by
      unfold endOk at hend
      simp at hend
      exact hend.1
    go_enter Tryd.func57, Tryd.ntmps57
    go_upto_region 2 with fail
    rw [HW0.out]
    go_cut [25] from 9 to 25 (fun v wx => v = .bool false ∧ wx = W0)
    case first =>
      have g1 : ¬ (17 : Int) < (Rs.length : Int) := by omega
      by_cases h0 : Rs.length = 0
      · have g2 : ¬ (0 : Int) < (Rs.length : Int) := by omega
        clear hend h0
        go_wp2
        go_meet
        exact ⟨by simp, by first | trivial | rfl⟩
      · have g2 : (0 : Int) < (Rs.length : Int) := by omega
        obtain ⟨j, hj⟩ : ∃ j, Rs.length = j + 1 := ⟨Rs.length - 1, by omega⟩
        obtain ⟨b, off, rfl, hbl, cp⟩ := HB.out.sl.oneB hb0 j (by omega)
        have hne : (Rs[j]'(by omega)).l ≠ [] := by
          unfold endOk at hend
          rw [lvs_len, hj] at hend
          simp at hend
          have h2 := hend.2
          rw [lvs_lev (by omega)] at h2
          exact h2
        obtain ⟨r, hr⟩ : ∃ r, Rs[j]'(by omega) = r := ⟨_, rfl⟩
        rw [hr] at cp hne
        obtain ⟨l, A, cl⟩ := r
        have cp1 : W0.cell? ⟨b, off + j, none⟩ = some (.slice A l.length cl) := cp
        have hne2 : ¬ l = [] := hne
        have hl0 : ¬ ((l.length : Int) = 0) := by have := List.length_pos_iff.2 hne; dsimp only at this; omega
        have g4 : IntKind.i64.wrap ((Rs.length : Int) - 1) = (j : Int) := (IntWalk.i64_in _ (by omega)).trans (by omega)
        have g5 : (0 : Int) ≤ (j : Int) := by omega
        have g6 : (j : Int) < (Rs.length : Int) := by omega
        clear cp hr hne hj hend h0
        go_wp2
        go_meet
        exact ⟨by simp [hne2], by first | trivial | rfl⟩
    case rest =>
    obtain ⟨rfl, rfl⟩ := hcut
    clear hend c10 c11
    go_wp2
    go_loopw [4] (fun i wr => ∃ k : Nat, k ≤ Rs.length ∧ i = .int .i64 k ∧ Below w.heap.size w wr ∧ Blk wr w.heap.size 25 #[.slice B Rs.length c, .int .u64 n] ∧ Hid (allOk (lvs Rs) k = true)) (fun i _ => Rs.length - (intOf i).toNat)
    case atStart => exact ⟨0, Nat.zero_le _, rfl, hb0, b1, by show _ = _; unfold allOk; simp⟩
    case round =>
      obtain ⟨k, hk, rfl, hb, bX, hA⟩ := hrel
      have x10 : wr.cell? ⟨w.heap.size, 0, none⟩ = some (.slice B Rs.length c) := bX.cell 0
      have x11 : wr.cell? ⟨w.heap.size, 1, none⟩ = some (.int .u64 n) := bX.cell 1
      by_cases hlt : k < Rs.length
      · obtain ⟨b, off, rfl, hbl, cp⟩ := HB.out.sl.oneB hb k hlt
        have hok := (HB.out.ok _ (List.getElem_mem hlt)).below hb
        have ha := allOk_succ (lvs Rs) k
        have hbad := mayB_bad (rs := lvs Rs) (k := k) (by simpa using hlt)
        have hle := tot_lev (lvs Rs) k
        rw [lvs_lev hlt, lvs_len] at ha hbad
        rw [lvs_lev hlt] at hle
        obtain ⟨r, hr⟩ : ∃ r, Rs[k]'hlt = r := ⟨_, rfl⟩
        rw [hr] at cp hok ha hbad hle
        obtain ⟨l, A, cl⟩ := r
        have cp1 : wr.cell? ⟨b, off + k, none⟩ = some (.slice A l.length cl) := cp
        dsimp only at ha hbad hle
        have hbl2 : b < wr.heap.size := Nat.lt_of_lt_of_le hbl hb.size
        have hki : (0 : Int) ≤ (k : Int) := by omega
        have hki2 : (k : Int) < (Rs.length : Int) := by omega
        have hw2 : IntKind.i64.wrap ((Rs.length : Int) - 1) = ((Rs.length - 1 : Nat) : Int) := (IntWalk.i64_in _ (by omega)).trans (by omega)
        obtain ⟨E, hE⟩ : ∃ E, chkE l = E := ⟨_, rfl⟩
        have hOK : okLv Rs.length k l = (decide (E = 0) && (decide (l = []) || decide (up l.length = k)) && (decide (k + 1 ≠ Rs.length) || !deadE l)) := by unfold okLv; rw [hE]
        have hE16 : E = 0 → l.length ≤ 65536 := by rw [← hE]; exact fun h => (chk_ok h).2.2
        have hll : l.length ≤ 1000000 := by omega
        have HOKS := Lib.hid hok.sl
        have HA := Lib.hid ha
        have HBAD := Lib.hid hbad
        have HE := Lib.hid hE
        have HE16 := Lib.hid hE16
        have HBB := Lib.hid hb
        have hbs := hb.size
        have lX := bX.lt
        clear cp hr hok ha hbad hE hE16 hle
        obtain ⟨U, hU⟩ : ∃ U, up l.length = U := ⟨_, rfl⟩
        rw [hU] at hOK
        have HU := Lib.hid hU
        obtain ⟨DD, hDD⟩ : ∃ DD, deadE l = DD := ⟨_, rfl⟩
        rw [hDD] at hOK
        have HDD := Lib.hid hDD
        have HOK := Lib.hid hOK
        clear hU hOK hDD
        obtain ⟨J, hJ⟩ : ∃ J : Nat, Rs.length - 1 = J := ⟨_, rfl⟩
        rw [hJ] at hw2
        by_cases hE0 : E = 0
        · have hl6 := HE16.out hE0
          have HL6 := Lib.hid hl6
          clear hl6
          by_cases hl0' : l.length = 0
          · have hnil : l = [] := List.eq_nil_of_length_eq_zero hl0'
            have hl00 : ¬ (0 : Int) < (l.length : Int) := by omega
            have hDF : DD = false := by rw [← HDD.out, hnil]; rfl
            clear hl0'
            have hK : okLv Rs.length k l = true := by rw [HOK.out]; rw [hE0, hnil, hDF]; simp
            have HK := Lib.hid hK
            clear hK
            clear hnil
            subst hDF
            subst hE0
            by_cases hkn : k = J
            · subst hkn
              go_wp2_with fail
              refine (refCheck_any A l cl _ HOKS.out (by omega)).mono ?_
              rw [HE.out]
              rintro e w1 ⟨rfl, hb1⟩
              have y10 : w1.cell? ⟨w.heap.size, 0, none⟩ = some (.slice (some ⟨b, off, none⟩) Rs.length c) := (bX.below hb1 lX).cell 0
              have y11 : w1.cell? ⟨w.heap.size, 1, none⟩ = some (.int .u64 n) := (bX.below hb1 lX).cell 1
              have yp1 : w1.cell? ⟨b, off + k, none⟩ = some (.slice A l.length cl) := ((bcell hb1).1 _ _ hbl2).trans cp1
              have bY := bX.below hb1 lX
              have HB1 := Lib.hid (bext HBB.out hb1)
              go_wp2_with fail
              refine (dead26_any A l cl _ (HOKS.out.below hb1) (by omega)).mono ?_
              rw [HDD.out]
              rintro e w3 ⟨rfl, hb3⟩
              have bZ := bY.below hb3 bY.lt
              have HB3 := Lib.hid (bext HB1.out hb3)
              go_wp2
              go_roundw
              case rel => exact ⟨k + 1, by omega, by go_num, HB3.out, bZ, by show _ = _; rw [HA.out, hA.out, HK.out]; rfl⟩
              case measure => simp [intOf]; omega
              
            · go_wp2_with fail
              refine (refCheck_any A l cl _ HOKS.out (by omega)).mono ?_
              rw [HE.out]
              rintro e w1 ⟨rfl, hb1⟩
              have y10 : w1.cell? ⟨w.heap.size, 0, none⟩ = some (.slice (some ⟨b, off, none⟩) Rs.length c) := (bX.below hb1 lX).cell 0
              have y11 : w1.cell? ⟨w.heap.size, 1, none⟩ = some (.int .u64 n) := (bX.below hb1 lX).cell 1
              have yp1 : w1.cell? ⟨b, off + k, none⟩ = some (.slice A l.length cl) := ((bcell hb1).1 _ _ hbl2).trans cp1
              have bY := bX.below hb1 lX
              have HB1 := Lib.hid (bext HBB.out hb1)
              go_wp2
              go_roundw
              case rel => exact ⟨k + 1, by omega, by go_num, HB1.out, bY, by show _ = _; rw [HA.out, hA.out, HK.out]; rfl⟩
              case measure => simp [intOf]; omega
              
          · have hl0 : 0 < l.length := by omega
            have hne : ¬ l = [] := List.length_pos_iff.1 hl0
            have hl00 : (0 : Int) < (l.length : Int) := by omega
            have HL0 := Lib.hid hl0
            clear hl0 hl0'
            by_cases hu : U = k
            · by_cases hkn : k = J
              · cases DD
                · have hK : okLv Rs.length k l = true := by rw [HOK.out]; rw [hE0]; simp [hu]
                  have HK := Lib.hid hK
                  clear hK
                  subst hkn
                  subst hu
                  subst hE0
                  go_wp2_with fail
                  refine (refCheck_any A l cl _ HOKS.out (by omega)).mono ?_
                  rw [HE.out]
                  rintro e w1 ⟨rfl, hb1⟩
                  have y10 : w1.cell? ⟨w.heap.size, 0, none⟩ = some (.slice (some ⟨b, off, none⟩) Rs.length c) := (bX.below hb1 lX).cell 0
                  have y11 : w1.cell? ⟨w.heap.size, 1, none⟩ = some (.int .u64 n) := (bX.below hb1 lX).cell 1
                  have yp1 : w1.cell? ⟨b, off + U, none⟩ = some (.slice A l.length cl) := ((bcell hb1).1 _ _ hbl2).trans cp1
                  have bY := bX.below hb1 lX
                  have HB1 := Lib.hid (bext HBB.out hb1)
                  go_wp2_with fail
                  refine (ceil_any l.length _ HL0.out HL6.out).mono ?_
                  rw [HU.out]
                  rintro e w2 ⟨rfl, rfl⟩
                  go_wp2_with fail
                  refine (dead26_any A l cl _ (HOKS.out.below hb1) (by omega)).mono ?_
                  rw [HDD.out]
                  rintro e w3 ⟨rfl, hb3⟩
                  have bZ := bY.below hb3 bY.lt
                  have HB3 := Lib.hid (bext HB1.out hb3)
                  go_wp2
                  go_roundw
                  case rel => exact ⟨U + 1, by omega, by go_num, HB3.out, bZ, by show _ = _; rw [HA.out, hA.out, HK.out]; rfl⟩
                  case measure => simp [intOf]; omega
                  
                · have hK : okLv Rs.length k l = false := by rw [HOK.out]; rw [hE0]; simp; omega
                  have HK := Lib.hid hK
                  clear hK
                  subst hkn
                  subst hu
                  subst hE0
                  go_wp2_with fail
                  refine (refCheck_any A l cl _ HOKS.out (by omega)).mono ?_
                  rw [HE.out]
                  rintro e w1 ⟨rfl, hb1⟩
                  have y10 : w1.cell? ⟨w.heap.size, 0, none⟩ = some (.slice (some ⟨b, off, none⟩) Rs.length c) := (bX.below hb1 lX).cell 0
                  have y11 : w1.cell? ⟨w.heap.size, 1, none⟩ = some (.int .u64 n) := (bX.below hb1 lX).cell 1
                  have yp1 : w1.cell? ⟨b, off + U, none⟩ = some (.slice A l.length cl) := ((bcell hb1).1 _ _ hbl2).trans cp1
                  have bY := bX.below hb1 lX
                  have HB1 := Lib.hid (bext HBB.out hb1)
                  go_wp2_with fail
                  refine (ceil_any l.length _ HL0.out HL6.out).mono ?_
                  rw [HU.out]
                  rintro e w2 ⟨rfl, rfl⟩
                  go_wp2_with fail
                  refine (dead26_any A l cl _ (HOKS.out.below hb1) (by omega)).mono ?_
                  rw [HDD.out]
                  rintro e w3 ⟨rfl, hb3⟩
                  have bZ := bY.below hb3 bY.lt
                  have HB3 := Lib.hid (bext HB1.out hb3)
                  go_wp2
                  go_ret
                  exact ⟨ret_bool (HBAD.out HK.out).symm, HB3.out⟩
                  
              · have hK : okLv Rs.length k l = true := by rw [HOK.out]; rw [hE0]; simp [hu]; omega
                have HK := Lib.hid hK
                clear hK
                subst hu
                subst hE0
                go_wp2_with fail
                refine (refCheck_any A l cl _ HOKS.out (by omega)).mono ?_
                rw [HE.out]
                rintro e w1 ⟨rfl, hb1⟩
                have y10 : w1.cell? ⟨w.heap.size, 0, none⟩ = some (.slice (some ⟨b, off, none⟩) Rs.length c) := (bX.below hb1 lX).cell 0
                have y11 : w1.cell? ⟨w.heap.size, 1, none⟩ = some (.int .u64 n) := (bX.below hb1 lX).cell 1
                have yp1 : w1.cell? ⟨b, off + U, none⟩ = some (.slice A l.length cl) := ((bcell hb1).1 _ _ hbl2).trans cp1
                have bY := bX.below hb1 lX
                have HB1 := Lib.hid (bext HBB.out hb1)
                go_wp2_with fail
                refine (ceil_any l.length _ HL0.out HL6.out).mono ?_
                rw [HU.out]
                rintro e w2 ⟨rfl, rfl⟩
                go_wp2
                go_roundw
                case rel => exact ⟨U + 1, by omega, by go_num, HB1.out, bY, by show _ = _; rw [HA.out, hA.out, HK.out]; rfl⟩
                case measure => simp [intOf]; omega
                
            · have hK : okLv Rs.length k l = false := by rw [HOK.out]; rw [hE0]; simp [hu, hne]
              have HK := Lib.hid hK
              clear hK
              subst hE0
              go_wp2_with fail
              refine (refCheck_any A l cl _ HOKS.out (by omega)).mono ?_
              rw [HE.out]
              rintro e w1 ⟨rfl, hb1⟩
              have y10 : w1.cell? ⟨w.heap.size, 0, none⟩ = some (.slice (some ⟨b, off, none⟩) Rs.length c) := (bX.below hb1 lX).cell 0
              have y11 : w1.cell? ⟨w.heap.size, 1, none⟩ = some (.int .u64 n) := (bX.below hb1 lX).cell 1
              have yp1 : w1.cell? ⟨b, off + k, none⟩ = some (.slice A l.length cl) := ((bcell hb1).1 _ _ hbl2).trans cp1
              have bY := bX.below hb1 lX
              have HB1 := Lib.hid (bext HBB.out hb1)
              go_wp2_with fail
              refine (ceil_any l.length _ HL0.out HL6.out).mono ?_
              rw [HU.out]
              rintro e w2 ⟨rfl, rfl⟩
              go_wp2
              go_ret
              exact ⟨ret_bool (HBAD.out HK.out).symm, HB1.out⟩
              
        · have hK : okLv Rs.length k l = false := by rw [HOK.out]; simp [hE0]
          have HK := Lib.hid hK
          clear hK
          go_wp2_with fail
          refine (refCheck_any A l cl _ HOKS.out (by omega)).mono ?_
          rw [HE.out]
          rintro e w1 ⟨rfl, hb1⟩
          have y10 : w1.cell? ⟨w.heap.size, 0, none⟩ = some (.slice (some ⟨b, off, none⟩) Rs.length c) := (bX.below hb1 lX).cell 0
          have y11 : w1.cell? ⟨w.heap.size, 1, none⟩ = some (.int .u64 n) := (bX.below hb1 lX).cell 1
          have yp1 : w1.cell? ⟨b, off + k, none⟩ = some (.slice A l.length cl) := ((bcell hb1).1 _ _ hbl2).trans cp1
          have bY := bX.below hb1 lX
          have HB1 := Lib.hid (bext HBB.out hb1)
          go_wp2
          go_ret
          exact ⟨ret_bool (HBAD.out HK.out).symm, HB1.out⟩
          
      · have hkn : k = Rs.length := by omega
        have hall : allOk (lvs Rs) (lvs Rs).length = true := by rw [lvs_len, ← hkn]; exact hA.out
        have hfin := mayB_all hEnd.out hall
        have HF := Lib.hid hfin
        have hkf : ¬ (k : Int) < (Rs.length : Int) := by omega
        have HBB := Lib.hid hb
        clear hfin hall hkn hb
        go_wp2_with fail
        refine (entries26_any B Rs c n _ (HB.out.below HBB.out) hT hl).mono ?_
        rintro e w4 ⟨rfl, hb4⟩
        go_wp2
        go_ret
        exact ⟨ret_bool (by rw [HF.out]; first | rfl | (simp; omega) | (rw [decide_eq_decide]; omega)), bext HBB.out hb4⟩
  · have hE8 : mayB (lvs Rs) = false := mayB_end (by simpa using hend)
    have HE8 := Lib.hid hE8
    clear hE8
    by_cases h17 : 17 < Rs.length
    · have g1 : (17 : Int) < (Rs.length : Int) := by omega
      clear hend
      go_enter Tryd.func57, Tryd.ntmps57
      go_wp2
      go_ret
      exact ⟨ret_bool HE8.out.symm, by first | exact HB0.out | (have := HB0.out; rw [← HW0.out] at this; exact this)⟩
    · have g1 : ¬ (17 : Int) < (Rs.length : Int) := by omega
      have h0 : Rs.length ≠ 0 := by
        intro h0
        apply hend
        unfold endOk
        rw [lvs_len, h0]; rfl
      have g2 : (0 : Int) < (Rs.length : Int) := by omega
      obtain ⟨j, hj⟩ : ∃ j, Rs.length = j + 1 := ⟨Rs.length - 1, by omega⟩
      obtain ⟨b, off, rfl, hbl, cp⟩ := HB.out.sl.oneB (Below.refl _ _) j (by omega)
      have hne : (Rs[j]'(by omega)).l = [] := by
        refine Classical.byContradiction fun hx => hend ?_
        unfold endOk
        rw [lvs_len, hj, Nat.add_sub_cancel, lvs_lev (by omega)]
        simp [hx]
        omega
      obtain ⟨r, hr⟩ : ∃ r, Rs[j]'(by omega) = r := ⟨_, rfl⟩
      rw [hr] at cp hne
      obtain ⟨l, A, cl⟩ := r
      have hnl : l = [] := hne
      subst hnl
      have cp1 : w.cell? ⟨b, off + j, none⟩ = some (.slice A 0 cl) := cp
      have g4 : IntKind.i64.wrap ((Rs.length : Int) - 1) = (j : Int) := (IntWalk.i64_in _ (by omega)).trans (by omega)
      have g5 : (0 : Int) ≤ (j : Int) := by omega
      have g6 : (j : Int) < (Rs.length : Int) := by omega
      clear cp hr hne hj hend
      go_enter Tryd.func57, Tryd.ntmps57
      go_wp2
      go_ret
      exact ⟨ret_bool HE8.out.symm, by first | exact HB0.out | (have := HB0.out; rw [← HW0.out] at this; exact this)⟩
end Go.Proofs.YthbppblmecdekaaDoor

/- Contract: levels written over (shelfmarklaw26.spoil). -/
namespace Go.Proofs.YthbppblmecdekaaDoor
open Go Go.RowKit
set_option maxRecDepth 100000
theorem KeyRow.drew {w : World} {B0 E m : Nat} {A : Option Addr} (h : KeyRow w B0 E A m) : KeyRow w.drew B0 E A m := h
theorem LvRow.drew {w : World} {B0 E g n : Nat} {cs : Array Value} (h : LvRow w B0 E g n cs) : LvRow w.drew B0 E g n cs := ⟨h.blk, h.base, h.row⟩
set_option maxHeartbeats 4000000 in
theorem spoil26_any (B : Option Addr) (Rs : List Rm) (c B0 : Nat) (n : Int) (w0 w : World) (hO0 : OwnRs w0 B0 B c Rs) (hO : OwnRs w B0 B c Rs) (_hsw : w0.heap.size ≤ w.heap.size) (hl : Rs.length ≤ 1000000) (hm : ∀ r ∈ Rs, r.l.length ≤ 1000000) :
    Calls Tryd.prog 26 #[.agg #[.slice B Rs.length c, .int .u64 n]] w fun r w' => (∃ v, r = .returned v) ∧ Mod (fun b => B0 ≤ b ∧ b < w0.heap.size) w w' := by
  obtain ⟨W0, hW0⟩ : ∃ W0, w.alloc (.cells #[.slice B Rs.length c, .int .u64 n] 25) = W0 := ⟨_, rfl⟩
  have hb0 : Below w.heap.size w W0 := by rw [← hW0]; exact (Below.refl _ _).alloc (Nat.le_refl _) _
  have b1 : Blk W0 w.heap.size 25 #[.slice B Rs.length c, .int .u64 n] := by rw [← hW0]; exact Blk.new _ _ _
  have hbB : Hid (Mod (fun b => B0 ≤ b ∧ b < w0.heap.size) w W0) := Mod.of_ext hb0
  have hlw : w.heap.size ≤ W0.heap.size := hb0.size
  have HW0 := Lib.hid hW0
  have HO := Lib.hid (hO.below hb0)
  have HO0 := Lib.hid hO0
  clear hW0 hO hO0
  by_cases h0 : Rs.length = 0
  · have c10 : W0.cell? ⟨w.heap.size, 0, none⟩ = some (.slice B Rs.length c) := b1.cell 0
    rw [h0] at c10
    rw [h0] at HW0 ⊢
    clear h0 HO b1
    go_enter Tryd.func26, Tryd.ntmps26
    go_wp2
    rw [HW0.out]
    refine wp_loop_rounds 1 ?_
    rw [rounds_succ]
    go_wp2
    first
    | (go_end0; exact ⟨⟨_, rfl⟩, hbB.out⟩)
    | fail "no end"
  · obtain ⟨g, cs, rfl, hrow⟩ := HO0.out.lvRow HO.out (by omega) hm
    obtain ⟨N, hN⟩ : ∃ N, Rs.length = N := ⟨_, rfl⟩
    have HROW := Lib.hid hrow
    rw [hN] at b1 HW0 HROW hl h0 ⊢
    clear hrow hm HO hN
    go_enter Tryd.func26, Tryd.ntmps26
    go_wp2
    rw [HW0.out]
    go_loopw [2] (fun i wr => ∃ (k : Nat) (cs : Array Value), k ≤ N ∧ i = .int .i64 k ∧ Blk wr w.heap.size 25 #[.slice (some ⟨g, 0, none⟩) N c, .int .u64 n] ∧ Hid (Mod (fun b => B0 ≤ b ∧ b < w0.heap.size) w wr ∧ LvRow wr B0 w0.heap.size g N cs)) (fun i _ => N - (intOf i).toNat)
    case atStart => exact ⟨0, cs, Nat.zero_le _, rfl, b1, hbB.out, HROW.out⟩
    case round =>
      obtain ⟨k, cs, hk, rfl, bX, hH⟩ := hrel
      have c10 : wr.cell? ⟨w.heap.size, 0, none⟩ = some (.slice (some ⟨g, 0, none⟩) N c) := bX.cell 0
      have c11 : wr.cell? ⟨w.heap.size, 1, none⟩ = some (.int .u64 n) := bX.cell 1
      by_cases hlt : k < N
      · obtain ⟨A, m, c2, hc1, hm1, hkr⟩ := hH.out.2.row k hlt
        have hki : (0 : Int) ≤ (k : Int) := by omega
        have hki2 : (k : Int) < (N : Int) := by omega
        have HC1 := Lib.hid hc1
        have HKR := Lib.hid hkr
        have HBX := Lib.hid bX
        clear hc1 hkr bX
        go_wp2_with fail
        clear c10 c11
        go_loopw [3] (fun i wq => ∃ q : Nat, q ≤ m ∧ i = .int .i64 q ∧ Blk wq w.heap.size 25 #[.slice (some ⟨g, 0, none⟩) N c, .int .u64 n] ∧ Hid (Mod (fun b => B0 ≤ b ∧ b < w0.heap.size) w wq ∧ LvRow wq B0 w0.heap.size g N cs ∧ KeyRow wq B0 w0.heap.size A m)) (fun i _ => m - (intOf i).toNat)
        case atStart => exact ⟨0, Nat.zero_le _, rfl, HBX.out, hH.out.1, hH.out.2, HKR.out⟩
        case round =>
          obtain ⟨q, hq, rfl, bY, hI⟩ := hrel
          have c10 : wr.cell? ⟨w.heap.size, 0, none⟩ = some (.slice (some ⟨g, 0, none⟩) N c) := bY.cell 0
          have c11 : wr.cell? ⟨w.heap.size, 1, none⟩ = some (.int .u64 n) := bY.cell 1
          have c20 : wr.cell? ⟨g, k, none⟩ = some (.slice A m c2) := (hI.out.2.1.blk.cell k).trans HC1.out
          have f20 : wr.frozen? ⟨g, k, none⟩ = false := hI.out.2.1.blk.frozen k
          by_cases hqm : q < m
          · obtain ⟨g2, kk, rfl, hg2, ck, fk, cs2, b2⟩ := hI.out.2.2.get hqm
            have i0 : (0 : Int) ≤ (q : Int) := by omega
            have i1 : (q : Int) < (m : Int) := by omega
            have HB2 := Lib.hid b2
            have HBY := Lib.hid bY
            have hneX : Hid (w.heap.size ≠ g2) := (blk_ne b2 bY (by decide)).symm
            clear b2 bY
            go_upto_region 7 with fail
            go_region
            all_goals
              go_wp2
              go_roundw
              case rel =>
                exact ⟨q + 1, by omega, by go_num, HBY.out.far (p := ⟨g2, q * 3, none⟩) hneX.out _, (hI.out.1.setCell (p := ⟨g2, q * 3, none⟩) hg2 _).drew, (hI.out.2.1.setKey HB2.out (q * 3) _).drew, (hI.out.2.2.setKey g2 (q * 3) _).drew⟩
              case measure => simp [intOf]; omega
          · have hqf : ¬ (q : Int) < (m : Int) := by omega
            have lg := hI.out.2.1.blk.lt
            have HBY := Lib.hid bY
            have hneX : Hid (w.heap.size ≠ g) := (blk_ne hI.out.2.1.blk bY (by decide)).symm
            clear bY
            go_wp2
            go_roundw
            case rel =>
              have hHo := hI.out
              exact ⟨k + 1, cs.setIfInBounds k (.slice none 0 0), by omega, by go_num, HBY.out.far (p := ⟨g, k, none⟩) hneX.out _, hHo.1.setCell (p := ⟨g, k, none⟩) hHo.2.1.base _, hHo.2.1.clear k⟩
            case measure => simp [intOf]; omega
      · have hkf : ¬ (k : Int) < (N : Int) := by omega
        go_wp2
        first
        | (go_end0; exact ⟨⟨_, rfl⟩, hH.out.1⟩)
        | fail "no end"
end Go.Proofs.YthbppblmecdekaaDoor

/- A region that draws its order, and whose last operations wait for all the others: what is held (S) need not be held behind them. No program in sight. -/
namespace Go.Proofs.YthbppblmecdekaaDoor
open Go

/-- each operation behind number n waits for one from n on -/
def chainT (md : Region.Mode) (ops : Array Oper) (n : Nat) : Bool :=
  (List.range ops.size).all fun t => decide (t ≤ n) || (List.range t).any fun j => decide (n ≤ j) && Region.waitsFor md ops t j
section
variable {P : Program} {ops : Array Oper} {Q : Exit → Act → World → Prop} {md : Region.Mode} {S : World → Prop}
theorem tail_waitsT {n : Nat} {listed : Array Bool} (hs : Region.sinkB md ops n = true) (hc : chainT md ops n = true) (hn : n < ops.size) (inv : HeadInv md ops n listed) :
    ∀ (d i : Nat), n - i = d → i < n → listed.getD i true = false → ∀ t, n ≤ t → t ∉ Region.ready md ops listed := by
  intro d
  induction d using Nat.strongRecOn with
  | _ d ih =>
    intro i hd hi hun t ht hr
    obtain ⟨_, ot, hot, hall⟩ := mem_ready.1 hr
    have htlt : t < ops.size := (Array.getElem?_eq_some_iff.1 hot).1
    by_cases htn : t = n
    · subst htn
      have h1 := List.all_eq_true.1 hs i (List.mem_range.2 hi)
      obtain ⟨j, hj, hj2⟩ := List.any_eq_true.1 h1
      simp only [Bool.and_eq_true, decide_eq_true_eq] at hj2
      obtain ⟨oj, hoj, e, he, hb, hon⟩ := Region.waitsFor_spec hj2.2
      have hjle : j ≤ t := by have := List.mem_range.1 hj; omega
      by_cases hjt : j = t
      · subst hjt
        have : oj = ot := Option.some.inj (hoj.symm.trans hot)
        subst this
        have h2 := hall e he hb
        rw [hon, getD_both hun] at h2
        cases h2
      · cases hl : listed.getD j false with
        | true =>
          have h2 := inv.closed j oj hoj hl e he hb
          rw [hon, getD_both hun] at h2
          cases h2
        | false =>
          have hjs : j < listed.size := by rw [inv.size]; omega
          exact ih (t - j) (by omega) j rfl (by omega) (getD_in hjs hl) t (Nat.le_refl _) hr
    · have h1 := List.all_eq_true.1 hc t (List.mem_range.2 htlt)
      simp only [Bool.or_eq_true, decide_eq_true_eq] at h1
      rcases h1 with h1 | h1
      · omega
      · obtain ⟨j, hj, hj2⟩ := List.any_eq_true.1 h1
        simp only [Bool.and_eq_true, decide_eq_true_eq] at hj2
        obtain ⟨o', ho', e, he, hb, hon⟩ := Region.waitsFor_spec hj2.2
        have : o' = ot := Option.some.inj (ho'.symm.trans hot)
        subst this
        have h2 := hall e he hb
        rw [hon, getD_both (inv.tail j hj2.1 (by have := List.mem_range.1 hj; omega))] at h2
        cases h2
/-- whatever order is picked from here on; S holds behind each operation below n -/
def wpAnyT (P : Program) (md : Region.Mode) (ops : Array Oper) (Q : Exit → Act → World → Prop) (S : World → Prop) (n : Nat) : Nat → Array Bool → Act → World → Prop
  | 0, listed, a, w => Region.ready md ops listed = [] ∧ Q .normal a w
  | fuel + 1, listed, a, w =>
    (Region.ready md ops listed = [] → Q .normal a w) ∧
    ∀ i ∈ Region.ready md ops listed, wpOp P ops Q i (fun a' w' => (i < n → S w') ∧ wpAnyT P md ops Q S n fuel (listed.setIfInBounds i true) a' w') a w
theorem wpAny_of_T {n : Nat} : ∀ (fuel : Nat) (listed : Array Bool) (a : Act) (w : World), wpAnyT P md ops Q S n fuel listed a w → wpAny P md ops Q fuel listed a w
  | 0, _, _, _, h => h
  | fuel + 1, _, _, _, h => ⟨h.1, fun i hi => wpOp_mono (fun a' w' h' => wpAny_of_T fuel _ a' w' h'.2) (h.2 i hi)⟩
theorem wpAnyT_first {n i : Nat} {oi : Oper} {v : Value} (hs : Region.sinkB md ops n = true) (hc : chainT md ops n = true) (hn : n < ops.size) (hin : i < n) (hi : ops[i]? = some oi) (hsel : ∀ (j : Nat) (o : Oper) cs b, ops[j]? = some o → o.op ≠ .select cs b)
    (hQ : ∀ c a w, Q (.panic c) (a.put oi.dst v) w → Q (.panic c) a w) :
    ∀ (fuel : Nat) (listed : Array Bool) (a : Act) (w : World), HeadInv md ops n listed →
      (∀ j oj, ops[j]? = some oj → j ≠ i → listed.getD j true = false → (∀ e ∈ oj.after, Region.binds md e = true → e.on ≠ i) → oi.apart ops oj = true) →
      i ∈ Region.ready md ops listed → YieldsIf P ops S oi v a → S w →
      wpAnyT P md ops Q S n fuel (listed.setIfInBounds i true) (a.put oi.dst v) w → wpAnyT P md ops Q S n (fuel + 1) listed a w := by
  intro fuel
  induction fuel with
  | zero =>
    intro listed a w _ _ hr hy hS H
    refine ⟨fun h => (by rw [h] at hr; cases hr), fun j hj => ?_⟩
    by_cases hji : j = i
    · subst hji; exact hy.wpOp hi hS ⟨fun _ => hS, H⟩
    · have := ready_mono hj hji
      rw [H.1] at this
      cases this
  | succ fuel ih =>
    intro listed a w inv hfree hr hy hS H
    refine ⟨fun h => (by rw [h] at hr; cases hr), fun j hj => ?_⟩
    by_cases hji : j = i
    · subst hji; exact hy.wpOp hi hS ⟨fun _ => hS, H⟩
    · have hiun : listed.getD i true = false := by
        have := (mem_ready.1 hr).1
        simpa using this
      have hjn : j < n := by
        rcases Nat.lt_or_ge j n with h | h
        · exact h
        · exact absurd hj (tail_waitsT hs hc hn inv _ i rfl hin hiun j h)
      have h1 := H.2 j (ready_mono hj hji)
      obtain ⟨hjun, oj, hoj, hall⟩ := mem_ready.1 hj
      have hnot : ∀ e ∈ oj.after, Region.binds md e = true → e.on ≠ i := fun e he hb heq => by
        have h1 := hall e he hb
        have h0 := (mem_ready.1 hr).1
        rw [heq] at h1
        rcases Nat.lt_or_ge i listed.size with h' | h'
        · simp [h'] at h0 h1; rw [h0] at h1; cases h1
        · simp [Array.getElem?_eq_none h'] at h1
      have h2 := wpOp_putIf hoj (hfree j oj hoj hji hjun hnot) (fun cs b => hsel i oi cs b hi) (fun cs b => hsel j oj cs b hoj) hQ hy h1
      have hfree' : ∀ k ok, ops[k]? = some ok → k ≠ i → (listed.setIfInBounds j true).getD k true = false →
          (∀ e ∈ ok.after, Region.binds md e = true → e.on ≠ i) → oi.apart ops ok = true := fun k ok hk hki hun hno => by
        refine hfree k ok hk hki ?_ hno
        by_cases hjk : j = k
        · subst hjk; exact hjun
        · rw [getD_set_ne true hjk] at hun; exact hun
      refine wpOp_mono (fun a' w' h3 => ⟨fun _ => h3.2.1 hjn, ih (listed.setIfInBounds j true) a' w' (inv.set hj hjn) hfree' (ready_mono hr (Ne.symm hji)) h3.1 (h3.2.1 hjn) ?_⟩) h2
      rw [Array.setIfInBounds_comm _ _ hji]
      exact h3.2.2
/-- an operation that yields in whatever world -/
theorem wpAnyT_pure0 {n i : Nat} {oi : Oper} {v : Value} (hi : ops[i]? = some oi) (hsel : ∀ (j : Nat) (o : Oper) cs b, ops[j]? = some o → o.op ≠ .select cs b)
    (hQ : ∀ c a w, Q (.panic c) (a.put oi.dst v) w → Q (.panic c) a w) (hge : n ≤ i) :
    ∀ (fuel : Nat) (listed : Array Bool) (a : Act) (w : World),
      (∀ j oj, ops[j]? = some oj → j ≠ i → listed.getD j true = false → (∀ e ∈ oj.after, Region.binds md e = true → e.on ≠ i) → oi.apart ops oj = true) →
      i ∈ Region.ready md ops listed → YieldsIf P ops (fun _ => True) oi v a →
      wpAnyT P md ops Q S n fuel (listed.setIfInBounds i true) (a.put oi.dst v) w → wpAnyT P md ops Q S n (fuel + 1) listed a w := by
  intro fuel
  induction fuel with
  | zero =>
    intro listed a w _ hr hy H
    refine ⟨fun h => (by rw [h] at hr; cases hr), fun j hj => ?_⟩
    by_cases hji : j = i
    · subst hji; exact hy.wpOp hi trivial ⟨fun h => absurd h (by omega), H⟩
    · have := ready_mono hj hji
      rw [H.1] at this
      cases this
  | succ fuel ih =>
    intro listed a w hfree hr hy H
    refine ⟨fun h => (by rw [h] at hr; cases hr), fun j hj => ?_⟩
    by_cases hji : j = i
    · subst hji; exact hy.wpOp hi trivial ⟨fun h => absurd h (by omega), H⟩
    · have h1 := H.2 j (ready_mono hj hji)
      obtain ⟨hjun, oj, hoj, hall⟩ := mem_ready.1 hj
      have hnot : ∀ e ∈ oj.after, Region.binds md e = true → e.on ≠ i := fun e he hb heq => by
        have h1 := hall e he hb
        have h0 := (mem_ready.1 hr).1
        rw [heq] at h1
        rcases Nat.lt_or_ge i listed.size with h' | h'
        · simp [h'] at h0 h1; rw [h0] at h1; cases h1
        · simp [Array.getElem?_eq_none h'] at h1
      have h2 := wpOp_putIf hoj (hfree j oj hoj hji hjun hnot) (fun cs b => hsel i oi cs b hi) (fun cs b => hsel j oj cs b hoj) hQ hy h1
      have hfree' : ∀ k ok, ops[k]? = some ok → k ≠ i → (listed.setIfInBounds j true).getD k true = false →
          (∀ e ∈ ok.after, Region.binds md e = true → e.on ≠ i) → oi.apart ops ok = true := fun k ok hk hki hun hno => by
        refine hfree k ok hk hki ?_ hno
        by_cases hjk : j = k
        · subst hjk; exact hjun
        · rw [getD_set_ne true hjk] at hun; exact hun
      refine wpOp_mono (fun a' w' h3 => ⟨h3.2.1, ih (listed.setIfInBounds j true) a' w' hfree' (ready_mono hr (Ne.symm hji)) h3.1 ?_⟩) h2
      rw [Array.setIfInBounds_comm _ _ hji]
      exact h3.2.2
theorem wpAnyT_take {n i : Nat} {oi : Oper} {v : Value} {fuel : Nat} {listed : Array Bool} {a : Act} {w : World} (inv : HeadInv md ops n listed) (hi : ops[i]? = some oi) (hB : (Region.sinkB md ops n && chainT md ops n && decide (n < ops.size) && decide (i < n) && Region.noSelect ops && Region.free md ops listed i && (Region.ready md ops listed).contains i) = true)
    (hQ : ∀ c a w, Q (.panic c) (a.put oi.dst v) w → Q (.panic c) a w) (hy : YieldsIf P ops S oi v a) (hS : S w)
    (h : HeadInv md ops n (listed.setIfInBounds i true) → wpAnyT P md ops Q S n fuel (listed.setIfInBounds i true) (a.put oi.dst v) w) : wpAnyT P md ops Q S n (fuel + 1) listed a w := by
  simp only [Bool.and_eq_true, decide_eq_true_eq] at hB
  obtain ⟨⟨⟨⟨⟨⟨h1, h2⟩, h3⟩, h4⟩, h5⟩, h6⟩, h7⟩ := hB
  have hr : i ∈ Region.ready md ops listed := by simpa using h7
  exact wpAnyT_first h1 h2 h3 h4 hi (Region.noSelect_spec h5) hQ fuel listed a w inv (Region.free_spec hi h6) hr hy hS (h (inv.set hr h4))
theorem wpAnyT_pure {n i : Nat} {oi : Oper} {v : Value} {fuel : Nat} {listed : Array Bool} {a : Act} {w : World} (hi : ops[i]? = some oi) (hB : (decide (n ≤ i) && Region.noSelect ops && Region.free md ops listed i && (Region.ready md ops listed).contains i) = true)
    (hQ : ∀ c a w, Q (.panic c) (a.put oi.dst v) w → Q (.panic c) a w) (hy : YieldsIf P ops (fun _ => True) oi v a)
    (h : wpAnyT P md ops Q S n fuel (listed.setIfInBounds i true) (a.put oi.dst v) w) : wpAnyT P md ops Q S n (fuel + 1) listed a w := by
  simp only [Bool.and_eq_true, decide_eq_true_eq] at hB
  obtain ⟨⟨⟨h4, h5⟩, h6⟩, h7⟩ := hB
  have hr : i ∈ Region.ready md ops listed := by simpa using h7
  exact wpAnyT_pure0 hi (Region.noSelect_spec h5) hQ h4 fuel listed a w (Region.free_spec hi h6) hr hy h
/-- the one that may come up -/
theorem wpAnyT_step {n i : Nat} {o : Oper} {fuel : Nat} {listed : Array Bool} {a : Act} {w : World} (hr : Region.ready md ops listed = [i]) (ho : ops[i]? = some o)
    (h : ∀ K : Act → World → Prop, (∀ a' w', (i < n → S w') → ((i < n → S w') → wpAnyT P md ops Q S n fuel (listed.setIfInBounds i true) a' w') → K a' w') →
      if Region.wanted o (yielded ops a.tmps) = true then Oper.wp P o a w K Q else K (a.put o.dst undef) w) : wpAnyT P md ops Q S n (fuel + 1) listed a w := by
  refine ⟨fun h0 => (by rw [hr] at h0; cases h0), fun j hj => ?_⟩
  rw [hr] at hj
  obtain rfl : j = i := by simpa using hj
  have h1 := h (fun a' w' => (j < n → S w') ∧ wpAnyT P md ops Q S n fuel (listed.setIfInBounds j true) a' w') (fun a' w' h2 h3 => ⟨h2, h3 h2⟩)
  unfold wpOp
  simp only [ho]
  split
  · rename_i hw
    rw [if_pos hw] at h1
    exact .inl h1
  · rename_i hw
    rw [if_neg hw] at h1
    exact h1
theorem headInv_set {n i : Nat} {listed : Array Bool} (inv : HeadInv md ops n listed) (hB : (decide (i < n) && (Region.ready md ops listed).contains i) = true) : HeadInv md ops n (listed.setIfInBounds i true) := by
  simp only [Bool.and_eq_true, decide_eq_true_eq] at hB
  exact inv.set (by simpa using hB.2) hB.1
theorem headInv_start (n : Nat) : HeadInv md ops n (Array.replicate ops.size false) :=
  ⟨by simp, fun j oj hj hl => (by rw [getD_replicate_false] at hl; cases hl), fun t _ ht => (by simp [ht])⟩
theorem wpAnyT_done {n : Nat} {listed : Array Bool} {a : Act} {w : World} (hr : Region.ready md ops listed = []) (h : Q .normal a w) : ∀ fuel, wpAnyT P md ops Q S n fuel listed a w
  | 0 => ⟨hr, h⟩
  | _ + 1 => ⟨fun _ => h, by rw [hr]; simp⟩
theorem wp_region_T {id : Nat} {a : Act} {w : World} (S : World → Prop) (n : Nat) (hm : P.follows .mixedOrders = true)
    (h : HeadInv .any ops n (Array.replicate ops.size false) → wpAnyT P .any ops Q S n ops.size (Array.replicate ops.size false) a w.drew) : (Code.region id ops true).wp P Q a w :=
  wp_region_any hm (wpAny_of_T _ _ _ _ (h (headInv_start n)))
/-- a scope with one label to which it goes back: a number goes down at each jump -/
theorem wp_scope_ghost {c rest : Code} {a : Act} {w : World} (l : Nat) (I : Nat → Act → World → Prop) (hf : findLabel c l = some (Code.skip.seq rest))
    (pass : ∀ n a w, I n a w → ∀ K : Act → World → Prop, (∀ n' a' w', n' < n → I n' a' w' → K a' w') → rest.wp P (Exit.jump l K Q) a w)
    (first : ∀ K : Act → World → Prop, (∀ n a w, I n a w → rest.wp P (Exit.jump l K Q) a w) → c.wp P (Exit.jump l K Q) a w) : (Code.scope c).wp P Q a w := by
  refine wp_scope_jumps l (fun a w => ∃ n, I n a w) (fun a w => leastOf (fun n => I n a w)) hf ?_ ?_
  · exact first _ (fun n a w h => pass n a w h _ (fun n' _ _ _ h2 => ⟨n', h2⟩))
  · intro a w hJ
    refine wp_seq (wp_skip ?_)
    exact pass _ a w (leastOf_spec hJ).1 _ (fun n' a' w' hlt h2 => ⟨⟨n', h2⟩, Nat.lt_of_le_of_lt ((leastOf_spec ⟨n', h2⟩).2 n' h2) hlt⟩)
end
end Go.Proofs.YthbppblmecdekaaDoor
