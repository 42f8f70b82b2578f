/- Hc Gw G7 G8 Tq: texts of the claim, in this order. -/
import Derived.Test.YthdcllnmnmemdaaDoorRa11
import Derived.Deep.RegionLaw
import Derived.Test.YthdcllnmnmemdaaDoorRa10
import Derived.Maps.OwnOps
import Derived.Deep.LoopGhost
import Derived.OrdersHeld
import Derived.StillTail
import Derived.Deep.RegionHeld3
import Derived.ScopeJumps
/- Contract: does one of runs hold entries (slices.ContainsFunc, the closure of rungs.in). -/
namespace Go.Proofs.YthdcllnmnmemdaaDoor
open Go Go.RowKit
set_option maxRecDepth 100000
theorem in1_any (A : Option Addr) (n c : Nat) (w : World) : Calls Tryd.prog 78 #[.agg #[.slice A n c]] w fun r w' => r = .returned (.bool (decide (0 < n))) ∧ Below w.heap.size w w' := by
  have hb0 : Below w.heap.size w (w.alloc (.cells #[.slice A n c] 61)) := (Below.refl _ _).alloc (Nat.le_refl _) _
  by_cases h : 0 < n
  · have h2 : (0 : Int) < (n : Int) := by omega
    go_enter Tryd.func78, Tryd.ntmps78
    go_wp2
    go_ret
    exact ⟨by simp [h], hb0⟩
  · have h2 : ¬ (0 : Int) < (n : Int) := by omega
    go_enter Tryd.func78, Tryd.ntmps78
    go_wp2
    go_ret
    exact ⟨by simp, hb0⟩
def anyR (Qs : List Rm) : Bool := Qs.any (fun r => decide (r.l ≠ []))
theorem any_none {Qs : List Rm} (h : ∀ j (hj : j < Qs.length), (Qs[j]'hj).l = []) : anyR Qs = false := by
  unfold anyR
  rw [List.any_eq_false]
  intro r hr
  obtain ⟨j, hj, e⟩ := List.getElem_of_mem hr
  have := h j hj
  rw [e] at this
  simp [this]
theorem any_one {Qs : List Rm} {j : Nat} (hj : j < Qs.length) (h : (Qs[j]'hj).l ≠ []) : anyR Qs = true := by
  unfold anyR
  exact List.any_eq_true.2 ⟨_, List.getElem_mem hj, by simpa using h⟩
theorem any_drop (Rs : List Rm) (k : Nat) : anyR (Rs.drop (k + 1)) = heldB (lvs Rs) k := by
  unfold anyR heldB lvs
  rw [← List.map_drop, List.any_map]
  rfl
set_option maxHeartbeats 1000000 in
theorem indexF_any (A : Option Addr) (Qs : List Rm) (c : Nat) (w : World) (hA : Sl w A (Qs.map Rm.v)) (hl : Qs.length ≤ 1000000) :
    Calls Tryd.prog 107 #[.slice A Qs.length c, .func (.func 78) #[] #[]] w fun r w' => ∃ v : Int, r = .returned (.int .i64 v) ∧ (decide (0 ≤ v) = anyR Qs) ∧ Below w.heap.size w w' := by
  have HA := Lib.hid hA
  clear hA
  go_enter Tryd.func107, Tryd.ntmps107
  go_wp2
  go_loopw [8] (fun i wr => ∃ k : Nat, k ≤ Qs.length ∧ i = .int .i64 k ∧ Below w.heap.size w wr ∧ Hid (∀ j (hj : j < Qs.length), j < k → (Qs[j]'hj).l = [])) (fun i _ => Qs.length - (intOf i).toNat)
  case atStart => exact ⟨0, Nat.zero_le _, rfl, Below.refl _ _, fun j _ h => by omega⟩
  case round =>
    obtain ⟨k, hk, rfl, hb, hd⟩ := hrel
    by_cases hlt : k < Qs.length
    · obtain ⟨b, off, rfl, hbl, cp⟩ := HA.out.oneB hb k hlt
      obtain ⟨r, hr⟩ : ∃ r, Qs[k]'hlt = r := ⟨_, rfl⟩
      have HR := Lib.hid hr
      rw [hr] at cp
      obtain ⟨l, Al, cl⟩ := r
      have cp1 : wr.cell? ⟨b, off + k, none⟩ = some (.slice Al l.length cl) := cp
      have hki : (0 : Int) ≤ (k : Int) := by omega
      have hki2 : (k : Int) < (Qs.length : Int) := by omega
      clear cp hr
      have hcall := in1_any Al l.length cl wr
      by_cases h0 : l.length = 0
      · have hnil : l = [] := List.eq_nil_of_length_eq_zero h0
        have HNIL := Lib.hid hnil
        rw [show decide (0 < l.length) = false from decide_eq_false (by omega)] at hcall
        have HC := Lib.hid hcall
        clear hcall hnil h0
        go_wp2_with fail
        refine HC.out.mono ?_
        rintro e w1 ⟨rfl, hb1⟩
        go_wp2
        go_roundw
        case rel =>
          refine ⟨k + 1, by omega, by go_num, bext hb hb1, fun j hj h1 => ?_⟩
          by_cases e : j = k
          · subst e; rw [HR.out]; exact HNIL.out
          · exact hd.out j hj (by omega)
        case measure => simp [intOf]; omega
      · have hne : l ≠ [] := by intro h; apply h0; rw [h]; rfl
        rw [show decide (0 < l.length) = true from decide_eq_true (by omega)] at hcall
        have HC := Lib.hid hcall
        have HT : Hid (anyR Qs = true) := any_one hlt (by rw [HR.out]; exact hne)
        clear hcall h0 hne
        go_wp2_with fail
        refine HC.out.mono ?_
        rintro e w1 ⟨rfl, hb1⟩
        go_wp2
        go_ret
        exact ⟨k, rfl, by rw [HT.out]; simp, bext hb hb1⟩
    · have HF : Hid (anyR Qs = false) := any_none fun j hj => hd.out j hj (by omega)
      have hkf : ¬ (k : Int) < (Qs.length : Int) := by omega
      go_wp2
      go_ret
      exact ⟨-1, rfl, by rw [HF.out]; rfl, hb⟩
set_option maxHeartbeats 1000000 in
theorem containsF_any (A : Option Addr) (Qs : List Rm) (c : Nat) (w : World) (hA : Sl w A (Qs.map Rm.v)) (hl : Qs.length ≤ 1000000) :
    Calls Tryd.prog 77 #[.slice A Qs.length c, .func (.func 78) #[] #[]] w fun r w' => r = .returned (.bool (anyR Qs)) ∧ Below w.heap.size w w' := by
  go_enter Tryd.func77, Tryd.ntmps77
  go_wp2_with fail
  refine (indexF_any A Qs c _ hA hl).mono ?_
  rintro e w1 ⟨v, rfl, hv, hb1⟩
  have HV := Lib.hid hv
  by_cases h : 0 ≤ v
  · rw [decide_eq_true h] at hv
    have HW := Lib.hid hv
    clear hv
    go_wp2
    go_ret
    exact ⟨ret_bool HW.out, hb1⟩
  · rw [decide_eq_false h] at hv
    have HW := Lib.hid hv
    clear hv
    go_wp2
    go_ret
    exact ⟨ret_bool HV.out, hb1⟩
end Go.Proofs.YthdcllnmnmemdaaDoor

/- Contract: rungs.Twin. -/
namespace Go.Proofs.YthdcllnmnmemdaaDoor
open Go Go.RowKit
set_option maxRecDepth 100000
section
variable {w W V V' : World}
/-- nothing below the call is touched -/
abbrev SO (w W V : World) : Prop := Below w.heap.size w V ∧ W.heap.size ≤ V.heap.size
theorem SO.init (h : Below w.heap.size w W) : SO w W W.drew := ⟨h.drew, Nat.le_refl _⟩
theorem SO.init0 (h : Below w.heap.size w W) : SO w W W := ⟨h, Nat.le_refl _⟩
theorem SO.alloc (x : Obj) (h : SO w W V) : SO w W (V.alloc x) := ⟨h.1.alloc h.1.size x, by have := h.2; simp; omega⟩
theorem SO.allocD (x : Obj) (h : SO w W V.drew) : SO w W (V.alloc x).drew := ⟨(undrew h.1).alloc (undrew h.1).size x |>.drew, by have := h.2; have e : V.drew.heap.size = V.heap.size := rfl; rw [e] at this; show W.heap.size ≤ (V.alloc x).heap.size; simp; omega⟩
theorem SO.below (hb : Below V.heap.size V V') (h : SO w W V) : SO w W V' := ⟨bext h.1 hb, Nat.le_trans h.2 hb.size⟩
theorem SO.grown {v : Value} (hg : V.grownBy V' v.ownBlock) (ho : ∀ q, v.ownBlock = some q → w.heap.size ≤ q) (h : SO w W V) : SO w W V' := ⟨h.1.grown hg h.1.size ho, Nat.le_trans h.2 hg.size⟩
theorem SO.set {g : Nat} (hg : w.heap.size ≤ g) (i : Nat) (y : Value) (h : SO w W V) : SO w W (V.setCell ⟨g, i, none⟩ y) := ⟨h.1.setCell (p := ⟨g, i, none⟩) hg y, by have := h.2; simp [World.setCell]; omega⟩
end
theorem own_hid {w : World} {B0 k : Nat} {A : Option Addr} {d : Nat} {Ts : List Rm} {o : Obj} (h : Hid (OwnRs w B0 A d Ts)) (hk : Hid (Ts.length = k)) : (w.alloc o).ownsRow B0 61 1 (.slice A k d) k (Ts.map Rm.v) := by
  have := h.out.row.alloc o
  rw [hk.out] at this
  exact this
set_option maxHeartbeats 4000000 in
theorem twinR_any (B : Option Addr) (Rs : List Rm) (c : Nat) (n : Int) (w : World) (hB : RunsAt w B Rs) (hl : Rs.length ≤ 1000000) (hrs : ∀ r ∈ Rs, r.l.length ≤ 1000000) :
    Calls Tryd.prog 16 #[.agg #[.slice B Rs.length c, .int .u64 n]] w (GivesRg (lvs Rs) n w) := by
  obtain ⟨te0, hI⟩ := info_parts run_info1
  have HI := Lib.hid hI
  obtain ⟨W0, hW0⟩ : ∃ W0, ((w.alloc (.cells #[.slice B Rs.length c, .int .u64 n] 25)).alloc (.cells #[.slice none 0 0, .int .u64 0] 25)).alloc (.cells #[.slice none 0 0, .int .u64 n] 25) = W0 := ⟨_, rfl⟩
  have hb0 : Below w.heap.size w W0 := by rw [← hW0]; exact (((Below.refl _ _).alloc (Nat.le_refl _) _).alloc (by simp) _).alloc (by simp; omega) _
  have b20 : Blk W0 (w.heap.size + 1) 25 #[.slice none 0 0, .int .u64 0] := by
    rw [← hW0]
    have := Blk.new (w.alloc (.cells #[.slice B Rs.length c, .int .u64 n] 25)) 25 #[.slice none 0 0, .int .u64 0]
    rw [World.size_alloc] at this
    exact this.alloc _
  have b30 : Blk W0 (w.heap.size + 2) 25 #[.slice none 0 0, .int .u64 n] := by
    rw [← hW0]
    have := Blk.new ((w.alloc (.cells #[.slice B Rs.length c, .int .u64 n] 25)).alloc (.cells #[.slice none 0 0, .int .u64 0] 25)) 25 #[.slice none 0 0, .int .u64 n]
    rwa [World.size_alloc, World.size_alloc] at this
  have HB := Lib.hid hB
  have HHR := Lib.hid hrs
  have HW0 := Lib.hid hW0
  clear hB hrs hI hW0
  go_enter Tryd.func16, Tryd.ntmps16
  go_wp2
  rw [HW0.out]
  go_loopw [12] (fun i wr => ∃ (k : Nat) (Ts : List Rm) (A : Option Addr) (d : Nat), k ≤ Rs.length ∧ i = .int .i64 k ∧ Below w.heap.size w wr ∧ Blk wr (w.heap.size + 1) 25 #[.slice none 0 0, .int .u64 0] ∧ Blk wr (w.heap.size + 2) 25 #[.slice A k d, .int .u64 n] ∧
      Hid (OwnRs wr w.heap.size A d Ts ∧ lvs Ts = (lvs Rs).take k ∧ Ts.length = k)) (fun i _ => Rs.length - (intOf i).toNat)
  case atStart => exact ⟨0, [], none, 0, Nat.zero_le _, rfl, hb0, b20, b30, OwnRs.nil _ _, rfl, rfl⟩
  case round =>
    obtain ⟨k, Ts, A, d, hk, rfl, hb, b2, b3, hH⟩ := hrel
    have hbs := hb.size
    have c30 : wr.cell? ⟨w.heap.size + 1 + 1, 0, none⟩ = some (.slice A k d) := b3.cell 0
    have c31 : wr.cell? ⟨w.heap.size + 1 + 1, 1, none⟩ = some (.int .u64 n) := b3.cell 1
    have f30 := b3.frozen 0
    have l3 := b3.lt
    by_cases hlt : k < Rs.length
    · obtain ⟨b, off, rfl, hbl, cp⟩ := HB.out.sl.oneB hb k hlt
      have hok := HB.out.ok _ (List.getElem_mem hlt)
      have hrl := HHR.out _ (List.getElem_mem hlt)
      have hin2 : (lvs Rs).take (k + 1) = (lvs Rs).take k ++ [(Rs[k]'hlt).l] := by
        rw [List.take_succ_eq_append_getElem (by simpa using hlt)]; simp
      obtain ⟨r, hr⟩ : ∃ r, Rs[k]'hlt = r := ⟨_, rfl⟩
      rw [hr] at cp hok hrl hin2
      obtain ⟨l, Al, cl⟩ := r
      have cp1 : wr.cell? ⟨b, off + k, none⟩ = some (.slice Al l.length cl) := cp
      dsimp only at hrl hin2
      have hki : (0 : Int) ≤ (k : Int) := by omega
      have hki2 : (k : Int) < (Rs.length : Int) := by omega
      have HOK := Lib.hid hok.sl
      have HIN := Lib.hid hin2
      obtain ⟨W1, hW1⟩ : ∃ W1, wr.alloc (.cells #[.slice Al l.length cl] 61) = W1 := ⟨_, rfl⟩
      have hb1 : Below wr.heap.size wr W1 := by rw [← hW1]; exact (Below.refl _ _).alloc (Nat.le_refl _) _
      have b51 : Blk W1 wr.heap.size 61 #[.slice Al l.length cl] := by rw [← hW1]; exact Blk.new _ _ _
      have HW1 := Lib.hid hW1
      clear cp hr hok hin2 hW1
      go_upto_region 5 with fail
      rw [HW1.out]
      clear c30 c31 f30 cp1
      have b21 := b2.below hb1 b2.lt
      have b31 := b3.below hb1 b3.lt
      have hb01 : Below w.heap.size w W1 := bext hb hb1
      have O1 : Hid (OwnRs W1 w.heap.size A d Ts) := hH.out.1.below hb1
      have c50 : W1.cell? ⟨wr.heap.size, 0, none⟩ = some (.slice Al l.length cl) := b51.cell 0
      have c30 : W1.cell? ⟨w.heap.size + 1 + 1, 0, none⟩ = some (.slice A k d) := b31.cell 0
      have c31 : W1.cell? ⟨w.heap.size + 1 + 1, 1, none⟩ = some (.int .u64 n) := b31.cell 1
      have f30 := b31.frozen 0
      have hTk : Hid (Ts.length = k) := hH.out.2.2
      have HB01 := Lib.hid hb01
      have hwl : w.heap.size ≤ W1.heap.size := hb01.size
      go_region_law (first
        | (refine step_append_sl _ (by rfl) (.tmp 17) (.tmp 20) _ (by rfl) w.heap.size 61 te0 _ 1 24 Tryd.underlying22 HI.out.1 HI.out.2.1 HI.out.2.2.1 HI.out.2.2.2 rfl (by omega) (.slice A k d) k (Ts.map Rm.v) (by rfl) (own_hid O6 hTk) _ 1 _ [.slice A6 l.length c6] (by rfl) (by exact sl_new1 _ _ _) rfl (by simp [Value.oneCell']) (by unfold maxLen; omega) (by omega) (by simp; omega) ?_; intro v7 w7 hown7 hg7; obtain ⟨A7, d7, rfl, hle7, hmx7⟩ := own_form hown7; have b37 := (b36.alloc (.cells #[.slice A6 l.length c6] 61)).grown hg7 (own_typ (own_hid O6 hTk) (b36.alloc (.cells #[.slice A6 l.length c6] 61)) (by decide)); have b27 := (b26.alloc (.cells #[.slice A6 l.length c6] 61)).grown hg7 (own_typ (own_hid O6 hTk) (b26.alloc (.cells #[.slice A6 l.length c6] 61)) (by decide)); have c37 : w7.cell? ⟨w.heap.size + 1 + 1, 0, none⟩ = some (.slice A k d) := b37.cell 0; have f37 : w7.frozen? ⟨w.heap.size + 1 + 1, 0, none⟩ = false := b37.frozen 0; have HO7 := Lib.hid hown7; have HG7 := Lib.hid hg7; clear hown7 hg7)
        | (go_simp; go_at_call 50; refine (twin_any Al l cl _ (HOK.out.below (by first | exact HB01.out.drew | exact HB01.out)) hrl).mono ?_; rintro e w6 ⟨A6, c6, rfl, ho6, hb6⟩; have hb16 : Below W1.heap.size W1 w6 := (by first | exact hb6 | exact bext ((Below.refl _ _).drew) hb6); have O6 := Lib.hid (O1.out.below hb16); have b26 := b21.below hb16 b21.lt; have b36 := b31.below hb16 b31.lt; have HO6 := Lib.hid (own_mono (B' := w.heap.size) ho6 (by first | exact hwl | (simp; omega))); have HB6 := Lib.hid hb16; have hs6 := hb16.size; have c36 : w6.cell? ⟨w.heap.size + 1 + 1, 0, none⟩ = some (.slice A k d) := b36.cell 0; have f36 : w6.frozen? ⟨w.heap.size + 1 + 1, 0, none⟩ = false := b36.frozen 0; have l36 : w.heap.size + 1 + 1 < w6.heap.size := b36.lt; clear ho6 hb6 hb16)
        | fail "no arm")
      all_goals
        go_wp2_with fail
        go_roundw
        case rel =>
          have hb7 : Below w.heap.size w w7 := ((bext HB01.out HB6.out).alloc (by have := (bext HB01.out HB6.out).size; omega) _).grown HG7.out (by have := (bext HB01.out HB6.out).size; simp; omega) (fun q hq => (O1.out.row.lt q (by rw [hTk.out]; exact hq)).1)
          have hO7 : OwnRs w7 w.heap.size A7 d7 (Ts ++ [⟨l, A6, c6⟩]) := OwnRs.push (O6.out.alloc (.cells #[.slice A6 l.length c6] 61)) ⟨l, A6, c6⟩ (HO6.out.alloc _) (by rw [hTk.out]; exact HO7.out) (by rw [hTk.out]; exact HG7.out)
          refine ⟨k + 1, Ts ++ [⟨l, A6, c6⟩], A7, d7, by omega, by go_num, hb7.setCell (p := ⟨w.heap.size + 1 + 1, 0, none⟩) (by show w.heap.size ≤ w.heap.size + 1 + 1; omega) _, b27.far (p := ⟨w.heap.size + 1 + 1, 0, none⟩) (by simp) _, ?_, hO7.setT b37 (by decide) (by decide) 0 _, ?_, ?_⟩
          · have := b37.set_ 0 (.slice A7 (k + 1) d7)
            simpa using this
          · rw [lvs_append, hH.out.2.1, HIN.out]; rfl
          · rw [List.length_append, hTk.out]; rfl
        case measure => simp [intOf]; omega
    · have hkn : k = Rs.length := by omega
      have HF : Hid (lvs Ts = lvs Rs) := by
        have h := hH.out.2.1
        rw [List.take_of_length_le (by rw [lvs_len]; omega)] at h
        exact h
      have HTK : Hid (Ts.length = k) := hH.out.2.2
      clear hkn
      have f20 := b2.frozen 0
      have f21 := b2.frozen 1
      have c20 : wr.cell? ⟨w.heap.size + 1, 0, none⟩ = some (.slice none 0 0) := b2.cell 0
      have c21 : wr.cell? ⟨w.heap.size + 1, 1, none⟩ = some (.int .u64 0) := b2.cell 1
      go_wp2
      have hbx := box2 b2 (.slice A k d) (.int .u64 n)
      have e0 : ((wr.setCell ⟨w.heap.size + 1, 0, none⟩ (.slice A k d)).setCell ⟨w.heap.size + 1, 1, none⟩ (.int .u64 n)).cell? ⟨w.heap.size + 1, 0, none⟩ = some (.slice A k d) := hbx.cell 0
      have e1 : ((wr.setCell ⟨w.heap.size + 1, 0, none⟩ (.slice A k d)).setCell ⟨w.heap.size + 1, 1, none⟩ (.int .u64 n)).cell? ⟨w.heap.size + 1, 1, none⟩ = some (.int .u64 n) := hbx.cell 1
      refine bodyPost_ret (v := .agg #[.slice A k d, .int .u64 n]) (by simp [results, Tryd.results16, go_sem, e0, e1]) rfl ?_
      exact ⟨A, d, Ts, by rw [HTK.out], HF.out, hH.out.1.set2 b2 (by decide) (by decide) _ _, below2 hb (Nat.le_succ _) _ _⟩
end Go.Proofs.YthdcllnmnmemdaaDoor

/- Contract: which levels hold a run, as a map (rungs.held). -/
namespace Go.Proofs.YthdcllnmnmemdaaDoor
open Go Go.RowKit Go.Maps
set_option maxRecDepth 100000
theorem held_keyed : Keyed Tryd.prog 3 := int_keyed Tryd.underlying3
theorem zero_int (w : World) : (zeroValue 3).run Tryd.prog w = .ok (.int .i64 0) w := by kernel_rfl
theorem wf_nat {k : Nat} (h : k ≤ 1000000000) : (Lit.int .i64 (k : Int)).wf = true := by
  show (decide ((-9223372036854775808 : Int) ≤ (k : Int)) && decide ((k : Int) ≤ 9223372036854775807)) = true
  simp; omega
theorem own_below_map {w w' : World} {b n : Nat} {D : DataW Unit} (h1 : w.ownsMap Tryd.prog 3 (plainElem (H := Unit) Tryd.prog 3) b n D) (hb : Below w.heap.size w w') : w'.ownsMap Tryd.prog 3 (plainElem (H := Unit) Tryd.prog 3) b n D := by
  have hl := h1.lt
  obtain ⟨es, clock, h3, h4⟩ := h1
  exact ⟨es, clock, (hb.block b hl).trans h3, h4⟩
set_option maxHeartbeats 2000000 in
theorem heldM_any (B : Option Addr) (Rs : List Rm) (c : Nat) (w : World) (hB : RunsAt w B Rs) (hl : Rs.length ≤ 1000000) (hrs : ∀ r ∈ Rs, r.l.length ≤ 1000000) :
    Calls Tryd.prog 75 #[.slice B Rs.length c] w fun r w' => ∃ b, r = .returned (.map (some b)) ∧ w.heap.size ≤ b ∧ HeldAt w' b (lvs Rs) ∧ Below w.heap.size w w' := by
  have hmm := @run_makeMap Tryd.prog
  have HB := Lib.hid hB
  have HHR := Lib.hid hrs
  clear hB hrs
  go_enter Tryd.func75, Tryd.ntmps75
  go_wp2
  go_loopw [9] (fun i wr => ∃ (k : Nat) (D : DataW Unit), k ≤ Rs.length ∧ i = .int .i64 k ∧ Below w.heap.size w wr ∧ wr.ownsMap Tryd.prog 3 (plainElem (H := Unit) Tryd.prog 3) w.heap.size k D ∧
      Hid (Tidy D ∧ (∀ j : Nat, D.atKey (.int .i64 j) (.lit (.int .i64 0)) = .lit (.int .i64 (lev ((lvs Rs).take k) j).length)) ∧ (∀ j : Nat, Maps.has D (.int .i64 j) = decide (lev ((lvs Rs).take k) j ≠ [])) ∧ Maps.size D = cnt ((lvs Rs).take k)))
    (fun i _ => Rs.length - (intOf i).toNat)
  case atStart =>
    refine ⟨0, .map [], Nat.zero_le _, rfl, (Below.refl _ _).alloc (Nat.le_refl _) _, World.ownsMap_made _ _ _ _, tidy_empty, fun j => ?_, fun j => ?_, rfl⟩
    · rw [List.take_zero, lev_nil]; rfl
    · rw [List.take_zero, lev_nil]; rfl
  case round =>
    obtain ⟨k, D, hk, rfl, hb, hown, hd⟩ := hrel
    have hbs := hb.size
    by_cases hlt : k < Rs.length
    · obtain ⟨b, off, rfl, hbl, cp⟩ := HB.out.sl.oneB hb k hlt
      have hlt2 : k < (lvs Rs).length := by rw [lvs_len]; exact hlt
      have hlv := lvs_lev hlt
      have hrl := HHR.out _ (List.getElem_mem hlt)
      obtain ⟨r, hr⟩ : ∃ r, Rs[k]'hlt = r := ⟨_, rfl⟩
      rw [hr] at cp hrl hlv
      obtain ⟨l, A, cl⟩ := r
      have cp1 : wr.cell? ⟨b, off + k, none⟩ = some (.slice A l.length cl) := cp
      dsimp only at hrl hlv
      have hki : (0 : Int) ≤ (k : Int) := by omega
      have hki2 : (k : Int) < (Rs.length : Int) := by omega
      have HL := Lib.hid hlv
      have HO := Lib.hid hown
      have HLT := Lib.hid hlt2
      clear cp hr hlv hown hlt2
      by_cases h0 : l.length = 0
      · have hnil : l = [] := List.eq_nil_of_length_eq_zero h0
        subst hnil
        clear h0
        go_wp2
        go_roundw
        case rel =>
          have he : lev (lvs Rs) k = [] := HL.out
          have hs := held_skip HLT.out he
          refine ⟨k + 1, D, by omega, by go_num, hb.alloc hbs _, (HO.out.alloc _).mono (by omega), hd.out.1, fun j => ?_, fun j => ?_, ?_⟩
          · rw [hs.1]; exact hd.out.2.1 j
          · rw [hs.1]; exact hd.out.2.2.1 j
          · rw [hs.2]; exact hd.out.2.2.2
        case measure => simp [intOf]; omega
      · have hpos : (0 : Int) < (l.length : Int) := by omega
        have hne2 : ¬ l = [] := by intro h; apply h0; rw [h]; rfl
        have hkey : keyOf Tryd.prog 3 (.int .i64 (k : Int)) = some (.int .i64 (k : Int)) := keyOf_int_mk Tryd.underlying3 (wf_nat (by omega))
        have HW := Lib.hid (wf_nat (k := l.length) (by omega))
        go_wp2_with (first
          | (at_mapUpdate; refine wpList_mapUpdate_own _ rfl _ _ _ 120 rfl 3 3 held_keyed Tryd.underlying120 _ w.heap.size k D rfl (HO.out.alloc _) (by unfold maxLen; omega) _ _ _ rfl rfl hkey _ [] (plainElem_int Tryd.underlying3 HW.out) ?_; intro w1 hown1 hgrow1; have HO1 := Lib.hid hown1; clear hown1)
          | go_in)
        go_roundw
        case rel =>
          have he : lev (lvs Rs) k ≠ [] := by rw [HL.out]; exact hne2
          have hp := held_put HLT.out he hd.out.1 hd.out.2.1 hd.out.2.2.1 hd.out.2.2.2
          rw [HL.out] at hp
          exact ⟨k + 1, _, by omega, by go_num, (hb.alloc hbs _).grown hgrow1 (by simp; omega) (fun q hq => by cases hq; exact Nat.le_refl _), HO1.out, hp⟩
        case measure => simp [intOf]; omega
    · have hkn : k = Rs.length := by omega
      have HO := Lib.hid hown
      clear hown
      have hfin : HeldAt wr w.heap.size (lvs Rs) := by
        have hd2 := hd.out
        rw [List.take_of_length_le (by rw [lvs_len]; omega)] at hd2
        exact ⟨k, D, HO.out, by omega, hd2⟩
      have HF := Lib.hid hfin
      clear hkn hfin
      go_wp2
      go_ret
      exact ⟨_, rfl, Nat.le_refl _, HF.out, hb⟩
end Go.Proofs.YthdcllnmnmemdaaDoor

/- Contract: runs at their levels (rungs.of). -/
namespace Go.Proofs.YthdcllnmnmemdaaDoor
open Go Go.RowKit
set_option maxRecDepth 100000
theorem of_succ {rs : Lv} {k : Nat} (h : k < rs.length) : ofL (rs.take (k + 1)) = standL (ofL (rs.take k)) (lev rs k) := by
  rw [List.take_succ_eq_append_getElem h, of_snoc, lev_lt h]
theorem of_grow {w : World} {B0 g4 g5 n d3 : Nat} {A3 : Option Addr} {Ts3 : List Rm} {c4 c5 : Array Value} {v5 : Value} {w5 : World} (o : Obj) (hr : RowAt w B0 A3 d3 Ts3) (b4 : Blk w g4 25 c4) (b5 : Blk w g5 25 c5)
    (ho : w5.ownsRow B0 61 1 v5 n (Ts3.map Rm.v ++ [.slice none 0 0])) (hg : (w.alloc o).grownBy w5 (Value.slice A3 Ts3.length d3).ownBlock) :
    ∃ A5 d5, v5 = .slice A5 n d5 ∧ Blk w5 g4 25 c4 ∧ Blk w5 g5 25 c5 ∧ (∀ i, w5.cell? ⟨g5, i, none⟩ = c5[i]?) ∧ (∀ i, w5.frozen? ⟨g5, i, none⟩ = false) := by
  obtain ⟨A5, d5, h1, _, _⟩ := own_form ho
  have e5 := (b5.alloc o).grown hg (own_typ (hr.alloc o) (b5.alloc o) (by decide))
  exact ⟨A5, d5, h1, (b4.alloc o).grown hg (own_typ (hr.alloc o) (b4.alloc o) (by decide)), e5, fun i => e5.cell i, fun i => e5.frozen i⟩
set_option maxHeartbeats 4000000 in
theorem of_any (n : Int) (B : Option Addr) (Rs : List Rm) (c : Nat) (w : World) (hB : RunsAt w B Rs) (hl : Rs.length ≤ 1000000) (hrs : ∀ r ∈ Rs, r.l.length ≤ 65536) :
    Calls Tryd.prog 45 #[.int .u64 n, .slice B Rs.length c] w fun r w' => ∃ A d Ts, r = .returned (.agg #[.slice A Ts.length d, .int .u64 n]) ∧ lvs Ts = ofL (lvs Rs) ∧ RowAt w' w.heap.size A d Ts ∧ (∀ t ∈ Ts, t = ⟨[], none, 0⟩ ∨ t ∈ Rs) ∧ Below w.heap.size w w' := by
  obtain ⟨te0, hI⟩ := info_parts run_info1
  have HI := Lib.hid hI
  have HB := Lib.hid hB
  have HHR := Lib.hid hrs
  clear hI hB hrs
  obtain ⟨W0, hW0⟩ : ∃ W0, (w.alloc (.cells #[.slice none 0 0, .int .u64 0] 25)).alloc (.cells #[.slice none 0 0, .int .u64 n] 25) = W0 := ⟨_, rfl⟩
  have hb0 : Below w.heap.size w W0 := by rw [← hW0]; exact ((Below.refl _ _).alloc (Nat.le_refl _) _).alloc (by simp) _
  have b40 : Blk W0 w.heap.size 25 #[.slice none 0 0, .int .u64 0] := by rw [← hW0]; exact (Blk.new _ _ _).alloc _
  have b50 : Blk W0 (w.heap.size + 1) 25 #[.slice none 0 0, .int .u64 n] := by
    rw [← hW0]
    have := Blk.new (w.alloc (.cells #[.slice none 0 0, .int .u64 0] 25)) 25 #[.slice none 0 0, .int .u64 n]
    rwa [World.size_alloc] at this
  go_enter Tryd.func45, Tryd.ntmps45
  go_wp2
  try rw [hW0]
  clear hW0
  go_loopw [13] (fun i wr => ∃ (k : Nat) (Ts : List Rm) (A : Option Addr) (d : Nat), k ≤ Rs.length ∧ i = .int .i64 k ∧ Below w.heap.size w wr ∧ Blk wr w.heap.size 25 #[.slice none 0 0, .int .u64 0] ∧ Blk wr (w.heap.size + 1) 25 #[.slice A Ts.length d, .int .u64 n] ∧
      RowAt wr w.heap.size A d Ts ∧ Ts.length ≤ 17 ∧ Hid (lvs Ts = ofL ((lvs Rs).take k) ∧ ∀ t ∈ Ts, t = ⟨[], none, 0⟩ ∨ t ∈ Rs)) (fun i _ => Rs.length - (intOf i).toNat)
  case atStart => exact ⟨0, [], none, 0, Nat.zero_le _, rfl, hb0, b40, b50, World.ownsRow_nil _ _ _ _, by simp, rfl, by simp⟩
  case round =>
    obtain ⟨k, Ts, A, d, hk, rfl, hb, b4, b5, hrow, h17, hH⟩ := hrel
    obtain ⟨wq, rfl⟩ : ∃ wq, wq = wr := ⟨_, rfl⟩
    have hbs := hb.size
    have c50 : wq.cell? ⟨w.heap.size + 1, 0, none⟩ = some (.slice A Ts.length d) := b5.cell 0
    have c51 : wq.cell? ⟨w.heap.size + 1, 1, none⟩ = some (.int .u64 n) := b5.cell 1
    by_cases hlt : k < Rs.length
    · obtain ⟨b, off, rfl, hbl, cp⟩ := HB.out.sl.oneB hb k hlt
      have hlt2 : k < (lvs Rs).length := by rw [lvs_len]; exact hlt
      have hlv := lvs_lev hlt
      have hmem := List.getElem_mem hlt
      have hrl := HHR.out _ hmem
      have hof := of_succ hlt2
      obtain ⟨r, hr⟩ : ∃ r, Rs[k]'hlt = r := ⟨_, rfl⟩
      rw [hr] at cp hrl hlv hmem
      rw [hlv] at hof
      obtain ⟨l, Ar, cl⟩ := r
      have cp1 : wq.cell? ⟨b, off + k, none⟩ = some (.slice Ar l.length cl) := cp
      dsimp only at hrl hof
      have hki : (0 : Int) ≤ (k : Int) := by omega
      have hki2 : (k : Int) < (Rs.length : Int) := by omega
      have HOF := Lib.hid hof
      have HROW := Lib.hid hrow
      have HM := Lib.hid hmem
      obtain ⟨W1, hW1⟩ : ∃ W1, wq.alloc (.cells #[.slice Ar l.length cl] 61) = W1 := ⟨_, rfl⟩
      have hb1 : Below wq.heap.size wq W1 := by rw [← hW1]; exact (Below.refl _ _).alloc (Nat.le_refl _) _
      have hs1 : W1.heap.size = wq.heap.size + 1 := by rw [← hW1]; simp
      have b71 : Blk W1 wq.heap.size 61 #[.slice Ar l.length cl] := by rw [← hW1]; exact Blk.new _ _ _
      have b41 := b4.below hb1 b4.lt
      have b51 := b5.below hb1 b5.lt
      have HROW1 := Lib.hid (own_below hrow hb1)
      have HW1 := Lib.hid hW1
      clear cp hr hlv hof hrow hmem hlt2 hW1
      by_cases h0 : l.length = 0
      · have hnil : l = [] := List.eq_nil_of_length_eq_zero h0
        subst hnil
        clear h0
        go_wp2
        have e1 : wq.alloc (.cells #[.slice Ar 0 cl] 61) = W1 := HW1.out
        rw [e1]
        clear e1
        go_roundw
        case rel =>
          refine ⟨k + 1, Ts, A, d, by omega, by go_num, bext hb hb1, b41, b51, HROW1.out, h17, ?_, hH.out.2⟩
          rw [HOF.out, stand_nil]; exact hH.out.1
        case measure => simp [intOf]; omega
      · have hpos : ¬ ((l.length : Int) = 0) := by omega
        have hne2 : ¬ l = [] := by intro h; apply h0; rw [h]; rfl
        have HL0 : Hid (0 < l.length) := by show 0 < l.length; omega
        have HL6 := Lib.hid hrl
        obtain ⟨U, hU⟩ : ∃ U, up l.length = U := ⟨_, rfl⟩
        have hU16 : U ≤ 16 := by rw [← hU]; exact up_16 hrl
        have HU := Lib.hid hU
        clear hU
        go_wp2_with fail
        rw [HW1.out]
        refine (level_any Ar l.length cl _ HL0.out HL6.out).mono ?_
        rw [HU.out]
        rintro e w2 ⟨rfl, hb2⟩
        have hb02 : Below w.heap.size w w2 := bext hb (bext hb1 hb2)
        have b72 := b71.below hb2 b71.lt
        have b42 := b41.below hb2 b41.lt
        have b52 := b51.below hb2 b51.lt
        have HROW2 := Lib.hid (own_below HROW1.out hb2)
        have hs2 := hb2.size
        have hne7 : ∀ q, A = some q → q.block ≠ wq.heap.size := by
          intro q hq
          have h1 := (HROW.out.lt q.block (by rw [hq]; simp [Value.ownBlock])).2
          omega
        clear c50 c51
        go_wp2_with fail
        go_loopg [] (U + 1 - Ts.length) (fun gk w3 => ∃ (Ts3 : List Rm) (A3 : Option Addr) (d3 : Nat), Below w.heap.size w w3 ∧ Blk w3 w.heap.size 25 #[.slice none 0 0, .int .u64 0] ∧ Blk w3 (w.heap.size + 1) 25 #[.slice A3 Ts3.length d3, .int .u64 n] ∧ Blk w3 wq.heap.size 61 #[.slice Ar l.length cl] ∧
          RowAt w3 w.heap.size A3 d3 Ts3 ∧ Ts3.length ≤ 17 ∧ wq.heap.size + 1 ≤ w3.heap.size ∧ Hid ((∀ q, A3 = some q → q.block ≠ wq.heap.size) ∧ lvs Ts3 = padTo (lvs Ts) Ts3.length ∧ Ts.length ≤ Ts3.length ∧ Ts3.length ≤ max Ts.length (U + 1) ∧ (∀ t ∈ Ts3, t = ⟨[], none, 0⟩ ∨ t ∈ Rs) ∧ gk = U + 1 - Ts3.length))
        case atStart => exact ⟨Ts, A, d, hb02, b42, b52, b72, HROW2.out, h17, by omega, hne7, by rw [pad_same _ (by rw [lvs_len]; exact Nat.le_refl _)], Nat.le_refl _, by omega, hH.out.2, rfl⟩
        case round =>
          obtain ⟨Ts3, A3, d3, hb3, b43, b53, b73, hrow3, h173, hs3, hH3⟩ := hrel
          have c53 : wr.cell? ⟨w.heap.size + 1, 0, none⟩ = some (.slice A3 Ts3.length d3) := b53.cell 0
          have c54 : wr.cell? ⟨w.heap.size + 1, 1, none⟩ = some (.int .u64 n) := b53.cell 1
          have f53 : wr.frozen? ⟨w.heap.size + 1, 0, none⟩ = false := b53.frozen 0
          have lt5 := b53.lt
          by_cases hle : Ts3.length ≤ U
          · have g1 : (Ts3.length : Int) ≤ (U : Int) := by omega
            have HROW3 := Lib.hid hrow3
            clear hrow3
            go_wp2_with (at_builtin; refine wpList_append_at _ rfl (.tmp 29) (.tmp 31) _ rfl w.heap.size 61 te0 _ 1 24 Tryd.underlying22 HI.out.1 HI.out.2.1 HI.out.2.2.1 HI.out.2.2.2 rfl (by omega) (.slice A3 Ts3.length d3) Ts3.length _ rfl (HROW3.out.alloc _) wr.heap.size 1 _ [.slice none 0 0] rfl (by intro j u hu; rw [(Blk.new wr 61 #[.slice none 0 0]).cell j]; simpa using hu) rfl (by simp [Value.oneCell']) (by unfold maxLen; omega) (by omega) (by simp; omega) ?_; intro v5 w5 hown5 hg5 hblk5; obtain ⟨A5, d5, hv5, b45, b55, cc55, ff55⟩ := of_grow _ HROW3.out b43 b53 hown5 hg5; subst hv5; have c55 : w5.cell? ⟨w.heap.size + 1, 0, none⟩ = some (.slice A3 Ts3.length d3) := cc55 0; have c56 : w5.cell? ⟨w.heap.size + 1, 1, none⟩ = some (.int .u64 n) := cc55 1; have f55 : w5.frozen? ⟨w.heap.size + 1, 0, none⟩ = false := ff55 0; clear cc55 ff55; have HO5 := Lib.hid hown5; have HG5 := Lib.hid hg5; have HK5 := Lib.hid hblk5; clear hown5 hg5 hblk5)
            go_roundg (U + 1 - (Ts3.length + 1))
            case measure => have := hH3.out.2.2.2.2.2; omega
            case rel =>
              have hsz : (wr.alloc (.cells #[.slice none 0 0] 61)).heap.size = wr.heap.size + 1 := by simp
              have b75 := (b73.alloc (.cells #[.slice none 0 0] 61)).grown HG5.out (by
                intro h
                cases A3 with
                | none => simp [Value.ownBlock] at h
                | some q => exact hH3.out.1 q rfl (by simpa [Value.ownBlock] using h))
              have hb5 : Below w.heap.size w w5 := (hb3.alloc (by have := hb3.size; omega) _).grown HG5.out (by have := hb3.size; simp; omega) (fun q hq => (HROW3.out.lt q hq).1)
              refine ⟨Ts3 ++ [⟨[], none, 0⟩], A5, d5, hb5.setCell (p := ⟨w.heap.size + 1, 0, none⟩) (Nat.le_succ _) _, b45.far (p := ⟨w.heap.size + 1, 0, none⟩) (by simp) _, ?_, b75.far (p := ⟨w.heap.size + 1, 0, none⟩) (by show _ ≠ w.heap.size + 1; exact (blk_ne b75 b55 (by decide))) _, ?_, ?_, ?_, ?_⟩
              · have := b55.set_ 0 (.slice A5 (Ts3.length + 1) d5)
                rw [List.length_append]
                exact this
              · have := own_setT b55 HO5.out (by decide) 0 (.slice A5 (Ts3.length + 1) d5)
                unfold RowAt
                rw [List.length_append, List.map_append]
                exact this
              · rw [List.length_append]; simp; omega
              · have := HG5.out.size; simp at this ⊢; omega
              · refine ⟨?_, ?_, ?_, ?_, ?_, ?_⟩
                · intro q hq
                  subst hq
                  rcases HK5.out with h1 | h1
                  · cases A3 with
                    | none => simp [Value.ownBlock] at h1
                    | some q3 => have := hH3.out.1 q3 rfl; simp [Value.ownBlock] at h1; omega
                  · simp [Value.ownBlock] at h1; omega
                · rw [lvs_append, hH3.out.2.1, List.length_append]
                  exact (pad_step (lvs Ts) (by rw [lvs_len]; exact hH3.out.2.2.1)).symm
                · rw [List.length_append]; have := hH3.out.2.2.1; omega
                · rw [List.length_append]; simp; omega
                · intro t ht
                  rcases List.mem_append.1 ht with h1 | h1
                  · exact hH3.out.2.2.2.2.1 t h1
                  · left; simpa using h1
                · rw [List.length_append]; rfl
          · have hU3 : U < Ts3.length := by omega
            obtain ⟨gT, cur, rfl, hgT, bT, hcs, hcell⟩ := RowAt.at hrow3 (by omega)
            have cT := hcell U hU3
            have fT := bT.frozen U
            have g1 : ¬ (Ts3.length : Int) ≤ (U : Int) := by omega
            have g2 : (0 : Int) ≤ (U : Int) := by omega
            have g3 : (U : Int) < (Ts3.length : Int) := by omega
            have c73 : wr.cell? ⟨wq.heap.size, 0, none⟩ = some (.slice Ar l.length cl) := b73.cell 0
            have ltT := bT.lt
            have HROW3 := Lib.hid hrow3
            have HU3 := Lib.hid hU3
            have HNE2 := Lib.hid hne2
            clear hcell hrow3 hne2
            go_wp2
            go_roundw
            case rel =>
              have hne5 := blk_ne bT b53 (by decide)
              have hne4 := blk_ne bT b43 (by decide)
              refine ⟨k + 1, Ts3.set U ⟨l, Ar, cl⟩, some ⟨gT, 0, none⟩, d3, by omega, by go_num, hb3.setCell (p := ⟨gT, U, none⟩) hgT _, b43.far (p := ⟨gT, U, none⟩) hne4.symm _, ?_, RowAt.set HROW3.out HU3.out ⟨l, Ar, cl⟩, by rw [List.length_set]; exact h173, ?_, ?_⟩
              · rw [List.length_set]; exact b53.far (p := ⟨gT, U, none⟩) hne5.symm _
              · have hp : padTo (lvs Ts) Ts3.length = padTo (lvs Ts) (U + 1) := by
                  have h1 := hH3.out.2.2.1
                  have h2 := hH3.out.2.2.2.1
                  by_cases h3 : Ts.length ≤ U
                  · rw [show Ts3.length = U + 1 by omega]
                  · rw [pad_same _ (by rw [lvs_len]; omega), pad_same _ (by rw [lvs_len]; omega)]
                rw [lvs_set, hH3.out.2.1, hp, HOF.out, ← hH.out.1]
                unfold standL
                rw [if_neg HNE2.out, HU.out]
              · intro t ht
                rcases List.mem_or_eq_of_mem_set ht with h1 | h1
                · exact hH3.out.2.2.2.2.1 t h1
                · right; rw [h1]; exact HM.out
            case measure => simp [intOf]; omega
    · have hkn : k = Rs.length := by omega
      have HF : Hid (lvs Ts = ofL (lvs Rs)) := by
        have h := hH.out.1
        rw [List.take_of_length_le (by rw [lvs_len]; omega)] at h
        exact h
      have HROW := Lib.hid hrow
      clear hrow hkn
      have f40 := b4.frozen 0
      have f41 := b4.frozen 1
      have c40 : wq.cell? ⟨w.heap.size, 0, none⟩ = some (.slice none 0 0) := b4.cell 0
      have c41 : wq.cell? ⟨w.heap.size, 1, none⟩ = some (.int .u64 0) := b4.cell 1
      go_wp2
      have hb6 := ((b4.set_ 0 (.slice A Ts.length d)).set_ 1 (.int .u64 n))
      have e0 : ((wq.setCell ⟨w.heap.size, 0, none⟩ (.slice A Ts.length d)).setCell ⟨w.heap.size, 1, none⟩ (.int .u64 n)).cell? ⟨w.heap.size, 0, none⟩ = some (.slice A Ts.length d) := hb6.cell 0
      have e1 : ((wq.setCell ⟨w.heap.size, 0, none⟩ (.slice A Ts.length d)).setCell ⟨w.heap.size, 1, none⟩ (.int .u64 n)).cell? ⟨w.heap.size, 1, none⟩ = some (.int .u64 n) := hb6.cell 1
      refine bodyPost_ret (v := .agg #[.slice A Ts.length d, .int .u64 n]) (by simp [results, Tryd.results45, go_sem, e0, e1]) rfl ?_
      refine ⟨A, d, Ts, rfl, HF.out, own_setT (b4.set_ 0 (.slice A Ts.length d)) (own_setT b4 HROW.out (by decide) 0 _) (by decide) 1 _, hH.out.2, (hb.setCell (p := ⟨w.heap.size, 0, none⟩) (Nat.le_refl _) _).setCell (p := ⟨w.heap.size, 1, none⟩) (Nat.le_refl _) _⟩
end Go.Proofs.YthdcllnmnmemdaaDoor

/- A region that draws its order, and whose last operations wait for all the others: what is held (S) need not be held behind them. No program in sight. -/
namespace Go.Proofs.YthdcllnmnmemdaaDoor
open Go

/-- each operation behind number n waits for one from n on -/
def chainT (md : Region.Mode) (ops : Array Oper) (n : Nat) : Bool :=
  (List.range ops.size).all fun t => decide (t ≤ n) || (List.range t).any fun j => decide (n ≤ j) && Region.waitsFor md ops t j
section
variable {P : Program} {ops : Array Oper} {Q : Exit → Act → World → Prop} {md : Region.Mode} {S : World → Prop}
theorem tail_waitsT {n : Nat} {listed : Array Bool} (hs : Region.sinkB md ops n = true) (hc : chainT md ops n = true) (hn : n < ops.size) (inv : HeadInv md ops n listed) :
    ∀ (d i : Nat), n - i = d → i < n → listed.getD i true = false → ∀ t, n ≤ t → t ∉ Region.ready md ops listed := by
  intro d
  induction d using Nat.strongRecOn with
  | _ d ih =>
    intro i hd hi hun t ht hr
    obtain ⟨_, ot, hot, hall⟩ := mem_ready.1 hr
    have htlt : t < ops.size := (Array.getElem?_eq_some_iff.1 hot).1
    by_cases htn : t = n
    · subst htn
      have h1 := List.all_eq_true.1 hs i (List.mem_range.2 hi)
      obtain ⟨j, hj, hj2⟩ := List.any_eq_true.1 h1
      simp only [Bool.and_eq_true, decide_eq_true_eq] at hj2
      obtain ⟨oj, hoj, e, he, hb, hon⟩ := Region.waitsFor_spec hj2.2
      have hjle : j ≤ t := by have := List.mem_range.1 hj; omega
      by_cases hjt : j = t
      · subst hjt
        have : oj = ot := Option.some.inj (hoj.symm.trans hot)
        subst this
        have h2 := hall e he hb
        rw [hon, getD_both hun] at h2
        cases h2
      · cases hl : listed.getD j false with
        | true =>
          have h2 := inv.closed j oj hoj hl e he hb
          rw [hon, getD_both hun] at h2
          cases h2
        | false =>
          have hjs : j < listed.size := by rw [inv.size]; omega
          exact ih (t - j) (by omega) j rfl (by omega) (getD_in hjs hl) t (Nat.le_refl _) hr
    · have h1 := List.all_eq_true.1 hc t (List.mem_range.2 htlt)
      simp only [Bool.or_eq_true, decide_eq_true_eq] at h1
      rcases h1 with h1 | h1
      · omega
      · obtain ⟨j, hj, hj2⟩ := List.any_eq_true.1 h1
        simp only [Bool.and_eq_true, decide_eq_true_eq] at hj2
        obtain ⟨o', ho', e, he, hb, hon⟩ := Region.waitsFor_spec hj2.2
        have : o' = ot := Option.some.inj (ho'.symm.trans hot)
        subst this
        have h2 := hall e he hb
        rw [hon, getD_both (inv.tail j hj2.1 (by have := List.mem_range.1 hj; omega))] at h2
        cases h2
/-- whatever order is picked from here on; S holds behind each operation below n -/
def wpAnyT (P : Program) (md : Region.Mode) (ops : Array Oper) (Q : Exit → Act → World → Prop) (S : World → Prop) (n : Nat) : Nat → Array Bool → Act → World → Prop
  | 0, listed, a, w => Region.ready md ops listed = [] ∧ Q .normal a w
  | fuel + 1, listed, a, w =>
    (Region.ready md ops listed = [] → Q .normal a w) ∧
    ∀ i ∈ Region.ready md ops listed, wpOp P ops Q i (fun a' w' => (i < n → S w') ∧ wpAnyT P md ops Q S n fuel (listed.setIfInBounds i true) a' w') a w
theorem wpAny_of_T {n : Nat} : ∀ (fuel : Nat) (listed : Array Bool) (a : Act) (w : World), wpAnyT P md ops Q S n fuel listed a w → wpAny P md ops Q fuel listed a w
  | 0, _, _, _, h => h
  | fuel + 1, _, _, _, h => ⟨h.1, fun i hi => wpOp_mono (fun a' w' h' => wpAny_of_T fuel _ a' w' h'.2) (h.2 i hi)⟩
theorem wpAnyT_first {n i : Nat} {oi : Oper} {v : Value} (hs : Region.sinkB md ops n = true) (hc : chainT md ops n = true) (hn : n < ops.size) (hin : i < n) (hi : ops[i]? = some oi) (hsel : ∀ (j : Nat) (o : Oper) cs b, ops[j]? = some o → o.op ≠ .select cs b)
    (hQ : ∀ c a w, Q (.panic c) (a.put oi.dst v) w → Q (.panic c) a w) :
    ∀ (fuel : Nat) (listed : Array Bool) (a : Act) (w : World), HeadInv md ops n listed →
      (∀ j oj, ops[j]? = some oj → j ≠ i → listed.getD j true = false → (∀ e ∈ oj.after, Region.binds md e = true → e.on ≠ i) → oi.apart ops oj = true) →
      i ∈ Region.ready md ops listed → YieldsIf P ops S oi v a → S w →
      wpAnyT P md ops Q S n fuel (listed.setIfInBounds i true) (a.put oi.dst v) w → wpAnyT P md ops Q S n (fuel + 1) listed a w := by
  intro fuel
  induction fuel with
  | zero =>
    intro listed a w _ _ hr hy hS H
    refine ⟨fun h => (by rw [h] at hr; cases hr), fun j hj => ?_⟩
    by_cases hji : j = i
    · subst hji; exact hy.wpOp hi hS ⟨fun _ => hS, H⟩
    · have := ready_mono hj hji
      rw [H.1] at this
      cases this
  | succ fuel ih =>
    intro listed a w inv hfree hr hy hS H
    refine ⟨fun h => (by rw [h] at hr; cases hr), fun j hj => ?_⟩
    by_cases hji : j = i
    · subst hji; exact hy.wpOp hi hS ⟨fun _ => hS, H⟩
    · have hiun : listed.getD i true = false := by
        have := (mem_ready.1 hr).1
        simpa using this
      have hjn : j < n := by
        rcases Nat.lt_or_ge j n with h | h
        · exact h
        · exact absurd hj (tail_waitsT hs hc hn inv _ i rfl hin hiun j h)
      have h1 := H.2 j (ready_mono hj hji)
      obtain ⟨hjun, oj, hoj, hall⟩ := mem_ready.1 hj
      have hnot : ∀ e ∈ oj.after, Region.binds md e = true → e.on ≠ i := fun e he hb heq => by
        have h1 := hall e he hb
        have h0 := (mem_ready.1 hr).1
        rw [heq] at h1
        rcases Nat.lt_or_ge i listed.size with h' | h'
        · simp [h'] at h0 h1; rw [h0] at h1; cases h1
        · simp [Array.getElem?_eq_none h'] at h1
      have h2 := wpOp_putIf hoj (hfree j oj hoj hji hjun hnot) (fun cs b => hsel i oi cs b hi) (fun cs b => hsel j oj cs b hoj) hQ hy h1
      have hfree' : ∀ k ok, ops[k]? = some ok → k ≠ i → (listed.setIfInBounds j true).getD k true = false →
          (∀ e ∈ ok.after, Region.binds md e = true → e.on ≠ i) → oi.apart ops ok = true := fun k ok hk hki hun hno => by
        refine hfree k ok hk hki ?_ hno
        by_cases hjk : j = k
        · subst hjk; exact hjun
        · rw [getD_set_ne true hjk] at hun; exact hun
      refine wpOp_mono (fun a' w' h3 => ⟨fun _ => h3.2.1 hjn, ih (listed.setIfInBounds j true) a' w' (inv.set hj hjn) hfree' (ready_mono hr (Ne.symm hji)) h3.1 (h3.2.1 hjn) ?_⟩) h2
      rw [Array.setIfInBounds_comm _ _ hji]
      exact h3.2.2
/-- an operation that yields in whatever world -/
theorem wpAnyT_pure0 {n i : Nat} {oi : Oper} {v : Value} (hi : ops[i]? = some oi) (hsel : ∀ (j : Nat) (o : Oper) cs b, ops[j]? = some o → o.op ≠ .select cs b)
    (hQ : ∀ c a w, Q (.panic c) (a.put oi.dst v) w → Q (.panic c) a w) (hge : n ≤ i) :
    ∀ (fuel : Nat) (listed : Array Bool) (a : Act) (w : World),
      (∀ j oj, ops[j]? = some oj → j ≠ i → listed.getD j true = false → (∀ e ∈ oj.after, Region.binds md e = true → e.on ≠ i) → oi.apart ops oj = true) →
      i ∈ Region.ready md ops listed → YieldsIf P ops (fun _ => True) oi v a →
      wpAnyT P md ops Q S n fuel (listed.setIfInBounds i true) (a.put oi.dst v) w → wpAnyT P md ops Q S n (fuel + 1) listed a w := by
  intro fuel
  induction fuel with
  | zero =>
    intro listed a w _ hr hy H
    refine ⟨fun h => (by rw [h] at hr; cases hr), fun j hj => ?_⟩
    by_cases hji : j = i
    · subst hji; exact hy.wpOp hi trivial ⟨fun h => absurd h (by omega), H⟩
    · have := ready_mono hj hji
      rw [H.1] at this
      cases this
  | succ fuel ih =>
    intro listed a w hfree hr hy H
    refine ⟨fun h => (by rw [h] at hr; cases hr), fun j hj => ?_⟩
    by_cases hji : j = i
    · subst hji; exact hy.wpOp hi trivial ⟨fun h => absurd h (by omega), H⟩
    · have h1 := H.2 j (ready_mono hj hji)
      obtain ⟨hjun, oj, hoj, hall⟩ := mem_ready.1 hj
      have hnot : ∀ e ∈ oj.after, Region.binds md e = true → e.on ≠ i := fun e he hb heq => by
        have h1 := hall e he hb
        have h0 := (mem_ready.1 hr).1
        rw [heq] at h1
        rcases Nat.lt_or_ge i listed.size with h' | h'
        · simp [h'] at h0 h1; rw [h0] at h1; cases h1
        · simp [Array.getElem?_eq_none h'] at h1
      have h2 := wpOp_putIf hoj (hfree j oj hoj hji hjun hnot) (fun cs b => hsel i oi cs b hi) (fun cs b => hsel j oj cs b hoj) hQ hy h1
      have hfree' : ∀ k ok, ops[k]? = some ok → k ≠ i → (listed.setIfInBounds j true).getD k true = false →
          (∀ e ∈ ok.after, Region.binds md e = true → e.on ≠ i) → oi.apart ops ok = true := fun k ok hk hki hun hno => by
        refine hfree k ok hk hki ?_ hno
        by_cases hjk : j = k
        · subst hjk; exact hjun
        · rw [getD_set_ne true hjk] at hun; exact hun
      refine wpOp_mono (fun a' w' h3 => ⟨h3.2.1, ih (listed.setIfInBounds j true) a' w' hfree' (ready_mono hr (Ne.symm hji)) h3.1 ?_⟩) h2
      rw [Array.setIfInBounds_comm _ _ hji]
      exact h3.2.2
theorem wpAnyT_take {n i : Nat} {oi : Oper} {v : Value} {fuel : Nat} {listed : Array Bool} {a : Act} {w : World} (inv : HeadInv md ops n listed) (hi : ops[i]? = some oi) (hB : (Region.sinkB md ops n && chainT md ops n && decide (n < ops.size) && decide (i < n) && Region.noSelect ops && Region.free md ops listed i && (Region.ready md ops listed).contains i) = true)
    (hQ : ∀ c a w, Q (.panic c) (a.put oi.dst v) w → Q (.panic c) a w) (hy : YieldsIf P ops S oi v a) (hS : S w)
    (h : HeadInv md ops n (listed.setIfInBounds i true) → wpAnyT P md ops Q S n fuel (listed.setIfInBounds i true) (a.put oi.dst v) w) : wpAnyT P md ops Q S n (fuel + 1) listed a w := by
  simp only [Bool.and_eq_true, decide_eq_true_eq] at hB
  obtain ⟨⟨⟨⟨⟨⟨h1, h2⟩, h3⟩, h4⟩, h5⟩, h6⟩, h7⟩ := hB
  have hr : i ∈ Region.ready md ops listed := by simpa using h7
  exact wpAnyT_first h1 h2 h3 h4 hi (Region.noSelect_spec h5) hQ fuel listed a w inv (Region.free_spec hi h6) hr hy hS (h (inv.set hr h4))
theorem wpAnyT_pure {n i : Nat} {oi : Oper} {v : Value} {fuel : Nat} {listed : Array Bool} {a : Act} {w : World} (hi : ops[i]? = some oi) (hB : (decide (n ≤ i) && Region.noSelect ops && Region.free md ops listed i && (Region.ready md ops listed).contains i) = true)
    (hQ : ∀ c a w, Q (.panic c) (a.put oi.dst v) w → Q (.panic c) a w) (hy : YieldsIf P ops (fun _ => True) oi v a)
    (h : wpAnyT P md ops Q S n fuel (listed.setIfInBounds i true) (a.put oi.dst v) w) : wpAnyT P md ops Q S n (fuel + 1) listed a w := by
  simp only [Bool.and_eq_true, decide_eq_true_eq] at hB
  obtain ⟨⟨⟨h4, h5⟩, h6⟩, h7⟩ := hB
  have hr : i ∈ Region.ready md ops listed := by simpa using h7
  exact wpAnyT_pure0 hi (Region.noSelect_spec h5) hQ h4 fuel listed a w (Region.free_spec hi h6) hr hy h
/-- the one that may come up -/
theorem wpAnyT_step {n i : Nat} {o : Oper} {fuel : Nat} {listed : Array Bool} {a : Act} {w : World} (hr : Region.ready md ops listed = [i]) (ho : ops[i]? = some o)
    (h : ∀ K : Act → World → Prop, (∀ a' w', (i < n → S w') → ((i < n → S w') → wpAnyT P md ops Q S n fuel (listed.setIfInBounds i true) a' w') → K a' w') →
      if Region.wanted o (yielded ops a.tmps) = true then Oper.wp P o a w K Q else K (a.put o.dst undef) w) : wpAnyT P md ops Q S n (fuel + 1) listed a w := by
  refine ⟨fun h0 => (by rw [hr] at h0; cases h0), fun j hj => ?_⟩
  rw [hr] at hj
  obtain rfl : j = i := by simpa using hj
  have h1 := h (fun a' w' => (j < n → S w') ∧ wpAnyT P md ops Q S n fuel (listed.setIfInBounds j true) a' w') (fun a' w' h2 h3 => ⟨h2, h3 h2⟩)
  unfold wpOp
  simp only [ho]
  split
  · rename_i hw
    rw [if_pos hw] at h1
    exact .inl h1
  · rename_i hw
    rw [if_neg hw] at h1
    exact h1
theorem headInv_set {n i : Nat} {listed : Array Bool} (inv : HeadInv md ops n listed) (hB : (decide (i < n) && (Region.ready md ops listed).contains i) = true) : HeadInv md ops n (listed.setIfInBounds i true) := by
  simp only [Bool.and_eq_true, decide_eq_true_eq] at hB
  exact inv.set (by simpa using hB.2) hB.1
theorem headInv_start (n : Nat) : HeadInv md ops n (Array.replicate ops.size false) :=
  ⟨by simp, fun j oj hj hl => (by rw [getD_replicate_false] at hl; cases hl), fun t _ ht => (by simp [ht])⟩
theorem wpAnyT_done {n : Nat} {listed : Array Bool} {a : Act} {w : World} (hr : Region.ready md ops listed = []) (h : Q .normal a w) : ∀ fuel, wpAnyT P md ops Q S n fuel listed a w
  | 0 => ⟨hr, h⟩
  | _ + 1 => ⟨fun _ => h, by rw [hr]; simp⟩
theorem wp_region_T {id : Nat} {a : Act} {w : World} (S : World → Prop) (n : Nat) (hm : P.follows .mixedOrders = true)
    (h : HeadInv .any ops n (Array.replicate ops.size false) → wpAnyT P .any ops Q S n ops.size (Array.replicate ops.size false) a w.drew) : (Code.region id ops true).wp P Q a w :=
  wp_region_any hm (wpAny_of_T _ _ _ _ (h (headInv_start n)))
/-- a scope with one label to which it goes back: a number goes down at each jump -/
theorem wp_scope_ghost {c rest : Code} {a : Act} {w : World} (l : Nat) (I : Nat → Act → World → Prop) (hf : findLabel c l = some (Code.skip.seq rest))
    (pass : ∀ n a w, I n a w → ∀ K : Act → World → Prop, (∀ n' a' w', n' < n → I n' a' w' → K a' w') → rest.wp P (Exit.jump l K Q) a w)
    (first : ∀ K : Act → World → Prop, (∀ n a w, I n a w → rest.wp P (Exit.jump l K Q) a w) → c.wp P (Exit.jump l K Q) a w) : (Code.scope c).wp P Q a w := by
  refine wp_scope_jumps l (fun a w => ∃ n, I n a w) (fun a w => leastOf (fun n => I n a w)) hf ?_ ?_
  · exact first _ (fun n a w h => pass n a w h _ (fun n' _ _ _ h2 => ⟨n', h2⟩))
  · intro a w hJ
    refine wp_seq (wp_skip ?_)
    exact pass _ a w (leastOf_spec hJ).1 _ (fun n' a' w' hlt h2 => ⟨⟨n', h2⟩, Nat.lt_of_le_of_lt ((leastOf_spec ⟨n', h2⟩).2 n' h2) hlt⟩)
end
end Go.Proofs.YthdcllnmnmemdaaDoor
