/- Ha Hm Hn Hc Gw G7 G8: texts of the claim, in this order. -/
import Derived.Test.YtolclahkfmplfaaGreatDoorWg11
import Derived.Test.YtolclahkfmplfaaGreatDoorWg7
import Derived.Test.YtolclahkfmplfaaGreatDoorWg8
import Derived.Deep.LoopGhost
import Derived.Deep.CutBlock
import Derived.Deep.RegionWith
import Derived.Deep.RegionLaw
import Derived.Maps.OwnOps
/- Contracts: the reference's levels (Entries, dead, held, cut, All, Great). -/
namespace Go.Proofs.YtolclahkfmplfaaGreatDoor
open Go Go.RowKit
set_option maxRecDepth 100000
theorem dead_len (l : List Ent) : decide ((plainE l).length < l.length) = deadE l := by
  have h1 : (plainE l).length = (liveE l).length := by unfold plainE; rw [List.length_map]
  rw [h1]
  cases hd : deadE l with
  | true =>
    refine decide_eq_true ?_
    unfold deadE at hd
    unfold liveE
    refine Classical.byContradiction fun hn => ?_
    have h2 : (l.filter (fun e => !e.dead)).length = l.length := Nat.le_antisymm (List.length_filter_le _ _) (by omega)
    rw [List.length_filter_eq_length_iff] at h2
    obtain ⟨e, he, hx⟩ := List.any_eq_true.1 hd
    have := h2 e he
    rw [hx] at this
    simp at this
  | false =>
    refine decide_eq_false ?_
    unfold deadE at hd
    rw [List.any_eq_false] at hd
    unfold liveE
    rw [List.filter_eq_self.2 (fun e he => by have := hd e he; simpa using this)]
    omega
theorem own_take {w : World} {B0 : Nat} {B : Option Addr} {c : Nat} {Rs : List Rm} (h : OwnRs w B0 B c Rs) {m : Nat} (hm : m ≤ Rs.length) (h0 : B ≠ none) : OwnRs w B0 B c (Rs.take m) := by
  refine ⟨?_, fun r hr => h.ent r (List.mem_of_mem_take hr)⟩
  rw [List.length_take, Nat.min_eq_left hm]
  rcases h.row.2 with ⟨hv, _⟩ | ⟨g, cap, cur, hv, hg, hb, h1, h2, h3, h4⟩
  · exact absurd (by simpa using hv : B = none ∧ _).1 h0
  · obtain ⟨rfl, rfl⟩ : B = some ⟨g, 0, none⟩ ∧ c = cap := by simpa using hv
    refine ⟨by simp; omega, .inr ⟨g, c, cur, rfl, hg, hb, by omega, h2, h3, ?_⟩⟩
    rw [List.map_take, ← h4, List.take_take, Nat.mul_one, Nat.mul_one, Nat.min_eq_left hm]
theorem cutN_step {rs : Lv} {n m : Nat} (h1 : cutN rs (n + 1) = m) (h2 : lev rs n = []) : cutN rs n = m := by rw [cutN, if_pos h2] at h1; exact h1
end Go.Proofs.YtolclahkfmplfaaGreatDoor

/- Contract: which levels may be, by the reference (May). -/
namespace Go.Proofs.YtolclahkfmplfaaGreatDoor
open Go Go.RowKit
set_option maxRecDepth 100000
theorem mayB_bad {rs : Lv} {k : Nat} (h : k < rs.length) (hb : okLv rs.length k (lev rs k) = false) : mayB rs = false := by
  cases hm : mayB rs with
  | false => rfl
  | true =>
    unfold mayB allOk at hm
    simp only [Bool.and_eq_true, decide_eq_true_eq] at hm
    rw [hm.1.2 k h] at hb
    cases hb
theorem mayB_end {rs : Lv} (h : endOk rs = false) : mayB rs = false := by unfold mayB; rw [h]; rfl
theorem mayB_all {rs : Lv} (h : endOk rs = true) (h2 : allOk rs rs.length = true) : mayB rs = decide (tot rs ≤ 65536) := by unfold mayB; rw [h, h2]; rfl
end Go.Proofs.YtolclahkfmplfaaGreatDoor

/- Contract: an entry is let in, by the reference (In). -/
namespace Go.Proofs.YtolclahkfmplfaaGreatDoor
open Go Go.RowKit
set_option maxRecDepth 100000
theorem OwnRs.setFar' {w : World} {B0 g : Nat} {B : Option Addr} {c : Nat} {Rs : List Rm} {cs : Array Value} (h : OwnRs w B0 B c Rs) (hB : Blk w g 49 cs) (hne : ∀ q, B = some q → q.block ≠ g) (i : Nat) (u : Value) : OwnRs (w.setCell ⟨g, i, none⟩ u) B0 B c Rs :=
  ⟨own_far (p := ⟨g, i, none⟩) h.row (by
    cases B with
    | none => simp [Value.ownBlock]
    | some q => have := hne q rfl; simp [Value.ownBlock]; exact this) u, fun r hr => own_setT hB (h.ent r hr) (by decide) i u⟩
theorem own_form2d {w : World} {B n c s : Nat} {e : TypeId} {A : Option Addr} {xs : List Value} (h : w.ownsRow B e s (.slice A n c) n xs) : n ≤ c ∧ c ≤ maxLen := by
  obtain ⟨A', c', h4, h5, h6⟩ := own_form h
  obtain ⟨rfl, rfl⟩ : A = A' ∧ c = c' := by simpa using h4
  exact ⟨h5, h6⟩
end Go.Proofs.YtolclahkfmplfaaGreatDoor

/- Contract: does one of runs hold entries (slices.ContainsFunc, the closure of rungs.in). -/
namespace Go.Proofs.YtolclahkfmplfaaGreatDoor
open Go Go.RowKit
set_option maxRecDepth 100000
theorem in1_any (A : Option Addr) (n c : Nat) (w : World) : Calls Tryz.prog 69 #[.agg #[.slice A n c]] w fun r w' => r = .returned (.bool (decide (0 < n))) ∧ Below w.heap.size w w' := by
  have hb0 : Below w.heap.size w (w.alloc (.cells #[.slice A n c] 49)) := (Below.refl _ _).alloc (Nat.le_refl _) _
  by_cases h : 0 < n
  · have h2 : (0 : Int) < (n : Int) := by omega
    go_enter Tryz.func69, Tryz.ntmps69
    go_wp2
    go_ret
    exact ⟨by simp [h], hb0⟩
  · have h2 : ¬ (0 : Int) < (n : Int) := by omega
    go_enter Tryz.func69, Tryz.ntmps69
    go_wp2
    go_ret
    exact ⟨by simp, hb0⟩
def anyR (Qs : List Rm) : Bool := Qs.any (fun r => decide (r.l ≠ []))
theorem any_none {Qs : List Rm} (h : ∀ j (hj : j < Qs.length), (Qs[j]'hj).l = []) : anyR Qs = false := by
  unfold anyR
  rw [List.any_eq_false]
  intro r hr
  obtain ⟨j, hj, e⟩ := List.getElem_of_mem hr
  have := h j hj
  rw [e] at this
  simp [this]
theorem any_one {Qs : List Rm} {j : Nat} (hj : j < Qs.length) (h : (Qs[j]'hj).l ≠ []) : anyR Qs = true := by
  unfold anyR
  exact List.any_eq_true.2 ⟨_, List.getElem_mem hj, by simpa using h⟩
theorem any_drop (Rs : List Rm) (k : Nat) : anyR (Rs.drop (k + 1)) = heldB (lvs Rs) k := by
  unfold anyR heldB lvs
  rw [← List.map_drop, List.any_map]
  rfl
set_option maxHeartbeats 1000000 in
theorem indexF_any (A : Option Addr) (Qs : List Rm) (c : Nat) (w : World) (hA : Sl w A (Qs.map Rm.v)) (hl : Qs.length ≤ 1000000) :
    Calls Tryz.prog 86 #[.slice A Qs.length c, .func (.func 69) #[] #[]] w fun r w' => ∃ v : Int, r = .returned (.int .i64 v) ∧ (decide (0 ≤ v) = anyR Qs) ∧ Below w.heap.size w w' := by
  have HA := Lib.hid hA
  clear hA
  go_enter Tryz.func86, Tryz.ntmps86
  go_wp2
  go_loopw [8] (fun i wr => ∃ k : Nat, k ≤ Qs.length ∧ i = .int .i64 k ∧ Below w.heap.size w wr ∧ Hid (∀ j (hj : j < Qs.length), j < k → (Qs[j]'hj).l = [])) (fun i _ => Qs.length - (intOf i).toNat)
  case atStart => exact ⟨0, Nat.zero_le _, rfl, Below.refl _ _, fun j _ h => by omega⟩
  case round =>
    obtain ⟨k, hk, rfl, hb, hd⟩ := hrel
    by_cases hlt : k < Qs.length
    · obtain ⟨b, off, rfl, hbl, cp⟩ := HA.out.oneB hb k hlt
      obtain ⟨r, hr⟩ : ∃ r, Qs[k]'hlt = r := ⟨_, rfl⟩
      have HR := Lib.hid hr
      rw [hr] at cp
      obtain ⟨l, Al, cl⟩ := r
      have cp1 : wr.cell? ⟨b, off + k, none⟩ = some (.slice Al l.length cl) := cp
      have hki : (0 : Int) ≤ (k : Int) := by omega
      have hki2 : (k : Int) < (Qs.length : Int) := by omega
      clear cp hr
      have hcall := in1_any Al l.length cl wr
      by_cases h0 : l.length = 0
      · have hnil : l = [] := List.eq_nil_of_length_eq_zero h0
        have HNIL := Lib.hid hnil
        rw [show decide (0 < l.length) = false from decide_eq_false (by omega)] at hcall
        have HC := Lib.hid hcall
        clear hcall hnil h0
        go_wp2_with fail
        refine HC.out.mono ?_
        rintro e w1 ⟨rfl, hb1⟩
        go_wp2
        go_roundw
        case rel =>
          refine ⟨k + 1, by omega, by go_num, bext hb hb1, fun j hj h1 => ?_⟩
          by_cases e : j = k
          · subst e; rw [HR.out]; exact HNIL.out
          · exact hd.out j hj (by omega)
        case measure => simp [intOf]; omega
      · have hne : l ≠ [] := by intro h; apply h0; rw [h]; rfl
        rw [show decide (0 < l.length) = true from decide_eq_true (by omega)] at hcall
        have HC := Lib.hid hcall
        have HT : Hid (anyR Qs = true) := any_one hlt (by rw [HR.out]; exact hne)
        clear hcall h0 hne
        go_wp2_with fail
        refine HC.out.mono ?_
        rintro e w1 ⟨rfl, hb1⟩
        go_wp2
        go_ret
        exact ⟨k, rfl, by rw [HT.out]; simp, bext hb hb1⟩
    · have HF : Hid (anyR Qs = false) := any_none fun j hj => hd.out j hj (by omega)
      have hkf : ¬ (k : Int) < (Qs.length : Int) := by omega
      go_wp2
      go_ret
      exact ⟨-1, rfl, by rw [HF.out]; rfl, hb⟩
set_option maxHeartbeats 1000000 in
theorem containsF_any (A : Option Addr) (Qs : List Rm) (c : Nat) (w : World) (hA : Sl w A (Qs.map Rm.v)) (hl : Qs.length ≤ 1000000) :
    Calls Tryz.prog 68 #[.slice A Qs.length c, .func (.func 69) #[] #[]] w fun r w' => r = .returned (.bool (anyR Qs)) ∧ Below w.heap.size w w' := by
  go_enter Tryz.func68, Tryz.ntmps68
  go_wp2_with fail
  refine (indexF_any A Qs c _ hA hl).mono ?_
  rintro e w1 ⟨v, rfl, hv, hb1⟩
  have HV := Lib.hid hv
  by_cases h : 0 ≤ v
  · rw [decide_eq_true h] at hv
    have HW := Lib.hid hv
    clear hv
    go_wp2
    go_ret
    exact ⟨ret_bool HW.out, hb1⟩
  · rw [decide_eq_false h] at hv
    have HW := Lib.hid hv
    clear hv
    go_wp2
    go_ret
    exact ⟨ret_bool HV.out, hb1⟩
end Go.Proofs.YtolclahkfmplfaaGreatDoor

/- Contract: rungs.Twin. -/
namespace Go.Proofs.YtolclahkfmplfaaGreatDoor
open Go Go.RowKit
set_option maxRecDepth 100000
section
variable {w W V V' : World}
/-- nothing below the call is touched -/
abbrev SO (w W V : World) : Prop := Below w.heap.size w V ∧ W.heap.size ≤ V.heap.size
theorem SO.init (h : Below w.heap.size w W) : SO w W W.drew := ⟨h.drew, Nat.le_refl _⟩
theorem SO.init0 (h : Below w.heap.size w W) : SO w W W := ⟨h, Nat.le_refl _⟩
theorem SO.alloc (x : Obj) (h : SO w W V) : SO w W (V.alloc x) := ⟨h.1.alloc h.1.size x, by have := h.2; simp; omega⟩
theorem SO.allocD (x : Obj) (h : SO w W V.drew) : SO w W (V.alloc x).drew := ⟨(undrew h.1).alloc (undrew h.1).size x |>.drew, by have := h.2; have e : V.drew.heap.size = V.heap.size := rfl; rw [e] at this; show W.heap.size ≤ (V.alloc x).heap.size; simp; omega⟩
theorem SO.below (hb : Below V.heap.size V V') (h : SO w W V) : SO w W V' := ⟨bext h.1 hb, Nat.le_trans h.2 hb.size⟩
theorem SO.grown {v : Value} (hg : V.grownBy V' v.ownBlock) (ho : ∀ q, v.ownBlock = some q → w.heap.size ≤ q) (h : SO w W V) : SO w W V' := ⟨h.1.grown hg h.1.size ho, Nat.le_trans h.2 hg.size⟩
theorem SO.set {g : Nat} (hg : w.heap.size ≤ g) (i : Nat) (y : Value) (h : SO w W V) : SO w W (V.setCell ⟨g, i, none⟩ y) := ⟨h.1.setCell (p := ⟨g, i, none⟩) hg y, by have := h.2; simp [World.setCell]; omega⟩
end
theorem own_hid {w : World} {B0 k : Nat} {A : Option Addr} {d : Nat} {Ts : List Rm} {o : Obj} (h : Hid (OwnRs w B0 A d Ts)) (hk : Hid (Ts.length = k)) : (w.alloc o).ownsRow B0 49 1 (.slice A k d) k (Ts.map Rm.v) := by
  have := h.out.row.alloc o
  rw [hk.out] at this
  exact this
set_option maxHeartbeats 4000000 in
theorem twinR_any (B : Option Addr) (Rs : List Rm) (c : Nat) (n : Int) (w : World) (hB : RunsAt w B Rs) (hl : Rs.length ≤ 1000000) (hrs : ∀ r ∈ Rs, r.l.length ≤ 1000000) :
    Calls Tryz.prog 66 #[.agg #[.slice B Rs.length c, .int .u64 n]] w (GivesRg (lvs Rs) n w) := by
  obtain ⟨te0, hI⟩ := info_parts run_info1
  have HI := Lib.hid hI
  obtain ⟨W0, hW0⟩ : ∃ W0, ((w.alloc (.cells #[.slice B Rs.length c, .int .u64 n] 27)).alloc (.cells #[.slice none 0 0, .int .u64 0] 27)).alloc (.cells #[.slice none 0 0, .int .u64 n] 27) = W0 := ⟨_, rfl⟩
  have hb0 : Below w.heap.size w W0 := by rw [← hW0]; exact (((Below.refl _ _).alloc (Nat.le_refl _) _).alloc (by simp) _).alloc (by simp; omega) _
  have b20 : Blk W0 (w.heap.size + 1) 27 #[.slice none 0 0, .int .u64 0] := by
    rw [← hW0]
    have := Blk.new (w.alloc (.cells #[.slice B Rs.length c, .int .u64 n] 27)) 27 #[.slice none 0 0, .int .u64 0]
    rw [World.size_alloc] at this
    exact this.alloc _
  have b30 : Blk W0 (w.heap.size + 2) 27 #[.slice none 0 0, .int .u64 n] := by
    rw [← hW0]
    have := Blk.new ((w.alloc (.cells #[.slice B Rs.length c, .int .u64 n] 27)).alloc (.cells #[.slice none 0 0, .int .u64 0] 27)) 27 #[.slice none 0 0, .int .u64 n]
    rwa [World.size_alloc, World.size_alloc] at this
  have HB := Lib.hid hB
  have HHR := Lib.hid hrs
  have HW0 := Lib.hid hW0
  clear hB hrs hI hW0
  go_enter Tryz.func66, Tryz.ntmps66
  go_wp2
  rw [HW0.out]
  go_loopw [12] (fun i wr => ∃ (k : Nat) (Ts : List Rm) (A : Option Addr) (d : Nat), k ≤ Rs.length ∧ i = .int .i64 k ∧ Below w.heap.size w wr ∧ Blk wr (w.heap.size + 1) 27 #[.slice none 0 0, .int .u64 0] ∧ Blk wr (w.heap.size + 2) 27 #[.slice A k d, .int .u64 n] ∧
      Hid (OwnRs wr w.heap.size A d Ts ∧ lvs Ts = (lvs Rs).take k ∧ Ts.length = k)) (fun i _ => Rs.length - (intOf i).toNat)
  case atStart => exact ⟨0, [], none, 0, Nat.zero_le _, rfl, hb0, b20, b30, OwnRs.nil _ _, rfl, rfl⟩
  case round =>
    obtain ⟨k, Ts, A, d, hk, rfl, hb, b2, b3, hH⟩ := hrel
    have hbs := hb.size
    have c30 : wr.cell? ⟨w.heap.size + 1 + 1, 0, none⟩ = some (.slice A k d) := b3.cell 0
    have c31 : wr.cell? ⟨w.heap.size + 1 + 1, 1, none⟩ = some (.int .u64 n) := b3.cell 1
    have f30 := b3.frozen 0
    have l3 := b3.lt
    by_cases hlt : k < Rs.length
    · obtain ⟨b, off, rfl, hbl, cp⟩ := HB.out.sl.oneB hb k hlt
      have hok := HB.out.ok _ (List.getElem_mem hlt)
      have hrl := HHR.out _ (List.getElem_mem hlt)
      have hin2 : (lvs Rs).take (k + 1) = (lvs Rs).take k ++ [(Rs[k]'hlt).l] := by
        rw [List.take_succ_eq_append_getElem (by simpa using hlt)]; simp
      obtain ⟨r, hr⟩ : ∃ r, Rs[k]'hlt = r := ⟨_, rfl⟩
      rw [hr] at cp hok hrl hin2
      obtain ⟨l, Al, cl⟩ := r
      have cp1 : wr.cell? ⟨b, off + k, none⟩ = some (.slice Al l.length cl) := cp
      dsimp only at hrl hin2
      have hki : (0 : Int) ≤ (k : Int) := by omega
      have hki2 : (k : Int) < (Rs.length : Int) := by omega
      have HOK := Lib.hid hok.sl
      have HIN := Lib.hid hin2
      obtain ⟨W1, hW1⟩ : ∃ W1, wr.alloc (.cells #[.slice Al l.length cl] 49) = W1 := ⟨_, rfl⟩
      have hb1 : Below wr.heap.size wr W1 := by rw [← hW1]; exact (Below.refl _ _).alloc (Nat.le_refl _) _
      have b51 : Blk W1 wr.heap.size 49 #[.slice Al l.length cl] := by rw [← hW1]; exact Blk.new _ _ _
      have HW1 := Lib.hid hW1
      clear cp hr hok hin2 hW1
      go_upto_region 5 with fail
      rw [HW1.out]
      clear c30 c31 f30 cp1
      have b21 := b2.below hb1 b2.lt
      have b31 := b3.below hb1 b3.lt
      have hb01 : Below w.heap.size w W1 := bext hb hb1
      have O1 : Hid (OwnRs W1 w.heap.size A d Ts) := hH.out.1.below hb1
      have c50 : W1.cell? ⟨wr.heap.size, 0, none⟩ = some (.slice Al l.length cl) := b51.cell 0
      have c30 : W1.cell? ⟨w.heap.size + 1 + 1, 0, none⟩ = some (.slice A k d) := b31.cell 0
      have c31 : W1.cell? ⟨w.heap.size + 1 + 1, 1, none⟩ = some (.int .u64 n) := b31.cell 1
      have f30 := b31.frozen 0
      have hTk : Hid (Ts.length = k) := hH.out.2.2
      have HB01 := Lib.hid hb01
      have hwl : w.heap.size ≤ W1.heap.size := hb01.size
      go_region_law (first
        | (refine step_append_sl _ (by rfl) (.tmp 17) (.tmp 20) _ (by rfl) w.heap.size 49 te0 _ 1 24 Tryz.underlying24 HI.out.1 HI.out.2.1 HI.out.2.2.1 HI.out.2.2.2 rfl (by omega) (.slice A k d) k (Ts.map Rm.v) (by rfl) (own_hid O6 hTk) _ 1 _ [.slice A6 l.length c6] (by rfl) (by exact sl_new1 _ _ _) rfl (by simp [Value.oneCell']) (by unfold maxLen; omega) (by omega) (by simp; omega) ?_; intro v7 w7 hown7 hg7; obtain ⟨A7, d7, rfl, hle7, hmx7⟩ := own_form hown7; have b37 := (b36.alloc (.cells #[.slice A6 l.length c6] 49)).grown hg7 (own_typ (own_hid O6 hTk) (b36.alloc (.cells #[.slice A6 l.length c6] 49)) (by decide)); have b27 := (b26.alloc (.cells #[.slice A6 l.length c6] 49)).grown hg7 (own_typ (own_hid O6 hTk) (b26.alloc (.cells #[.slice A6 l.length c6] 49)) (by decide)); have c37 : w7.cell? ⟨w.heap.size + 1 + 1, 0, none⟩ = some (.slice A k d) := b37.cell 0; have f37 : w7.frozen? ⟨w.heap.size + 1 + 1, 0, none⟩ = false := b37.frozen 0; have HO7 := Lib.hid hown7; have HG7 := Lib.hid hg7; clear hown7 hg7)
        | (go_simp; go_at_call 85; refine (twin_any Al l cl _ (HOK.out.below (by first | exact HB01.out.drew | exact HB01.out)) hrl).mono ?_; rintro e w6 ⟨A6, c6, rfl, ho6, hb6⟩; have hb16 : Below W1.heap.size W1 w6 := (by first | exact hb6 | exact bext ((Below.refl _ _).drew) hb6); have O6 := Lib.hid (O1.out.below hb16); have b26 := b21.below hb16 b21.lt; have b36 := b31.below hb16 b31.lt; have HO6 := Lib.hid (own_mono (B' := w.heap.size) ho6 (by first | exact hwl | (simp; omega))); have HB6 := Lib.hid hb16; have hs6 := hb16.size; have c36 : w6.cell? ⟨w.heap.size + 1 + 1, 0, none⟩ = some (.slice A k d) := b36.cell 0; have f36 : w6.frozen? ⟨w.heap.size + 1 + 1, 0, none⟩ = false := b36.frozen 0; have l36 : w.heap.size + 1 + 1 < w6.heap.size := b36.lt; clear ho6 hb6 hb16)
        | fail "no arm")
      all_goals
        go_wp2_with fail
        go_roundw
        case rel =>
          have hb7 : Below w.heap.size w w7 := ((bext HB01.out HB6.out).alloc (by have := (bext HB01.out HB6.out).size; omega) _).grown HG7.out (by have := (bext HB01.out HB6.out).size; simp; omega) (fun q hq => (O1.out.row.lt q (by rw [hTk.out]; exact hq)).1)
          have hO7 : OwnRs w7 w.heap.size A7 d7 (Ts ++ [⟨l, A6, c6⟩]) := OwnRs.push (O6.out.alloc (.cells #[.slice A6 l.length c6] 49)) ⟨l, A6, c6⟩ (HO6.out.alloc _) (by rw [hTk.out]; exact HO7.out) (by rw [hTk.out]; exact HG7.out)
          refine ⟨k + 1, Ts ++ [⟨l, A6, c6⟩], A7, d7, by omega, by go_num, hb7.setCell (p := ⟨w.heap.size + 1 + 1, 0, none⟩) (by show w.heap.size ≤ w.heap.size + 1 + 1; omega) _, b27.far (p := ⟨w.heap.size + 1 + 1, 0, none⟩) (by simp) _, ?_, hO7.setT b37 (by decide) (by decide) 0 _, ?_, ?_⟩
          · have := b37.set_ 0 (.slice A7 (k + 1) d7)
            simpa using this
          · rw [lvs_append, hH.out.2.1, HIN.out]; rfl
          · rw [List.length_append, hTk.out]; rfl
        case measure => simp [intOf]; omega
    · have hkn : k = Rs.length := by omega
      have HF : Hid (lvs Ts = lvs Rs) := by
        have h := hH.out.2.1
        rw [List.take_of_length_le (by rw [lvs_len]; omega)] at h
        exact h
      have HTK : Hid (Ts.length = k) := hH.out.2.2
      clear hkn
      have f20 := b2.frozen 0
      have f21 := b2.frozen 1
      have c20 : wr.cell? ⟨w.heap.size + 1, 0, none⟩ = some (.slice none 0 0) := b2.cell 0
      have c21 : wr.cell? ⟨w.heap.size + 1, 1, none⟩ = some (.int .u64 0) := b2.cell 1
      go_wp2
      have hbx := box2 b2 (.slice A k d) (.int .u64 n)
      have e0 : ((wr.setCell ⟨w.heap.size + 1, 0, none⟩ (.slice A k d)).setCell ⟨w.heap.size + 1, 1, none⟩ (.int .u64 n)).cell? ⟨w.heap.size + 1, 0, none⟩ = some (.slice A k d) := hbx.cell 0
      have e1 : ((wr.setCell ⟨w.heap.size + 1, 0, none⟩ (.slice A k d)).setCell ⟨w.heap.size + 1, 1, none⟩ (.int .u64 n)).cell? ⟨w.heap.size + 1, 1, none⟩ = some (.int .u64 n) := hbx.cell 1
      refine bodyPost_ret (v := .agg #[.slice A k d, .int .u64 n]) (by simp [results, Tryz.results66, go_sem, e0, e1]) rfl ?_
      exact ⟨A, d, Ts, by rw [HTK.out], HF.out, hH.out.1.set2 b2 (by decide) (by decide) _ _, below2 hb (Nat.le_succ _) _ _⟩
end Go.Proofs.YtolclahkfmplfaaGreatDoor

/- Contract: which levels hold a run, as a map (rungs.held). -/
namespace Go.Proofs.YtolclahkfmplfaaGreatDoor
open Go Go.RowKit Go.Maps
set_option maxRecDepth 100000
theorem held_keyed : Keyed Tryz.prog 3 := int_keyed Tryz.underlying3
theorem zero_int (w : World) : (zeroValue 3).run Tryz.prog w = .ok (.int .i64 0) w := by kernel_rfl
theorem wf_nat {k : Nat} (h : k ≤ 1000000000) : (Lit.int .i64 (k : Int)).wf = true := by
  show (decide ((-9223372036854775808 : Int) ≤ (k : Int)) && decide ((k : Int) ≤ 9223372036854775807)) = true
  simp; omega
theorem own_below_map {w w' : World} {b n : Nat} {D : DataW Unit} (h1 : w.ownsMap Tryz.prog 3 (plainElem (H := Unit) Tryz.prog 3) b n D) (hb : Below w.heap.size w w') : w'.ownsMap Tryz.prog 3 (plainElem (H := Unit) Tryz.prog 3) b n D := by
  have hl := h1.lt
  obtain ⟨es, clock, h3, h4⟩ := h1
  exact ⟨es, clock, (hb.block b hl).trans h3, h4⟩
set_option maxHeartbeats 2000000 in
theorem heldM_any (B : Option Addr) (Rs : List Rm) (c : Nat) (w : World) (hB : RunsAt w B Rs) (hl : Rs.length ≤ 1000000) (hrs : ∀ r ∈ Rs, r.l.length ≤ 1000000) :
    Calls Tryz.prog 67 #[.slice B Rs.length c] w fun r w' => ∃ b, r = .returned (.map (some b)) ∧ w.heap.size ≤ b ∧ HeldAt w' b (lvs Rs) ∧ Below w.heap.size w w' := by
  have hmm := @run_makeMap Tryz.prog
  have HB := Lib.hid hB
  have HHR := Lib.hid hrs
  clear hB hrs
  go_enter Tryz.func67, Tryz.ntmps67
  go_wp2
  go_loopw [9] (fun i wr => ∃ (k : Nat) (D : DataW Unit), k ≤ Rs.length ∧ i = .int .i64 k ∧ Below w.heap.size w wr ∧ wr.ownsMap Tryz.prog 3 (plainElem (H := Unit) Tryz.prog 3) w.heap.size k D ∧
      Hid (Tidy D ∧ (∀ j : Nat, D.atKey (.int .i64 j) (.lit (.int .i64 0)) = .lit (.int .i64 (lev ((lvs Rs).take k) j).length)) ∧ (∀ j : Nat, Maps.has D (.int .i64 j) = decide (lev ((lvs Rs).take k) j ≠ [])) ∧ Maps.size D = cnt ((lvs Rs).take k)))
    (fun i _ => Rs.length - (intOf i).toNat)
  case atStart =>
    refine ⟨0, .map [], Nat.zero_le _, rfl, (Below.refl _ _).alloc (Nat.le_refl _) _, World.ownsMap_made _ _ _ _, tidy_empty, fun j => ?_, fun j => ?_, rfl⟩
    · rw [List.take_zero, lev_nil]; rfl
    · rw [List.take_zero, lev_nil]; rfl
  case round =>
    obtain ⟨k, D, hk, rfl, hb, hown, hd⟩ := hrel
    have hbs := hb.size
    by_cases hlt : k < Rs.length
    · obtain ⟨b, off, rfl, hbl, cp⟩ := HB.out.sl.oneB hb k hlt
      have hlt2 : k < (lvs Rs).length := by rw [lvs_len]; exact hlt
      have hlv := lvs_lev hlt
      have hrl := HHR.out _ (List.getElem_mem hlt)
      obtain ⟨r, hr⟩ : ∃ r, Rs[k]'hlt = r := ⟨_, rfl⟩
      rw [hr] at cp hrl hlv
      obtain ⟨l, A, cl⟩ := r
      have cp1 : wr.cell? ⟨b, off + k, none⟩ = some (.slice A l.length cl) := cp
      dsimp only at hrl hlv
      have hki : (0 : Int) ≤ (k : Int) := by omega
      have hki2 : (k : Int) < (Rs.length : Int) := by omega
      have HL := Lib.hid hlv
      have HO := Lib.hid hown
      have HLT := Lib.hid hlt2
      clear cp hr hlv hown hlt2
      by_cases h0 : l.length = 0
      · have hnil : l = [] := List.eq_nil_of_length_eq_zero h0
        subst hnil
        clear h0
        go_wp2
        go_roundw
        case rel =>
          have he : lev (lvs Rs) k = [] := HL.out
          have hs := held_skip HLT.out he
          refine ⟨k + 1, D, by omega, by go_num, hb.alloc hbs _, (HO.out.alloc _).mono (by omega), hd.out.1, fun j => ?_, fun j => ?_, ?_⟩
          · rw [hs.1]; exact hd.out.2.1 j
          · rw [hs.1]; exact hd.out.2.2.1 j
          · rw [hs.2]; exact hd.out.2.2.2
        case measure => simp [intOf]; omega
      · have hpos : (0 : Int) < (l.length : Int) := by omega
        have hne2 : ¬ l = [] := by intro h; apply h0; rw [h]; rfl
        have hkey : keyOf Tryz.prog 3 (.int .i64 (k : Int)) = some (.int .i64 (k : Int)) := keyOf_int_mk Tryz.underlying3 (wf_nat (by omega))
        have HW := Lib.hid (wf_nat (k := l.length) (by omega))
        go_wp2_with (first
          | (at_mapUpdate; refine wpList_mapUpdate_own _ rfl _ _ _ 108 rfl 3 3 held_keyed Tryz.underlying108 _ w.heap.size k D rfl (HO.out.alloc _) (by unfold maxLen; omega) _ _ _ rfl rfl hkey _ [] (plainElem_int Tryz.underlying3 HW.out) ?_; intro w1 hown1 hgrow1; have HO1 := Lib.hid hown1; clear hown1)
          | go_in)
        go_roundw
        case rel =>
          have he : lev (lvs Rs) k ≠ [] := by rw [HL.out]; exact hne2
          have hp := held_put HLT.out he hd.out.1 hd.out.2.1 hd.out.2.2.1 hd.out.2.2.2
          rw [HL.out] at hp
          exact ⟨k + 1, _, by omega, by go_num, (hb.alloc hbs _).grown hgrow1 (by simp; omega) (fun q hq => by cases hq; exact Nat.le_refl _), HO1.out, hp⟩
        case measure => simp [intOf]; omega
    · have hkn : k = Rs.length := by omega
      have HO := Lib.hid hown
      clear hown
      have hfin : HeldAt wr w.heap.size (lvs Rs) := by
        have hd2 := hd.out
        rw [List.take_of_length_le (by rw [lvs_len]; omega)] at hd2
        exact ⟨k, D, HO.out, by omega, hd2⟩
      have HF := Lib.hid hfin
      clear hkn hfin
      go_wp2
      go_ret
      exact ⟨_, rfl, Nat.le_refl _, HF.out, hb⟩
end Go.Proofs.YtolclahkfmplfaaGreatDoor

/- Contract: runs at their levels (rungs.of). -/
namespace Go.Proofs.YtolclahkfmplfaaGreatDoor
open Go Go.RowKit
set_option maxRecDepth 100000
theorem of_succ {rs : Lv} {k : Nat} (h : k < rs.length) : ofL (rs.take (k + 1)) = standL (ofL (rs.take k)) (lev rs k) := by
  rw [List.take_succ_eq_append_getElem h, of_snoc, lev_lt h]
theorem of_grow {w : World} {B0 g4 g5 n d3 : Nat} {A3 : Option Addr} {Ts3 : List Rm} {c4 c5 : Array Value} {v5 : Value} {w5 : World} (o : Obj) (hr : RowAt w B0 A3 d3 Ts3) (b4 : Blk w g4 27 c4) (b5 : Blk w g5 27 c5)
    (ho : w5.ownsRow B0 49 1 v5 n (Ts3.map Rm.v ++ [.slice none 0 0])) (hg : (w.alloc o).grownBy w5 (Value.slice A3 Ts3.length d3).ownBlock) :
    ∃ A5 d5, v5 = .slice A5 n d5 ∧ Blk w5 g4 27 c4 ∧ Blk w5 g5 27 c5 ∧ (∀ i, w5.cell? ⟨g5, i, none⟩ = c5[i]?) ∧ (∀ i, w5.frozen? ⟨g5, i, none⟩ = false) := by
  obtain ⟨A5, d5, h1, _, _⟩ := own_form ho
  have e5 := (b5.alloc o).grown hg (own_typ (hr.alloc o) (b5.alloc o) (by decide))
  exact ⟨A5, d5, h1, (b4.alloc o).grown hg (own_typ (hr.alloc o) (b4.alloc o) (by decide)), e5, fun i => e5.cell i, fun i => e5.frozen i⟩
set_option maxHeartbeats 4000000 in
theorem of_any (n : Int) (B : Option Addr) (Rs : List Rm) (c : Nat) (w : World) (hB : RunsAt w B Rs) (hl : Rs.length ≤ 1000000) (hrs : ∀ r ∈ Rs, r.l.length ≤ 65536) :
    Calls Tryz.prog 50 #[.int .u64 n, .slice B Rs.length c] w fun r w' => ∃ A d Ts, r = .returned (.agg #[.slice A Ts.length d, .int .u64 n]) ∧ lvs Ts = ofL (lvs Rs) ∧ RowAt w' w.heap.size A d Ts ∧ (∀ t ∈ Ts, t = ⟨[], none, 0⟩ ∨ t ∈ Rs) ∧ Below w.heap.size w w' := by
  obtain ⟨te0, hI⟩ := info_parts run_info1
  have HI := Lib.hid hI
  have HB := Lib.hid hB
  have HHR := Lib.hid hrs
  clear hI hB hrs
  obtain ⟨W0, hW0⟩ : ∃ W0, (w.alloc (.cells #[.slice none 0 0, .int .u64 0] 27)).alloc (.cells #[.slice none 0 0, .int .u64 n] 27) = W0 := ⟨_, rfl⟩
  have hb0 : Below w.heap.size w W0 := by rw [← hW0]; exact ((Below.refl _ _).alloc (Nat.le_refl _) _).alloc (by simp) _
  have b40 : Blk W0 w.heap.size 27 #[.slice none 0 0, .int .u64 0] := by rw [← hW0]; exact (Blk.new _ _ _).alloc _
  have b50 : Blk W0 (w.heap.size + 1) 27 #[.slice none 0 0, .int .u64 n] := by
    rw [← hW0]
    have := Blk.new (w.alloc (.cells #[.slice none 0 0, .int .u64 0] 27)) 27 #[.slice none 0 0, .int .u64 n]
    rwa [World.size_alloc] at this
  go_enter Tryz.func50, Tryz.ntmps50
  go_wp2
  try rw [hW0]
  clear hW0
  go_loopw [13] (fun i wr => ∃ (k : Nat) (Ts : List Rm) (A : Option Addr) (d : Nat), k ≤ Rs.length ∧ i = .int .i64 k ∧ Below w.heap.size w wr ∧ Blk wr w.heap.size 27 #[.slice none 0 0, .int .u64 0] ∧ Blk wr (w.heap.size + 1) 27 #[.slice A Ts.length d, .int .u64 n] ∧
      RowAt wr w.heap.size A d Ts ∧ Ts.length ≤ 17 ∧ Hid (lvs Ts = ofL ((lvs Rs).take k) ∧ ∀ t ∈ Ts, t = ⟨[], none, 0⟩ ∨ t ∈ Rs)) (fun i _ => Rs.length - (intOf i).toNat)
  case atStart => exact ⟨0, [], none, 0, Nat.zero_le _, rfl, hb0, b40, b50, World.ownsRow_nil _ _ _ _, by simp, rfl, by simp⟩
  case round =>
    obtain ⟨k, Ts, A, d, hk, rfl, hb, b4, b5, hrow, h17, hH⟩ := hrel
    obtain ⟨wq, rfl⟩ : ∃ wq, wq = wr := ⟨_, rfl⟩
    have hbs := hb.size
    have c50 : wq.cell? ⟨w.heap.size + 1, 0, none⟩ = some (.slice A Ts.length d) := b5.cell 0
    have c51 : wq.cell? ⟨w.heap.size + 1, 1, none⟩ = some (.int .u64 n) := b5.cell 1
    by_cases hlt : k < Rs.length
    · obtain ⟨b, off, rfl, hbl, cp⟩ := HB.out.sl.oneB hb k hlt
      have hlt2 : k < (lvs Rs).length := by rw [lvs_len]; exact hlt
      have hlv := lvs_lev hlt
      have hmem := List.getElem_mem hlt
      have hrl := HHR.out _ hmem
      have hof := of_succ hlt2
      obtain ⟨r, hr⟩ : ∃ r, Rs[k]'hlt = r := ⟨_, rfl⟩
      rw [hr] at cp hrl hlv hmem
      rw [hlv] at hof
      obtain ⟨l, Ar, cl⟩ := r
      have cp1 : wq.cell? ⟨b, off + k, none⟩ = some (.slice Ar l.length cl) := cp
      dsimp only at hrl hof
      have hki : (0 : Int) ≤ (k : Int) := by omega
      have hki2 : (k : Int) < (Rs.length : Int) := by omega
      have HOF := Lib.hid hof
      have HROW := Lib.hid hrow
      have HM := Lib.hid hmem
      obtain ⟨W1, hW1⟩ : ∃ W1, wq.alloc (.cells #[.slice Ar l.length cl] 49) = W1 := ⟨_, rfl⟩
      have hb1 : Below wq.heap.size wq W1 := by rw [← hW1]; exact (Below.refl _ _).alloc (Nat.le_refl _) _
      have hs1 : W1.heap.size = wq.heap.size + 1 := by rw [← hW1]; simp
      have b71 : Blk W1 wq.heap.size 49 #[.slice Ar l.length cl] := by rw [← hW1]; exact Blk.new _ _ _
      have b41 := b4.below hb1 b4.lt
      have b51 := b5.below hb1 b5.lt
      have HROW1 := Lib.hid (own_below hrow hb1)
      have HW1 := Lib.hid hW1
      clear cp hr hlv hof hrow hmem hlt2 hW1
      by_cases h0 : l.length = 0
      · have hnil : l = [] := List.eq_nil_of_length_eq_zero h0
        subst hnil
        clear h0
        go_wp2
        have e1 : wq.alloc (.cells #[.slice Ar 0 cl] 49) = W1 := HW1.out
        rw [e1]
        clear e1
        go_roundw
        case rel =>
          refine ⟨k + 1, Ts, A, d, by omega, by go_num, bext hb hb1, b41, b51, HROW1.out, h17, ?_, hH.out.2⟩
          rw [HOF.out, stand_nil]; exact hH.out.1
        case measure => simp [intOf]; omega
      · have hpos : ¬ ((l.length : Int) = 0) := by omega
        have hne2 : ¬ l = [] := by intro h; apply h0; rw [h]; rfl
        have HL0 : Hid (0 < l.length) := by show 0 < l.length; omega
        have HL6 := Lib.hid hrl
        obtain ⟨U, hU⟩ : ∃ U, up l.length = U := ⟨_, rfl⟩
        have hU16 : U ≤ 16 := by rw [← hU]; exact up_16 hrl
        have HU := Lib.hid hU
        clear hU
        go_wp2_with fail
        rw [HW1.out]
        refine (level_any Ar l.length cl _ HL0.out HL6.out).mono ?_
        rw [HU.out]
        rintro e w2 ⟨rfl, hb2⟩
        have hb02 : Below w.heap.size w w2 := bext hb (bext hb1 hb2)
        have b72 := b71.below hb2 b71.lt
        have b42 := b41.below hb2 b41.lt
        have b52 := b51.below hb2 b51.lt
        have HROW2 := Lib.hid (own_below HROW1.out hb2)
        have hs2 := hb2.size
        have hne7 : ∀ q, A = some q → q.block ≠ wq.heap.size := by
          intro q hq
          have h1 := (HROW.out.lt q.block (by rw [hq]; simp [Value.ownBlock])).2
          omega
        clear c50 c51
        go_wp2_with fail
        go_loopg [] (U + 1 - Ts.length) (fun gk w3 => ∃ (Ts3 : List Rm) (A3 : Option Addr) (d3 : Nat), Below w.heap.size w w3 ∧ Blk w3 w.heap.size 27 #[.slice none 0 0, .int .u64 0] ∧ Blk w3 (w.heap.size + 1) 27 #[.slice A3 Ts3.length d3, .int .u64 n] ∧ Blk w3 wq.heap.size 49 #[.slice Ar l.length cl] ∧
          RowAt w3 w.heap.size A3 d3 Ts3 ∧ Ts3.length ≤ 17 ∧ wq.heap.size + 1 ≤ w3.heap.size ∧ Hid ((∀ q, A3 = some q → q.block ≠ wq.heap.size) ∧ lvs Ts3 = padTo (lvs Ts) Ts3.length ∧ Ts.length ≤ Ts3.length ∧ Ts3.length ≤ max Ts.length (U + 1) ∧ (∀ t ∈ Ts3, t = ⟨[], none, 0⟩ ∨ t ∈ Rs) ∧ gk = U + 1 - Ts3.length))
        case atStart => exact ⟨Ts, A, d, hb02, b42, b52, b72, HROW2.out, h17, by omega, hne7, by rw [pad_same _ (by rw [lvs_len]; exact Nat.le_refl _)], Nat.le_refl _, by omega, hH.out.2, rfl⟩
        case round =>
          obtain ⟨Ts3, A3, d3, hb3, b43, b53, b73, hrow3, h173, hs3, hH3⟩ := hrel
          have c53 : wr.cell? ⟨w.heap.size + 1, 0, none⟩ = some (.slice A3 Ts3.length d3) := b53.cell 0
          have c54 : wr.cell? ⟨w.heap.size + 1, 1, none⟩ = some (.int .u64 n) := b53.cell 1
          have f53 : wr.frozen? ⟨w.heap.size + 1, 0, none⟩ = false := b53.frozen 0
          have lt5 := b53.lt
          by_cases hle : Ts3.length ≤ U
          · have g1 : (Ts3.length : Int) ≤ (U : Int) := by omega
            have HROW3 := Lib.hid hrow3
            clear hrow3
            go_wp2_with (at_builtin; refine wpList_append_at _ rfl (.tmp 29) (.tmp 31) _ rfl w.heap.size 49 te0 _ 1 24 Tryz.underlying24 HI.out.1 HI.out.2.1 HI.out.2.2.1 HI.out.2.2.2 rfl (by omega) (.slice A3 Ts3.length d3) Ts3.length _ rfl (HROW3.out.alloc _) wr.heap.size 1 _ [.slice none 0 0] rfl (by intro j u hu; rw [(Blk.new wr 49 #[.slice none 0 0]).cell j]; simpa using hu) rfl (by simp [Value.oneCell']) (by unfold maxLen; omega) (by omega) (by simp; omega) ?_; intro v5 w5 hown5 hg5 hblk5; obtain ⟨A5, d5, hv5, b45, b55, cc55, ff55⟩ := of_grow _ HROW3.out b43 b53 hown5 hg5; subst hv5; have c55 : w5.cell? ⟨w.heap.size + 1, 0, none⟩ = some (.slice A3 Ts3.length d3) := cc55 0; have c56 : w5.cell? ⟨w.heap.size + 1, 1, none⟩ = some (.int .u64 n) := cc55 1; have f55 : w5.frozen? ⟨w.heap.size + 1, 0, none⟩ = false := ff55 0; clear cc55 ff55; have HO5 := Lib.hid hown5; have HG5 := Lib.hid hg5; have HK5 := Lib.hid hblk5; clear hown5 hg5 hblk5)
            go_roundg (U + 1 - (Ts3.length + 1))
            case measure => have := hH3.out.2.2.2.2.2; omega
            case rel =>
              have hsz : (wr.alloc (.cells #[.slice none 0 0] 49)).heap.size = wr.heap.size + 1 := by simp
              have b75 := (b73.alloc (.cells #[.slice none 0 0] 49)).grown HG5.out (by
                intro h
                cases A3 with
                | none => simp [Value.ownBlock] at h
                | some q => exact hH3.out.1 q rfl (by simpa [Value.ownBlock] using h))
              have hb5 : Below w.heap.size w w5 := (hb3.alloc (by have := hb3.size; omega) _).grown HG5.out (by have := hb3.size; simp; omega) (fun q hq => (HROW3.out.lt q hq).1)
              refine ⟨Ts3 ++ [⟨[], none, 0⟩], A5, d5, hb5.setCell (p := ⟨w.heap.size + 1, 0, none⟩) (Nat.le_succ _) _, b45.far (p := ⟨w.heap.size + 1, 0, none⟩) (by simp) _, ?_, b75.far (p := ⟨w.heap.size + 1, 0, none⟩) (by show _ ≠ w.heap.size + 1; exact (blk_ne b75 b55 (by decide))) _, ?_, ?_, ?_, ?_⟩
              · have := b55.set_ 0 (.slice A5 (Ts3.length + 1) d5)
                rw [List.length_append]
                exact this
              · have := own_setT b55 HO5.out (by decide) 0 (.slice A5 (Ts3.length + 1) d5)
                unfold RowAt
                rw [List.length_append, List.map_append]
                exact this
              · rw [List.length_append]; simp; omega
              · have := HG5.out.size; simp at this ⊢; omega
              · refine ⟨?_, ?_, ?_, ?_, ?_, ?_⟩
                · intro q hq
                  subst hq
                  rcases HK5.out with h1 | h1
                  · cases A3 with
                    | none => simp [Value.ownBlock] at h1
                    | some q3 => have := hH3.out.1 q3 rfl; simp [Value.ownBlock] at h1; omega
                  · simp [Value.ownBlock] at h1; omega
                · rw [lvs_append, hH3.out.2.1, List.length_append]
                  exact (pad_step (lvs Ts) (by rw [lvs_len]; exact hH3.out.2.2.1)).symm
                · rw [List.length_append]; have := hH3.out.2.2.1; omega
                · rw [List.length_append]; simp; omega
                · intro t ht
                  rcases List.mem_append.1 ht with h1 | h1
                  · exact hH3.out.2.2.2.2.1 t h1
                  · left; simpa using h1
                · rw [List.length_append]; rfl
          · have hU3 : U < Ts3.length := by omega
            obtain ⟨gT, cur, rfl, hgT, bT, hcs, hcell⟩ := RowAt.at hrow3 (by omega)
            have cT := hcell U hU3
            have fT := bT.frozen U
            have g1 : ¬ (Ts3.length : Int) ≤ (U : Int) := by omega
            have g2 : (0 : Int) ≤ (U : Int) := by omega
            have g3 : (U : Int) < (Ts3.length : Int) := by omega
            have c73 : wr.cell? ⟨wq.heap.size, 0, none⟩ = some (.slice Ar l.length cl) := b73.cell 0
            have ltT := bT.lt
            have HROW3 := Lib.hid hrow3
            have HU3 := Lib.hid hU3
            have HNE2 := Lib.hid hne2
            clear hcell hrow3 hne2
            go_wp2
            go_roundw
            case rel =>
              have hne5 := blk_ne bT b53 (by decide)
              have hne4 := blk_ne bT b43 (by decide)
              refine ⟨k + 1, Ts3.set U ⟨l, Ar, cl⟩, some ⟨gT, 0, none⟩, d3, by omega, by go_num, hb3.setCell (p := ⟨gT, U, none⟩) hgT _, b43.far (p := ⟨gT, U, none⟩) hne4.symm _, ?_, RowAt.set HROW3.out HU3.out ⟨l, Ar, cl⟩, by rw [List.length_set]; exact h173, ?_, ?_⟩
              · rw [List.length_set]; exact b53.far (p := ⟨gT, U, none⟩) hne5.symm _
              · have hp : padTo (lvs Ts) Ts3.length = padTo (lvs Ts) (U + 1) := by
                  have h1 := hH3.out.2.2.1
                  have h2 := hH3.out.2.2.2.1
                  by_cases h3 : Ts.length ≤ U
                  · rw [show Ts3.length = U + 1 by omega]
                  · rw [pad_same _ (by rw [lvs_len]; omega), pad_same _ (by rw [lvs_len]; omega)]
                rw [lvs_set, hH3.out.2.1, hp, HOF.out, ← hH.out.1]
                unfold standL
                rw [if_neg HNE2.out, HU.out]
              · intro t ht
                rcases List.mem_or_eq_of_mem_set ht with h1 | h1
                · exact hH3.out.2.2.2.2.1 t h1
                · right; rw [h1]; exact HM.out
            case measure => simp [intOf]; omega
    · have hkn : k = Rs.length := by omega
      have HF : Hid (lvs Ts = ofL (lvs Rs)) := by
        have h := hH.out.1
        rw [List.take_of_length_le (by rw [lvs_len]; omega)] at h
        exact h
      have HROW := Lib.hid hrow
      clear hrow hkn
      have f40 := b4.frozen 0
      have f41 := b4.frozen 1
      have c40 : wq.cell? ⟨w.heap.size, 0, none⟩ = some (.slice none 0 0) := b4.cell 0
      have c41 : wq.cell? ⟨w.heap.size, 1, none⟩ = some (.int .u64 0) := b4.cell 1
      go_wp2
      have hb6 := ((b4.set_ 0 (.slice A Ts.length d)).set_ 1 (.int .u64 n))
      have e0 : ((wq.setCell ⟨w.heap.size, 0, none⟩ (.slice A Ts.length d)).setCell ⟨w.heap.size, 1, none⟩ (.int .u64 n)).cell? ⟨w.heap.size, 0, none⟩ = some (.slice A Ts.length d) := hb6.cell 0
      have e1 : ((wq.setCell ⟨w.heap.size, 0, none⟩ (.slice A Ts.length d)).setCell ⟨w.heap.size, 1, none⟩ (.int .u64 n)).cell? ⟨w.heap.size, 1, none⟩ = some (.int .u64 n) := hb6.cell 1
      refine bodyPost_ret (v := .agg #[.slice A Ts.length d, .int .u64 n]) (by simp [results, Tryz.results50, go_sem, e0, e1]) rfl ?_
      refine ⟨A, d, Ts, rfl, HF.out, own_setT (b4.set_ 0 (.slice A Ts.length d)) (own_setT b4 HROW.out (by decide) 0 _) (by decide) 1 _, hH.out.2, (hb.setCell (p := ⟨w.heap.size, 0, none⟩) (Nat.le_refl _) _).setCell (p := ⟨w.heap.size, 1, none⟩) (Nat.le_refl _) _⟩
end Go.Proofs.YtolclahkfmplfaaGreatDoor
