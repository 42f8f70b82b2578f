/- Ib Il Ic Eq: texts of the claim, in this order. -/
import Derived.Test.YthbppblmecdekaaDoorWb16
import Derived.Test.YthbppblmecdekaaDoorWb9
import Derived.Test.YthbppblmecdekaaDoorWb3
/- Contracts of the laws' helpers of chapter 26: let, stands. -/
namespace Go.Proofs.YthbppblmecdekaaDoor
open Go Go.RowKit
set_option maxRecDepth 100000
/-- levels behind entries were let in one by one -/
def letS (rs : Lv) (n : Int) : List Ent → Lv × Int × Int
  | [] => (rs, n, 0)
  | y :: l => if addE rs y = 0 then letS (addL rs n y) (addN rs n y) l else ([], 0, addE rs y)
theorem letS_up {rs : Lv} {n : Int} {l : List Ent} {k : Nat} (h : k < l.length) (h0 : addE rs (l[k]'h) = 0) : letS rs n (l.drop k) = letS (addL rs n (l[k]'h)) (addN rs n (l[k]'h)) (l.drop (k + 1)) := by
  rw [List.drop_eq_getElem_cons h, letS, if_pos h0]
theorem letS_no {rs : Lv} {n : Int} {l : List Ent} {k : Nat} (h : k < l.length) (h0 : addE rs (l[k]'h) ≠ 0) : letS rs n (l.drop k) = ([], 0, addE rs (l[k]'h)) := by
  rw [List.drop_eq_getElem_cons h, letS, if_neg h0]
theorem letS_end {rs : Lv} {n : Int} {l : List Ent} {k : Nat} (h : ¬ k < l.length) : letS rs n (l.drop k) = (rs, n, 0) := by
  rw [List.drop_eq_nil_of_le (by omega), letS]
def GivesAt (L0 : Lv × Int × Int) (w : World) (r : Ending) (w' : World) : Prop := ∃ B c Rs, r = .returned (.tuple #[.agg #[.slice B Rs.length c, .int .u64 L0.2.1], .int .i64 L0.2.2]) ∧ lvs Rs = L0.1 ∧ RunsAt w' B Rs ∧ Below w.heap.size w w'
structure LetI (w : World) (L0 : Lv × Int × Int) (l : List Ent) (k : Nat) (B : Option Addr) (c : Nat) (Rs : List Rm) (n : Int) (wr : World) : Prop where
  bel : Below w.heap.size w wr
  bx : Blk wr w.heap.size 25 #[.slice B Rs.length c, .int .u64 n]
  br : Blk wr (w.heap.size + 1) 25 #[.slice none 0 0, .int .u64 0]
  at_ : RunsAt w B Rs ∨ OwnRs wr w.heap.size B c Rs
  eq : letS (lvs Rs) n (l.drop k) = L0
  tot : tot (lvs Rs) ≤ 65536
  len : Rs.length ≤ 1000000
theorem LetI.runs {w wr : World} {L0 : Lv × Int × Int} {l : List Ent} {k : Nat} {B : Option Addr} {c : Nat} {Rs : List Rm} {n : Int} (h : LetI w L0 l k B c Rs n wr) : RunsAt wr B Rs := by
  rcases h.at_ with h1 | h1
  · exact h1.below h.bel
  · exact h1.runsAt
/-- behind an entry was let in: what stands in memory -/
structure LetC (w : World) (L : Lv) (N : Int) (gy : Nat) (B : Option Addr) (c : Nat) (Rs : List Rm) (wx : World) : Prop where
  lv : lvs Rs = L
  own : OwnRs wx w.heap.size B c Rs
  by_ : Blk wx gy 25 #[.slice B Rs.length c, .int .u64 N]
  bel : Below w.heap.size w wx
  gy_ : w.heap.size ≤ gy
theorem addL_le {rs : Lv} {n : Int} {y : Ent} (h : addE rs y = 0) : tot (addL rs n y) ≤ 65536 ∧ (addL rs n y).length ≤ 17 := by
  have h1 := (add_may h n).1
  exact ⟨h1.size, h1.len⟩
set_option maxHeartbeats 16000000 in
theorem let_any (B A : Option Addr) (Rs : List Rm) (c cq : Nat) (n : Int) (l : List Ent) (w : World) (hB : RunsAt w B Rs) (hT : tot (lvs Rs) ≤ 65536) (hl : Rs.length ≤ 1000000) (hA : Sl w A (l.flatMap Ent.cells)) (hll : l.length ≤ 100) :
    Calls Tryd.prog 29 #[.agg #[.slice B Rs.length c, .int .u64 n], .slice A l.length cq] w (GivesAt (letS (lvs Rs) n l) w) := by
  obtain ⟨W0, hW0⟩ : ∃ W0, (w.alloc (.cells #[.slice B Rs.length c, .int .u64 n] 25)).alloc (.cells #[.slice none 0 0, .int .u64 0] 25) = W0 := ⟨_, rfl⟩
  have hb0 : Below w.heap.size w W0 := by rw [← hW0]; exact ((Below.refl _ _).alloc (Nat.le_refl _) _).alloc (by simp) _
  have b20 : Blk W0 w.heap.size 25 #[.slice B Rs.length c, .int .u64 n] := by rw [← hW0]; exact (Blk.new _ _ _).alloc _
  have b40 : Blk W0 (w.heap.size + 1) 25 #[.slice none 0 0, .int .u64 0] := by
    rw [← hW0]
    have := Blk.new (w.alloc (.cells #[.slice B Rs.length c, .int .u64 n] 25)) 25 #[.slice none 0 0, .int .u64 0]
    rwa [World.size_alloc] at this
  have HW0 := Lib.hid hW0
  obtain ⟨L0, hL0⟩ : ∃ L0, letS (lvs Rs) n l = L0 := ⟨_, rfl⟩
  rw [hL0]
  have HI0 : Hid (LetI w L0 l 0 B c Rs n W0) := ⟨hb0, b20, b40, .inl hB, by rw [List.drop_zero]; exact hL0, hT, hl⟩
  have HA := Lib.hid hA
  clear hW0 hB hA hL0 hb0 b20 b40 hT hl
  go_enter Tryd.func29, Tryd.ntmps29
  go_wp2_with fail
  rw [HW0.out]
  go_loopw [6] (fun i wr => ∃ (k : Nat) (B1 : Option Addr) (c1 : Nat) (R1 : List Rm) (n1 : Int), k ≤ l.length ∧ i = .int .i64 k ∧ Hid (LetI w L0 l k B1 c1 R1 n1 wr)) (fun i _ => l.length - (intOf i).toNat)
  case atStart => exact ⟨0, B, c, Rs, n, Nat.zero_le _, rfl, HI0.out⟩
  case round =>
    clear HI0
    obtain ⟨k, B1, c1, R1, n1, hk, rfl, hI⟩ := hrel
    have hbx := hI.out.bx
    have hbr := hI.out.br
    by_cases hlt : k < l.length
    case pos =>
      obtain ⟨b, off, rfl, hbl, e1, e2, e3⟩ := HA.out.entB hI.out.bel k hlt
      obtain ⟨y, hy⟩ : ∃ y, l[k]'hlt = y := ⟨_, rfl⟩
      rw [hy] at e1 e2 e3
      obtain ⟨LA, hLA⟩ : ∃ L, addL (lvs R1) n1 y = L := ⟨_, rfl⟩
      obtain ⟨NA, hNA⟩ : ∃ L, addN (lvs R1) n1 y = L := ⟨_, rfl⟩
      obtain ⟨EA, hEA⟩ : ∃ L, addE (lvs R1) y = L := ⟨_, rfl⟩
      have hadd : ∀ W, Below wr.heap.size wr W → Calls Tryd.prog 13 #[.agg #[.slice B1 R1.length c1, .int .u64 n1], .agg #[.int .i64 y.key, .int .i64 y.val, .bool y.dead]] W (GivesRgE LA NA EA W) := by
        intro W hW
        have h8 := addR_any B1 R1 c1 n1 y W (hI.out.runs.below hW) (by have := hI.out.tot; omega) hI.out.len
        rw [hLA, hNA, hEA] at h8
        exact h8
      have HADD := Lib.hid hadd
      have HUP : Hid (EA = 0 → letS LA NA (l.drop (k + 1)) = L0 ∧ tot LA ≤ 65536 ∧ LA.length ≤ 17) := by
        show _ → _
        intro h0
        have h1 : addE (lvs R1) (l[k]'hlt) = 0 := by rw [hy, hEA]; exact h0
        have h2 := letS_up (n := n1) hlt h1
        have h3 := addL_le (n := n1) h1
        rw [hy, hLA] at h3
        rw [hy, hLA, hNA, hI.out.eq] at h2
        exact ⟨h2.symm, h3⟩
      have HNO : Hid (EA ≠ 0 → L0 = ([], 0, EA)) := by
        show _ → _
        intro h0
        have h1 : addE (lvs R1) (l[k]'hlt) ≠ 0 := by rw [hy, hEA]; exact h0
        have h2 := letS_no (n := n1) hlt h1
        rw [hy, hEA, hI.out.eq] at h2
        exact h2
      have cx0 : wr.cell? ⟨w.heap.size, 0, none⟩ = some (.slice B1 R1.length c1) := hbx.cell 0
      have cx1 : wr.cell? ⟨w.heap.size, 1, none⟩ = some (.int .u64 n1) := hbx.cell 1
      have lx := hbx.lt
      have hbl' : b < wr.heap.size := Nat.lt_of_lt_of_le hbl hI.out.bel.size
      have i0 : (0 : Int) ≤ (k : Int) := by omega
      have i1 : (k : Int) < (l.length : Int) := by omega
      have HS := Lib.hid (show w.heap.size ≤ wr.heap.size from hI.out.bel.size)
      clear hy hLA hNA hEA hadd hbx hbr
      go_upto_region 4 with fail
      go_cut [7, 8] from 15 to 23 (fun y h wx => h = .int .i64 EA ∧ ∃ gy, y = .pointer (some ⟨gy, 0, none⟩) ∧ ∃ B2 c2 R2, Hid (LetC wr LA NA gy B2 c2 R2 wx))
      case first =>
        go_region_with ((go_at_call 13; refine (HADD.out _ (by first | exact (Below.refl _ _).drew | exact Below.refl _ _ | exact ((Below.refl _ _).alloc (Nat.le_refl _) _).drew | exact ((Below.refl _ _).alloc (Nat.le_refl _) _))).mono ?_; rintro e21 v21 ⟨B2, c2, R2, rfl, hl2, ho2, hv21⟩; have HL2 := Lib.hid hl2; have HO2 := Lib.hid ho2; clear hl2 ho2; (try (have bz : Blk v21 wr.heap.size 25 #[.slice none 0 0, .int .u64 0] := ((Blk.drewN (Blk.new wr 25 #[.slice none 0 0, .int .u64 0]) 1).below (w' := v21) hv21 (Blk.drewN (Blk.new wr 25 #[.slice none 0 0, .int .u64 0]) 1).lt); have z0 : v21.cell? ⟨wr.heap.size, 0, none⟩ = some (.slice none 0 0) := bz.cell 0; have z1 : v21.cell? ⟨wr.heap.size, 1, none⟩ = some (.int .u64 0) := bz.cell 1; have z3 := bz.frozen 0; have z4 := bz.frozen 1; have z6 := bz.lt))))
        all_goals
          go_wp2_with fail
          go_meet
          first
          | exact ⟨by simp, _, rfl, B2, c2, R2, HL2.out, (HO2.out.mono (by simp)).alloc _, Blk.new _ _ _, bext (bext ((Below.refl _ _).drew) hv21) ((Below.refl _ _).alloc (Nat.le_refl _) _), hv21.size⟩
          | exact ⟨by simp, _, rfl, B2, c2, R2, HL2.out, (HO2.out.mono (by simp)).set2 bz (by decide) (by decide) _ _, box2 bz _ _, below2 (bext (((Below.refl _ _).alloc (Nat.le_refl _) _).drew) hv21) (Nat.le_refl _) _ _, Nat.le_refl _⟩
      case rest =>
        obtain ⟨rfl, gy, rfl, B2, c2, R2, hC⟩ := hcut
        have hy1 := hC.out.by_
        have hr1 := hI.out.br.below hC.out.bel hI.out.br.lt
        have hx1 := hI.out.bx.below hC.out.bel hI.out.bx.lt
        have hgy : w.heap.size + 1 < gy := Nat.lt_of_lt_of_le hI.out.br.lt hC.out.gy_
        have d0 : wc.cell? ⟨gy, 0, none⟩ = some (.slice B2 R2.length c2) := hy1.cell 0
        have d1 : wc.cell? ⟨gy, 1, none⟩ = some (.int .u64 NA) := hy1.cell 1
        have dx0 : wc.cell? ⟨w.heap.size, 0, none⟩ = some (.slice B1 R1.length c1) := hx1.cell 0
        have dx1 : wc.cell? ⟨w.heap.size, 1, none⟩ = some (.int .u64 n1) := hx1.cell 1
        have dr0 : wc.cell? ⟨w.heap.size + 1, 0, none⟩ = some (.slice none 0 0) := hr1.cell 0
        have dr1 : wc.cell? ⟨w.heap.size + 1, 1, none⟩ = some (.int .u64 0) := hr1.cell 1
        have fx0 := hx1.frozen 0
        have fx1 := hx1.frozen 1
        have fr0 := hr1.frozen 0
        have fr1 := hr1.frozen 1
        have HX1 := Lib.hid hx1
        have HR1 := Lib.hid hr1
        have HBC := Lib.hid (bext hI.out.bel hC.out.bel)
        clear hy1 hr1 hx1 cx0 cx1 e1 e2 e3
        by_cases h0 : EA = 0
        case pos =>
          subst h0
          have HU := Lib.hid (HUP.out rfl)
          clear HUP HNO
          go_wp2_with fail
          go_roundw
          case rel =>
            exact ⟨k + 1, B2, c2, R2, NA, by omega, by go_num, below2 HBC.out (Nat.le_refl _) _ _, box2 HX1.out _ _, (HR1.out.far (p := ⟨w.heap.size, 0, none⟩) (by simp) _).far (p := ⟨w.heap.size, 1, none⟩) (by simp) _,
              .inr ((hC.out.own.mono HS.out).set2 HX1.out (by decide) (by decide) _ _), by rw [hC.out.lv]; exact HU.out.1, by rw [hC.out.lv]; exact HU.out.2.1, by rw [rs_len hC.out.lv]; have := HU.out.2.2; omega⟩
          case measure => simp [intOf]; omega
        case neg =>
          have h1 : (EA != 0) = true := by simpa using h0
          have HN := Lib.hid (HNO.out h0)
          clear HUP HNO
          go_wp2_with fail
          have hbz := box2 HR1.out (.slice none 0 0) (.int .u64 0)
          have z0 : ((wc.setCell ⟨w.heap.size + 1, 0, none⟩ (.slice none 0 0)).setCell ⟨w.heap.size + 1, 1, none⟩ (.int .u64 0)).cell? ⟨w.heap.size + 1, 0, none⟩ = some (.slice none 0 0) := hbz.cell 0
          have z1 : ((wc.setCell ⟨w.heap.size + 1, 0, none⟩ (.slice none 0 0)).setCell ⟨w.heap.size + 1, 1, none⟩ (.int .u64 0)).cell? ⟨w.heap.size + 1, 1, none⟩ = some (.int .u64 0) := hbz.cell 1
          refine bodyPost_ret (v := .tuple #[.agg #[.slice none 0 0, .int .u64 0], .int .i64 EA]) (by simp [results, Tryd.results29, go_sem, z0, z1]) rfl ?_
          rw [HN.out]
          exact ⟨none, 0, [], rfl, rfl, (OwnRs.nil _ 0).runsAt, below2 HBC.out (Nat.le_succ _) _ _⟩
    case neg =>
      have HE : Hid (L0 = (lvs R1, n1, 0)) := by show _ = _; rw [← hI.out.eq]; exact letS_end hlt
      have cx0 : wr.cell? ⟨w.heap.size, 0, none⟩ = some (.slice B1 R1.length c1) := hbx.cell 0
      have cx1 : wr.cell? ⟨w.heap.size, 1, none⟩ = some (.int .u64 n1) := hbx.cell 1
      have dr0 : wr.cell? ⟨w.heap.size + 1, 0, none⟩ = some (.slice none 0 0) := hbr.cell 0
      have dr1 : wr.cell? ⟨w.heap.size + 1, 1, none⟩ = some (.int .u64 0) := hbr.cell 1
      have fr0 := hbr.frozen 0
      have fr1 := hbr.frozen 1
      have HR1 := Lib.hid hbr
      clear hbx hbr
      go_wp2_with fail
      have hbz := box2 HR1.out (.slice B1 R1.length c1) (.int .u64 n1)
      have z0 : ((wr.setCell ⟨w.heap.size + 1, 0, none⟩ (.slice B1 R1.length c1)).setCell ⟨w.heap.size + 1, 1, none⟩ (.int .u64 n1)).cell? ⟨w.heap.size + 1, 0, none⟩ = some (.slice B1 R1.length c1) := hbz.cell 0
      have z1 : ((wr.setCell ⟨w.heap.size + 1, 0, none⟩ (.slice B1 R1.length c1)).setCell ⟨w.heap.size + 1, 1, none⟩ (.int .u64 n1)).cell? ⟨w.heap.size + 1, 1, none⟩ = some (.int .u64 n1) := hbz.cell 1
      refine bodyPost_ret (v := .tuple #[.agg #[.slice B1 R1.length c1, .int .u64 n1], .int .i64 0]) (by simp [results, Tryd.results29, go_sem, z0, z1]) rfl ?_
      rw [HE.out]
      refine ⟨B1, c1, R1, rfl, rfl, ?_, below2 hI.out.bel (Nat.le_succ _) _ _⟩
      rcases hI.out.at_ with h1 | h1
      · exact h1.below (below2 hI.out.bel (Nat.le_succ _) _ _)
      · exact (h1.set2 HR1.out (by decide) (by decide) _ _).runsAt
/-- has a level these entries? -/
def standsB (rs : Lv) (k : Nat) (want : List Ent) : Bool := decide (k < rs.length) && (decide (chkE (lev rs k) = 0) && decide (sortL (lev rs k) = want))
set_option maxHeartbeats 8000000 in
theorem stands_any (B A : Option Addr) (Rs : List Rm) (c cq k : Nat) (n : Int) (l : List Ent) (w : World) (hB : RunsAt w B Rs) (_hl : Rs.length ≤ 1000000) (hrs : ∀ r ∈ Rs, r.l.length ≤ 1000000) (hA : Sl w A (l.flatMap Ent.cells)) (hll : l.length ≤ 100) (hk : k ≤ 1000000) :
    Calls Tryd.prog 46 #[.agg #[.slice B Rs.length c, .int .u64 n], .int .i64 (k : Nat), .slice A l.length cq] w fun r w' => r = .returned (.bool (standsB (lvs Rs) k l)) ∧ Below w.heap.size w w' := by
  obtain ⟨W0, hW0⟩ : ∃ W0, w.alloc (.cells #[.slice B Rs.length c, .int .u64 n] 25) = W0 := ⟨_, rfl⟩
  have hb0 : Below w.heap.size w W0 := by rw [← hW0]; exact (Below.refl _ _).alloc (Nat.le_refl _) _
  have b20 : Blk W0 w.heap.size 25 #[.slice B Rs.length c, .int .u64 n] := by rw [← hW0]; exact Blk.new _ _ _
  have HW0 := Lib.hid hW0
  have HB := Lib.hid (hB.below hb0)
  have HA := Lib.hid (hA.below hb0)
  have c20 : W0.cell? ⟨w.heap.size, 0, none⟩ = some (.slice B Rs.length c) := b20.cell 0
  clear hW0 hB hA
  by_cases hlt : k < Rs.length
  case neg =>
    have hz : standsB (lvs Rs) k l = false := by unfold standsB; rw [decide_eq_false (by rw [lvs_len]; exact hlt)]; rfl
    rw [hz]
    have g1 : (Rs.length : Int) ≤ (k : Int) := by omega
    go_enter Tryd.func46, Tryd.ntmps46
    go_wp2_with fail
    rw [HW0.out]
    go_wp2
    go_ret
    exact ⟨rfl, hb0⟩
  case pos =>
    have g1 : ¬ (Rs.length : Int) ≤ (k : Int) := by omega
    have hz : standsB (lvs Rs) k l = (decide (chkE (Rs[k]'hlt).l = 0) && decide (sortL (Rs[k]'hlt).l = l)) := by
      unfold standsB
      rw [decide_eq_true (by rw [lvs_len]; exact hlt), lvs_lev hlt, Bool.true_and]
    rw [hz]
    obtain ⟨b, off, rfl, hbl, cp⟩ := HB.out.sl.oneB (Below.refl _ _) k hlt
    have hok := HB.out.ok _ (List.getElem_mem hlt)
    have hrl := hrs _ (List.getElem_mem hlt)
    obtain ⟨r, hr⟩ : ∃ r, Rs[k]'hlt = r := ⟨_, rfl⟩
    rw [hr] at cp hok hrl ⊢
    obtain ⟨m, Am, cm⟩ := r
    have cp1 : W0.cell? ⟨b, off + k, none⟩ = some (.slice Am m.length cm) := cp
    dsimp only at hrl ⊢
    have hso := fun W (hW : Below W0.heap.size W0 W) => sortedE_any Am m cm W (hok.sl.below hW) (by omega)
    have hsl : (sortL m).length ≤ 1000000 := by
      unfold sortL
      split
      · rw [inL_length]; exact hrl
      · simp
    obtain ⟨E, hE⟩ : ∃ E, chkE m = E := ⟨_, rfl⟩
    obtain ⟨S, hS⟩ : ∃ S, sortL m = S := ⟨_, rfl⟩
    rw [hE, hS] at hso ⊢
    rw [hS] at hsl
    have HSO := Lib.hid hso
    obtain ⟨V, hV⟩ : ∃ V, (decide (E = 0) && decide (S = l)) = V := ⟨_, rfl⟩
    rw [hV]
    have HV := Lib.hid hV
    have i0 : (0 : Int) ≤ (k : Int) := by omega
    have i1 : (k : Int) < (Rs.length : Int) := by omega
    clear hz hr hok cp hso hE hS hV hrs
    go_enter Tryd.func46, Tryd.ntmps46
    go_upto_region 1 with fail
    rw [HW0.out]
    go_wp2_with fail
    refine (HSO.out _ (Below.refl _ _)).mono ?_
    rintro e w1 ⟨A2, c2, rfl, ho2, hb2⟩
    have HS2 := Lib.hid (own_sl ho2)
    have HB2 := Lib.hid (bext hb0 hb2)
    have HA2 := Lib.hid (HA.out.below hb2)
    clear ho2 c20 cp1
    by_cases hE0 : E = 0
    · subst hE0
      have HV2 : Hid (decide (S = l) = V) := by have := HV.out; rw [decide_eq_true rfl, Bool.true_and] at this; exact this
      go_wp2_with fail
      refine (sameEntries_any A2 A S l c2 cq _ HS2.out HA2.out (by omega) (by omega)).mono ?_
      rw [HV2.out]
      rintro e w3 ⟨rfl, hb3⟩
      go_wp2
      go_ret
      exact ⟨rfl, bext HB2.out hb3⟩
    · have HV2 : Hid (V = false) := by have := HV.out; rw [decide_eq_false hE0, Bool.false_and] at this; exact this.symm
      have h1 : (E == 0) = false := by simpa using hE0
      clear hE0
      go_wp2
      go_ret
      exact ⟨by rw [HV2.out]; rfl, HB2.out⟩
end Go.Proofs.YthbppblmecdekaaDoor

/- Contract: the chapter's examples of levels (alive of law26). -/
namespace Go.Proofs.YthbppblmecdekaaDoor
open Go Go.RowKit
set_option maxRecDepth 100000
theorem alS1 : letS [] 0 [x5, x7, x6] = ([[x6], [x7, x5]], 5, 0) := by
  rw [letS, if_pos al1E, al1.1, al1.2, letS, if_pos al2E, al2.1, al2.2, letS, if_pos al3E, al3.1, al3.2, letS]
theorem alS2 : letS [[x6], [x7, x5]] 5 [k5] = ([[], [x7, x6]], 10, 0) := by
  rw [letS, if_pos al4E, al4.1, al4.2, letS]
theorem srt1 (a : Ent) (h : chkE [a] = 0) : sortL [a] = [a] := by unfold sortL; rw [if_pos h, in_1]
theorem srt2 (a b : Ent) (h : chkE [b, a] = 0) : sortL [b, a] = [a, b] := by unfold sortL; rw [if_pos h, in_2]
theorem al4M : May [[], [x7, x6]] := by have h := (add_may al4E 5).1; rwa [al4.1] at h
theorem alT1 : standsB [[x6], [x7, x5]] 0 [x6] = true := by
  have h : chkE [x6] = 0 := al3M.chk 0
  unfold standsB
  rw [show lev [[x6], [x7, x5]] 0 = [x6] from rfl, srt1 _ h, decide_eq_true h]
  decide
theorem alT2 : standsB [[x6], [x7, x5]] 1 [x5, x7] = true := by
  have h : chkE [x7, x5] = 0 := al3M.chk 1
  unfold standsB
  rw [show lev [[x6], [x7, x5]] 1 = [x7, x5] from rfl, srt2 _ _ h, decide_eq_true h]
  decide
theorem alT3 : standsB [[], [x7, x6]] 0 [] = true := by
  have h : chkE [] = 0 := al4M.chk 0
  unfold standsB
  rw [show lev [[], [x7, x6]] 0 = [] from rfl, show sortL [] = [] by unfold sortL; rw [if_pos h, in_0], decide_eq_true h]
  decide
theorem alT4 : standsB [[], [x7, x6]] 1 [x6, x7] = true := by
  have h : chkE [x7, x6] = 0 := al4M.chk 1
  unfold standsB
  rw [show lev [[], [x7, x6]] 1 = [x7, x6] from rfl, srt2 _ _ h, decide_eq_true h]
  decide
theorem rs_of {Rs : List Rm} {L : Lv} {T : Nat} (h : lvs Rs = L) (h1 : tot L ≤ T) (h2 : L.length ≤ 17) (h3 : T ≤ 1000000 := by omega) : Rs.length ≤ 1000000 ∧ ∀ r ∈ Rs, r.l.length ≤ 1000000 := by
  refine ⟨by rw [rs_len h]; omega, fun r hr => ?_⟩
  have h5 := le_sum (List.mem_map.2 ⟨r.l, List.mem_map.2 ⟨r, hr, rfl⟩, rfl⟩ : r.l.length ∈ ((lvs Rs).map List.length))
  rw [h] at h5
  unfold tot at h1
  omega
set_option maxHeartbeats 8000000 in
theorem alive26_any (w : World) : Calls Tryd.prog 11 #[] w fun r w' => r = .returned (.bool true) ∧ Below w.heap.size w w' := by
  go_enter Tryd.func11, Tryd.ntmps11
  have HF := Lib.hid (Below.refl w.heap.size w)
  go_upto_region 2 with fail
  obtain ⟨U1, h2⟩ : ∃ U, ((w.alloc (.cells #[.int .i64 5, .int .i64 1, .bool false] 27)).alloc (.cells #[.int .i64 6, .int .i64 2, .bool false] 27)).alloc (.cells #[.int .i64 7, .int .i64 3, .bool false] 27) = U := ⟨_, rfl⟩
  have ba3 : Below w.heap.size w U1 := by rw [← h2]; exact (((Below.refl _ _).alloc (by first | (simp; done) | (simp; omega)) _).alloc (by first | (simp; done) | (simp; omega)) _).alloc (by first | (simp; done) | (simp; omega)) _
  have bn4 : Blk U1 (w.heap.size) 27 #[.int .i64 5, .int .i64 1, .bool false] := by
    rw [← h2]
    have hq := (Blk.new w 27 #[.int .i64 5, .int .i64 1, .bool false])
    exact ((hq.alloc _).alloc _)
  have bn5 : Blk U1 (w.heap.size + 1) 27 #[.int .i64 6, .int .i64 2, .bool false] := by
    rw [← h2]
    have hq := (Blk.new (w.alloc (.cells #[.int .i64 5, .int .i64 1, .bool false] 27)) 27 #[.int .i64 6, .int .i64 2, .bool false])
    simp only [World.size_alloc] at hq
    exact (hq.alloc _)
  have bn6 : Blk U1 (w.heap.size + 1 + 1) 27 #[.int .i64 7, .int .i64 3, .bool false] := by
    rw [← h2]
    have hq := (Blk.new ((w.alloc (.cells #[.int .i64 5, .int .i64 1, .bool false] 27)).alloc (.cells #[.int .i64 6, .int .i64 2, .bool false] 27)) 27 #[.int .i64 7, .int .i64 3, .bool false])
    simp only [World.size_alloc] at hq
    exact hq
  try rw [h2]
  have HF7 := Lib.hid (bext HF.out ba3)
  clear HF
  obtain ⟨g8, h9⟩ : ∃ g, (w.heap.size + 1 + 1) = g := ⟨_, rfl⟩
  rw [h9] at bn6
  try rw [h9]
  have HX10 := Lib.hid bn6
  clear bn6 h9
  obtain ⟨g11, h12⟩ : ∃ g, (w.heap.size + 1) = g := ⟨_, rfl⟩
  rw [h12] at bn5
  try rw [h12]
  have HX13 := Lib.hid bn5
  clear bn5 h12
  obtain ⟨g14, h15⟩ : ∃ g, (w.heap.size) = g := ⟨_, rfl⟩
  rw [h15] at bn4
  try rw [h15]
  have HX16 := Lib.hid bn4
  clear bn4 h15
  clear h2 ba3
  have c17 : U1.cell? ⟨g14, 0, none⟩ = some (.int .i64 5) := HX16.out.cell 0
  have c18 : U1.cell? ⟨g14, 1, none⟩ = some (.int .i64 1) := HX16.out.cell 1
  have c19 : U1.cell? ⟨g14, 2, none⟩ = some (.bool false) := HX16.out.cell 2
  have l20 : g14 < U1.heap.size := HX16.out.lt
  have c21 : U1.cell? ⟨g8, 0, none⟩ = some (.int .i64 7) := HX10.out.cell 0
  have c22 : U1.cell? ⟨g8, 1, none⟩ = some (.int .i64 3) := HX10.out.cell 1
  have c23 : U1.cell? ⟨g8, 2, none⟩ = some (.bool false) := HX10.out.cell 2
  have l24 : g8 < U1.heap.size := HX10.out.lt
  have c25 : U1.cell? ⟨g11, 0, none⟩ = some (.int .i64 6) := HX13.out.cell 0
  have c26 : U1.cell? ⟨g11, 1, none⟩ = some (.int .i64 2) := HX13.out.cell 1
  have c27 : U1.cell? ⟨g11, 2, none⟩ = some (.bool false) := HX13.out.cell 2
  have l28 : g11 < U1.heap.size := HX13.out.lt
  go_wp2_with fail
  clear c17 c18 c19 l20 c21 c22 c23 l24 c25 c26 c27 l28
  obtain ⟨U29, h30⟩ : ∃ U, U1.alloc (.cells #[.int .i64 5, .int .i64 1, .bool false, .int .i64 7, .int .i64 3, .bool false, .int .i64 6, .int .i64 2, .bool false] 27) = U := ⟨_, rfl⟩
  have ba31 : Below U1.heap.size U1 U29 := by rw [← h30]; exact (Below.refl _ _).alloc (Nat.le_refl _) _
  have sl32 : Sl U29 (some ⟨U1.heap.size, 0, none⟩) ([x5, x7, x6].flatMap Ent.cells) := by rw [← h30]; exact sl_new1 _ _ _
  try rw [h30]
  have HF35 := Lib.hid (bext HF7.out ba31)
  have HX36 := Lib.hid (HX10.out.below ba31 HX10.out.lt)
  have HX37 := Lib.hid (HX13.out.below ba31 HX13.out.lt)
  have HX38 := Lib.hid (HX16.out.below ba31 HX16.out.lt)
  clear HF7 HX10 HX13 HX16
  obtain ⟨g33, h34⟩ : ∃ g, U1.heap.size = g := ⟨_, rfl⟩
  rw [h34] at sl32
  try rw [h34]
  have HY39 := Lib.hid (sl32)
  clear h30 ba31 sl32 h34
  refine (let_any none (some ⟨g33, 0, none⟩) [] 0 3 0 [x5, x7, x6] _ (OwnRs.nil _ 0).runsAt (by decide) (by decide) HY39.out (by decide)).mono ?_
  rintro e w40 ⟨Ba, ca, Ra, hra, hla, hoa, hb41⟩
  have heqa : letS (lvs []) 0 [x5, x7, x6] = ([[x6], [x7, x5]], 5, 0) := alS1
  rw [heqa] at hra hla
  obtain rfl := hra
  dsimp only at hla
  have hna : Ra.length = 2 := by rw [rs_len hla]; rfl
  rw [hna]
  have KNa := Lib.hid hna
  have KLa := Lib.hid hla
  have KSa := Lib.hid (rs_of (T := 10) hla (by decide) (by decide))
  clear hna hla heqa
  have HF42 := Lib.hid (bext HF35.out hb41)
  have HX43 := Lib.hid (HX36.out.below hb41 HX36.out.lt)
  have HX44 := Lib.hid (HX37.out.below hb41 HX37.out.lt)
  have HX45 := Lib.hid (HX38.out.below hb41 HX38.out.lt)
  have HY46 := Lib.hid (HY39.out.below hb41)
  clear HF35 HX36 HX37 HX38 HY39
  clear hb41
  have HY47 := Lib.hid (hoa)
  clear hoa
  go_upto_region 3 with fail
  obtain ⟨U48, h50⟩ : ∃ U, w40.alloc (.cells #[.slice Ba 2 ca, .int .u64 5] 25) = U := ⟨_, rfl⟩
  have ba51 : Below w40.heap.size w40 U48 := by rw [← h50]; exact (Below.refl _ _).alloc (Nat.le_refl _) _
  have bn52 : Blk U48 w40.heap.size 25 #[.slice Ba 2 ca, .int .u64 5] := by rw [← h50]; exact Blk.new _ _ _
  try rw [h50]
  have HF53 := Lib.hid (bext HF42.out ba51)
  have HX54 := Lib.hid (HX43.out.below ba51 HX43.out.lt)
  have HX55 := Lib.hid (HX44.out.below ba51 HX44.out.lt)
  have HX56 := Lib.hid (HX45.out.below ba51 HX45.out.lt)
  have HY57 := Lib.hid (HY46.out.below ba51)
  have HY58 := Lib.hid (RunsAt.below HY47.out ba51)
  clear HF42 HX43 HX44 HX45 HY46 HY47
  obtain ⟨g49, h59⟩ : ∃ g, w40.heap.size = g := ⟨_, rfl⟩
  rw [h59] at bn52
  try rw [h59]
  have HX60 := Lib.hid bn52
  clear h50 ba51 bn52 h59
  have c61 : U48.cell? ⟨g49, 0, none⟩ = some (.slice Ba 2 ca) := HX60.out.cell 0
  have c62 : U48.cell? ⟨g49, 1, none⟩ = some (.int .u64 5) := HX60.out.cell 1
  have l63 : g49 < U48.heap.size := HX60.out.lt
  go_wp2_with fail
  clear c61 c62 l63
  obtain ⟨U64, h65⟩ : ∃ U, U48.alloc (.cells #[.int .i64 5, .int .i64 0, .bool true] 27) = U := ⟨_, rfl⟩
  have ba66 : Below U48.heap.size U48 U64 := by rw [← h65]; exact (Below.refl _ _).alloc (Nat.le_refl _) _
  have sl67 : Sl U64 (some ⟨U48.heap.size, 0, none⟩) ([k5].flatMap Ent.cells) := by rw [← h65]; exact sl_new1 _ _ _
  try rw [h65]
  have HF70 := Lib.hid (bext HF53.out ba66)
  have HX71 := Lib.hid (HX54.out.below ba66 HX54.out.lt)
  have HX72 := Lib.hid (HX55.out.below ba66 HX55.out.lt)
  have HX73 := Lib.hid (HX56.out.below ba66 HX56.out.lt)
  have HX74 := Lib.hid (HX60.out.below ba66 HX60.out.lt)
  have HY75 := Lib.hid (HY57.out.below ba66)
  have HY76 := Lib.hid (RunsAt.below HY58.out ba66)
  clear HF53 HX54 HX55 HX56 HX60 HY57 HY58
  obtain ⟨g68, h69⟩ : ∃ g, U48.heap.size = g := ⟨_, rfl⟩
  rw [h69] at sl67
  try rw [h69]
  have HY77 := Lib.hid (sl67)
  clear h65 ba66 sl67 h69
  have hlet := fun W hB hA => let_any Ba (some ⟨g68, 0, none⟩) Ra ca 1 5 [k5] W hB (by rw [KLa.out]; decide) KSa.out.1 hA (by decide)
  rw [KNa.out, KLa.out, alS2] at hlet
  have HLET := Lib.hid hlet
  clear hlet
  refine (HLET.out _ HY76.out HY77.out).mono ?_
  rintro e w78 ⟨Bb, cb, Rb, hrb, hlb, hob, hb79⟩
  obtain rfl := hrb
  dsimp only at hlb
  have hnb : Rb.length = 2 := by rw [rs_len hlb]; rfl
  rw [hnb]
  have KNb := Lib.hid hnb
  have KLb := Lib.hid hlb
  have KSb := Lib.hid (rs_of (T := 10) hlb (by decide) (by decide))
  clear hnb hlb
  have HF80 := Lib.hid (bext HF70.out hb79)
  have HX81 := Lib.hid (HX71.out.below hb79 HX71.out.lt)
  have HX82 := Lib.hid (HX72.out.below hb79 HX72.out.lt)
  have HX83 := Lib.hid (HX73.out.below hb79 HX73.out.lt)
  have HX84 := Lib.hid (HX74.out.below hb79 HX74.out.lt)
  have HY85 := Lib.hid (HY77.out.below hb79)
  have HY86 := Lib.hid (RunsAt.below HY76.out hb79)
  clear HF70 HX71 HX72 HX73 HX74 HY77 HY76
  clear hb79
  have HY87 := Lib.hid (hob)
  clear hob
  go_upto_region 4 with fail
  obtain ⟨U88, h90⟩ : ∃ U, w78.alloc (.cells #[.slice Bb 2 cb, .int .u64 10] 25) = U := ⟨_, rfl⟩
  have ba91 : Below w78.heap.size w78 U88 := by rw [← h90]; exact (Below.refl _ _).alloc (Nat.le_refl _) _
  have bn92 : Blk U88 w78.heap.size 25 #[.slice Bb 2 cb, .int .u64 10] := by rw [← h90]; exact Blk.new _ _ _
  try rw [h90]
  have HF93 := Lib.hid (bext HF80.out ba91)
  have HX94 := Lib.hid (HX81.out.below ba91 HX81.out.lt)
  have HX95 := Lib.hid (HX82.out.below ba91 HX82.out.lt)
  have HX96 := Lib.hid (HX83.out.below ba91 HX83.out.lt)
  have HX97 := Lib.hid (HX84.out.below ba91 HX84.out.lt)
  have HY98 := Lib.hid (HY85.out.below ba91)
  have HY99 := Lib.hid (RunsAt.below HY86.out ba91)
  have HY100 := Lib.hid (RunsAt.below HY87.out ba91)
  clear HF80 HX81 HX82 HX83 HX84 HY85 HY86 HY87
  obtain ⟨g89, h101⟩ : ∃ g, w78.heap.size = g := ⟨_, rfl⟩
  rw [h101] at bn92
  try rw [h101]
  have HX102 := Lib.hid bn92
  clear h90 ba91 bn92 h101
  have c103 : U88.cell? ⟨g49, 0, none⟩ = some (.slice Ba 2 ca) := HX97.out.cell 0
  have c104 : U88.cell? ⟨g49, 1, none⟩ = some (.int .u64 5) := HX97.out.cell 1
  have l105 : g49 < U88.heap.size := HX97.out.lt
  have c106 : U88.cell? ⟨g11, 0, none⟩ = some (.int .i64 6) := HX95.out.cell 0
  have c107 : U88.cell? ⟨g11, 1, none⟩ = some (.int .i64 2) := HX95.out.cell 1
  have c108 : U88.cell? ⟨g11, 2, none⟩ = some (.bool false) := HX95.out.cell 2
  have l109 : g11 < U88.heap.size := HX95.out.lt
  go_wp2_with fail
  clear c103 c104 l105 c106 c107 c108 l109
  obtain ⟨U110, h111⟩ : ∃ U, U88.alloc (.cells #[.int .i64 6, .int .i64 2, .bool false] 27) = U := ⟨_, rfl⟩
  have ba112 : Below U88.heap.size U88 U110 := by rw [← h111]; exact (Below.refl _ _).alloc (Nat.le_refl _) _
  have sl113 : Sl U110 (some ⟨U88.heap.size, 0, none⟩) ([x6].flatMap Ent.cells) := by rw [← h111]; exact sl_new1 _ _ _
  try rw [h111]
  have HF116 := Lib.hid (bext HF93.out ba112)
  have HX117 := Lib.hid (HX94.out.below ba112 HX94.out.lt)
  have HX118 := Lib.hid (HX95.out.below ba112 HX95.out.lt)
  have HX119 := Lib.hid (HX96.out.below ba112 HX96.out.lt)
  have HX120 := Lib.hid (HX97.out.below ba112 HX97.out.lt)
  have HX121 := Lib.hid (HX102.out.below ba112 HX102.out.lt)
  have HY122 := Lib.hid (HY98.out.below ba112)
  have HY123 := Lib.hid (RunsAt.below HY99.out ba112)
  have HY124 := Lib.hid (RunsAt.below HY100.out ba112)
  clear HF93 HX94 HX95 HX96 HX97 HX102 HY98 HY99 HY100
  obtain ⟨g114, h115⟩ : ∃ g, U88.heap.size = g := ⟨_, rfl⟩
  rw [h115] at sl113
  try rw [h115]
  have HY125 := Lib.hid (sl113)
  clear h111 ba112 sl113 h115
  have hst := fun W hB hA => stands_any Ba (some ⟨g114, 0, none⟩) Ra ca 1 0 5 [x6] W hB KSa.out.1 KSa.out.2 hA (by decide) (by decide)
  rw [KNa.out, KLa.out, alT1] at hst
  have HST := Lib.hid hst
  clear hst
  refine (HST.out _ HY123.out HY125.out).mono ?_
  rintro e w126 ⟨rfl, hb127⟩
  have HF128 := Lib.hid (bext HF116.out hb127)
  have HX129 := Lib.hid (HX117.out.below hb127 HX117.out.lt)
  have HX130 := Lib.hid (HX118.out.below hb127 HX118.out.lt)
  have HX131 := Lib.hid (HX119.out.below hb127 HX119.out.lt)
  have HX132 := Lib.hid (HX120.out.below hb127 HX120.out.lt)
  have HX133 := Lib.hid (HX121.out.below hb127 HX121.out.lt)
  have HY134 := Lib.hid (HY125.out.below hb127)
  have HY135 := Lib.hid (RunsAt.below HY123.out hb127)
  have HY136 := Lib.hid (RunsAt.below HY124.out hb127)
  clear HF116 HX117 HX118 HX119 HX120 HX121 HY125 HY123 HY124
  clear hb127
  clear HST
  have c137 : w126.cell? ⟨g49, 0, none⟩ = some (.slice Ba 2 ca) := HX132.out.cell 0
  have c138 : w126.cell? ⟨g49, 1, none⟩ = some (.int .u64 5) := HX132.out.cell 1
  have l139 : g49 < w126.heap.size := HX132.out.lt
  have c140 : w126.cell? ⟨g14, 0, none⟩ = some (.int .i64 5) := HX131.out.cell 0
  have c141 : w126.cell? ⟨g14, 1, none⟩ = some (.int .i64 1) := HX131.out.cell 1
  have c142 : w126.cell? ⟨g14, 2, none⟩ = some (.bool false) := HX131.out.cell 2
  have l143 : g14 < w126.heap.size := HX131.out.lt
  have c144 : w126.cell? ⟨g8, 0, none⟩ = some (.int .i64 7) := HX129.out.cell 0
  have c145 : w126.cell? ⟨g8, 1, none⟩ = some (.int .i64 3) := HX129.out.cell 1
  have c146 : w126.cell? ⟨g8, 2, none⟩ = some (.bool false) := HX129.out.cell 2
  have l147 : g8 < w126.heap.size := HX129.out.lt
  go_wp2_with fail
  clear c137 c138 l139 c140 c141 c142 l143 c144 c145 c146 l147
  obtain ⟨U148, h149⟩ : ∃ U, w126.alloc (.cells #[.int .i64 5, .int .i64 1, .bool false, .int .i64 7, .int .i64 3, .bool false] 27) = U := ⟨_, rfl⟩
  have ba150 : Below w126.heap.size w126 U148 := by rw [← h149]; exact (Below.refl _ _).alloc (Nat.le_refl _) _
  have sl151 : Sl U148 (some ⟨w126.heap.size, 0, none⟩) ([x5, x7].flatMap Ent.cells) := by rw [← h149]; exact sl_new1 _ _ _
  try rw [h149]
  have HF154 := Lib.hid (bext HF128.out ba150)
  have HX155 := Lib.hid (HX129.out.below ba150 HX129.out.lt)
  have HX156 := Lib.hid (HX130.out.below ba150 HX130.out.lt)
  have HX157 := Lib.hid (HX131.out.below ba150 HX131.out.lt)
  have HX158 := Lib.hid (HX132.out.below ba150 HX132.out.lt)
  have HX159 := Lib.hid (HX133.out.below ba150 HX133.out.lt)
  have HY160 := Lib.hid (HY134.out.below ba150)
  have HY161 := Lib.hid (RunsAt.below HY135.out ba150)
  have HY162 := Lib.hid (RunsAt.below HY136.out ba150)
  clear HF128 HX129 HX130 HX131 HX132 HX133 HY134 HY135 HY136
  obtain ⟨g152, h153⟩ : ∃ g, w126.heap.size = g := ⟨_, rfl⟩
  rw [h153] at sl151
  try rw [h153]
  have HY163 := Lib.hid (sl151)
  clear h149 ba150 sl151 h153
  have hst := fun W hB hA => stands_any Ba (some ⟨g152, 0, none⟩) Ra ca 2 1 5 [x5, x7] W hB KSa.out.1 KSa.out.2 hA (by decide) (by decide)
  rw [KNa.out, KLa.out, alT2] at hst
  have HST := Lib.hid hst
  clear hst
  refine (HST.out _ HY161.out HY163.out).mono ?_
  rintro e w164 ⟨rfl, hb165⟩
  have HF166 := Lib.hid (bext HF154.out hb165)
  have HX167 := Lib.hid (HX155.out.below hb165 HX155.out.lt)
  have HX168 := Lib.hid (HX156.out.below hb165 HX156.out.lt)
  have HX169 := Lib.hid (HX157.out.below hb165 HX157.out.lt)
  have HX170 := Lib.hid (HX158.out.below hb165 HX158.out.lt)
  have HX171 := Lib.hid (HX159.out.below hb165 HX159.out.lt)
  have HY172 := Lib.hid (HY163.out.below hb165)
  have HY173 := Lib.hid (RunsAt.below HY161.out hb165)
  have HY174 := Lib.hid (RunsAt.below HY162.out hb165)
  clear HF154 HX155 HX156 HX157 HX158 HX159 HY163 HY161 HY162
  clear hb165
  clear HST
  have hst := fun W hB hA => stands_any Bb none Rb cb 0 0 10 [] W hB KSb.out.1 KSb.out.2 hA (by decide) (by decide)
  rw [KNb.out, KLb.out, alT3] at hst
  have HST := Lib.hid hst
  clear hst
  have c175 : w164.cell? ⟨g49, 0, none⟩ = some (.slice Ba 2 ca) := HX170.out.cell 0
  have c176 : w164.cell? ⟨g49, 1, none⟩ = some (.int .u64 5) := HX170.out.cell 1
  have l177 : g49 < w164.heap.size := HX170.out.lt
  have c178 : w164.cell? ⟨g89, 0, none⟩ = some (.slice Bb 2 cb) := HX171.out.cell 0
  have c179 : w164.cell? ⟨g89, 1, none⟩ = some (.int .u64 10) := HX171.out.cell 1
  have l180 : g89 < w164.heap.size := HX171.out.lt
  go_wp2_with fail
  clear c175 c176 l177 c178 c179 l180
  refine (HST.out _ HY174.out (.inl rfl)).mono ?_
  rintro e w181 ⟨rfl, hb182⟩
  have HF183 := Lib.hid (bext HF166.out hb182)
  have HX184 := Lib.hid (HX167.out.below hb182 HX167.out.lt)
  have HX185 := Lib.hid (HX168.out.below hb182 HX168.out.lt)
  have HX186 := Lib.hid (HX169.out.below hb182 HX169.out.lt)
  have HX187 := Lib.hid (HX170.out.below hb182 HX170.out.lt)
  have HX188 := Lib.hid (HX171.out.below hb182 HX171.out.lt)
  have HY189 := Lib.hid (HY172.out.below hb182)
  have HY190 := Lib.hid (RunsAt.below HY173.out hb182)
  have HY191 := Lib.hid (RunsAt.below HY174.out hb182)
  clear HF166 HX167 HX168 HX169 HX170 HX171 HY172 HY173 HY174
  clear hb182
  clear HST
  have c192 : w181.cell? ⟨g89, 0, none⟩ = some (.slice Bb 2 cb) := HX188.out.cell 0
  have c193 : w181.cell? ⟨g89, 1, none⟩ = some (.int .u64 10) := HX188.out.cell 1
  have l194 : g89 < w181.heap.size := HX188.out.lt
  have c195 : w181.cell? ⟨g11, 0, none⟩ = some (.int .i64 6) := HX185.out.cell 0
  have c196 : w181.cell? ⟨g11, 1, none⟩ = some (.int .i64 2) := HX185.out.cell 1
  have c197 : w181.cell? ⟨g11, 2, none⟩ = some (.bool false) := HX185.out.cell 2
  have l198 : g11 < w181.heap.size := HX185.out.lt
  have c199 : w181.cell? ⟨g8, 0, none⟩ = some (.int .i64 7) := HX184.out.cell 0
  have c200 : w181.cell? ⟨g8, 1, none⟩ = some (.int .i64 3) := HX184.out.cell 1
  have c201 : w181.cell? ⟨g8, 2, none⟩ = some (.bool false) := HX184.out.cell 2
  have l202 : g8 < w181.heap.size := HX184.out.lt
  go_wp2_with fail
  clear c192 c193 l194 c195 c196 c197 l198 c199 c200 c201 l202
  obtain ⟨U203, h204⟩ : ∃ U, w181.alloc (.cells #[.int .i64 6, .int .i64 2, .bool false, .int .i64 7, .int .i64 3, .bool false] 27) = U := ⟨_, rfl⟩
  have ba205 : Below w181.heap.size w181 U203 := by rw [← h204]; exact (Below.refl _ _).alloc (Nat.le_refl _) _
  have sl206 : Sl U203 (some ⟨w181.heap.size, 0, none⟩) ([x6, x7].flatMap Ent.cells) := by rw [← h204]; exact sl_new1 _ _ _
  try rw [h204]
  have HF209 := Lib.hid (bext HF183.out ba205)
  have HX210 := Lib.hid (HX184.out.below ba205 HX184.out.lt)
  have HX211 := Lib.hid (HX185.out.below ba205 HX185.out.lt)
  have HX212 := Lib.hid (HX186.out.below ba205 HX186.out.lt)
  have HX213 := Lib.hid (HX187.out.below ba205 HX187.out.lt)
  have HX214 := Lib.hid (HX188.out.below ba205 HX188.out.lt)
  have HY215 := Lib.hid (HY189.out.below ba205)
  have HY216 := Lib.hid (RunsAt.below HY190.out ba205)
  have HY217 := Lib.hid (RunsAt.below HY191.out ba205)
  clear HF183 HX184 HX185 HX186 HX187 HX188 HY189 HY190 HY191
  obtain ⟨g207, h208⟩ : ∃ g, w181.heap.size = g := ⟨_, rfl⟩
  rw [h208] at sl206
  try rw [h208]
  have HY218 := Lib.hid (sl206)
  clear h204 ba205 sl206 h208
  have hst := fun W hB hA => stands_any Bb (some ⟨g207, 0, none⟩) Rb cb 2 1 10 [x6, x7] W hB KSb.out.1 KSb.out.2 hA (by decide) (by decide)
  rw [KNb.out, KLb.out, alT4] at hst
  have HST := Lib.hid hst
  clear hst
  refine (HST.out _ HY217.out HY218.out).mono ?_
  rintro e w219 ⟨rfl, hb220⟩
  have HF221 := Lib.hid (bext HF209.out hb220)
  have HX222 := Lib.hid (HX210.out.below hb220 HX210.out.lt)
  have HX223 := Lib.hid (HX211.out.below hb220 HX211.out.lt)
  have HX224 := Lib.hid (HX212.out.below hb220 HX212.out.lt)
  have HX225 := Lib.hid (HX213.out.below hb220 HX213.out.lt)
  have HX226 := Lib.hid (HX214.out.below hb220 HX214.out.lt)
  have HY227 := Lib.hid (HY218.out.below hb220)
  have HY228 := Lib.hid (RunsAt.below HY216.out hb220)
  have HY229 := Lib.hid (RunsAt.below HY217.out hb220)
  clear HF209 HX210 HX211 HX212 HX213 HX214 HY218 HY216 HY217
  clear hb220
  clear HST
  have c230 : w219.cell? ⟨g89, 0, none⟩ = some (.slice Bb 2 cb) := HX226.out.cell 0
  have c231 : w219.cell? ⟨g89, 1, none⟩ = some (.int .u64 10) := HX226.out.cell 1
  have l232 : g89 < w219.heap.size := HX226.out.lt
  go_wp2_with fail
  go_ret
  refine ⟨?_, HF221.out⟩
  rfl
end Go.Proofs.YthbppblmecdekaaDoor

/- Contracts: rungs.Get; the reference's Check, Pairs, Count, Get of levels. -/
namespace Go.Proofs.YthbppblmecdekaaDoor
open Go Go.RowKit
set_option maxRecDepth 100000
theorem rm_le' {Rs : List Rm} (h : chkR (lvs Rs) = 0) : Rs.length ≤ 4611686018427387903 ∧ ∀ r ∈ Rs, r.l.length ≤ 4611686018427387903 := by
  have h1 := rm_le (chkR_zero.1 h)
  exact ⟨by omega, fun r hr => by have := h1.1 r hr; omega⟩
theorem plain_all {Rs : List Rm} : plainE (allE (inS Rs)) = plainE (allL (lvs Rs)) := by
  unfold plainE allL
  rw [live_live, inS_of]
set_option maxHeartbeats 8000000 in
theorem getR_any (B : Option Addr) (Rs : List Rm) (c : Nat) (n : Int) (key : Int) (w : World) (hB : RunsAt w B Rs) (hT : tot (lvs Rs) ≤ 1000000) (hl : Rs.length ≤ 1000000) (hTb : TabAt 1 Lib.deBruijn64tab w) :
    Calls Tryd.prog 14 #[.agg #[.slice B Rs.length c, .int .u64 n], .int .i64 key] w (GivesX (gxR (lvs Rs) key) (geR (lvs Rs) key) w) := by
  obtain ⟨W0, hW0⟩ : ∃ W0, (w.alloc (.cells #[.slice B Rs.length c, .int .u64 n] 25)).alloc (.cells #[.int .i64 0, .int .i64 0, .bool false] 27) = W0 := ⟨_, rfl⟩
  have hb0 : Below w.heap.size w W0 := by rw [← hW0]; exact ((Below.refl _ _).alloc (Nat.le_refl _) _).alloc (by simp) _
  have b20 : Blk W0 w.heap.size 25 #[.slice B Rs.length c, .int .u64 n] := by rw [← hW0]; exact (Blk.new _ _ _).alloc _
  have bR0 : Blk W0 (w.heap.size + 1) 27 #[.int .i64 0, .int .i64 0, .bool false] := by
    rw [← hW0]
    have := Blk.new (w.alloc (.cells #[.slice B Rs.length c, .int .u64 n] 25)) 27 #[.int .i64 0, .int .i64 0, .bool false]
    rwa [World.size_alloc] at this
  have HW0 := Lib.hid hW0
  have HB := Lib.hid (hB.below hb0)
  clear hW0 hB
  have HTB := Lib.hid (tab_below (tab_lt hTb) hTb hb0)
  have hTl := tab_lt HTB.out
  clear hTb
  go_enter Tryd.func14, Tryd.ntmps14
  go_wp2_with fail
  rw [HW0.out]
  refine (checkR_any B Rs c n _ HB.out hT hl).mono ?_
  obtain ⟨E, hE⟩ : ∃ E, chkR (lvs Rs) = E := ⟨_, rfl⟩
  rw [hE]
  rintro e w1 ⟨rfl, hb1⟩
  have bR1 := bR0.below hb1 bR0.lt
  have b21 := b20.below hb1 b20.lt
  have hb01 := bext hb0 hb1
  by_cases h0 : E = 0
  case neg =>
    have HG := Lib.hid (gR_bad key (by rw [hE]; exact h0))
    have HE := Lib.hid hE
    have h1 : (E != 0) = true := by simpa using h0
    have d0 : w1.cell? ⟨w.heap.size + 1, 0, none⟩ = some (.int .i64 0) := bR1.cell 0
    have d1 : w1.cell? ⟨w.heap.size + 1, 1, none⟩ = some (.int .i64 0) := bR1.cell 1
    have d2 : w1.cell? ⟨w.heap.size + 1, 2, none⟩ = some (.bool false) := bR1.cell 2
    have f0 := bR1.frozen 0
    have f1 := bR1.frozen 1
    have f2 := bR1.frozen 2
    clear h0 hE
    go_wp2_with fail
    have bFz := put3 bR1 (.int .i64 0) (.int .i64 0) (.bool false)
    have e0z := bFz.cell 0
    have e1z := bFz.cell 1
    have e2z := bFz.cell 2
    simp only [List.getElem?_toArray, List.getElem?_cons_zero, List.getElem?_cons_succ] at e0z e1z e2z
    refine bodyPost_ret (v := .tuple #[.agg #[.int .i64 0, .int .i64 0, .bool false], .int .i64 E]) (by simp [results, Tryd.results14, go_sem, e0z, e1z, e2z]) rfl ?_
    unfold GivesX
    rw [HG.out.1, HG.out.2, HE.out]
    exact ⟨rfl, below3 hb01 (Nat.le_succ _) _ _ _⟩
  case pos =>
  subst h0
  have HQ := Lib.hid (rm_le' hE)
  have HK := Lib.hid (gR_kf key hE)
  clear hE
  have c20 : w1.cell? ⟨w.heap.size, 0, none⟩ = some (.slice B Rs.length c) := b21.cell 0
  go_wp2_with fail
  refine (kfind_any B Rs c key _ (HB.out.below hb1) HQ.out.1 HQ.out.2 (tab_below hTl HTB.out hb1)).mono ?_
  unfold GivesX
  have hlv : Rs.map Rm.l = lvs Rs := rfl
  rw [hlv, HK.out.1, HK.out.2]
  obtain ⟨x, hx⟩ : ∃ x, gxR (lvs Rs) key = x := ⟨_, rfl⟩
  obtain ⟨G, hG⟩ : ∃ x, geR (lvs Rs) key = x := ⟨_, rfl⟩
  rw [hx, hG]
  rintro e w2 ⟨rfl, hb2⟩
  have bR2 := bR1.below hb2 bR1.lt
  have hb02 := bext hb01 hb2
  have HXX := Lib.hid hx
  have HGG := Lib.hid hG
  have d0 : w2.cell? ⟨w.heap.size + 1, 0, none⟩ = some (.int .i64 0) := bR2.cell 0
  have d1 : w2.cell? ⟨w.heap.size + 1, 1, none⟩ = some (.int .i64 0) := bR2.cell 1
  have d2 : w2.cell? ⟨w.heap.size + 1, 2, none⟩ = some (.bool false) := bR2.cell 2
  have f0 := bR2.frozen 0
  have f1 := bR2.frozen 1
  have f2 := bR2.frozen 2
  clear hlv hx hG c20
  go_wp2_with fail
  have bFy := put3 bR2 (.int .i64 x.key) (.int .i64 x.val) (.bool x.dead)
  have e0y := bFy.cell 0
  have e1y := bFy.cell 1
  have e2y := bFy.cell 2
  simp only [List.getElem?_toArray, List.getElem?_cons_zero, List.getElem?_cons_succ] at e0y e1y e2y
  refine bodyPost_ret (v := .tuple #[.agg #[.int .i64 x.key, .int .i64 x.val, .bool x.dead], .int .i64 G]) (by simp [results, Tryd.results14, go_sem, e0y, e1y, e2y]) rfl ?_
  rw [HXX.out, HGG.out]
  exact ⟨rfl, below3 hb02 (Nat.le_succ _) _ _ _⟩
theorem check26_any (B : Option Addr) (Rs : List Rm) (c : Nat) (n : Int) (w : World) (hB : RunsAt w B Rs) (hT : tot (lvs Rs) ≤ 1000000) (hl : Rs.length ≤ 1000000) :
    Calls Tryd.prog 23 #[.agg #[.slice B Rs.length c, .int .u64 n]] w fun r w' => r = .returned (.int .i64 (chkR (lvs Rs))) ∧ Below w.heap.size w w' := by
  obtain ⟨W0, hW0⟩ : ∃ W0, w.alloc (.cells #[.slice B Rs.length c, .int .u64 n] 25) = W0 := ⟨_, rfl⟩
  have hb0 : Below w.heap.size w W0 := by rw [← hW0]; exact (Below.refl _ _).alloc (Nat.le_refl _) _
  have b20 : Blk W0 w.heap.size 25 #[.slice B Rs.length c, .int .u64 n] := by rw [← hW0]; exact Blk.new _ _ _
  have HW0 := Lib.hid hW0
  have HB := Lib.hid (hB.below hb0)
  clear hW0 hB
  go_enter Tryd.func23, Tryd.ntmps23
  go_wp2_with fail
  rw [HW0.out]
  refine (may26_any B Rs c n _ HB.out hT hl).mono ?_
  obtain ⟨M, hM⟩ : ∃ M, mayB (lvs Rs) = M := ⟨_, rfl⟩
  rw [hM]
  rintro e w1 ⟨rfl, hb1⟩
  have hb01 := bext hb0 hb1
  have b21 := b20.below hb1 b20.lt
  have HM := Lib.hid ((chkR_may (lvs Rs)).trans (by rw [hM]) : chkR (lvs Rs) = if M = true then 0 else 8)
  clear hM
  cases M <;> (go_wp2; go_ret; exact ⟨by rw [HM.out]; rfl, hb01⟩)
set_option maxHeartbeats 8000000 in
theorem pairs26_any (B : Option Addr) (Rs : List Rm) (c : Nat) (n : Int) (w : World) (hB : RunsAt w B Rs) (hT : tot (lvs Rs) ≤ 1000000) (hl : Rs.length ≤ 1000000) :
    Calls Tryd.prog 19 #[.agg #[.slice B Rs.length c, .int .u64 n]] w (GivesPrs (prR (lvs Rs)) (chkR (lvs Rs)) w) := by
  obtain ⟨W0, hW0⟩ : ∃ W0, w.alloc (.cells #[.slice B Rs.length c, .int .u64 n] 25) = W0 := ⟨_, rfl⟩
  have hb0 : Below w.heap.size w W0 := by rw [← hW0]; exact (Below.refl _ _).alloc (Nat.le_refl _) _
  have b20 : Blk W0 w.heap.size 25 #[.slice B Rs.length c, .int .u64 n] := by rw [← hW0]; exact Blk.new _ _ _
  have HW0 := Lib.hid hW0
  have HB := Lib.hid (hB.below hb0)
  clear hW0 hB
  go_enter Tryd.func19, Tryd.ntmps19
  go_wp2_with fail
  rw [HW0.out]
  refine (may26_any B Rs c n _ HB.out hT hl).mono ?_
  obtain ⟨M, hM⟩ : ∃ M, mayB (lvs Rs) = M := ⟨_, rfl⟩
  rw [hM]
  rintro e w1 ⟨rfl, hb1⟩
  have hb01 := bext hb0 hb1
  have b21 := b20.below hb1 b20.lt
  cases M with
  | false =>
    have hc : chkR (lvs Rs) = 8 := by rw [chkR_may, hM]; rfl
    have hp : prR (lvs Rs) = [] := prR_bad (by rw [hc]; simp)
    have HC := Lib.hid hc
    have HP := Lib.hid hp
    clear hc hp hM
    go_wp2
    refine bodyPost_ret (v := .tuple #[.slice none 0 0, .int .i64 8]) (by simp [results, Tryd.results19, go_sem]) rfl ?_
    rw [HC.out, HP.out]
    exact ⟨none, 0, rfl, World.ownsRow_nil _ _ _ _, hb01⟩
  | true =>
    have hc : chkR (lvs Rs) = 0 := by rw [chkR_may, hM]; rfl
    have hp : prR (lvs Rs) = plainE (allE (inS Rs)) := by unfold prR; rw [if_pos hc, plain_all]
    have HQ := Lib.hid (rm_le (chkR_zero.1 hc))
    have HA := fun W (hW : Below w1.heap.size w1 W) => all26_any B Rs c n W ((HB.out.below hb1).below hW) hl HQ.out.1 hT
    rw [← hp] at HA
    obtain ⟨P, hP⟩ : ∃ P, prR (lvs Rs) = P := ⟨_, rfl⟩
    rw [hP] at HA
    have HA2 := Lib.hid HA
    have HC := Lib.hid hc
    have HP := Lib.hid hP
    clear HA hP hp hc hM
    have c20 : w1.cell? ⟨w.heap.size, 0, none⟩ = some (.slice B Rs.length c) := b21.cell 0
    have c21 : w1.cell? ⟨w.heap.size, 1, none⟩ = some (.int .u64 n) := b21.cell 1
    go_wp2_with fail
    refine (HA2.out _ (Below.refl _ _)).mono ?_
    rintro e w2 ⟨A2, c2, rfl, ho2, hb2⟩
    have HO := Lib.hid (own_mono (B' := w.heap.size) ho2 hb01.size)
    clear ho2
    go_wp2
    refine bodyPost_ret (v := .tuple #[.slice A2 P.length c2, .int .i64 0]) (by simp [results, Tryd.results19, go_sem]) rfl ?_
    rw [HC.out, HP.out]
    exact ⟨A2, c2, rfl, HO.out, bext hb01 hb2⟩
set_option maxHeartbeats 8000000 in
theorem count26_any (B : Option Addr) (Rs : List Rm) (c : Nat) (n : Int) (w : World) (hB : RunsAt w B Rs) (hT : tot (lvs Rs) ≤ 1000000) (hl : Rs.length ≤ 1000000) (V : Int) (hV : Hid ((if chkR (lvs Rs) = 0 then (tot (lvs Rs) : Int) else 0) = V)) :
    Calls Tryd.prog 21 #[.agg #[.slice B Rs.length c, .int .u64 n]] w fun r w' => r = .returned (.tuple #[.int .i64 V, .int .i64 ((prR (lvs Rs)).length : Nat), .int .i64 (chkR (lvs Rs))]) ∧ Below w.heap.size w w' := by
  obtain ⟨W0, hW0⟩ : ∃ W0, w.alloc (.cells #[.slice B Rs.length c, .int .u64 n] 25) = W0 := ⟨_, rfl⟩
  have hb0 : Below w.heap.size w W0 := by rw [← hW0]; exact (Below.refl _ _).alloc (Nat.le_refl _) _
  have b20 : Blk W0 w.heap.size 25 #[.slice B Rs.length c, .int .u64 n] := by rw [← hW0]; exact Blk.new _ _ _
  have HW0 := Lib.hid hW0
  have HB := Lib.hid (hB.below hb0)
  clear hW0 hB
  go_enter Tryd.func21, Tryd.ntmps21
  go_wp2_with fail
  rw [HW0.out]
  refine (may26_any B Rs c n _ HB.out hT hl).mono ?_
  obtain ⟨M, hM⟩ : ∃ M, mayB (lvs Rs) = M := ⟨_, rfl⟩
  rw [hM]
  rintro e w1 ⟨rfl, hb1⟩
  have hb01 := bext hb0 hb1
  have b21 := b20.below hb1 b20.lt
  cases M with
  | false =>
    have hc : chkR (lvs Rs) = 8 := by rw [chkR_may, hM]; rfl
    have hp : prR (lvs Rs) = [] := prR_bad (by rw [hc]; simp)
    have HC := Lib.hid hc
    have HP := Lib.hid hp
    clear hc hp hM
    go_wp2
    refine bodyPost_ret (v := .tuple #[.int .i64 0, .int .i64 0, .int .i64 8]) (by simp [results, Tryd.results21, go_sem]) rfl ?_
    have hv := hV.out
    rw [HC.out, if_neg (by simp)] at hv
    rw [HC.out, HP.out, ← hv]
    exact ⟨by first | rfl | simp, hb01⟩
  | true =>
    have hc : chkR (lvs Rs) = 0 := by rw [chkR_may, hM]; rfl
    have hp : prR (lvs Rs) = plainE (allE (inS Rs)) := by unfold prR; rw [if_pos hc, plain_all]
    have HQ := Lib.hid (rm_le (chkR_zero.1 hc))
    have HA := fun W (hW : Below w1.heap.size w1 W) => all26_any B Rs c n W ((HB.out.below hb1).below hW) hl HQ.out.1 hT
    have HE0 := fun W (hW : Below w1.heap.size w1 W) => entries26_any B Rs c n W ((HB.out.below hb1).below hW) hT hl
    rw [← hp] at HA
    obtain ⟨P, hP⟩ : ∃ P, prR (lvs Rs) = P := ⟨_, rfl⟩
    rw [hP] at HA
    have HA2 := Lib.hid HA
    obtain ⟨T, hTT⟩ : ∃ T, tot (lvs Rs) = T := ⟨_, rfl⟩
    rw [hTT] at HE0
    have HE := Lib.hid HE0
    have HC := Lib.hid hc
    have HP := Lib.hid hP
    have HT := Lib.hid hTT
    have hp6 : P.length ≤ 1000000 := by rw [← hP, prR_len hc]; exact Nat.le_trans allL_le hT
    clear HA HE0 hP hp hc hM hT hTT
    have c20 : w1.cell? ⟨w.heap.size, 0, none⟩ = some (.slice B Rs.length c) := b21.cell 0
    have c21 : w1.cell? ⟨w.heap.size, 1, none⟩ = some (.int .u64 n) := b21.cell 1
    have i1 := b21.lt
    go_upto_region 3 with fail
    go_region_held3 (fun w' => (∀ bq jq, bq < w1.heap.size → w'.cell? ⟨bq, jq, none⟩ = w1.cell? ⟨bq, jq, none⟩) ∧ (∀ bq jq, bq < w1.heap.size → w'.frozen? ⟨bq, jq, none⟩ = w1.frozen? ⟨bq, jq, none⟩) ∧ w1.heap.size ≤ w'.heap.size ∧ Below w1.heap.size w1 w') ((with_reducible first | exact SB.init | exact SB.init0 | exact SB.below (by assumption) (by assumption) | assumption))
      (first
        | (go_at_call 59; refine (HE.out _ (SB.bel (by assumption))).mono ?_; rintro e22 v22 ⟨rfl, hv22⟩; have hl22 := SB.le hv22 (by assumption); obtain ⟨hc22, hz22, hs22⟩ := wfacts hv22)
        | (go_at_call 58; refine (HA2.out _ (SB.bel (by assumption))).mono ?_; rintro e23 v23 ⟨A23, c23, rfl, ho23, hv23⟩; clear ho23; have hl23 := SB.le hv23 (by assumption); obtain ⟨hc23, hz23, hs23⟩ := wfacts hv23)
        | fail "no arm")
    all_goals
      go_wp2_with fail
      refine bodyPost_ret (v := .tuple #[.int .i64 (T : Int), .int .i64 (P.length : Int), .int .i64 0]) (by simp [results, Tryd.results21, go_sem]) rfl ?_
      have hv := hV.out
      rw [HC.out, if_pos rfl, HT.out] at hv
      rw [HC.out, HP.out, ← hv]
      exact ⟨rfl, bext hb01 (SB.bel (by assumption))⟩
set_option maxHeartbeats 8000000 in
theorem get26_any (B : Option Addr) (Rs : List Rm) (c : Nat) (n : Int) (key : Int) (w : World) (hB : RunsAt w B Rs) (hT : tot (lvs Rs) ≤ 1000000) (hl : Rs.length ≤ 1000000) :
    Calls Tryd.prog 22 #[.agg #[.slice B Rs.length c, .int .u64 n], .int .i64 key] w (GivesX (gxR (lvs Rs) key) (geR (lvs Rs) key) w) := by
  obtain ⟨W0, hW0⟩ : ∃ W0, (w.alloc (.cells #[.slice B Rs.length c, .int .u64 n] 25)).alloc (.cells #[.int .i64 0, .int .i64 0, .bool false] 27) = W0 := ⟨_, rfl⟩
  have hb0 : Below w.heap.size w W0 := by rw [← hW0]; exact ((Below.refl _ _).alloc (Nat.le_refl _) _).alloc (by simp) _
  have b20 : Blk W0 w.heap.size 25 #[.slice B Rs.length c, .int .u64 n] := by rw [← hW0]; exact (Blk.new _ _ _).alloc _
  have bR0 : Blk W0 (w.heap.size + 1) 27 #[.int .i64 0, .int .i64 0, .bool false] := by
    rw [← hW0]
    have := Blk.new (w.alloc (.cells #[.slice B Rs.length c, .int .u64 n] 25)) 27 #[.int .i64 0, .int .i64 0, .bool false]
    rwa [World.size_alloc] at this
  have HW0 := Lib.hid hW0
  have HB := Lib.hid (hB.below hb0)
  clear hW0 hB
  go_enter Tryd.func22, Tryd.ntmps22
  go_wp2_with fail
  rw [HW0.out]
  refine (may26_any B Rs c n _ HB.out hT hl).mono ?_
  obtain ⟨M, hM⟩ : ∃ M, mayB (lvs Rs) = M := ⟨_, rfl⟩
  rw [hM]
  rintro e w1 ⟨rfl, hb1⟩
  have hb01 := bext hb0 hb1
  have b21 := b20.below hb1 b20.lt
  have bR1 := bR0.below hb1 bR0.lt
  cases M with
  | false =>
    have hc : chkR (lvs Rs) = 8 := by rw [chkR_may, hM]; rfl
    have HG := Lib.hid (gR_bad key (by rw [hc]; simp))
    have HE := Lib.hid hc
    have d0 : w1.cell? ⟨w.heap.size + 1, 0, none⟩ = some (.int .i64 0) := bR1.cell 0
    have d1 : w1.cell? ⟨w.heap.size + 1, 1, none⟩ = some (.int .i64 0) := bR1.cell 1
    have d2 : w1.cell? ⟨w.heap.size + 1, 2, none⟩ = some (.bool false) := bR1.cell 2
    have f0 := bR1.frozen 0
    have f1 := bR1.frozen 1
    have f2 := bR1.frozen 2
    clear hc hM
    go_wp2_with fail
    have bFz := put3 bR1 (.int .i64 0) (.int .i64 0) (.bool false)
    have e0z := bFz.cell 0
    have e1z := bFz.cell 1
    have e2z := bFz.cell 2
    simp only [List.getElem?_toArray, List.getElem?_cons_zero, List.getElem?_cons_succ] at e0z e1z e2z
    refine bodyPost_ret (v := .tuple #[.agg #[.int .i64 0, .int .i64 0, .bool false], .int .i64 8]) (by simp [results, Tryd.results22, go_sem, e0z, e1z, e2z]) rfl ?_
    unfold GivesX
    rw [HG.out.1, HG.out.2, HE.out]
    exact ⟨rfl, below3 hb01 (Nat.le_succ _) _ _ _⟩
  | true =>
  have hc : chkR (lvs Rs) = 0 := by rw [chkR_may, hM]; rfl
  have HQ := Lib.hid (rm_le' hc)
  have HX : Hid (gxR (lvs Rs) key = (newest (lvs Rs) key).getD zeroE) := by show _ = _; unfold gxR; rw [if_pos hc]
  have HG : Hid (geR (lvs Rs) key = if (newest (lvs Rs) key).isSome then 0 else 6) := by show _ = _; unfold geR; rw [if_pos hc]
  clear hc hM
  have c20 : w1.cell? ⟨w.heap.size, 0, none⟩ = some (.slice B Rs.length c) := b21.cell 0
  go_wp2_with fail
  refine (newest_any B Rs c key _ (HB.out.below hb1) HQ.out.1 HQ.out.2).mono ?_
  have hlv : Rs.map Rm.l = lvs Rs := rfl
  rw [hlv]
  obtain ⟨o, ho⟩ : ∃ o, newest (lvs Rs) key = o := ⟨_, rfl⟩
  rw [ho]
  have HO := Lib.hid ho
  clear ho hlv
  rintro e w2 ⟨rfl, hb2⟩
  have bR1 := bR1.below hb2 bR1.lt
  obtain ⟨x, hx⟩ : ∃ x, o.getD zeroE = x := ⟨_, rfl⟩
  rw [hx]
  have HXX := Lib.hid hx
  have ba : Below w2.heap.size w2 (w2.alloc (.cells #[.int .i64 x.key, .int .i64 x.val, .bool x.dead] 27)) := (Below.refl _ _).alloc (Nat.le_refl _) _
  have bB : Blk (w2.alloc (.cells #[.int .i64 x.key, .int .i64 x.val, .bool x.dead] 27)) w2.heap.size 27 #[.int .i64 x.key, .int .i64 x.val, .bool x.dead] := Blk.new _ _ _
  have bR1 := bR1.below ba bR1.lt
  have hb03 := bext hb01 (bext hb2 ba)
  clear c20 b21 hx
  go_upto_region 4 with fail
  obtain ⟨W3, hW3⟩ : ∃ W3, w2.alloc (.cells #[.int .i64 x.key, .int .i64 x.val, .bool x.dead] 27) = W3 := ⟨_, rfl⟩
  rw [hW3] at ba bB bR1 hb03
  try rw [hW3]
  have d0 : W3.cell? ⟨w.heap.size + 1, 0, none⟩ = some (.int .i64 0) := bR1.cell 0
  have d1 : W3.cell? ⟨w.heap.size + 1, 1, none⟩ = some (.int .i64 0) := bR1.cell 1
  have d2 : W3.cell? ⟨w.heap.size + 1, 2, none⟩ = some (.bool false) := bR1.cell 2
  have f0 := bR1.frozen 0
  have f1 := bR1.frozen 1
  have f2 := bR1.frozen 2
  have b0 : W3.cell? ⟨w2.heap.size, 0, none⟩ = some (.int .i64 x.key) := bB.cell 0
  have b1 : W3.cell? ⟨w2.heap.size, 1, none⟩ = some (.int .i64 x.val) := bB.cell 1
  have b2 : W3.cell? ⟨w2.heap.size, 2, none⟩ = some (.bool x.dead) := bB.cell 2
  clear hW3 ba
  cases o with
  | none =>
    go_wp2_with fail
    have bFz := put3 bR1 (.int .i64 0) (.int .i64 0) (.bool false)
    have e0z := bFz.cell 0
    have e1z := bFz.cell 1
    have e2z := bFz.cell 2
    simp only [List.getElem?_toArray, List.getElem?_cons_zero, List.getElem?_cons_succ] at e0z e1z e2z
    refine bodyPost_ret (v := .tuple #[.agg #[.int .i64 0, .int .i64 0, .bool false], .int .i64 6]) (by simp [results, Tryd.results22, go_sem, e0z, e1z, e2z]) rfl ?_
    unfold GivesX
    rw [HX.out, HG.out, HO.out]
    exact ⟨rfl, below3 hb03 (Nat.le_succ _) _ _ _⟩
  | some y =>
    have HZ : Hid (x = y) := HXX.out.symm
    go_wp2_with fail
    have bFy := put3 bR1 (.int .i64 x.key) (.int .i64 x.val) (.bool x.dead)
    have e0y := bFy.cell 0
    have e1y := bFy.cell 1
    have e2y := bFy.cell 2
    simp only [List.getElem?_toArray, List.getElem?_cons_zero, List.getElem?_cons_succ] at e0y e1y e2y
    refine bodyPost_ret (v := .tuple #[.agg #[.int .i64 x.key, .int .i64 x.val, .bool x.dead], .int .i64 0]) (by simp [results, Tryd.results22, go_sem, e0y, e1y, e2y]) rfl ?_
    unfold GivesX
    rw [HX.out, HG.out, HO.out]
    exact ⟨by rw [HZ.out]; rfl, below3 hb03 (Nat.le_succ _) _ _ _⟩
end Go.Proofs.YthbppblmecdekaaDoor

/- Structs compared: entries and pairs. No walk. -/
namespace Go.Proofs.YthbppblmecdekaaDoor
open Go Go.RowKit
set_option maxRecDepth 100000
def eqX (a b : Ent) : Bool := decide (a = b)
theorem eqX_self (a : Ent) : eqX a a = true := decide_eq_true rfl
theorem run_eql_ent (a b : Ent) (w : World) :
    (binOp .eql 27 (.agg #[.int .i64 a.key, .int .i64 a.val, .bool a.dead]) (.agg #[.int .i64 b.key, .int .i64 b.val, .bool b.dead])).run Tryd.prog w = .ok (.bool (eqX a b)) w := by
  have h3 := Tryd.underlying27
  obtain ⟨k, v, d⟩ := a
  obtain ⟨k', v', d'⟩ := b
  simp only [go_sem, h3]
  simp [go_sem, eqX]
  by_cases hk : k = k' <;> by_cases hv : v = v' <;> by_cases hd : d = d' <;> simp [hk, hv, hd]
theorem tab_below' {g : Nat} {w w' : World} (h : TabAt g Lib.deBruijn64tab w) (hb : Below w.heap.size w w') : TabAt g Lib.deBruijn64tab w' := tab_below (tab_lt h) h hb
def eqP (a b : Pr) : Bool := decide (a = b)
theorem run_eql_pr (a b : Pr) (w : World) :
    (binOp .eql 56 (.agg #[.int .i64 a.key, .int .i64 a.val]) (.agg #[.int .i64 b.key, .int .i64 b.val])).run Tryd.prog w = .ok (.bool (eqP a b)) w := by
  have h3 := Tryd.underlying56
  obtain ⟨k, v⟩ := a
  obtain ⟨k', v'⟩ := b
  simp only [go_sem, h3]
  simp [go_sem, eqP]
  by_cases hk : k = k' <;> by_cases hv : v = v' <;> simp [hk, hv]
theorem met_succ {m : List Pr} {k : Nat} (h : k < m.length) (q : Pr) : decide (q ∈ m.take (k + 1)) = (decide (q ∈ m.take k) || eqP (m[k]'h) q) := by
  have h0 : q ∈ m.take (k + 1) ↔ q ∈ m.take k ∨ q = m[k]'h := by rw [List.take_succ_eq_append_getElem h, List.mem_append, List.mem_singleton]
  unfold eqP
  rw [Bool.eq_iff_iff, decide_eq_true_iff, h0, Bool.or_eq_true, decide_eq_true_iff, decide_eq_true_iff]
  exact ⟨fun h => h.imp id Eq.symm, fun h => h.imp id Eq.symm⟩
end Go.Proofs.YthbppblmecdekaaDoor
