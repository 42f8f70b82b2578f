/- Ku Gt Gu Gv Kte Ri Rx: texts of the claim, in this order. -/
import Derived.Test.YtolclahkfmplfaaDoorWk6
import Derived.IntWalk
import Derived.Test.YtolclahkfmplfaaDoorWk3
import Derived.Deep.RegionHeld3
import Derived.Orders
import Derived.RegionTactic
import Derived.Test.YtolclahkfmplfaaDoorWk5
/- Small facts on runs in new memory (as in Ktw, for seats without KwayTwo). -/
namespace Go.Proofs.YtolclahkfmplfaaDoor
open Go Go.RowKit
set_option maxRecDepth 100000

/-- a run of the call's own, in a box at g -/
structure BoxAt (w : World) (B g : Nat) (l : List Ent) (A : Option Addr) (c : Nat) : Prop where
  cell : w.cell? ⟨g, 0, none⟩ = some (.slice A l.length c)
  own : w.ownsRow B 29 3 (.slice A l.length c) l.length (l.flatMap Ent.cells)
  lc : l.length ≤ c
  cm : c ≤ maxLen
  lt : g < w.heap.size
theorem GivesTwin.form {l : List Ent} {w : World} {r : Ending} {w' : World} (h : GivesTwin l w r w') : ∃ A c B, Hid (B = w.heap.size) ∧ r = .returned (.agg #[.slice A l.length c]) ∧ (w'.ownsRow B 29 3 (.slice A l.length c) l.length (l.flatMap Ent.cells) ∧ l.length ≤ c ∧ c ≤ maxLen) ∧ Below w.heap.size w w' := by
  obtain ⟨A, c, h1, h2, h3⟩ := h
  obtain ⟨A', c', h4, h5, h6⟩ := own_form h2
  obtain ⟨rfl, rfl⟩ : A = A' ∧ c = c' := by simpa using h4
  exact ⟨A, c, _, rfl, h1, ⟨h2, h5, h6⟩, h3⟩
theorem GivesRun.form {t : TypeId} {m : List Ent} {e : Int} {w : World} {r : Ending} {w' : World} (h : GivesRun t m e w r w') : ∃ A c B, Hid (B = w.heap.size) ∧ r = .returned (.tuple #[.agg #[.slice A m.length c], .int .i64 e]) ∧ (w'.ownsRow B t 3 (.slice A m.length c) m.length (m.flatMap Ent.cells) ∧ m.length ≤ c ∧ c ≤ maxLen) ∧ Below w.heap.size w w' := by
  obtain ⟨A, c, h1, h2, h3⟩ := h
  obtain ⟨A', c', h4, h5, h6⟩ := own_form h2
  obtain ⟨rfl, rfl⟩ : A = A' ∧ c = c' := by simpa using h4
  exact ⟨A, c, _, rfl, h1, ⟨h2, h5, h6⟩, h3⟩
theorem drew_hs (w : World) : w.drew.heap.size = w.heap.size := rfl
theorem own_al {w : World} {B s n : Nat} {e : TypeId} {v : Value} {xs : List Value} (h : w.ownsRow B e s v n xs) (o : Obj) : (w.alloc o).ownsRow B e s v n xs := h.alloc o
theorem own_dr {w : World} {B s n : Nat} {e : TypeId} {v : Value} {xs : List Value} (h : w.ownsRow B e s v n xs) : w.drew.ownsRow B e s v n xs := h

end Go.Proofs.YtolclahkfmplfaaDoor

/- Contracts: run.Get and Next, kway.Find, and the references'; copies of runs. -/
namespace Go.Proofs.YtolclahkfmplfaaDoor
open Go Go.RowKit
set_option maxRecDepth 100000

theorem put3 {w : World} {g : Nat} {t : TypeId} {x0 x1 x2 : Value} (h : Blk w g t #[x0, x1, x2]) (y0 y1 y2 : Value) : Blk (((w.setCell ⟨g, 0, none⟩ y0).setCell ⟨g, 1, none⟩ y1).setCell ⟨g, 2, none⟩ y2) g t #[y0, y1, y2] := by
  have := ((h.set_ 0 y0).set_ 1 y1).set_ 2 y2
  simpa using this
theorem below3 {B : Nat} {a w : World} {g : Nat} (h : Below B a w) (hg : B ≤ g) (y0 y1 y2 : Value) : Below B a (((w.setCell ⟨g, 0, none⟩ y0).setCell ⟨g, 1, none⟩ y1).setCell ⟨g, 2, none⟩ y2) :=
  ((h.setCell (p := ⟨g, 0, none⟩) hg _).setCell (p := ⟨g, 1, none⟩) hg _).setCell (p := ⟨g, 2, none⟩) hg _
/-- hands back an entry and an error -/
def GivesX (x : Ent) (e : Int) (w : World) (r : Ending) (w' : World) : Prop := r = .returned (.tuple #[.agg #[.int .i64 x.key, .int .i64 x.val, .bool x.dead], .int .i64 e]) ∧ Below w.heap.size w w'
/-- hands back an entry, if there is one -/
def GivesO (o : Option Ent) (w : World) (r : Ending) (w' : World) : Prop := r = .returned (.tuple #[.agg #[.int .i64 (o.getD zeroE).key, .int .i64 (o.getD zeroE).val, .bool (o.getD zeroE).dead], .bool o.isSome]) ∧ Below w.heap.size w w'

set_option maxHeartbeats 1000000 in
theorem runGet_any (A : Option Addr) (l : List Ent) (c : Nat) (key : Int) (w : World) (hA : Sl w A (l.flatMap Ent.cells)) (hl : l.length ≤ 4611686018427387903) (hT : TabAt 1 Lib.deBruijn64tab w) :
    Calls Tryd.prog 13 #[.agg #[.slice A l.length c], .int .i64 key] w (GivesX (gtX l key) (gtE l key) w) := by
  obtain ⟨W0, hW0⟩ : ∃ W0, (w.alloc (.cells #[.slice A l.length c] 24)).alloc (.cells #[.int .i64 0, .int .i64 0, .bool false] 29) = W0 := ⟨_, rfl⟩
  have hb0 : Below w.heap.size w W0 := by rw [← hW0]; exact ((Below.refl _ _).alloc (Nat.le_refl _) _).alloc (by simp) _
  have bX0 : Blk W0 w.heap.size 24 #[.slice A l.length c] := by rw [← hW0]; exact (Blk.new _ _ _).alloc _
  have bR0 : Blk W0 (w.heap.size + 1) 29 #[.int .i64 0, .int .i64 0, .bool false] := by
    rw [← hW0]
    have := Blk.new (w.alloc (.cells #[.slice A l.length c] 24)) 29 #[.int .i64 0, .int .i64 0, .bool false]
    rwa [World.size_alloc] at this
  have cX0 : W0.cell? ⟨w.heap.size, 0, none⟩ = some (.slice A l.length c) := bX0.cell 0
  have hT0 := Lib.hid (tab_below (tab_lt hT) hT hb0)
  have HA := Lib.hid hA
  obtain ⟨g1, g2, g3⟩ := gt_fd l key
  obtain ⟨E, hE⟩ : ∃ E, gtE l key = E := ⟨_, rfl⟩
  obtain ⟨at_, hat⟩ : ∃ at_, fdAt l key = at_ := ⟨_, rfl⟩
  obtain ⟨p, hp⟩ : ∃ p, gtX l key = p := ⟨_, rfl⟩
  rw [hE, hp]
  rw [hE] at g1
  rw [← g1, hp, hat] at g2
  rw [← g1, hp] at g3
  have HG := Lib.hid (And.intro g1 (And.intro g2 g3))
  have HAT := Lib.hid hat
  clear hE hat hp g1 g2 g3 hA hT
  go_enter Tryd.func13, Tryd.ntmps13
  go_wp2_with fail
  try rw [hW0]
  clear hW0 cX0
  refine (find_any A l c key _ (HA.out.below hb0) hl hT0.out).mono ?_
  unfold GivesII
  rw [← HG.out.1, HAT.out]
  rintro e w1 ⟨rfl, hb1⟩
  have bX1 := bX0.below hb1 bX0.lt
  have bR1 := bR0.below hb1 bR0.lt
  have hb01 := bext hb0 hb1
  have cX1 : w1.cell? ⟨w.heap.size, 0, none⟩ = some (.slice A l.length c) := bX1.cell 0
  have d0 : w1.cell? ⟨w.heap.size + 1, 0, none⟩ = some (.int .i64 0) := bR1.cell 0
  have d1 : w1.cell? ⟨w.heap.size + 1, 1, none⟩ = some (.int .i64 0) := bR1.cell 1
  have d2 : w1.cell? ⟨w.heap.size + 1, 2, none⟩ = some (.bool false) := bR1.cell 2
  have f0 := bR1.frozen 0
  have f1 := bR1.frozen 1
  have f2 := bR1.frozen 2
  by_cases h0 : E = 0
  · subst h0
    obtain ⟨hlt, hpe⟩ := HG.out.2.1 rfl
    rw [entAt_get hlt] at hpe
    obtain ⟨b, off, rfl, hbl, c1, c2, c3⟩ := HA.out.entB hb01 at_ hlt
    rw [← hpe] at c1 c2 c3
    have i0 : (0 : Int) ≤ (at_ : Int) := by omega
    have i1 : (at_ : Int) < (l.length : Int) := by omega
    clear hpe
    go_wp2_with fail
    have bFy := put3 bR1 (.int .i64 p.key) (.int .i64 p.val) (.bool p.dead)
    have e0y := bFy.cell 0
    have e1y := bFy.cell 1
    have e2y := bFy.cell 2
    simp only [List.getElem?_toArray, List.getElem?_cons_zero, List.getElem?_cons_succ] at e0y e1y e2y
    refine bodyPost_ret (v := .tuple #[.agg #[.int .i64 p.key, .int .i64 p.val, .bool p.dead], .int .i64 0]) (by simp [results, Tryd.results13, go_sem, e0y, e1y, e2y]) rfl ?_
    exact ⟨rfl, below3 hb01 (Nat.le_succ _) _ _ _⟩
  · have hz := HG.out.2.2 h0
    subst hz
    have h1 : (E != 0) = true := by simpa using h0
    clear h0
    go_wp2_with fail
    have bFz := put3 bR1 (.int .i64 0) (.int .i64 0) (.bool false)
    have e0z := bFz.cell 0
    have e1z := bFz.cell 1
    have e2z := bFz.cell 2
    simp only [List.getElem?_toArray, List.getElem?_cons_zero, List.getElem?_cons_succ] at e0z e1z e2z
    refine bodyPost_ret (v := .tuple #[.agg #[.int .i64 0, .int .i64 0, .bool false], .int .i64 E]) (by simp [results, Tryd.results13, go_sem, e0z, e1z, e2z]) rfl ?_
    exact ⟨rfl, below3 hb01 (Nat.le_succ _) _ _ _⟩

end Go.Proofs.YtolclahkfmplfaaDoor

/- Contracts: the reference's Get, Newest, kway.Find, the reference's Find; copies of runs, and whether runs are the same. -/
namespace Go.Proofs.YtolclahkfmplfaaDoor
open Go Go.RowKit
set_option maxRecDepth 100000




theorem run_info1 : (Tryd.prog.info? 24).map (fun i => (i.zero, i.size, i.bytes)) = some (some (.agg #[.slice none 0 0]), 1, 24) := by kernel_rfl
/-- hands back copies of runs, in new memory -/
def GivesTwins (ls : List (List Ent)) (w : World) (r : Ending) (w' : World) : Prop :=
  ∃ (A : Option Addr) (c : Nat) (Ts : List Rm), r = .returned (.slice A Ts.length c) ∧ Ts.map Rm.l = ls ∧ RunsAt w' A Ts ∧ Below w.heap.size w w'

end Go.Proofs.YtolclahkfmplfaaDoor

/- Contract: kway.Find. -/
namespace Go.Proofs.YtolclahkfmplfaaDoor
open Go Go.RowKit
set_option maxRecDepth 100000

def isE (o : Option Ent) : Int := if o.isSome then 0 else 6
theorem isE_none : isE none = 6 := rfl
theorem isE_some (x : Ent) : isE (some x) = 0 := rfl
/-- what stands in memory while runs are looked through -/
structure Fst (w : World) (o : Option Ent) (wr : World) : Prop where
  bel : Below w.heap.size w wr
  br : Blk wr w.heap.size 29 #[.int .i64 0, .int .i64 0, .bool false]
  bf : Blk wr (w.heap.size + 1) 29 #[.int .i64 (o.getD zeroE).key, .int .i64 (o.getD zeroE).val, .bool (o.getD zeroE).dead]

set_option maxHeartbeats 4000000 in
theorem kfind_any (B : Option Addr) (Rs : List Rm) (c : Nat) (key : Int) (w : World) (hB : RunsAt w B Rs) (hl : Rs.length ≤ 4611686018427387903) (hrs : ∀ r ∈ Rs, r.l.length ≤ 4611686018427387903) (hT : TabAt 1 Lib.deBruijn64tab w) :
    Calls Tryd.prog 5 #[.slice B Rs.length c, .int .i64 key] w (GivesX (kfX (Rs.map Rm.l) key) (kfE (Rs.map Rm.l) key) w) := by
  obtain ⟨W0, hW0⟩ : ∃ W0, (w.alloc (.cells #[.int .i64 0, .int .i64 0, .bool false] 29)).alloc (.cells #[.int .i64 0, .int .i64 0, .bool false] 29) = W0 := ⟨_, rfl⟩
  have hb0 : Below w.heap.size w W0 := by rw [← hW0]; exact ((Below.refl _ _).alloc (Nat.le_refl _) _).alloc (by simp) _
  have bR0 : Blk W0 w.heap.size 29 #[.int .i64 0, .int .i64 0, .bool false] := by rw [← hW0]; exact (Blk.new _ _ _).alloc _
  have bF0 : Blk W0 (w.heap.size + 1) 29 #[.int .i64 0, .int .i64 0, .bool false] := by
    rw [← hW0]
    have := Blk.new (w.alloc (.cells #[.int .i64 0, .int .i64 0, .bool false] 29)) 29 #[.int .i64 0, .int .i64 0, .bool false]
    rwa [World.size_alloc] at this
  have hF0 : Fst w none W0 := ⟨hb0, bR0, bF0⟩
  obtain ⟨rs, hrs2⟩ : ∃ rs, Rs.map Rm.l = rs := ⟨_, rfl⟩
  rw [hrs2]
  have hln : rs.length = Rs.length := by rw [← hrs2]; simp
  obtain ⟨X1, hX1⟩ : ∃ X1, kfX rs key = X1 := ⟨_, rfl⟩
  obtain ⟨G1, hG1⟩ : ∃ G1, kfE rs key = G1 := ⟨_, rfl⟩
  rw [hX1, hG1]
  have HX1 := Lib.hid hX1
  have HG1 := Lib.hid hG1
  have HRS := Lib.hid hrs2
  have HB := Lib.hid hB
  have HLN := Lib.hid hln
  have HHR := Lib.hid hrs
  have HT := Lib.hid hT
  have HF0 := Lib.hid hF0
  have hTl := tab_lt hT
  have HW0 := Lib.hid hW0
  clear hB hrs2 hln hrs hX1 hG1 hT hF0 hb0 bR0 bF0 hW0
  go_enter Tryd.func5, Tryd.ntmps5
  go_wp2_with fail
  try rw [HW0.out]
  clear HW0
  go_loopw [7, 15] (fun v i wr => ∃ (k : Nat) (o : Option Ent) (E : Int), k ≤ Rs.length ∧ i = .int .i64 k ∧ v = .int .i64 E ∧ Hid (E = isE o) ∧ Hid (o = newest (rs.take k) key) ∧ Hid (chkAllE (rs.take k) = 0) ∧ Hid (Fst w o wr)) (fun _ i _ => Rs.length - (intOf i).toNat)
  case atStart => exact ⟨0, none, 6, Nat.zero_le _, rfl, rfl, rfl, rfl, rfl, HF0.out⟩
  case round =>
    obtain ⟨k, o, E, hk, rfl, rfl, hE, ho, hC, hF⟩ := hrel
    by_cases hlt : k < Rs.length
    · have hltr : k < rs.length := by rw [HLN.out]; exact hlt
      obtain ⟨hs1, hs2⟩ := chkAll_take hltr hC.out
      have hs3 := newest_succ hltr key
      have hg : rs[k]'hltr = (Rs[k]'hlt).l := by have := HRS.out; subst this; simp
      rw [hg] at hs1 hs2 hs3
      rw [← ho.out] at hs3
      have hbw := hF.out.bel
      obtain ⟨b, off, rfl, hbl, cp⟩ := HB.out.sl.oneB hbw k hlt
      have hok := (HB.out.ok _ (List.getElem_mem hlt)).below hbw
      have hrl := HHR.out _ (List.getElem_mem hlt)
      obtain ⟨r, hr⟩ : ∃ r, Rs[k]'hlt = r := ⟨_, rfl⟩
      rw [hr] at hs1 hs2 hs3 cp hok hrl
      obtain ⟨l, A, cl⟩ := r
      have cp1 : wr.cell? ⟨b, off + k, none⟩ = some (.slice A l.length cl) := cp
      dsimp only at hs1 hs2 hs3 hrl
      have i0 : (0 : Int) ≤ (k : Int) := by omega
      have i1 : (k : Int) < (Rs.length : Int) := by omega
      have ba0 : Below wr.heap.size wr (wr.alloc (.cells #[.slice A l.length cl] 24)) := (Below.refl _ _).alloc (Nat.le_refl _) _
      have HOK := Lib.hid (hok.sl.below ba0)
      have HTB := Lib.hid (tab_below hTl HT.out (bext hbw ba0))
      have HBA0 := Lib.hid ba0
      have lw : w.heap.size + 1 < wr.heap.size := hF.out.bf.lt
      obtain ⟨f, hf⟩ : ∃ f, gtE l key = f := ⟨_, rfl⟩
      obtain ⟨y, hy⟩ : ∃ y, gtX l key = y := ⟨_, rfl⟩
      have HFE := Lib.hid hf
      have HFX := Lib.hid hy
      have HS1 := Lib.hid hs1
      have HS2 := Lib.hid hs2
      have HS3 := Lib.hid hs3
      clear cp hg hr hok hf hy hs1 hs2 hs3 ba0 hbw
      go_wp2_with fail
      refine (runGet_any A l cl key _ HOK.out hrl HTB.out).mono ?_
      rw [HFE.out, HFX.out]
      rintro e w2 ⟨rfl, hb2⟩
      have hb02 := bext HBA0.out hb2
      have ba : Below w2.heap.size w2 (w2.alloc (.cells #[.int .i64 y.key, .int .i64 y.val, .bool y.dead] 29)) := (Below.refl _ _).alloc (Nat.le_refl _) _
      have bY : Blk (w2.alloc (.cells #[.int .i64 y.key, .int .i64 y.val, .bool y.dead] 29)) w2.heap.size 29 #[.int .i64 y.key, .int .i64 y.val, .bool y.dead] := Blk.new _ _ _
      have hb3 := bext hb02 ba
      clear cp1 hb2
      go_upto_region 6 with fail
      obtain ⟨W3, hW3⟩ : ∃ W3, w2.alloc (.cells #[.int .i64 y.key, .int .i64 y.val, .bool y.dead] 29) = W3 := ⟨_, rfl⟩
      rw [hW3] at ba bY hb3
      try rw [hW3]
      have bR1 := hF.out.br.below hb3 (by omega)
      have bF1 := hF.out.bf.below hb3 lw
      have hb4 := bext hF.out.bel hb3
      have d0y : W3.cell? ⟨w2.heap.size, 0, none⟩ = some (.int .i64 y.key) := bY.cell 0
      have d1y : W3.cell? ⟨w2.heap.size, 1, none⟩ = some (.int .i64 y.val) := bY.cell 1
      have d2y : W3.cell? ⟨w2.heap.size, 2, none⟩ = some (.bool y.dead) := bY.cell 2
      have f0y := bY.frozen 0
      have f1y := bY.frozen 1
      have f2y := bY.frozen 2
      clear hW3 ba f0y f1y f2y
      have hv := gt_vals l key
      rw [HFE.out] at hv
      by_cases hc : chkE l = 0
      · have hf06 : f = 0 ∨ f = 6 := by
          rcases hv with h | h | h
          · exact .inl h
          · exact .inr h
          · exact absurd hc h.1
        have HC2 : Hid (chkAllE (rs.take (k + 1)) = 0) := by show _ = _; rw [HS1.out]; exact hc
        clear hv
        rcases hf06 with rfl | rfl
        · have hsome : ∃ x, look l key = some x := by
            have h := HFE.out
            unfold gtE at h
            rw [if_pos hc] at h
            cases hl2 : look l key with
            | none => rw [hl2] at h; simp at h
            | some x => exact ⟨x, rfl⟩
          obtain ⟨x, hx⟩ := hsome
          have hyx : y = x := by have h := HFX.out; unfold gtX at h; rw [if_pos hc, hx] at h; exact h.symm
          have hnew : newest (rs.take (k + 1)) key = o.or (some x) := by rw [HS3.out, hx]
          have HYX := Lib.hid hyx
          have HNW := Lib.hid hnew
          clear hyx hnew hx hc
          cases o with
          | none =>
            have hE6 : E = 6 := hE.out
            subst hE6
            have d0 : W3.cell? ⟨w.heap.size + 1, 0, none⟩ = some (.int .i64 0) := bF1.cell 0
            have d1 : W3.cell? ⟨w.heap.size + 1, 1, none⟩ = some (.int .i64 0) := bF1.cell 1
            have d2 : W3.cell? ⟨w.heap.size + 1, 2, none⟩ = some (.bool false) := bF1.cell 2
            have f0 := bF1.frozen 0
            have f1 := bF1.frozen 1
            have f2 := bF1.frozen 2
            go_wp2_with fail
            have bF2 := put3 bF1 (.int .i64 y.key) (.int .i64 y.val) (.bool y.dead)
            go_roundw
            case rel =>
              refine ⟨k + 1, some y, 0, by omega, by go_num, rfl, rfl, ?_, HC2, ⟨below3 hb4 (Nat.le_succ _) _ _ _, ?_, bF2⟩⟩
              · show _ = _
                rw [HNW.out, HYX.out]; rfl
              · exact ((bR1.far (p := ⟨w.heap.size + 1, 0, none⟩) (Nat.ne_of_lt (Nat.lt_succ_self _)) _).far (p := ⟨w.heap.size + 1, 1, none⟩) (Nat.ne_of_lt (Nat.lt_succ_self _)) _).far (p := ⟨w.heap.size + 1, 2, none⟩) (Nat.ne_of_lt (Nat.lt_succ_self _)) _
            case measure => simp [intOf]; omega
          | some z =>
            have hE0 : E = 0 := hE.out
            subst hE0
            clear d0y d1y d2y
            go_wp2_with fail
            go_roundw
            case rel => exact ⟨k + 1, some z, 0, by omega, by go_num, rfl, rfl, by show _ = _; rw [HNW.out]; rfl, HC2, ⟨hb4, bR1, bF1⟩⟩
            case measure => simp [intOf]; omega
        · have hnone : look l key = none := by
            have h := HFE.out
            unfold gtE at h
            rw [if_pos hc] at h
            cases hl2 : look l key with
            | none => rfl
            | some x => rw [hl2] at h; simp at h
          have HNW : Hid (newest (rs.take (k + 1)) key = o) := by show _ = _; rw [HS3.out, hnone, Option.or_none]
          clear hnone hc d0y d1y d2y
          go_wp2_with fail
          go_roundw
          case rel => exact ⟨k + 1, o, E, by omega, by go_num, by first | rfl | simp, hE, by show _ = _; rw [HNW.out], HC2, ⟨hb4, bR1, bF1⟩⟩
          case measure => simp [intOf]; omega
      · have hfc : f = chkE l := by
          have h := HFE.out
          unfold gtE at h
          rw [if_neg hc] at h
          exact h.symm
        have hf0 : f ≠ 0 := by rw [hfc]; exact hc
        have hf6 : f ≠ 6 := by rcases chk_vals l with h | h | h | h <;> omega
        have h1 : (f != 0) = true := by simpa using hf0
        have h2 : (f != 6) = true := by simpa using hf6
        have HA1 : Hid (chkAllE rs = f) := by show _ = _; rw [hfc]; exact HS2.out hc
        have HXZ : Hid (X1 = zeroE) := by show _ = _; rw [← HX1.out]; unfold kfX; rw [HA1.out, if_neg hf0]
        have HGF : Hid (G1 = f) := by show _ = _; rw [← HG1.out]; unfold kfE; rw [HA1.out, if_neg hf0]
        have d0 : W3.cell? ⟨w.heap.size, 0, none⟩ = some (.int .i64 0) := bR1.cell 0
        have d1 : W3.cell? ⟨w.heap.size, 1, none⟩ = some (.int .i64 0) := bR1.cell 1
        have d2 : W3.cell? ⟨w.heap.size, 2, none⟩ = some (.bool false) := bR1.cell 2
        have f0 := bR1.frozen 0
        have f1 := bR1.frozen 1
        have f2 := bR1.frozen 2
        clear hfc hf0 hf6 hv hc d0y d1y d2y
        go_wp2_with fail
        have bFz := put3 bR1 (.int .i64 0) (.int .i64 0) (.bool false)
        have e0z := bFz.cell 0
        have e1z := bFz.cell 1
        have e2z := bFz.cell 2
        simp only [List.getElem?_toArray, List.getElem?_cons_zero, List.getElem?_cons_succ] at e0z e1z e2z
        refine bodyPost_ret (v := .tuple #[.agg #[.int .i64 0, .int .i64 0, .bool false], .int .i64 f]) (by simp [results, Tryd.results5, go_sem, e0z, e1z, e2z]) rfl ?_
        rw [HXZ.out, HGF.out]
        exact ⟨rfl, below3 hb4 (Nat.le_refl _) _ _ _⟩
    · have hkn : rs.take k = rs := List.take_of_length_le (by rw [HLN.out]; omega)
      have hC2 := hC.out
      have ho2 := ho.out
      rw [hkn] at hC2 ho2
      have HXZ : Hid (X1 = o.getD zeroE) := by show _ = _; rw [← HX1.out]; unfold kfX; rw [if_pos hC2, ho2]
      have HGF : Hid (G1 = E) := by
        show _ = _
        rw [← HG1.out, hE.out, ho2]
        unfold kfE
        rw [if_pos hC2]
        rfl
      obtain ⟨x, hx⟩ : ∃ x, o.getD zeroE = x := ⟨_, rfl⟩
      have bF1 := hF.out.bf
      rw [hx] at bF1
      have HXX := Lib.hid hx
      have bR1 := hF.out.br
      have d0 : wr.cell? ⟨w.heap.size, 0, none⟩ = some (.int .i64 0) := bR1.cell 0
      have d1 : wr.cell? ⟨w.heap.size, 1, none⟩ = some (.int .i64 0) := bR1.cell 1
      have d2 : wr.cell? ⟨w.heap.size, 2, none⟩ = some (.bool false) := bR1.cell 2
      have f0 := bR1.frozen 0
      have f1 := bR1.frozen 1
      have f2 := bR1.frozen 2
      have d0y : wr.cell? ⟨w.heap.size + 1, 0, none⟩ = some (.int .i64 x.key) := bF1.cell 0
      have d1y : wr.cell? ⟨w.heap.size + 1, 1, none⟩ = some (.int .i64 x.val) := bF1.cell 1
      have d2y : wr.cell? ⟨w.heap.size + 1, 2, none⟩ = some (.bool x.dead) := bF1.cell 2
      have f0y := bF1.frozen 0
      have f1y := bF1.frozen 1
      have f2y := bF1.frozen 2
      clear hkn hC2 ho2 hx f0y f1y f2y
      go_wp2_with fail
      have bFz := put3 bR1 (.int .i64 x.key) (.int .i64 x.val) (.bool x.dead)
      have e0z := bFz.cell 0
      have e1z := bFz.cell 1
      have e2z := bFz.cell 2
      simp only [List.getElem?_toArray, List.getElem?_cons_zero, List.getElem?_cons_succ] at e0z e1z e2z
      refine bodyPost_ret (v := .tuple #[.agg #[.int .i64 x.key, .int .i64 x.val, .bool x.dead], .int .i64 E]) (by simp [results, Tryd.results5, go_sem, e0z, e1z, e2z]) rfl ?_
      rw [HXZ.out, HGF.out, HXX.out]
      exact ⟨rfl, below3 hF.out.bel (Nat.le_refl _) _ _ _⟩
end Go.Proofs.YtolclahkfmplfaaDoor

/- The law KwayTells: for every runs and key it returns true; its arguments stay as they were. -/
namespace Go.Proofs.YtolclahkfmplfaaDoor
open Go Go.RowKit
set_option maxRecDepth 100000
def eqX (a b : Ent) : Bool := decide (a = b)
theorem eqX_self (a : Ent) : eqX a a = true := decide_eq_true rfl
theorem run_eql_ent (a b : Ent) (w : World) :
    (binOp .eql 29 (.agg #[.int .i64 a.key, .int .i64 a.val, .bool a.dead]) (.agg #[.int .i64 b.key, .int .i64 b.val, .bool b.dead])).run Tryd.prog w = .ok (.bool (eqX a b)) w := by
  have h1 := ent_stood
  have h3 := Tryd.underlying29
  obtain ⟨k, v, d⟩ := a
  obtain ⟨k', v', d'⟩ := b
  simp only [go_sem, h1, h3]
  simp [go_sem, eqX]
  by_cases hk : k = k' <;> by_cases hv : v = v' <;> by_cases hd : d = d' <;> simp [hk, hv, hd]
theorem tab_below' {g : Nat} {w w' : World} (h : TabAt g Lib.deBruijn64tab w) (hb : Below w.heap.size w w') : TabAt g Lib.deBruijn64tab w' := tab_below (tab_lt h) h hb
/-- what stands in memory while keys are written over -/
structure Kw (U : World) (g h : Nat) (A C : Option Addr) (a c m n : Nat) (wr : World) : Prop where
  ba : Blk wr g 24 #[.slice A m a]
  bel : Below U.heap.size U wr
  bc : Blk wr h 24 #[.slice C n c]
  ka : Ki3 wr U.heap.size g A m
  kc : Ki3 wr U.heap.size h C n
section
variable {U wr : World} {g h a c m n : Nat} {A C : Option Addr}
theorem Ki3.other {B h h' : Nat} {A : Option Addr} {n : Nat} {w : World} {v : Value} (hk : Ki3 w B h A n) (hb : Blk w h' 24 #[v]) (hv : ∀ k, v ≠ .int .i64 k) : Ki3 w B h' A n := by
  rcases hk with h0 | ⟨g, t, cs, h1, h2, h3, h4, h5⟩
  · exact .inl h0
  · by_cases hn : n = 0
    · exact .inl hn
    refine .inr ⟨g, t, cs, h1, h2, ?_, h4, h5⟩
    rintro rfl
    obtain ⟨k, hk⟩ := h5 0 (by omega)
    have h6 := (h4.cell (0 * 3)).trans hk
    have h7 := hb.cell 0
    rw [Nat.zero_mul, h7] at h6
    simp at h6
    exact hv k h6
theorem Kw.ne (hK : Kw U g h A C a c m n wr) {gx i : Nat} {k : Int} (_hg : U.heap.size ≤ gx) (hc : wr.cell? ⟨gx, i, none⟩ = some (.int .i64 k)) : gx ≠ h ∧ gx ≠ g := by
  constructor
  · rintro rfl
    have h1 := hK.bc.cell i
    rw [hc] at h1
    cases i with
    | zero => simp at h1
    | succ i => simp at h1
  · rintro rfl
    have h1 := hK.ba.cell i
    rw [hc] at h1
    cases i with
    | zero => simp at h1
    | succ i => simp at h1
theorem Kw.step (hK : Kw U g h A C a c m n wr) {gx : Nat} (hg : U.heap.size ≤ gx) (hn : gx ≠ g ∧ gx ≠ h) (i : Nat) (k : Int) : Kw U g h A C a c m n (wr.setCell ⟨gx, i, none⟩ (.int .i64 k)).drew :=
  ⟨hK.ba.far (p := ⟨gx, i, none⟩) (fun e => hn.1 e.symm) _, (hK.bel.setCell (p := ⟨gx, i, none⟩) hg _).drew, hK.bc.far (p := ⟨gx, i, none⟩) (fun e => hn.2 e.symm) _, hK.ka.set _ _ _, hK.kc.set _ _ _⟩
end
end Go.Proofs.YtolclahkfmplfaaDoor

/- A region that draws its order, by what holds behind each operation, whichever have come up. No program in sight. -/
namespace Go.Proofs.YtolclahkfmplfaaDoor
open Go Go.RowKit

theorem inv_any {P : Program} {ops : Array Oper} {Q : Exit → Act → World → Prop} {md : Region.Mode} (I : (Nat → Bool) → Act → World → Prop)
    (hwf : ∀ (i : Nat) (o : Oper), ops[i]? = some o → ∀ e ∈ o.after, Region.binds md e = true → e.on < i)
    (hstep : ∀ (L : Nat → Bool) (a : Act) (w : World) (i : Nat) (o : Oper), ops[i]? = some o → L i = false → (∀ e ∈ o.after, Region.binds md e = true → L e.on = true) → I L a w → wpOp P ops Q i (fun a' w' => I (fun j => if j = i then true else L j) a' w') a w)
    (hend : ∀ L a w, (∀ i, i < ops.size → L i = true) → I L a w → Q .normal a w) :
    ∀ (fuel : Nat) (listed : Array Bool) a w, listed.size = ops.size → listed.toList.countP (· = false) ≤ fuel → I (fun j => listed.getD j false) a w → wpAny P md ops Q fuel listed a w := by
  have hfull : ∀ (listed : Array Bool), listed.size = ops.size → Region.ready md ops listed = [] → ∀ i, i < ops.size → listed.getD i false = true := by
    intro listed hsz hr i
    induction i using Nat.strongRecOn with
    | _ i ih =>
      intro hi
      have hmem : i ∉ Region.ready md ops listed := by rw [hr]; simp
      have ho : ops[i]? = some ops[i] := Array.getElem?_eq_getElem hi
      rw [mem_ready] at hmem
      have hall : ∀ e ∈ (ops[i]).after, Region.binds md e = true → listed.getD e.on false = true := fun e he hb => ih e.on (hwf i _ ho e he hb) (by have := hwf i _ ho e he hb; omega)
      have h2 : ¬ listed.getD i true = false := fun h => hmem ⟨h, _, ho, hall⟩
      have hl : i < listed.size := by omega
      simp [Array.getD, hl] at h2 ⊢
      exact h2
  intro fuel
  induction fuel with
  | zero =>
    intro listed a w hsz hc hI
    have hall : ∀ i, i < ops.size → listed.getD i false = true := by
      intro i hi
      have hl : i < listed.size := by omega
      have hz : listed.toList.countP (· = false) = 0 := by omega
      rw [List.countP_eq_zero] at hz
      have := hz (listed[i]) (by simp)
      simp [Array.getD, hl]
      simpa using this
    refine ⟨?_, hend _ a w hall hI⟩
    cases hr : Region.ready md ops listed with
    | nil => rfl
    | cons x xs =>
      have hx : x ∈ Region.ready md ops listed := by rw [hr]; simp
      rw [mem_ready] at hx
      obtain ⟨h1, o, ho, _⟩ := hx
      have hxs : x < ops.size := (Array.getElem?_eq_some_iff.1 ho).1
      have h2 := hall x hxs
      have hl : x < listed.size := by omega
      simp [Array.getD, hl] at h1 h2
      rw [h1] at h2
      cases h2
  | succ fuel ih =>
    intro listed a w hsz hc hI
    refine ⟨fun hr => hend _ a w (hfull listed hsz hr) hI, fun i hi => ?_⟩
    rw [mem_ready] at hi
    obtain ⟨h1, o, ho, hall⟩ := hi
    have his : i < listed.size := by have := (Array.getElem?_eq_some_iff.1 ho).1; omega
    have hLi : listed.getD i false = false := by simpa [Array.getD, his] using h1
    refine wpOp_mono (fun a' w' h => ih (listed.setIfInBounds i true) a' w' (by simpa using hsz) ?_ ?_) (hstep _ a w i o ho hLi hall hI)
    · have hcnt : ∀ (l : List Bool) (i : Nat) (hi : i < l.length), l[i]'hi = false → (l.set i true).countP (· = false) + 1 = l.countP (· = false) := by
        intro l
        induction l with
        | nil => intro i hi; simp at hi
        | cons x l ihl =>
          intro i hi hx
          cases i with
          | zero => simp at hx; subst hx; simp
          | succ i =>
            have := ihl i (by simpa using hi) (by simpa using hx)
            simp only [List.set_cons_succ, List.countP_cons]
            omega
      have hb : listed[i]'his = false := by simpa [Array.getD, his] using hLi
      have := hcnt listed.toList i (by simpa using his) (by simpa using hb)
      rw [Array.toList_setIfInBounds]
      omega
    · have hfun : (fun j => (listed.setIfInBounds i true).getD j false) = (fun j => if j = i then true else listed.getD j false) := by
        funext j
        by_cases hj : j = i
        · subst hj; simp [Array.getD, his]
        · rw [if_neg hj]; exact getD_set_ne false (fun e => hj e.symm)
      rw [hfun]
      exact h

/-- a region that draws its order -/
theorem region_inv {P : Program} {id : Nat} {ops : Array Oper} {Q : Exit → Act → World → Prop} {a0 : Act} {w0 : World} (hm : P.follows .mixedOrders = true)
    (hwf : (List.range ops.size).all (fun i => ((ops[i]?).map fun o => o.after.all fun e => !Region.binds .any e || decide (e.on < i)).getD true) = true)
    (I : (Nat → Bool) → Act → World → Prop) (h0 : I (fun _ => false) a0 w0.drew)
    (hstep : ∀ (L : Nat → Bool) (a : Act) (w : World) (i : Nat) (o : Oper), ops[i]? = some o → L i = false → (∀ e ∈ o.after, Region.binds .any e = true → L e.on = true) → I L a w → wpOp P ops Q i (fun a' w' => I (fun j => if j = i then true else L j) a' w') a w)
    (hend : ∀ L a w, (∀ i, i < ops.size → L i = true) → I L a w → Q .normal a w) : (Code.region id ops true).wp P Q a0 w0 := by
  refine wp_region_any hm ?_
  refine inv_any I ?_ hstep hend ops.size (Array.replicate ops.size false) a0 _ (by simp) (Nat.le_trans List.countP_le_length (by simp)) ?_
  · intro i o ho e he hb
    rw [List.all_eq_true] at hwf
    have := hwf i (by simpa using (Array.getElem?_eq_some_iff.1 ho).1)
    rw [ho] at this
    simp [Array.all_eq_true] at this
    obtain ⟨k, hk, rfl⟩ := Array.mem_iff_getElem.1 he
    have h := this k hk
    rw [hb] at h
    simpa using h
  · have : (fun j => (Array.replicate ops.size false).getD j false) = fun _ => false := by
      funext j
      by_cases hj : j < ops.size <;> simp [Array.getD, hj]
    rw [this]
    exact h0
end Go.Proofs.YtolclahkfmplfaaDoor

/- What stays held while the blocks of a set may change. No program in sight. -/
namespace Go.Proofs.YtolclahkfmplfaaDoor
open Go Go.RowKit
/-- P stands in every world that comes of w by changes of new blocks and of those of X -/
def Held (X : Nat → Prop) (P : World → Prop) (w : World) : Prop := ∀ w', Mod X w w' → P w'
section
variable {X Y : Nat → Prop} {P : World → Prop} {w w' : World}
theorem Held.now (h : Held X P w) : P w := h w (Mod.refl _ _)
theorem Held.step (h : Held X P w) (hm : Mod X w w') : Held X P w' := fun w2 h2 => h w2 (hm.trans h2)
theorem Held.ext (h : Held X P w) (hb : Below w.heap.size w w') : Held X P w' := h.step (Mod.of_ext hb)
/-- new blocks may join -/
theorem Held.join (h : Held X P w) (hm : Mod X w w') (hy : ∀ k, k < w.heap.size → Y k → X k) : Held Y P w' := fun w2 h2 => h w2 (by
  refine ⟨h2.os.trans hm.os, h2.tape.trans hm.tape, h2.output.trans hm.output, Nat.le_trans hm.size h2.size, fun k hk hn => ?_⟩
  rw [h2.block k (Nat.lt_of_lt_of_le hk hm.size) (fun hz => hn (hy k hk hz)), hm.block k hk hn])
theorem Held.mono (h : Held X P w) {Q : World → Prop} (hq : ∀ w', P w' → Q w') : Held X Q w := fun w2 h2 => hq _ (h w2 h2)
theorem held_mono {Q : World → Prop} (h : Held X P w) (hq : ∀ w', P w' → Q w') : Held X Q w := h.mono hq
theorem held_blk {g : Nat} {t : TypeId} {cs : Array Value} (h : Blk w g t cs) (hg : ¬ X g) : Held X (fun W => Blk W g t cs) w := fun _ hm => h.mod hm hg
theorem held_own {B s n : Nat} {e : TypeId} {v : Value} {xs : List Value} (h : w.ownsRow B e s v n xs) (hx : ∀ k, B ≤ k → ¬ X k) : Held X (fun W => W.ownsRow B e s v n xs) w := fun _ hm => own_mod h hm hx
/-- what lies beneath a bound that X does not reach -/
theorem held_low {B : Nat} (hP : ∀ w', Below B w w' → P w') (hB : B ≤ w.heap.size) (hx : ∀ k, X k → B ≤ k) : Held X P w := fun _ hm => hP _ (hm.below hB hx)
theorem mod_set {g i : Nat} {u : Value} (hg : X g) : Mod X w (w.setCell ⟨g, i, none⟩ u) := (Mod.refl _ _).setCell hg u
end
end Go.Proofs.YtolclahkfmplfaaDoor
