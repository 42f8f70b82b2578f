/- Contracts: run.Get and Next, kway.Find, and the references'; copies of runs. -/
import Derived.Test.YtokomclcgegfkaaDoorGp
import Derived.Test.YtokomclcgegfkaaDoorTw
import Derived.Test.YtokomclcgegfkaaDoorKu
import Derived.IntWalk
namespace Go.Proofs.YtokomclcgegfkaaDoor
open Go Go.RowKit
set_option maxRecDepth 100000

theorem put3 {w : World} {g : Nat} {t : TypeId} {x0 x1 x2 : Value} (h : Blk w g t #[x0, x1, x2]) (y0 y1 y2 : Value) : Blk (((w.setCell ⟨g, 0, none⟩ y0).setCell ⟨g, 1, none⟩ y1).setCell ⟨g, 2, none⟩ y2) g t #[y0, y1, y2] := by
  have := ((h.set_ 0 y0).set_ 1 y1).set_ 2 y2
  simpa using this
theorem below3 {B : Nat} {a w : World} {g : Nat} (h : Below B a w) (hg : B ≤ g) (y0 y1 y2 : Value) : Below B a (((w.setCell ⟨g, 0, none⟩ y0).setCell ⟨g, 1, none⟩ y1).setCell ⟨g, 2, none⟩ y2) :=
  ((h.setCell (p := ⟨g, 0, none⟩) hg _).setCell (p := ⟨g, 1, none⟩) hg _).setCell (p := ⟨g, 2, none⟩) hg _
/-- hands back an entry and an error -/
def GivesX (x : Ent) (e : Int) (w : World) (r : Ending) (w' : World) : Prop := r = .returned (.tuple #[.agg #[.int .i64 x.key, .int .i64 x.val, .bool x.dead], .int .i64 e]) ∧ Below w.heap.size w w'
/-- hands back an entry, if there is one -/
def GivesO (o : Option Ent) (w : World) (r : Ending) (w' : World) : Prop := r = .returned (.tuple #[.agg #[.int .i64 (o.getD zeroE).key, .int .i64 (o.getD zeroE).val, .bool (o.getD zeroE).dead], .bool o.isSome]) ∧ Below w.heap.size w w'

set_option maxHeartbeats 1000000 in
theorem runGet_any (A : Option Addr) (l : List Ent) (c : Nat) (key : Int) (w : World) (hA : Sl w A (l.flatMap Ent.cells)) (hl : l.length ≤ 4611686018427387903) (hT : TabAt 1 Lib.deBruijn64tab w) :
    Calls Tryd.prog 32 #[.agg #[.slice A l.length c], .int .i64 key] w (GivesX (gtX l key) (gtE l key) w) := by
  obtain ⟨W0, hW0⟩ : ∃ W0, (w.alloc (.cells #[.slice A l.length c] 24)).alloc (.cells #[.int .i64 0, .int .i64 0, .bool false] 29) = W0 := ⟨_, rfl⟩
  have hb0 : Below w.heap.size w W0 := by rw [← hW0]; exact ((Below.refl _ _).alloc (Nat.le_refl _) _).alloc (by simp) _
  have bX0 : Blk W0 w.heap.size 24 #[.slice A l.length c] := by rw [← hW0]; exact (Blk.new _ _ _).alloc _
  have bR0 : Blk W0 (w.heap.size + 1) 29 #[.int .i64 0, .int .i64 0, .bool false] := by
    rw [← hW0]
    have := Blk.new (w.alloc (.cells #[.slice A l.length c] 24)) 29 #[.int .i64 0, .int .i64 0, .bool false]
    rwa [World.size_alloc] at this
  have cX0 : W0.cell? ⟨w.heap.size, 0, none⟩ = some (.slice A l.length c) := bX0.cell 0
  have hT0 := Lib.hid (tab_below (tab_lt hT) hT hb0)
  have HA := Lib.hid hA
  obtain ⟨g1, g2, g3⟩ := gt_fd l key
  obtain ⟨E, hE⟩ : ∃ E, gtE l key = E := ⟨_, rfl⟩
  obtain ⟨at_, hat⟩ : ∃ at_, fdAt l key = at_ := ⟨_, rfl⟩
  obtain ⟨p, hp⟩ : ∃ p, gtX l key = p := ⟨_, rfl⟩
  rw [hE, hp]
  rw [hE] at g1
  rw [← g1, hp, hat] at g2
  rw [← g1, hp] at g3
  have HG := Lib.hid (And.intro g1 (And.intro g2 g3))
  have HAT := Lib.hid hat
  clear hE hat hp g1 g2 g3 hA hT
  go_enter Tryd.func32, Tryd.ntmps32
  go_wp2_with fail
  try rw [hW0]
  clear hW0 cX0
  refine (find_any A l c key _ (HA.out.below hb0) hl hT0.out).mono ?_
  unfold GivesII
  rw [← HG.out.1, HAT.out]
  rintro e w1 ⟨rfl, hb1⟩
  have bX1 := bX0.below hb1 bX0.lt
  have bR1 := bR0.below hb1 bR0.lt
  have hb01 := bext hb0 hb1
  have cX1 : w1.cell? ⟨w.heap.size, 0, none⟩ = some (.slice A l.length c) := bX1.cell 0
  have d0 : w1.cell? ⟨w.heap.size + 1, 0, none⟩ = some (.int .i64 0) := bR1.cell 0
  have d1 : w1.cell? ⟨w.heap.size + 1, 1, none⟩ = some (.int .i64 0) := bR1.cell 1
  have d2 : w1.cell? ⟨w.heap.size + 1, 2, none⟩ = some (.bool false) := bR1.cell 2
  have f0 := bR1.frozen 0
  have f1 := bR1.frozen 1
  have f2 := bR1.frozen 2
  by_cases h0 : E = 0
  · subst h0
    obtain ⟨hlt, hpe⟩ := HG.out.2.1 rfl
    rw [entAt_get hlt] at hpe
    obtain ⟨b, off, rfl, hbl, c1, c2, c3⟩ := HA.out.entB hb01 at_ hlt
    rw [← hpe] at c1 c2 c3
    have i0 : (0 : Int) ≤ (at_ : Int) := by omega
    have i1 : (at_ : Int) < (l.length : Int) := by omega
    clear hpe
    go_wp2_with fail
    have bFy := put3 bR1 (.int .i64 p.key) (.int .i64 p.val) (.bool p.dead)
    have e0y := bFy.cell 0
    have e1y := bFy.cell 1
    have e2y := bFy.cell 2
    simp only [List.getElem?_toArray, List.getElem?_cons_zero, List.getElem?_cons_succ] at e0y e1y e2y
    refine bodyPost_ret (v := .tuple #[.agg #[.int .i64 p.key, .int .i64 p.val, .bool p.dead], .int .i64 0]) (by simp [results, Tryd.results32, go_sem, e0y, e1y, e2y]) rfl ?_
    exact ⟨rfl, below3 hb01 (Nat.le_succ _) _ _ _⟩
  · have hz := HG.out.2.2 h0
    subst hz
    have h1 : (E != 0) = true := by simpa using h0
    clear h0
    go_wp2_with fail
    have bFz := put3 bR1 (.int .i64 0) (.int .i64 0) (.bool false)
    have e0z := bFz.cell 0
    have e1z := bFz.cell 1
    have e2z := bFz.cell 2
    simp only [List.getElem?_toArray, List.getElem?_cons_zero, List.getElem?_cons_succ] at e0z e1z e2z
    refine bodyPost_ret (v := .tuple #[.agg #[.int .i64 0, .int .i64 0, .bool false], .int .i64 E]) (by simp [results, Tryd.results32, go_sem, e0z, e1z, e2z]) rfl ?_
    exact ⟨rfl, below3 hb01 (Nat.le_succ _) _ _ _⟩

theorem look_drop {l : List Ent} {k : Nat} (h : k < l.length) (key : Int) : look (l.drop k) key = if (l[k]'h).key = key then some (l[k]'h) else look (l.drop (k + 1)) key := by
  rw [List.drop_eq_getElem_cons h, look_cons]
set_option maxHeartbeats 1000000 in
theorem has_any (A : Option Addr) (l : List Ent) (c : Nat) (key : Int) (w : World) (hA : Sl w A (l.flatMap Ent.cells)) (hl : l.length ≤ 4611686018427387903) :
    Calls Tryd.prog 75 #[.slice A l.length c, .int .i64 key] w (GivesO (look l key) w) := by
  obtain ⟨W0, hW0⟩ : ∃ W0, w.alloc (.cells #[.int .i64 0, .int .i64 0, .bool false] 29) = W0 := ⟨_, rfl⟩
  have hb0 : Below w.heap.size w W0 := by rw [← hW0]; exact (Below.refl _ _).alloc (Nat.le_refl _) _
  have bR0 : Blk W0 w.heap.size 29 #[.int .i64 0, .int .i64 0, .bool false] := by rw [← hW0]; exact Blk.new _ _ _
  have HA := Lib.hid hA
  clear hA
  go_enter Tryd.func75, Tryd.ntmps75
  go_wp2_with fail
  try rw [hW0]
  clear hW0
  go_loop [6] (fun i => ∃ k : Nat, k ≤ l.length ∧ i = .int .i64 k ∧ Hid (look (l.drop k) key = look l key)) (fun i => l.length - (intOf i).toNat)
  case atStart => exact ⟨0, Nat.zero_le _, rfl, rfl⟩
  case round =>
    obtain ⟨k, hk, rfl, hd⟩ := hrel
    have d0 : W0.cell? ⟨w.heap.size, 0, none⟩ = some (.int .i64 0) := bR0.cell 0
    have d1 : W0.cell? ⟨w.heap.size, 1, none⟩ = some (.int .i64 0) := bR0.cell 1
    have d2 : W0.cell? ⟨w.heap.size, 2, none⟩ = some (.bool false) := bR0.cell 2
    have f0 := bR0.frozen 0
    have f1 := bR0.frozen 1
    have f2 := bR0.frozen 2
    by_cases hlt : k < l.length
    · have hs := look_drop hlt key
      obtain ⟨b, off, rfl, hbl, c1, c2, c3⟩ := HA.out.entB hb0 k hlt
      obtain ⟨p, hp⟩ : ∃ p, l[k]'hlt = p := ⟨_, rfl⟩
      rw [hp] at hs c1 c2 c3
      have i0 : (0 : Int) ≤ (k : Int) := by omega
      have i1 : (k : Int) < (l.length : Int) := by omega
      rw [hd.out] at hs
      clear hp
      by_cases hk2 : p.key = key
      · have hq : (p.key == key) = true := by simpa using hk2
        have HL : Hid (look l key = some p) := by rw [if_pos hk2] at hs; exact hs
        clear hs hk2
        go_wp2_with fail
        have bFy := put3 bR0 (.int .i64 p.key) (.int .i64 p.val) (.bool p.dead)
        have e0y := bFy.cell 0
        have e1y := bFy.cell 1
        have e2y := bFy.cell 2
        simp only [List.getElem?_toArray, List.getElem?_cons_zero, List.getElem?_cons_succ] at e0y e1y e2y
        refine bodyPost_ret (v := .tuple #[.agg #[.int .i64 p.key, .int .i64 p.val, .bool p.dead], .bool true]) (by simp [results, Tryd.results75, go_sem, e0y, e1y, e2y]) rfl ?_
        rw [HL.out]
        exact ⟨rfl, below3 hb0 (Nat.le_refl _) _ _ _⟩
      · have hq : (p.key == key) = false := by simpa using hk2
        have HL : Hid (look (l.drop (k + 1)) key = look l key) := by rw [if_neg hk2] at hs; exact hs.symm
        clear hs hk2 d0 d1 d2 f0 f1 f2
        go_wp2
        go_round
        case rel => exact ⟨k + 1, by omega, by go_num, HL⟩
        case measure => simp [intOf]; omega
    · have HL : Hid (look l key = none) := by
        show _ = _
        rw [← hd.out, List.drop_eq_nil_of_le (by omega)]; rfl
      go_wp2_with fail
      have bFz := put3 bR0 (.int .i64 0) (.int .i64 0) (.bool false)
      have e0z := bFz.cell 0
      have e1z := bFz.cell 1
      have e2z := bFz.cell 2
      simp only [List.getElem?_toArray, List.getElem?_cons_zero, List.getElem?_cons_succ] at e0z e1z e2z
      refine bodyPost_ret (v := .tuple #[.agg #[.int .i64 0, .int .i64 0, .bool false], .bool false]) (by simp [results, Tryd.results75, go_sem, e0z, e1z, e2z]) rfl ?_
      rw [HL.out]
      exact ⟨rfl, below3 hb0 (Nat.le_refl _) _ _ _⟩
end Go.Proofs.YtokomclcgegfkaaDoor
