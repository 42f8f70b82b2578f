/- Contracts: pairs that are the same, entries of pairs, run.One and run.Of and their references. -/
import Derived.Test.YtokomclcgegfkaaDoorBld
namespace Go.Proofs.YtokomclcgegfkaaDoor
open Go Go.RowKit
set_option maxRecDepth 100000

theorem pr_stood : Tryd.prog.stoodInHeld 61 = false := by kernel_rfl
theorem pr_guard : Tryd.prog.eqGuardType Tryd.prog.depth 61 = false := by kernel_rfl
theorem pr_info : (Tryd.prog.info? 61).map (fun i => (i.zero, i.size, i.bytes)) = some (some (.agg #[.int .i64 0, .int .i64 0]), 2, 16) := by kernel_rfl
def neP (a b : Pr) : Bool := decide (a ≠ b)
theorem run_neq_pr (a b : Pr) (w : World) :
    (binOp .neq 61 (.agg #[.int .i64 a.key, .int .i64 a.val]) (.agg #[.int .i64 b.key, .int .i64 b.val])).run Tryd.prog w = .ok (.bool (neP a b)) w := by
  have h1 := pr_stood
  have h2 := pr_guard
  have h3 := Tryd.underlying61
  obtain ⟨k, v⟩ := a
  obtain ⟨k', v'⟩ := b
  simp only [go_sem, h1, h3]
  simp [go_sem, neP]
  by_cases hk : k = k' <;> by_cases hv : v = v' <;> simp [hk, hv]

set_option maxRecDepth 100000 in
set_option maxHeartbeats 1000000 in
theorem samePairs_any (A B : Option Addr) (l m : List Pr) (c d : Nat) (w : World) (hA : Sl w A (l.flatMap Pr.cells)) (hB : Sl w B (m.flatMap Pr.cells)) (hl : l.length ≤ 4611686018427387903) (hm : m.length ≤ 4611686018427387903) :
    Calls Tryd.prog 42 #[.slice A l.length c, .slice B m.length d] w fun r w' => r = .returned (.bool (decide (l = m))) ∧ Below w.heap.size w w' := by
  by_cases hlen : l.length = m.length
  · have hz : ((l.length : Int) != (m.length : Int)) = false := by simp [hlen]
    have hz2 : (l.length : Int) ≤ (m.length : Int) := by omega
    have HL := Lib.hid hlen
    clear hlen
    go_enter Tryd.func42, Tryd.ntmps42
    go_wp2
    go_loopw [5] (fun i wr => ∃ k : Nat, k ≤ l.length ∧ i = .int .i64 k ∧ Below w.heap.size w wr ∧ Hid (l.take k = m.take k)) (fun i _ => l.length - (intOf i).toNat)
    case atStart => exact ⟨0, Nat.zero_le _, rfl, Below.refl _ _, rfl⟩
    case round =>
      obtain ⟨k, hk, rfl, hb, hn⟩ := hrel
      by_cases hlt : k < l.length
      · have hlt2 : k < m.length := by omega
        obtain ⟨b, off, rfl, hbl, c1, c2⟩ := hA.prB hb k hlt
        obtain ⟨b', off', rfl, hbl', d1, d2⟩ := hB.prB hb k hlt2
        have i0 : (0 : Int) ≤ (k : Int) := by omega
        have i1 : (k : Int) < (l.length : Int) := by omega
        have i2 : (k : Int) < (m.length : Int) := by omega
        clear hA hB
        have hne := fun w => run_neq_pr (l[k]'hlt) (m[k]'hlt2) w
        have hgu := pr_guard
        go_wp2
        go_quiet (fail)
        clear hne hgu
        go_wp2
        · have hx : neP (l[k]'hlt) (m[k]'hlt2) = true := by assumption
          go_ret
          refine ⟨ret_bool ?_, bdrew hb _⟩
          symm
          rw [decide_eq_false_iff_not]
          rintro rfl
          simp [neP] at hx
        · have hx : neP (l[k]'hlt) (m[k]'hlt2) = false := by assumption
          go_roundw
          case rel =>
            refine ⟨k + 1, by omega, by go_num, bdrew hb _, ?_⟩
            show _ = _
            rw [List.take_succ_eq_append_getElem hlt, List.take_succ_eq_append_getElem hlt2, hn.out]
            simp [neP] at hx
            rw [hx]
          case measure => simp [intOf]; omega
      · go_wp2
        go_ret
        refine ⟨ret_bool ?_, hb⟩
        have := hn.out
        rw [List.take_of_length_le (by omega), List.take_of_length_le (by have := HL.out; omega)] at this
        rw [this, decide_eq_true rfl]
  · have hz : ((l.length : Int) != (m.length : Int)) = true := by simp; omega
    have HL := Lib.hid hlen
    clear hlen
    go_enter Tryd.func42, Tryd.ntmps42
    go_wp2
    go_ret
    refine ⟨ret_bool ?_, Below.refl _ _⟩
    symm
    rw [decide_eq_false_iff_not]
    rintro rfl
    exact HL.out rfl

/-- pairs as live entries -/
def aliveE (p : Pr) : Ent := ⟨p.key, p.val, false⟩

set_option maxRecDepth 100000 in
set_option maxHeartbeats 2000000 in
theorem refAlive_any (A : Option Addr) (l : List Pr) (c : Nat) (w : World) (hA : Sl w A (l.flatMap Pr.cells)) (hn : l.length ≤ 65536) :
    Calls Tryd.prog 99 #[.slice A l.length c] w (GivesOwn 29 3 l.length ((l.map aliveE).flatMap Ent.cells) w) := by
  obtain ⟨i0, hi, hz0, hz1, hz2⟩ := info_parts ent_info
  go_enter Tryd.func99, Tryd.ntmps99
  go_wp2
  go_loopw [3, 4] (fun v i wr => ∃ k : Nat, k ≤ l.length ∧ i = .int .i64 k ∧ Below w.heap.size w wr ∧ ∃ A' c', v = .slice A' k c' ∧
      wr.ownsRow w.heap.size 29 3 (.slice A' k c') k (((l.take k).map aliveE).flatMap Ent.cells)) (fun _ i _ => l.length - (intOf i).toNat)
  case atStart => exact ⟨0, Nat.zero_le _, rfl, Below.refl _ _, none, 0, rfl, World.ownsRow_nil _ _ _ _⟩
  case round =>
    obtain ⟨k, hk, rfl, hb, A', c', rfl, hown⟩ := hrel
    by_cases hlt : k < l.length
    · obtain ⟨b, off, rfl, hbl, c1, c2⟩ := hA.prB hb k hlt
      have hki : (0 : Int) ≤ (k : Int) := by omega
      have hki2 : (k : Int) < (l.length : Int) := by omega
      have hbs := hb.size
      clear hbl
      go_wp2_with fail
      go_region_law (
        (refine step_append_sl _ (by rfl) _ _ _ (by rfl) w.heap.size 29 i0 _ 3 24 Tryd.underlying22 hi hz0 hz1 hz2 rfl (by omega) (.slice A' k c') k _ (by rfl) ((hown.alloc _).drew) _ 1 _ (aliveE (l[k]'hlt)).cells (by rfl) ((Blk.new wr _ _).sl 0 _ (by intro j u hu; simpa [Ent.cells, aliveE] using hu)) (by rfl) (by simp [Ent.cells, Value.oneCell']) (by unfold maxLen; omega) (by omega) (by simp; omega) ?_; intro v2 w2 hown2 hg2; obtain ⟨A2, q2, rfl, hle2, hmx2⟩ := own_form hown2))
      all_goals
        go_wp2
        have hb2 : Below w.heap.size w w2 := ((hb.alloc hbs _).drew).grown hg2 (by simp; omega) (fun k hk => (hown.lt k hk).1)
        go_roundw
        case rel =>
          refine ⟨k + 1, by omega, by go_num, hb2, A2, q2, rfl, ?_⟩
          rw [List.take_succ_eq_append_getElem hlt, List.map_append, List.flatMap_append]
          simpa using hown2
        case measure => simp [intOf]; omega
    · have hkn := Lib.hid (show k = l.length by omega)
      go_wp2
      go_ret
      have h := hown
      rw [hkn.out, List.take_length] at h
      refine ⟨A', c', by rw [hkn.out]; rfl, h, hb⟩

set_option maxRecDepth 100000 in
set_option maxHeartbeats 1000000 in
theorem runOne_any (x : Ent) (w : World) :
    Calls Tryd.prog 57 #[.agg #[.int .i64 x.key, .int .i64 x.val, .bool x.dead]] w (GivesRun 29 (buildL [x]) (buildE [x]) w) := by
  obtain ⟨W0, hW0⟩ : ∃ W0, ((w.alloc (.cells #[.int .i64 x.key, .int .i64 x.val, .bool x.dead] 29)).alloc (.cells #[.slice none 0 0] 24)).alloc (.cells #[.int .i64 x.key, .int .i64 x.val, .bool x.dead] 29) = W0 := ⟨_, rfl⟩
  have hb0 : Below w.heap.size w W0 := by rw [← hW0]; exact (((Below.refl _ _).alloc (Nat.le_refl _) _).alloc (by simp) _).alloc (by simp; omega) _
  have hr0 : Blk W0 (w.heap.size + 1) 24 #[.slice none 0 0] := by
    rw [← hW0]; have := Blk.new (w.alloc (.cells #[.int .i64 x.key, .int .i64 x.val, .bool x.dead] 29)) 24 #[.slice none 0 0]
    rw [World.size_alloc] at this
    exact this.alloc _
  have hx0 : Blk W0 (w.heap.size + 1 + 1) 29 #[.int .i64 x.key, .int .i64 x.val, .bool x.dead] := by
    rw [← hW0]; have := Blk.new ((w.alloc (.cells #[.int .i64 x.key, .int .i64 x.val, .bool x.dead] 29)).alloc (.cells #[.slice none 0 0] 24)) 29 #[.int .i64 x.key, .int .i64 x.val, .bool x.dead]
    rwa [World.size_alloc, World.size_alloc] at this
  have hs0 : Sl W0 (some ⟨w.heap.size + 1 + 1, 0, none⟩) ([x].flatMap Ent.cells) := hx0.sl 0 _ (by intro j u hu; simpa [Ent.cells] using hu)
  have hsz := hx0.lt
  go_enter Tryd.func57, Tryd.ntmps57
  go_wp2_with fail
  try rw [hW0]
  clear hW0
  refine (build_any _ [x] 1 _ hs0 (by simp)).mono ?_
  rintro e w1 ⟨A1, c1, rfl, hown1, hb1⟩
  have hb01 : Below w.heap.size w w1 := bext hb0 hb1
  have hr1 : Blk w1 (w.heap.size + 1) 24 #[.slice none 0 0] := hr0.below hb1 (by omega)
  have hc1 : w1.cell? ⟨w.heap.size + 1, 0, none⟩ = some (.slice none 0 0) := hr1.cell 0
  have hf1 : w1.frozen? ⟨w.heap.size + 1, 0, none⟩ = false := hr1.frozen 0
  go_wp2
  refine bodyPost_ret (v := .tuple #[.agg #[.slice A1 (buildL [x]).length c1], .int .i64 (buildE [x])]) (by simp [results, Tryd.results57, go_sem, hc1]) rfl ?_
  refine ⟨A1, c1, rfl, own_far (own_mono hown1 (by omega)) ?_ _, hb01.setCell (p := ⟨w.heap.size + 1, 0, none⟩) (by simp) _⟩
  intro e
  have := (hown1.lt _ e).1
  dsimp only at this
  omega



set_option maxRecDepth 100000 in
set_option maxHeartbeats 2000000 in
theorem runOf_any (A : Option Addr) (l : List Pr) (c : Nat) (w : World) (hA : Sl w A (l.flatMap Pr.cells)) (hn : l.length ≤ 1000000) :
    Calls Tryd.prog 55 #[.slice A l.length c] w (GivesRun 29 (buildL (l.map aliveE)) (buildE (l.map aliveE)) w) := by
  obtain ⟨i0, hi, hz0, hz1, hz2⟩ := info_parts ent_info
  have hmk := fun W => run_make_rowN (P := Tryd.prog) 22 29 i0 _ Tryd.underlying22 hi hz0 l.length (by rw [hz2]; omega) (by omega) W
  rw [hz1] at hmk
  clear hi hz0 hz1 hz2
  obtain ⟨W0, hW0⟩ : ∃ W0, (w.alloc (.cells #[.slice none 0 0] 24)).alloc (.cells (madeCells (Value.agg #[Value.int IntKind.i64 0, Value.int IntKind.i64 0, Value.bool false]).cells (l.length * 3)) 29) = W0 := ⟨_, rfl⟩
  have hb0 : Below w.heap.size w W0 := by rw [← hW0]; exact ((Below.refl _ _).alloc (Nat.le_refl _) _).alloc (by simp) _
  have hr0 : Blk W0 w.heap.size 24 #[.slice none 0 0] := by rw [← hW0]; exact (Blk.new w _ _).alloc _
  have hg0 : Blk W0 (w.heap.size + 1) 29 (madeCells (Value.agg #[Value.int IntKind.i64 0, Value.int IntKind.i64 0, Value.bool false]).cells (l.length * 3)) := by
    rw [← hW0]; have := Blk.new (w.alloc (.cells #[.slice none 0 0] 24)) 29 (madeCells (Value.agg #[Value.int IntKind.i64 0, Value.int IntKind.i64 0, Value.bool false]).cells (l.length * 3))
    rwa [World.size_alloc] at this
  go_enter Tryd.func55, Tryd.ntmps55
  go_wp2
  have hW0' : (w.alloc (.cells #[.slice none 0 0] 24)).alloc (.cells (madeCells #[Value.int IntKind.i64 0, Value.int IntKind.i64 0, Value.bool false] (l.length * 3)) 29) = W0 := hW0
  rw [hW0']
  clear hW0 hW0' hmk
  go_loopw [12] (fun i wr => ∃ k : Nat, k ≤ l.length ∧ i = .int .i64 k ∧ Mod (fun b => b = w.heap.size + 1) W0 wr ∧
      ∃ cur : Array Value, Hid (cur.size = l.length * 3) ∧ Blk wr (w.heap.size + 1) 29 cur ∧ Hid (cur.toList.take (k * 3) = ((l.take k).map aliveE).flatMap Ent.cells))
      (fun i _ => l.length - (intOf i).toNat)
  case atStart => exact ⟨0, Nat.zero_le _, rfl, Mod.refl _ _, _, by show _ = _; simp [madeCells, Value.cells], hg0, by show _ = _; simp⟩
  case round =>
    obtain ⟨k, hk, rfl, hm, cur, hcs, hcur, hct⟩ := hrel
    have hb : Below w.heap.size w wr := hb0.trans (hm.below hb0.size (by intro k h; omega))
    have hs : w.heap.size + 1 < wr.heap.size := hcur.lt
    by_cases hlt : k < l.length
    · obtain ⟨b, off, rfl, hbl, c1, c2⟩ := hA.prB hb k hlt
      have hsz := hcs.out
      obtain ⟨v1, e1⟩ : ∃ v, wr.cell? ⟨w.heap.size + 1, k * 3, none⟩ = some v := ⟨_, (hcur.cell _).trans (Array.getElem?_eq_getElem (show k * 3 < cur.size by omega))⟩
      obtain ⟨v2, e2⟩ : ∃ v, wr.cell? ⟨w.heap.size + 1, k * 3 + 1, none⟩ = some v := ⟨_, (hcur.cell _).trans (Array.getElem?_eq_getElem (show k * 3 + 1 < cur.size by omega))⟩
      obtain ⟨v3, e3⟩ : ∃ v, wr.cell? ⟨w.heap.size + 1, k * 3 + 2, none⟩ = some v := ⟨_, (hcur.cell _).trans (Array.getElem?_eq_getElem (show k * 3 + 2 < cur.size by omega))⟩
      have f1 := hcur.frozen (k * 3)
      have f2 := hcur.frozen (k * 3 + 1)
      have f3 := hcur.frozen (k * 3 + 2)
      have hki : (0 : Int) ≤ (k : Int) := by omega
      have hki2 : (k : Int) < (l.length : Int) := by omega
      clear hsz hA hbl
      go_wp2
      go_roundw
      case rel =>
        refine ⟨k + 1, by omega, by go_num, (((hm.setCell (p := ⟨w.heap.size + 1, k * 3, none⟩) rfl _).setCell (p := ⟨w.heap.size + 1, k * 3 + 1, none⟩) rfl _).setCell (p := ⟨w.heap.size + 1, k * 3 + 2, none⟩) rfl _).alloc _, _, ?_, (((hcur.set_ (k * 3) _).set_ (k * 3 + 1) _).set_ (k * 3 + 2) _).alloc _, ?_⟩
        · show _ = _; simpa using hcs.out
        · show _ = _
          rw [take_set3 _ _ _ (by rw [hcs.out]; omega) hct.out, List.take_succ_eq_append_getElem hlt, List.map_append, List.flatMap_append]
          simp [Ent.cells, aliveE]
      case measure => simp [intOf]; omega
    · have hkn := Lib.hid (show k = l.length by omega)
      have hr4 : Blk wr w.heap.size 24 #[.slice none 0 0] := hr0.mod hm (by omega)
      have hct' := hct.out
      rw [hkn.out, List.take_length] at hct'
      have hsl : Sl wr (some ⟨w.heap.size + 1, 0, none⟩) ((l.map aliveE).flatMap Ent.cells) := hcur.sl 0 _ (by
        intro j u hu
        rw [← hct', List.getElem?_take] at hu
        split at hu
        · simpa using hu
        · cases hu)
      have HCT := Lib.hid hct'
      clear hct'
      go_wp2_with fail
      refine (build_n _ (l.map aliveE) l.length l.length _ (by simp) hsl (by simp; omega)).mono ?_
      rintro e w2 ⟨A2, c2, rfl, hown2, hb2⟩
      have hb02 : Below w.heap.size w w2 := bext hb hb2
      have hr2 : Blk w2 w.heap.size 24 #[.slice none 0 0] := hr4.below hb2 (by omega)
      have hc2 : w2.cell? ⟨w.heap.size, 0, none⟩ = some (.slice none 0 0) := hr2.cell 0
      have hf2 : w2.frozen? ⟨w.heap.size, 0, none⟩ = false := hr2.frozen 0
      go_wp2
      refine bodyPost_ret (v := .tuple #[.agg #[.slice A2 (buildL (l.map aliveE)).length c2], .int .i64 (buildE (l.map aliveE))]) (by simp [results, Tryd.results55, go_sem, hc2]) rfl ?_
      refine ⟨A2, c2, rfl, own_far (own_mono hown2 (by omega)) ?_ _, hb02.setCell (p := ⟨w.heap.size, 0, none⟩) (by simp) _⟩
      intro e
      have := (hown2.lt _ e).1
      dsimp only at this
      omega
end Go.Proofs.YtokomclcgegfkaaDoor
