/- Run1 Ko: texts of the claim, in this order. -/
import Derived.Test.YthbppblmecdekaaGreatDoorWg5
import Derived.Test.YthbppblmecdekaaGreatDoorWg6
/- Contracts: pairs that are the same, entries of pairs, run.One and run.Of and their references. -/
namespace Go.Proofs.YthbppblmecdekaaGreatDoor
open Go Go.RowKit
set_option maxRecDepth 100000

theorem pr_stood : Tryz.prog.stoodInHeld 47 = false := by kernel_rfl
theorem pr_guard : Tryz.prog.eqGuardType Tryz.prog.depth 47 = false := by kernel_rfl
theorem pr_info : (Tryz.prog.info? 47).map (fun i => (i.zero, i.size, i.bytes)) = some (some (.agg #[.int .i64 0, .int .i64 0]), 2, 16) := by kernel_rfl
def neP (a b : Pr) : Bool := decide (a ≠ b)
theorem run_neq_pr (a b : Pr) (w : World) :
    (binOp .neq 47 (.agg #[.int .i64 a.key, .int .i64 a.val]) (.agg #[.int .i64 b.key, .int .i64 b.val])).run Tryz.prog w = .ok (.bool (neP a b)) w := by
  have h1 := pr_stood
  have h2 := pr_guard
  have h3 := Tryz.underlying47
  obtain ⟨k, v⟩ := a
  obtain ⟨k', v'⟩ := b
  simp only [go_sem, h1, h3]
  simp [go_sem, neP]
  by_cases hk : k = k' <;> by_cases hv : v = v' <;> simp [hk, hv]

set_option maxRecDepth 100000 in
set_option maxHeartbeats 1000000 in
theorem samePairs_any (A B : Option Addr) (l m : List Pr) (c d : Nat) (w : World) (hA : Sl w A (l.flatMap Pr.cells)) (hB : Sl w B (m.flatMap Pr.cells)) (_hl : l.length ≤ 4611686018427387903) (hm : m.length ≤ 4611686018427387903) :
    Calls Tryz.prog 24 #[.slice A l.length c, .slice B m.length d] w fun r w' => r = .returned (.bool (decide (l = m))) ∧ Below w.heap.size w w' := by
  by_cases hlen : l.length = m.length
  · have hz : ((l.length : Int) != (m.length : Int)) = false := by simp [hlen]
    have hz2 : (l.length : Int) ≤ (m.length : Int) := by omega
    have HL := Lib.hid hlen
    clear hlen
    go_enter Tryz.func24, Tryz.ntmps24
    go_wp2
    go_loopw [5] (fun i wr => ∃ k : Nat, k ≤ l.length ∧ i = .int .i64 k ∧ Below w.heap.size w wr ∧ Hid (l.take k = m.take k)) (fun i _ => l.length - (intOf i).toNat)
    case atStart => exact ⟨0, Nat.zero_le _, rfl, Below.refl _ _, rfl⟩
    case round =>
      obtain ⟨k, hk, rfl, hb, hn⟩ := hrel
      by_cases hlt : k < l.length
      · have hlt2 : k < m.length := by omega
        obtain ⟨b, off, rfl, hbl, c1, c2⟩ := hA.prB hb k hlt
        obtain ⟨b', off', rfl, hbl', d1, d2⟩ := hB.prB hb k hlt2
        have i0 : (0 : Int) ≤ (k : Int) := by omega
        have i1 : (k : Int) < (l.length : Int) := by omega
        have i2 : (k : Int) < (m.length : Int) := by omega
        clear hA hB
        have hne := fun w => run_neq_pr (l[k]'hlt) (m[k]'hlt2) w
        have hgu := pr_guard
        go_wp2
        go_quiet (fail)
        clear hne hgu
        go_wp2
        · have hx : neP (l[k]'hlt) (m[k]'hlt2) = true := by assumption
          go_ret
          refine ⟨ret_bool ?_, bdrew hb _⟩
          symm
          rw [decide_eq_false_iff_not]
          rintro rfl
          simp [neP] at hx
        · have hx : neP (l[k]'hlt) (m[k]'hlt2) = false := by assumption
          go_roundw
          case rel =>
            refine ⟨k + 1, by omega, by go_num, bdrew hb _, ?_⟩
            show _ = _
            rw [List.take_succ_eq_append_getElem hlt, List.take_succ_eq_append_getElem hlt2, hn.out]
            simp [neP] at hx
            rw [hx]
          case measure => simp [intOf]; omega
      · go_wp2
        go_ret
        refine ⟨ret_bool ?_, hb⟩
        have := hn.out
        rw [List.take_of_length_le (by omega), List.take_of_length_le (by have := HL.out; omega)] at this
        rw [this, decide_eq_true rfl]
  · have hz : ((l.length : Int) != (m.length : Int)) = true := by simp; omega
    have HL := Lib.hid hlen
    clear hlen
    go_enter Tryz.func24, Tryz.ntmps24
    go_wp2
    go_ret
    refine ⟨ret_bool ?_, Below.refl _ _⟩
    symm
    rw [decide_eq_false_iff_not]
    rintro rfl
    exact HL.out rfl

/-- pairs as live entries -/
def aliveE (p : Pr) : Ent := ⟨p.key, p.val, false⟩

set_option maxRecDepth 100000 in
set_option maxHeartbeats 2000000 in
theorem refAlive_any (A : Option Addr) (l : List Pr) (c : Nat) (w : World) (hA : Sl w A (l.flatMap Pr.cells)) (hn : l.length ≤ 65536) :
    Calls Tryz.prog 139 #[.slice A l.length c] w (GivesOwn 71 3 l.length ((l.map aliveE).flatMap Ent.cells) w) := by
  obtain ⟨i0, hi, hz0, hz1, hz2⟩ := info_parts ent_info
  go_enter Tryz.func139, Tryz.ntmps139
  go_wp2
  go_loopw [3, 4] (fun v i wr => ∃ k : Nat, k ≤ l.length ∧ i = .int .i64 k ∧ Below w.heap.size w wr ∧ ∃ A' c', v = .slice A' k c' ∧
      wr.ownsRow w.heap.size 71 3 (.slice A' k c') k (((l.take k).map aliveE).flatMap Ent.cells)) (fun _ i _ => l.length - (intOf i).toNat)
  case atStart => exact ⟨0, Nat.zero_le _, rfl, Below.refl _ _, none, 0, rfl, World.ownsRow_nil _ _ _ _⟩
  case round =>
    obtain ⟨k, hk, rfl, hb, A', c', rfl, hown⟩ := hrel
    by_cases hlt : k < l.length
    · obtain ⟨b, off, rfl, hbl, c1, c2⟩ := hA.prB hb k hlt
      have hki : (0 : Int) ≤ (k : Int) := by omega
      have hki2 : (k : Int) < (l.length : Int) := by omega
      have hbs := hb.size
      clear hbl
      go_wp2_with fail
      go_region_law (
        (refine step_append_sl _ (by rfl) _ _ _ (by rfl) w.heap.size 71 i0 _ 3 24 Tryz.underlying72 hi hz0 hz1 hz2 rfl (by omega) (.slice A' k c') k _ (by rfl) ((hown.alloc _).drew) _ 1 _ (aliveE (l[k]'hlt)).cells (by rfl) ((Blk.new wr _ _).sl 0 _ (by intro j u hu; simpa [Ent.cells, aliveE] using hu)) (by rfl) (by simp [Ent.cells, Value.oneCell']) (by unfold maxLen; omega) (by omega) (by simp; omega) ?_; intro v2 w2 hown2 hg2; obtain ⟨A2, q2, rfl, hle2, hmx2⟩ := own_form hown2))
      all_goals
        go_wp2
        have hb2 : Below w.heap.size w w2 := ((hb.alloc hbs _).drew).grown hg2 (by simp; omega) (fun k hk => (hown.lt k hk).1)
        go_roundw
        case rel =>
          refine ⟨k + 1, by omega, by go_num, hb2, A2, q2, rfl, ?_⟩
          rw [List.take_succ_eq_append_getElem hlt, List.map_append, List.flatMap_append]
          simpa using hown2
        case measure => simp [intOf]; omega
    · have hkn := Lib.hid (show k = l.length by omega)
      go_wp2
      go_ret
      have h := hown
      rw [hkn.out, List.take_length] at h
      refine ⟨A', c', by rw [hkn.out]; rfl, h, hb⟩

set_option maxRecDepth 100000 in
set_option maxHeartbeats 1000000 in
theorem runOne_any (x : Ent) (w : World) :
    Calls Tryz.prog 98 #[.agg #[.int .i64 x.key, .int .i64 x.val, .bool x.dead]] w (GivesRun 71 (buildL [x]) (buildE [x]) w) := by
  obtain ⟨W0, hW0⟩ : ∃ W0, ((w.alloc (.cells #[.int .i64 x.key, .int .i64 x.val, .bool x.dead] 71)).alloc (.cells #[.slice none 0 0] 74)).alloc (.cells #[.int .i64 x.key, .int .i64 x.val, .bool x.dead] 71) = W0 := ⟨_, rfl⟩
  have hb0 : Below w.heap.size w W0 := by rw [← hW0]; exact (((Below.refl _ _).alloc (Nat.le_refl _) _).alloc (by simp) _).alloc (by simp; omega) _
  have hr0 : Blk W0 (w.heap.size + 1) 74 #[.slice none 0 0] := by
    rw [← hW0]; have := Blk.new (w.alloc (.cells #[.int .i64 x.key, .int .i64 x.val, .bool x.dead] 71)) 74 #[.slice none 0 0]
    rw [World.size_alloc] at this
    exact this.alloc _
  have hx0 : Blk W0 (w.heap.size + 1 + 1) 71 #[.int .i64 x.key, .int .i64 x.val, .bool x.dead] := by
    rw [← hW0]; have := Blk.new ((w.alloc (.cells #[.int .i64 x.key, .int .i64 x.val, .bool x.dead] 71)).alloc (.cells #[.slice none 0 0] 74)) 71 #[.int .i64 x.key, .int .i64 x.val, .bool x.dead]
    rwa [World.size_alloc, World.size_alloc] at this
  have hs0 : Sl W0 (some ⟨w.heap.size + 1 + 1, 0, none⟩) ([x].flatMap Ent.cells) := hx0.sl 0 _ (by intro j u hu; simpa [Ent.cells] using hu)
  have hsz := hx0.lt
  go_enter Tryz.func98, Tryz.ntmps98
  go_wp2_with fail
  try rw [hW0]
  clear hW0
  refine (build_any _ [x] 1 _ hs0 (by simp)).mono ?_
  rintro e w1 ⟨A1, c1, rfl, hown1, hb1⟩
  have hb01 : Below w.heap.size w w1 := bext hb0 hb1
  have hr1 : Blk w1 (w.heap.size + 1) 74 #[.slice none 0 0] := hr0.below hb1 (by omega)
  have hc1 : w1.cell? ⟨w.heap.size + 1, 0, none⟩ = some (.slice none 0 0) := hr1.cell 0
  have hf1 : w1.frozen? ⟨w.heap.size + 1, 0, none⟩ = false := hr1.frozen 0
  go_wp2
  refine bodyPost_ret (v := .tuple #[.agg #[.slice A1 (buildL [x]).length c1], .int .i64 (buildE [x])]) (by simp [results, Tryz.results98, go_sem, hc1]) rfl ?_
  refine ⟨A1, c1, rfl, own_far (own_mono hown1 (by omega)) ?_ _, hb01.setCell (p := ⟨w.heap.size + 1, 0, none⟩) (by simp) _⟩
  intro e
  have := (hown1.lt _ e).1
  dsimp only at this
  omega



set_option maxRecDepth 100000 in
set_option maxHeartbeats 2000000 in
theorem runOf_any (A : Option Addr) (l : List Pr) (c : Nat) (w : World) (hA : Sl w A (l.flatMap Pr.cells)) (hn : l.length ≤ 1000000) :
    Calls Tryz.prog 70 #[.slice A l.length c] w (GivesRun 71 (buildL (l.map aliveE)) (buildE (l.map aliveE)) w) := by
  obtain ⟨i0, hi, hz0, hz1, hz2⟩ := info_parts ent_info
  have hmk := fun W => run_make_rowN (P := Tryz.prog) 72 71 i0 _ Tryz.underlying72 hi hz0 l.length (by rw [hz2]; omega) (by omega) W
  rw [hz1] at hmk
  clear hi hz0 hz1 hz2
  obtain ⟨W0, hW0⟩ : ∃ W0, (w.alloc (.cells #[.slice none 0 0] 74)).alloc (.cells (madeCells (Value.agg #[Value.int IntKind.i64 0, Value.int IntKind.i64 0, Value.bool false]).cells (l.length * 3)) 71) = W0 := ⟨_, rfl⟩
  have hb0 : Below w.heap.size w W0 := by rw [← hW0]; exact ((Below.refl _ _).alloc (Nat.le_refl _) _).alloc (by simp) _
  have hr0 : Blk W0 w.heap.size 74 #[.slice none 0 0] := by rw [← hW0]; exact (Blk.new w _ _).alloc _
  have hg0 : Blk W0 (w.heap.size + 1) 71 (madeCells (Value.agg #[Value.int IntKind.i64 0, Value.int IntKind.i64 0, Value.bool false]).cells (l.length * 3)) := by
    rw [← hW0]; have := Blk.new (w.alloc (.cells #[.slice none 0 0] 74)) 71 (madeCells (Value.agg #[Value.int IntKind.i64 0, Value.int IntKind.i64 0, Value.bool false]).cells (l.length * 3))
    rwa [World.size_alloc] at this
  go_enter Tryz.func70, Tryz.ntmps70
  go_wp2
  have hW0' : (w.alloc (.cells #[.slice none 0 0] 74)).alloc (.cells (madeCells #[Value.int IntKind.i64 0, Value.int IntKind.i64 0, Value.bool false] (l.length * 3)) 71) = W0 := hW0
  rw [hW0']
  clear hW0 hW0' hmk
  go_loopw [12] (fun i wr => ∃ k : Nat, k ≤ l.length ∧ i = .int .i64 k ∧ Mod (fun b => b = w.heap.size + 1) W0 wr ∧
      ∃ cur : Array Value, Hid (cur.size = l.length * 3) ∧ Blk wr (w.heap.size + 1) 71 cur ∧ Hid (cur.toList.take (k * 3) = ((l.take k).map aliveE).flatMap Ent.cells))
      (fun i _ => l.length - (intOf i).toNat)
  case atStart => exact ⟨0, Nat.zero_le _, rfl, Mod.refl _ _, _, by show _ = _; simp [madeCells, Value.cells], hg0, by show _ = _; simp⟩
  case round =>
    obtain ⟨k, hk, rfl, hm, cur, hcs, hcur, hct⟩ := hrel
    have hb : Below w.heap.size w wr := hb0.trans (hm.below hb0.size (by intro k h; omega))
    have hs : w.heap.size + 1 < wr.heap.size := hcur.lt
    by_cases hlt : k < l.length
    · obtain ⟨b, off, rfl, hbl, c1, c2⟩ := hA.prB hb k hlt
      have hsz := hcs.out
      obtain ⟨v1, e1⟩ : ∃ v, wr.cell? ⟨w.heap.size + 1, k * 3, none⟩ = some v := ⟨_, (hcur.cell _).trans (Array.getElem?_eq_getElem (show k * 3 < cur.size by omega))⟩
      obtain ⟨v2, e2⟩ : ∃ v, wr.cell? ⟨w.heap.size + 1, k * 3 + 1, none⟩ = some v := ⟨_, (hcur.cell _).trans (Array.getElem?_eq_getElem (show k * 3 + 1 < cur.size by omega))⟩
      obtain ⟨v3, e3⟩ : ∃ v, wr.cell? ⟨w.heap.size + 1, k * 3 + 2, none⟩ = some v := ⟨_, (hcur.cell _).trans (Array.getElem?_eq_getElem (show k * 3 + 2 < cur.size by omega))⟩
      have f1 := hcur.frozen (k * 3)
      have f2 := hcur.frozen (k * 3 + 1)
      have f3 := hcur.frozen (k * 3 + 2)
      have hki : (0 : Int) ≤ (k : Int) := by omega
      have hki2 : (k : Int) < (l.length : Int) := by omega
      clear hsz hA hbl
      go_wp2
      go_roundw
      case rel =>
        refine ⟨k + 1, by omega, by go_num, (((hm.setCell (p := ⟨w.heap.size + 1, k * 3, none⟩) rfl _).setCell (p := ⟨w.heap.size + 1, k * 3 + 1, none⟩) rfl _).setCell (p := ⟨w.heap.size + 1, k * 3 + 2, none⟩) rfl _).alloc _, _, ?_, (((hcur.set_ (k * 3) _).set_ (k * 3 + 1) _).set_ (k * 3 + 2) _).alloc _, ?_⟩
        · show _ = _; simpa using hcs.out
        · show _ = _
          rw [take_set3 _ _ _ (by rw [hcs.out]; omega) hct.out, List.take_succ_eq_append_getElem hlt, List.map_append, List.flatMap_append]
          simp [Ent.cells, aliveE]
      case measure => simp [intOf]; omega
    · have hkn := Lib.hid (show k = l.length by omega)
      have hr4 : Blk wr w.heap.size 74 #[.slice none 0 0] := hr0.mod hm (by omega)
      have hct' := hct.out
      rw [hkn.out, List.take_length] at hct'
      have hsl : Sl wr (some ⟨w.heap.size + 1, 0, none⟩) ((l.map aliveE).flatMap Ent.cells) := hcur.sl 0 _ (by
        intro j u hu
        rw [← hct', List.getElem?_take] at hu
        split at hu
        · simpa using hu
        · cases hu)
      have HCT := Lib.hid hct'
      clear hct'
      go_wp2_with fail
      refine (build_n _ (l.map aliveE) l.length l.length _ (by simp) hsl (by simp; omega)).mono ?_
      rintro e w2 ⟨A2, c2, rfl, hown2, hb2⟩
      have hb02 : Below w.heap.size w w2 := bext hb hb2
      have hr2 : Blk w2 w.heap.size 74 #[.slice none 0 0] := hr4.below hb2 (by omega)
      have hc2 : w2.cell? ⟨w.heap.size, 0, none⟩ = some (.slice none 0 0) := hr2.cell 0
      have hf2 : w2.frozen? ⟨w.heap.size, 0, none⟩ = false := hr2.frozen 0
      go_wp2
      refine bodyPost_ret (v := .tuple #[.agg #[.slice A2 (buildL (l.map aliveE)).length c2], .int .i64 (buildE (l.map aliveE))]) (by simp [results, Tryz.results70, go_sem, hc2]) rfl ?_
      refine ⟨A2, c2, rfl, own_far (own_mono hown2 (by omega)) ?_ _, hb02.setCell (p := ⟨w.heap.size, 0, none⟩) (by simp) _⟩
      intro e
      have := (hown2.lt _ e).1
      dsimp only at this
      omega
end Go.Proofs.YthbppblmecdekaaGreatDoor

/- Contracts of the references of chapter 25: shelfmarkref25 Check, Both, All, Alive, and of shelfmarkref24 Plain, Alive. -/
namespace Go.Proofs.YthbppblmecdekaaGreatDoor
open Go Go.RowKit
set_option maxRecDepth 100000

theorem bothE_nil_right (a : List Ent) : bothE a [] = a := by cases a <;> simp [bothE]
theorem bothE_lt {x y : Ent} {a b : List Ent} (h : x.key < y.key) : bothE (x :: a) (y :: b) = x :: bothE a (y :: b) := by rw [bothE, if_pos h]
theorem bothE_eq {x y : Ent} {a b : List Ent} (h : x.key = y.key) : bothE (x :: a) (y :: b) = x :: bothE a b := by rw [bothE, if_neg (by omega), if_pos h]
theorem bothE_gt2 {x y : Ent} {a b : List Ent} (h : y.key < x.key) : bothE (x :: a) (y :: b) = y :: bothE (x :: a) b := by rw [bothE, if_neg (by omega), if_neg (by omega)]
theorem drop_at {l : List Ent} {i : Nat} (h : i < l.length) : l.drop i = l[i] :: l.drop (i + 1) := (List.getElem_cons_drop h).symm

set_option maxHeartbeats 4000000 in
theorem both_any (A B : Option Addr) (a b : List Ent) (c d : Nat) (w : World) (hA : Sl w A (a.flatMap Ent.cells)) (hB : Sl w B (b.flatMap Ent.cells)) (hl : a.length + b.length ≤ 1099511627776) :
    Calls Tryz.prog 153 #[.slice A a.length c, .slice B b.length d] w (GivesOwn 71 3 (bothE a b).length ((bothE a b).flatMap Ent.cells) w) := by
  obtain ⟨te0, hI⟩ := info_parts ent_info
  have HI := Lib.hid hI
  clear hI
  go_enter Tryz.func153, Tryz.ntmps153
  go_wp2
  go_loopw [5, 6, 7] (fun v x y wr => ∃ (o : List Ent) (i k : Nat) (Ao : Option Addr) (co : Nat), v = .slice Ao o.length co ∧ x = .int .i64 i ∧ y = .int .i64 k ∧ i ≤ a.length ∧ k ≤ b.length ∧
      wr.ownsRow w.heap.size 71 3 (.slice Ao o.length co) o.length (o.flatMap Ent.cells) ∧ Below w.heap.size w wr ∧ Hid (o ++ bothE (a.drop i) (b.drop k) = bothE a b)) (fun _ x y _ => a.length + b.length - (intOf x).toNat - (intOf y).toNat)
  case atStart => exact ⟨[], 0, 0, none, 0, rfl, rfl, rfl, Nat.zero_le _, Nat.zero_le _, World.ownsRow_nil _ _ _ _, Below.refl _ _, by show _ = _; simp⟩
  case round =>
    obtain ⟨o, i, k, Ao, co, rfl, rfl, rfl, hi, hk, hown, hb, hrest⟩ := hrel
    have hol : o.length ≤ 1099511627776 := by
      have h1 := congrArg List.length hrest.out
      have h2 := bothE_len _ a b (Nat.le_refl _)
      rw [List.length_append] at h1
      omega
    have HOW := Lib.hid hown
    have HB := Lib.hid hb
    have hbs := hb.size
    have i0 : (0 : Int) ≤ (i : Int) := by omega
    have k0 : (0 : Int) ≤ (k : Int) := by omega
    have HA := Lib.hid hA
    have HBB := Lib.hid hB
    clear hown hb
    by_cases hka : k = b.length
    · have HKA := Lib.hid hka
      have hkz : ((k : Int) == (b.length : Int)) = true := by simp [hka]
      have hkd : decide ((k : Int) < (b.length : Int)) = false := decide_eq_false (by omega)
      have hkd2 : decide (k < b.length) = false := decide_eq_false (by omega)
      by_cases hia : i < a.length
      · have hid : decide ((i : Int) < (a.length : Int)) = true := decide_eq_true (by omega)
        have hid2 : decide (i < a.length) = true := decide_eq_true hia
        have i1 : (i : Int) < (a.length : Int) := by omega
        obtain ⟨ba, oa, rfl, hbl, e1, e2, e3⟩ := HA.out.entB HB.out i hia
        obtain ⟨x, hx⟩ : ∃ x, a[i]'hia = x := ⟨_, rfl⟩
        rw [hx] at e1 e2 e3
        have heq : Hid ((o ++ [x]) ++ bothE (a.drop (i + 1)) (b.drop k) = bothE a b) := by
          show _ = _
          have h := hrest.out
          rw [List.drop_eq_nil_of_le (by omega : b.length ≤ k), bothE_nil_right, drop_at hia, hx] at h
          rw [List.drop_eq_nil_of_le (by omega : b.length ≤ k), bothE_nil_right, ← h]
          simp
        clear hka hx hA hB
        go_wp2_with fail
        go_quiet (fail)
        go_wp2_with fail
        go_quiet (fail)
        go_wp2_with (at_builtin; refine wpList_append_sl _ rfl (.tmp 60) (.tmp 65) _ rfl w.heap.size 71 te0 _ 3 24 Tryz.underlying72 HI.out.1 HI.out.2.1 HI.out.2.2.1 HI.out.2.2.2 rfl (by omega) (.slice Ao o.length co) o.length _ rfl (HOW.out.alloc _) _ 1 _ [.int .i64 x.key, .int .i64 x.val, .bool x.dead] rfl (by exact sl_new1 _ _ _) rfl (by simp [Value.oneCell']) (by unfold maxLen; omega) (by omega) (by simp; omega) ?_; intro v2 w2 hown2 hg2; obtain ⟨A2, q2, rfl, hle2, hmx2⟩ := own_form hown2; have HO2 := Lib.hid hown2; clear hown2)
        go_roundw
        case rel =>
          refine ⟨o ++ [x], i + 1, k, A2, q2, by simp, by go_num, by go_num, by omega, by omega, ?_, ?_, heq⟩
          · simpa [Ent.cells] using HO2.out
          · exact ((by first | exact HB.out | exact bdrew HB.out _ | exact bdrew (bdrew HB.out _) _ : Below w.heap.size w _).alloc (by simp; omega) _).grown hg2 (by simp; omega) (fun q hq => (HOW.out.lt q hq).1)
        case measure => simp [intOf]; omega
      · have hid : decide ((i : Int) < (a.length : Int)) = false := decide_eq_false (by omega)
        have HIA := Lib.hid (show i = a.length by omega)
        have heq : Hid (o = bothE a b) := by
          show _ = _
          have h := hrest.out
          rw [List.drop_eq_nil_of_le (by omega : b.length ≤ k), List.drop_eq_nil_of_le (by omega : a.length ≤ i), bothE_nil_right, List.append_nil] at h
          exact h
        clear hka
        go_wp2
        go_ret
        exact ⟨Ao, co, by rw [heq.out]; rfl, by rw [← heq.out]; exact HOW.out, HB.out⟩
    · have hkb : k < b.length := by omega
      have hkz : ((k : Int) == (b.length : Int)) = false := beq_eq_false_iff_ne.2 (by omega)
      have hkd : decide ((k : Int) < (b.length : Int)) = true := decide_eq_true (by omega)
      have hkd2 : decide (k < b.length) = true := decide_eq_true hkb
      have k1 : (k : Int) < (b.length : Int) := by omega
      obtain ⟨bb, ob, rfl, hbl2, f1, f2, f3⟩ := HBB.out.entB HB.out k hkb
      obtain ⟨y, hy⟩ : ∃ y, b[k]'hkb = y := ⟨_, rfl⟩
      rw [hy] at f1 f2 f3
      by_cases hia : i < a.length
      · have hid : decide ((i : Int) < (a.length : Int)) = true := decide_eq_true (by omega)
        have hid2 : decide (i < a.length) = true := decide_eq_true hia
        have i1 : (i : Int) < (a.length : Int) := by omega
        obtain ⟨ba, oa, rfl, hbl, e1, e2, e3⟩ := HA.out.entB HB.out i hia
        obtain ⟨x, hx⟩ : ∃ x, a[i]'hia = x := ⟨_, rfl⟩
        rw [hx] at e1 e2 e3
        have hr := hrest.out
        rw [drop_at hia, drop_at hkb, hx, hy] at hr
        have hda := drop_at hia
        have hdb := drop_at hkb
        rw [hx] at hda
        rw [hy] at hdb
        rcases Int.lt_trichotomy x.key y.key with hlt | hkeq | hgt
        · have hc1 : decide (x.key ≤ y.key) = true := decide_eq_true (by omega)
          have hc2 : (x.key == y.key) = false := beq_eq_false_iff_ne.2 (by omega)
          have heq : Hid ((o ++ [x]) ++ bothE (a.drop (i + 1)) (b.drop k) = bothE a b) := by
            show _ = _
            rw [bothE_lt hlt] at hr
            rw [hdb, ← hr]; simp
          clear hr hda hdb hx hy hA hB hka hlt
          go_wp2_with fail
          go_quiet (fail)
          go_wp2_with fail
          go_quiet (fail)
          go_wp2_with (at_builtin; refine wpList_append_sl _ rfl (.tmp 60) (.tmp 65) _ rfl w.heap.size 71 te0 _ 3 24 Tryz.underlying72 HI.out.1 HI.out.2.1 HI.out.2.2.1 HI.out.2.2.2 rfl (by omega) (.slice Ao o.length co) o.length _ rfl (HOW.out.alloc _) _ 1 _ [.int .i64 x.key, .int .i64 x.val, .bool x.dead] rfl (by exact sl_new1 _ _ _) rfl (by simp [Value.oneCell']) (by unfold maxLen; omega) (by omega) (by simp; omega) ?_; intro v2 w2 hown2 hg2; obtain ⟨A2, q2, rfl, hle2, hmx2⟩ := own_form hown2; have HO2 := Lib.hid hown2; clear hown2)
          go_roundw
          case rel =>
            refine ⟨o ++ [x], i + 1, k, A2, q2, by simp, by go_num, by go_num, by omega, by omega, ?_, ?_, heq⟩
            · simpa [Ent.cells] using HO2.out
            · exact ((by first | exact HB.out | exact bdrew HB.out _ | exact bdrew (bdrew HB.out _) _ : Below w.heap.size w _).alloc (by simp; omega) _).grown hg2 (by simp; omega) (fun q hq => (HOW.out.lt q hq).1)
          case measure => simp [intOf]; omega
        · have hc1 : decide (x.key ≤ y.key) = true := decide_eq_true (by omega)
          have hc2 : (x.key == y.key) = true := beq_iff_eq.2 hkeq
          have heq : Hid ((o ++ [x]) ++ bothE (a.drop (i + 1)) (b.drop (k + 1)) = bothE a b) := by
            show _ = _
            rw [bothE_eq hkeq] at hr
            rw [← hr]; simp
          clear hr hda hdb hx hy hA hB hka hkeq
          go_wp2_with fail
          go_quiet (fail)
          go_wp2_with fail
          go_quiet (fail)
          go_wp2_with (at_builtin; refine wpList_append_sl _ rfl (.tmp 60) (.tmp 65) _ rfl w.heap.size 71 te0 _ 3 24 Tryz.underlying72 HI.out.1 HI.out.2.1 HI.out.2.2.1 HI.out.2.2.2 rfl (by omega) (.slice Ao o.length co) o.length _ rfl (HOW.out.alloc _) _ 1 _ [.int .i64 x.key, .int .i64 x.val, .bool x.dead] rfl (by exact sl_new1 _ _ _) rfl (by simp [Value.oneCell']) (by unfold maxLen; omega) (by omega) (by simp; omega) ?_; intro v2 w2 hown2 hg2; obtain ⟨A2, q2, rfl, hle2, hmx2⟩ := own_form hown2; have HO2 := Lib.hid hown2; clear hown2)
          go_roundw
          case rel =>
            refine ⟨o ++ [x], i + 1, k + 1, A2, q2, by simp, by go_num, by go_num, by omega, by omega, ?_, ?_, heq⟩
            · simpa [Ent.cells] using HO2.out
            · exact ((by first | exact HB.out | exact bdrew HB.out _ | exact bdrew (bdrew HB.out _) _ : Below w.heap.size w _).alloc (by simp; omega) _).grown hg2 (by simp; omega) (fun q hq => (HOW.out.lt q hq).1)
          case measure => simp [intOf]; omega
        · have hc1 : decide (x.key ≤ y.key) = false := decide_eq_false (by omega)
          have heq : Hid ((o ++ [y]) ++ bothE (a.drop i) (b.drop (k + 1)) = bothE a b) := by
            show _ = _
            rw [bothE_gt2 hgt] at hr
            rw [hda, ← hr]; simp
          clear hr hda hdb hx hy hA hB hka hgt
          go_wp2_with fail
          go_quiet (fail)
          go_wp2_with (at_builtin; refine wpList_append_sl _ rfl (.tmp 69) (.tmp 74) _ rfl w.heap.size 71 te0 _ 3 24 Tryz.underlying72 HI.out.1 HI.out.2.1 HI.out.2.2.1 HI.out.2.2.2 rfl (by omega) (.slice Ao o.length co) o.length _ rfl (HOW.out.alloc _) _ 1 _ [.int .i64 y.key, .int .i64 y.val, .bool y.dead] rfl (by exact sl_new1 _ _ _) rfl (by simp [Value.oneCell']) (by unfold maxLen; omega) (by omega) (by simp; omega) ?_; intro v2 w2 hown2 hg2; obtain ⟨A2, q2, rfl, hle2, hmx2⟩ := own_form hown2; have HO2 := Lib.hid hown2; clear hown2)
          go_roundw
          case rel =>
            refine ⟨o ++ [y], i, k + 1, A2, q2, by simp, by go_num, by go_num, by omega, by omega, ?_, ?_, heq⟩
            · simpa [Ent.cells] using HO2.out
            · exact ((by first | exact HB.out | exact bdrew HB.out _ | exact bdrew (bdrew HB.out _) _ : Below w.heap.size w _).alloc (by simp; omega) _).grown hg2 (by simp; omega) (fun q hq => (HOW.out.lt q hq).1)
          case measure => simp [intOf]; omega
      · have hid : decide ((i : Int) < (a.length : Int)) = false := decide_eq_false (by omega)
        have hid2 : decide (i < a.length) = false := decide_eq_false hia
        have heq : Hid ((o ++ [y]) ++ bothE (a.drop i) (b.drop (k + 1)) = bothE a b) := by
          show _ = _
          have hr := hrest.out
          rw [List.drop_eq_nil_of_le (by omega : a.length ≤ i), drop_at hkb, hy, bothE] at hr
          rw [List.drop_eq_nil_of_le (by omega : a.length ≤ i), bothE, ← hr]; simp
        clear hy hA hB hka
        go_wp2_with fail
        go_quiet (fail)
        go_wp2_with (at_builtin; refine wpList_append_sl _ rfl (.tmp 69) (.tmp 74) _ rfl w.heap.size 71 te0 _ 3 24 Tryz.underlying72 HI.out.1 HI.out.2.1 HI.out.2.2.1 HI.out.2.2.2 rfl (by omega) (.slice Ao o.length co) o.length _ rfl (HOW.out.alloc _) _ 1 _ [.int .i64 y.key, .int .i64 y.val, .bool y.dead] rfl (by exact sl_new1 _ _ _) rfl (by simp [Value.oneCell']) (by unfold maxLen; omega) (by omega) (by simp; omega) ?_; intro v2 w2 hown2 hg2; obtain ⟨A2, q2, rfl, hle2, hmx2⟩ := own_form hown2; have HO2 := Lib.hid hown2; clear hown2)
        go_roundw
        case rel =>
          refine ⟨o ++ [y], i, k + 1, A2, q2, by simp, by go_num, by go_num, by omega, by omega, ?_, ?_, heq⟩
          · simpa [Ent.cells] using HO2.out
          · exact ((by first | exact HB.out | exact bdrew HB.out _ | exact bdrew (bdrew HB.out _) _ : Below w.heap.size w _).alloc (by simp; omega) _).grown hg2 (by simp; omega) (fun q hq => (HOW.out.lt q hq).1)
        case measure => simp [intOf]; omega

/-! ### the live ones -/
def liveE (l : List Ent) : List Ent := l.filter (fun e => !e.dead)
def plainE (l : List Ent) : List Pr := (liveE l).map (fun e => ⟨e.key, e.val⟩)
theorem plain_alive (l : List Ent) : (plainE l).map aliveE = liveE l := by
  unfold plainE
  rw [List.map_map]
  have : ∀ e ∈ liveE l, (aliveE ∘ fun e : Ent => (⟨e.key, e.val⟩ : Pr)) e = e := by
    intro e he
    have hd : e.dead = false := by simpa using (List.mem_filter.1 he).2
    obtain ⟨k, v, d⟩ := e
    dsimp at hd
    subst hd
    rfl
  rw [List.map_congr_left this, List.map_id']
theorem live_succ {l : List Ent} {k : Nat} (h : k < l.length) : liveE (l.take (k + 1)) = liveE (l.take k) ++ (if (l[k]'h).dead = true then [] else [l[k]'h]) := by
  unfold liveE
  rw [List.take_succ_eq_append_getElem h, List.filter_append]
  cases hd : (l[k]'h).dead <;> simp [List.filter, hd]
theorem live_le (l : List Ent) : (liveE l).length ≤ l.length := List.length_filter_le _ _
theorem live_ris {l : List Ent} (h : RisE l) : RisE (liveE l) := List.Pairwise.filter _ h
theorem pair_info2 : (Tryz.prog.info? 47).map (fun i => (i.zero, i.size, i.bytes)) = some (some (.agg #[.int .i64 0, .int .i64 0]), 2, 16) := by kernel_rfl

set_option maxHeartbeats 2000000 in
theorem refPlain_any (A : Option Addr) (l : List Ent) (c : Nat) (w : World) (hA : Sl w A (l.flatMap Ent.cells)) (hn : l.length ≤ 1099511627776) :
    Calls Tryz.prog 120 #[.slice A l.length c] w (GivesOwn 47 2 (plainE l).length ((plainE l).flatMap Pr.cells) w) := by
  obtain ⟨i0, hi, hz0, hz1, hz2⟩ := info_parts pair_info2
  go_enter Tryz.func120, Tryz.ntmps120
  go_wp2
  go_loopw [3, 4] (fun v i wr => ∃ (k : Nat) (o : List Pr) (A' : Option Addr) (c' : Nat), k ≤ l.length ∧ i = .int .i64 k ∧ Below w.heap.size w wr ∧ v = .slice A' o.length c' ∧
      wr.ownsRow w.heap.size 47 2 (.slice A' o.length c') o.length (o.flatMap Pr.cells) ∧ Hid (o = plainE (l.take k))) (fun _ i _ => l.length - (intOf i).toNat)
  case atStart => exact ⟨0, [], none, 0, Nat.zero_le _, rfl, Below.refl _ _, rfl, World.ownsRow_nil _ _ _ _, rfl⟩
  case round =>
    obtain ⟨k, o, A', c', hk, rfl, hb, rfl, hown, ho⟩ := hrel
    have hbs := hb.size
    by_cases hlt : k < l.length
    · obtain ⟨b, off, rfl, hbl, c1, c2, c3⟩ := hA.entB hb k hlt
      have hol : o.length ≤ k := by rw [ho.out]; unfold plainE; rw [List.length_map]; have := live_le (l.take k); simp at this; omega
      have hki : (0 : Int) ≤ (k : Int) := by omega
      have hki2 : (k : Int) < (l.length : Int) := by omega
      have hs := live_succ hlt
      obtain ⟨x, hx⟩ : ∃ x, l[k]'hlt = x := ⟨_, rfl⟩
      rw [hx] at c1 c2 c3 hs
      cases hd : x.dead
      · rw [hd] at c3 hs
        have hnew : Hid (o ++ [⟨x.key, x.val⟩] = plainE (l.take (k + 1))) := by
          show _ = _
          rw [ho.out]; unfold plainE; rw [hs]; simp
        have HOW := Lib.hid hown
        clear hd hs hx
        go_wp2_with fail
        go_region_law (
          (refine step_append_sl _ (by rfl) _ _ _ (by rfl) w.heap.size 47 i0 _ 2 16 Tryz.underlying37 hi hz0 hz1 hz2 rfl (by omega) (.slice A' o.length c') o.length _ (by rfl) ((HOW.out.alloc _).drew) _ 1 _ [.int .i64 x.key, .int .i64 x.val] (by rfl) ((Blk.new wr _ _).sl 0 _ (by intro j u hu; simpa using hu)) (by rfl) (by simp [Value.oneCell']) (by unfold maxLen; omega) (by omega) (by simp; omega) ?_; intro v2 w2 hown2 hg2; obtain ⟨A2, z2, rfl, hle2, hmx2⟩ := own_form hown2; have HO2 := Lib.hid hown2; clear hown2))
        all_goals
          go_wp2
          go_roundw
          case rel =>
            exact ⟨k + 1, o ++ [⟨x.key, x.val⟩], A2, z2, by omega, by go_num, ((hb.alloc hbs _).drew).grown hg2 (by simp; omega) (fun k hk => (HOW.out.lt k hk).1), by simp, by simpa [Pr.cells] using HO2.out, hnew⟩
          case measure => simp [intOf]; omega
      · rw [hd] at c3 hs
        have hnew : Hid (o = plainE (l.take (k + 1))) := by
          show _ = _
          rw [ho.out]; unfold plainE; rw [hs]; simp
        clear hd hs hx
        go_wp2_with fail
        go_roundw
        case rel => exact ⟨k + 1, o, A', c', by omega, by go_num, hb, rfl, hown, hnew⟩
        case measure => simp [intOf]; omega
    · have hkn := Lib.hid (show k = l.length by omega)
      go_wp2
      go_ret
      have h := hown
      have ho2 := ho.out
      rw [hkn.out, List.take_of_length_le (Nat.le_refl _)] at ho2
      rw [ho2] at h ⊢
      exact ⟨A', c', rfl, h, hb⟩

set_option maxHeartbeats 1000000 in
theorem refAlive25_any (A : Option Addr) (l : List Ent) (c : Nat) (w : World) (hA : Sl w A (l.flatMap Ent.cells)) (hn : l.length ≤ 65536) :
    Calls Tryz.prog 164 #[.slice A l.length c] w (GivesOwn 71 3 (liveE l).length ((liveE l).flatMap Ent.cells) w) := by
  have hpl : (plainE l).length ≤ 65536 := by unfold plainE; rw [List.length_map]; have := live_le l; omega
  have hpl2 : (plainE l).length = (liveE l).length := by unfold plainE; rw [List.length_map]
  have HP := Lib.hid hpl2
  clear hpl2
  go_enter Tryz.func164, Tryz.ntmps164
  go_wp2_with fail
  refine (refPlain_any A l c _ hA (by omega)).mono ?_
  rintro e w1 ⟨A1, c1, rfl, ho1, hb1⟩
  have hs1 := own_sl ho1
  clear ho1
  go_wp2_with fail
  refine (refAlive_any A1 (plainE l) c1 _ hs1 hpl).mono ?_
  rw [plain_alive, HP.out]
  rintro e w2 ⟨A2, c2, rfl, ho2, hb2⟩
  have HO := Lib.hid (own_mono ho2 hb1.size)
  clear ho2
  go_wp2
  go_ret
  exact ⟨A2, c2, rfl, HO.out, bext hb1 hb2⟩

/-! ### runs -/
def chkAllE : List (List Ent) → Int
  | [] => 0
  | r :: rs => if chkE r = 0 then chkAllE rs else chkE r
theorem chkAll_ok : ∀ {rs : List (List Ent)}, chkAllE rs = 0 → ∀ r ∈ rs, chkE r = 0
  | [], _, _, h => by simp at h
  | r0 :: rs, h, r, hr => by
    rw [chkAllE] at h
    by_cases h0 : chkE r0 = 0
    · rw [if_pos h0] at h
      rcases List.mem_cons.1 hr with rfl | hr
      · exact h0
      · exact chkAll_ok h r hr
    · rw [if_neg h0] at h; exact absurd h h0
theorem chkAll_drop {rs : List (List Ent)} {k : Nat} (h : k < rs.length) : chkAllE (rs.drop k) = if chkE (rs[k]'h) = 0 then chkAllE (rs.drop (k + 1)) else chkE (rs[k]'h) := by
  rw [← List.getElem_cons_drop h, chkAllE]
/-- runs in memory -/
structure RunsAt (w : World) (B : Option Addr) (Rs : List Rm) : Prop where
  sl : Sl w B (Rs.map Rm.v)
  ok : ∀ r ∈ Rs, r.Ok w
theorem Rm.Ok.below {w w' : World} {r : Rm} (h : r.Ok w) (hb : Below w.heap.size w w') : r.Ok w' := ⟨h.sl.below hb, h.lc, h.c⟩
theorem RunsAt.below {w w' : World} {B : Option Addr} {Rs : List Rm} (h : RunsAt w B Rs) (hb : Below w.heap.size w w') : RunsAt w' B Rs := ⟨h.sl.below hb, fun r hr => (h.ok r hr).below hb⟩


theorem all_take_len : ∀ (rs : List (List Ent)) (k T : Nat), (rs.map List.length).sum ≤ T → (allE (rs.take k)).length + ((rs.drop k).map List.length).sum ≤ T := by
  intro rs k T h
  have h1 := fold_len (rs.take k) []
  have h2 : ((rs.take k).map List.length).sum + ((rs.drop k).map List.length).sum = (rs.map List.length).sum := by
    rw [← List.sum_append, ← List.map_append, List.take_append_drop]
  unfold allE
  rw [List.length_nil, Nat.zero_add] at h1
  omega
theorem all_succ {rs : List (List Ent)} {k : Nat} (h : k < rs.length) : allE (rs.take (k + 1)) = bothE (allE (rs.take k)) (rs[k]'h) := by
  unfold allE
  rw [List.take_succ_eq_append_getElem h, List.foldl_append]; rfl
/-- what the runs are, in order -/
def inS (Rs : List Rm) : List (List Ent) := Rs.map (fun r => inL r.l)
theorem inS_sum (Rs : List Rm) : ((inS Rs).map List.length).sum = (Rs.map (fun r => r.l.length)).sum := by
  unfold inS
  rw [List.map_map]
  congr 1
  exact List.map_congr_left (fun r _ => inL_length r.l)

set_option maxHeartbeats 1000000 in
theorem refAll_any (B : Option Addr) (Rs : List Rm) (c T : Nat) (w : World) (hB : RunsAt w B Rs) (hl : Rs.length ≤ 4611686018427387903) (hsm : ∀ r ∈ Rs, r.l.length ≤ 65536) (hT : (Rs.map (fun r => r.l.length)).sum ≤ T) (hT2 : T ≤ 1099511627776) :
    Calls Tryz.prog 121 #[.slice B Rs.length c] w (GivesOwn 71 3 (allE (inS Rs)).length ((allE (inS Rs)).flatMap Ent.cells) w) := by
  rw [← inS_sum] at hT
  have HT := Lib.hid hT
  clear hT
  go_enter Tryz.func121, Tryz.ntmps121
  go_wp2
  go_loopw [3, 4] (fun v i wr => ∃ (k : Nat) (o : List Ent) (A' : Option Addr) (c' : Nat), k ≤ Rs.length ∧ i = .int .i64 k ∧ Below w.heap.size w wr ∧ v = .slice A' o.length c' ∧
      wr.ownsRow w.heap.size 71 3 (.slice A' o.length c') o.length (o.flatMap Ent.cells) ∧ Hid (o = allE ((inS Rs).take k))) (fun _ i _ => Rs.length - (intOf i).toNat)
  case atStart => exact ⟨0, [], none, 0, Nat.zero_le _, rfl, Below.refl _ _, rfl, World.ownsRow_nil _ _ _ _, rfl⟩
  case round =>
    obtain ⟨k, o, A', c', hk, rfl, hb, rfl, hown, ho⟩ := hrel
    by_cases hlt : k < Rs.length
    · have hlt2 : k < (inS Rs).length := by unfold inS; simpa using hlt
      obtain ⟨b, off, rfl, hbl, cp⟩ := hB.sl.oneB hb k hlt
      have hok := (hB.ok _ (List.getElem_mem hlt)).below hb
      have hs := all_succ hlt2
      have hlen := all_take_len (inS Rs) k T HT.out
      rw [List.drop_eq_getElem_cons hlt2, List.map_cons, List.sum_cons] at hlen
      have hgi : (inS Rs)[k]'hlt2 = inL (Rs[k]'hlt).l := by simp [inS]
      have hsmr := hsm _ (List.getElem_mem hlt)
      rw [hgi] at hs hlen
      rw [← ho.out] at hlen hs
      obtain ⟨r, hr⟩ : ∃ r, Rs[k]'hlt = r := ⟨_, rfl⟩
      rw [hr] at cp hok hs hlen hsmr
      obtain ⟨l, A, cl⟩ := r
      have cp1 : wr.cell? ⟨b, off + k, none⟩ = some (.slice A l.length cl) := cp
      dsimp only at hs hlen hsmr
      rw [inL_length] at hlen
      have hki : (0 : Int) ≤ (k : Int) := by omega
      have hki2 : (k : Int) < (Rs.length : Int) := by omega
      have HS := Lib.hid hs
      have HOK := Lib.hid hok.sl
      have HL := Lib.hid (inL_length l)
      have HOW := Lib.hid hown
      have hol : o.length + l.length ≤ 1099511627776 := by omega
      clear cp hr hs hok hgi hlen hown
      go_wp2_with fail
      refine (refIn_any A l cl _ HOK.out hsmr).mono ?_
      rintro e w1 ⟨A1, c1, rfl, ho1, hb1⟩
      have hs1 := own_sl ho1
      have HSO := Lib.hid ((own_sl HOW.out).below hb1)
      clear ho1
      go_wp2_with fail
      rw [← HL.out]
      refine (both_any A' A1 o (inL l) c' c1 _ HSO.out hs1 (by rw [HL.out]; omega)).mono ?_
      rw [← HS.out]
      rintro e w2 ⟨A2, c2, rfl, ho2, hb2⟩
      have HO2 := Lib.hid (own_mono (B' := w.heap.size) ho2 (Nat.le_trans hb.size hb1.size))
      clear ho2
      go_wp2
      go_roundw
      case rel => exact ⟨k + 1, _, A2, c2, by omega, by go_num, bext hb (bext hb1 hb2), rfl, HO2.out, rfl⟩
      case measure => simp [intOf]; omega
    · have hkn : k = Rs.length := by omega
      have h : o = allE (inS Rs) := by rw [ho.out, List.take_of_length_le (by unfold inS; simp; omega)]
      have H := Lib.hid h
      clear h hkn
      go_wp2
      go_ret
      exact ⟨A', c', by rw [H.out]; rfl, by rw [← H.out]; exact hown, hb⟩

def mrgE (Rs : List Rm) : Int := if chkAllE (Rs.map Rm.l) = 0 then (if (allE (inS Rs)).length > 65536 then 4 else 0) else chkAllE (Rs.map Rm.l)
def bareE (bare : Bool) (l : List Ent) : List Ent := if bare = true then liveE l else l
def mrgL (Rs : List Rm) (bare : Bool) : List Ent := if mrgE Rs = 0 then laid (bareE bare (allE (inS Rs))) else []
theorem chk_len {l : List Ent} (h : chkE l = 0) : l.length ≤ 65536 := (chk_ok h).2.2
end Go.Proofs.YthbppblmecdekaaGreatDoor
