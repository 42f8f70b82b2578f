/- Args Run1 Kp Km Sb: texts of the claim, in this order. -/
import Derived.Test.YthbppblmecdekaaDoorProg
import Derived.Test.YthbppblmecdekaaDoorWb2
import Derived.Test.YthbppblmecdekaaDoorWb1
/- The arguments of this seat's laws, read as data. -/
namespace Go.Proofs.YthbppblmecdekaaDoor
open Go Go.ChangeShapes Go.WideShapes Go.ChangeAt Go.RowKit
set_option maxRecDepth 100000

theorem own : ownKnob Tryd.prog.godebug = none := by kernel_rfl
theorem laidOut : laidOutB Tryd.prog = true := by kernel_rfl

theorem read_ents {H : Type} {enc : TypeId × Value → H} {w : World} {base : Nat} {v : Value} {d : DataW H} {p : List MemPlace} (hok : Value.okWide Tryd.prog w .any base 59 v)
    (h : DataW.Trod enc Tryd.prog w 0 (fun _ => true) true 59 v d p) : ∃ (A : Option Addr) (l : List Ent) (c : Nat), v = .slice A l.length c ∧ l.length ≤ c ∧ c ≤ maxLen ∧ Sl w A (l.flatMap Ent.cells) := by
  obtain ⟨fuel, hf⟩ := h
  obtain ⟨A, l, c, h1, h2, h3, h4, _⟩ := read_slice Ent.cells (fun _ => True) Ent.cells_length (by omega) Tryd.underlying59 (by kernel_rfl)
    (fun fuel cs y h => dec_ent Tryd.underlying27 Tryd.underlying2 Tryd.underlying4 (by kernel_rfl) (by kernel_rfl) (by kernel_rfl) fuel cs y h) (okWide_slice Tryd.underlying59 hok) hf
  exact ⟨A, l, c, h1, h2, h3, h4⟩

theorem read_prs {H : Type} {enc : TypeId × Value → H} {w : World} {base : Nat} {v : Value} {d : DataW H} {p : List MemPlace} (hok : Value.okWide Tryd.prog w .any base 38 v)
    (h : DataW.Trod enc Tryd.prog w 0 (fun _ => true) true 38 v d p) : ∃ (A : Option Addr) (l : List Pr) (c : Nat), v = .slice A l.length c ∧ l.length ≤ c ∧ c ≤ maxLen ∧ Sl w A (l.flatMap Pr.cells) := by
  obtain ⟨fuel, hf⟩ := h
  obtain ⟨A, l, c, h1, h2, h3, h4, _⟩ := read_slice Pr.cells (fun _ => True) Pr.cells_length (by omega) Tryd.underlying38 (by kernel_rfl)
    (fun fuel cs y h => dec_pr Tryd.underlying56 Tryd.underlying2 (by kernel_rfl) (by kernel_rfl) fuel cs y h) (okWide_slice Tryd.underlying38 hok) hf
  exact ⟨A, l, c, h1, h2, h3, h4⟩

theorem read_ent {H : Type} {enc : TypeId × Value → H} {w : World} {base : Nat} {v : Value} {d : DataW H} {p : List MemPlace} (hok : Value.okWide Tryd.prog w .any base 27 v)
    (h : DataW.Trod enc Tryd.prog w 0 (fun _ => true) true 27 v d p) : ∃ x : Ent, v = .agg #[.int .i64 x.key, .int .i64 x.val, .bool x.dead] := by
  obtain ⟨cs, rfl, _⟩ := okWide_struct Tryd.underlying27 hok
  obtain ⟨fuel, hf⟩ := h
  obtain ⟨x, hx, _⟩ := dec_ent Tryd.underlying27 Tryd.underlying2 Tryd.underlying4 (by kernel_rfl) (by kernel_rfl) (by kernel_rfl) fuel _ _ hf
  refine ⟨x, ?_⟩
  obtain ⟨l⟩ := cs
  simp only [Value.cells] at hx
  simp only [Value.agg.injEq]
  rw [show l = x.cells from hx]
  rfl
end Go.Proofs.YthbppblmecdekaaDoor

/- Contracts: pairs that are the same, entries of pairs, run.One and run.Of and their references. -/
namespace Go.Proofs.YthbppblmecdekaaDoor
open Go Go.RowKit
set_option maxRecDepth 100000

theorem pr_stood : Tryd.prog.stoodInHeld 56 = false := by kernel_rfl
theorem pr_guard : Tryd.prog.eqGuardType Tryd.prog.depth 56 = false := by kernel_rfl
theorem pr_info : (Tryd.prog.info? 56).map (fun i => (i.zero, i.size, i.bytes)) = some (some (.agg #[.int .i64 0, .int .i64 0]), 2, 16) := by kernel_rfl
def neP (a b : Pr) : Bool := decide (a ≠ b)
theorem run_neq_pr (a b : Pr) (w : World) :
    (binOp .neq 56 (.agg #[.int .i64 a.key, .int .i64 a.val]) (.agg #[.int .i64 b.key, .int .i64 b.val])).run Tryd.prog w = .ok (.bool (neP a b)) w := by
  have h1 := pr_stood
  have h2 := pr_guard
  have h3 := Tryd.underlying56
  obtain ⟨k, v⟩ := a
  obtain ⟨k', v'⟩ := b
  simp only [go_sem, h1, h3]
  simp [go_sem, neP]
  by_cases hk : k = k' <;> by_cases hv : v = v' <;> simp [hk, hv]

set_option maxRecDepth 100000 in
set_option maxHeartbeats 1000000 in
theorem samePairs_any (A B : Option Addr) (l m : List Pr) (c d : Nat) (w : World) (hA : Sl w A (l.flatMap Pr.cells)) (hB : Sl w B (m.flatMap Pr.cells)) (_hl : l.length ≤ 4611686018427387903) (hm : m.length ≤ 4611686018427387903) :
    Calls Tryd.prog 27 #[.slice A l.length c, .slice B m.length d] w fun r w' => r = .returned (.bool (decide (l = m))) ∧ Below w.heap.size w w' := by
  by_cases hlen : l.length = m.length
  · have hz : ((l.length : Int) != (m.length : Int)) = false := by simp [hlen]
    have hz2 : (l.length : Int) ≤ (m.length : Int) := by omega
    have HL := Lib.hid hlen
    clear hlen
    go_enter Tryd.func27, Tryd.ntmps27
    go_wp2
    go_loopw [5] (fun i wr => ∃ k : Nat, k ≤ l.length ∧ i = .int .i64 k ∧ Below w.heap.size w wr ∧ Hid (l.take k = m.take k)) (fun i _ => l.length - (intOf i).toNat)
    case atStart => exact ⟨0, Nat.zero_le _, rfl, Below.refl _ _, rfl⟩
    case round =>
      obtain ⟨k, hk, rfl, hb, hn⟩ := hrel
      by_cases hlt : k < l.length
      · have hlt2 : k < m.length := by omega
        obtain ⟨b, off, rfl, hbl, c1, c2⟩ := hA.prB hb k hlt
        obtain ⟨b', off', rfl, hbl', d1, d2⟩ := hB.prB hb k hlt2
        have i0 : (0 : Int) ≤ (k : Int) := by omega
        have i1 : (k : Int) < (l.length : Int) := by omega
        have i2 : (k : Int) < (m.length : Int) := by omega
        clear hA hB
        have hne := fun w => run_neq_pr (l[k]'hlt) (m[k]'hlt2) w
        have hgu := pr_guard
        go_wp2
        go_quiet (fail)
        clear hne hgu
        go_wp2
        · have hx : neP (l[k]'hlt) (m[k]'hlt2) = true := by assumption
          go_ret
          refine ⟨ret_bool ?_, bdrew hb _⟩
          symm
          rw [decide_eq_false_iff_not]
          rintro rfl
          simp [neP] at hx
        · have hx : neP (l[k]'hlt) (m[k]'hlt2) = false := by assumption
          go_roundw
          case rel =>
            refine ⟨k + 1, by omega, by go_num, bdrew hb _, ?_⟩
            show _ = _
            rw [List.take_succ_eq_append_getElem hlt, List.take_succ_eq_append_getElem hlt2, hn.out]
            simp [neP] at hx
            rw [hx]
          case measure => simp [intOf]; omega
      · go_wp2
        go_ret
        refine ⟨ret_bool ?_, hb⟩
        have := hn.out
        rw [List.take_of_length_le (by omega), List.take_of_length_le (by have := HL.out; omega)] at this
        rw [this, decide_eq_true rfl]
  · have hz : ((l.length : Int) != (m.length : Int)) = true := by simp; omega
    have HL := Lib.hid hlen
    clear hlen
    go_enter Tryd.func27, Tryd.ntmps27
    go_wp2
    go_ret
    refine ⟨ret_bool ?_, Below.refl _ _⟩
    symm
    rw [decide_eq_false_iff_not]
    rintro rfl
    exact HL.out rfl

/-- pairs as live entries -/
def aliveE (p : Pr) : Ent := ⟨p.key, p.val, false⟩


set_option maxRecDepth 100000 in
set_option maxHeartbeats 1000000 in
theorem runOne_any (x : Ent) (w : World) :
    Calls Tryd.prog 49 #[.agg #[.int .i64 x.key, .int .i64 x.val, .bool x.dead]] w (GivesRun 27 (buildL [x]) (buildE [x]) w) := by
  obtain ⟨W0, hW0⟩ : ∃ W0, ((w.alloc (.cells #[.int .i64 x.key, .int .i64 x.val, .bool x.dead] 27)).alloc (.cells #[.slice none 0 0] 61)).alloc (.cells #[.int .i64 x.key, .int .i64 x.val, .bool x.dead] 27) = W0 := ⟨_, rfl⟩
  have hb0 : Below w.heap.size w W0 := by rw [← hW0]; exact (((Below.refl _ _).alloc (Nat.le_refl _) _).alloc (by simp) _).alloc (by simp; omega) _
  have hr0 : Blk W0 (w.heap.size + 1) 61 #[.slice none 0 0] := by
    rw [← hW0]; have := Blk.new (w.alloc (.cells #[.int .i64 x.key, .int .i64 x.val, .bool x.dead] 27)) 61 #[.slice none 0 0]
    rw [World.size_alloc] at this
    exact this.alloc _
  have hx0 : Blk W0 (w.heap.size + 1 + 1) 27 #[.int .i64 x.key, .int .i64 x.val, .bool x.dead] := by
    rw [← hW0]; have := Blk.new ((w.alloc (.cells #[.int .i64 x.key, .int .i64 x.val, .bool x.dead] 27)).alloc (.cells #[.slice none 0 0] 61)) 27 #[.int .i64 x.key, .int .i64 x.val, .bool x.dead]
    rwa [World.size_alloc, World.size_alloc] at this
  have hs0 : Sl W0 (some ⟨w.heap.size + 1 + 1, 0, none⟩) ([x].flatMap Ent.cells) := hx0.sl 0 _ (by intro j u hu; simpa [Ent.cells] using hu)
  have hsz := hx0.lt
  go_enter Tryd.func49, Tryd.ntmps49
  go_wp2_with fail
  try rw [hW0]
  clear hW0
  refine (build_any _ [x] 1 _ hs0 (by simp)).mono ?_
  rintro e w1 ⟨A1, c1, rfl, hown1, hb1⟩
  have hb01 : Below w.heap.size w w1 := bext hb0 hb1
  have hr1 : Blk w1 (w.heap.size + 1) 61 #[.slice none 0 0] := hr0.below hb1 (by omega)
  have hc1 : w1.cell? ⟨w.heap.size + 1, 0, none⟩ = some (.slice none 0 0) := hr1.cell 0
  have hf1 : w1.frozen? ⟨w.heap.size + 1, 0, none⟩ = false := hr1.frozen 0
  go_wp2
  refine bodyPost_ret (v := .tuple #[.agg #[.slice A1 (buildL [x]).length c1], .int .i64 (buildE [x])]) (by simp [results, Tryd.results49, go_sem, hc1]) rfl ?_
  refine ⟨A1, c1, rfl, own_far (own_mono hown1 (by omega)) ?_ _, hb01.setCell (p := ⟨w.heap.size + 1, 0, none⟩) (by simp) _⟩
  intro e
  have := (hown1.lt _ e).1
  dsimp only at this
  omega



set_option maxRecDepth 100000 in
set_option maxHeartbeats 2000000 in
theorem runOf_any (A : Option Addr) (l : List Pr) (c : Nat) (w : World) (hA : Sl w A (l.flatMap Pr.cells)) (hn : l.length ≤ 1000000) :
    Calls Tryd.prog 64 #[.slice A l.length c] w (GivesRun 27 (buildL (l.map aliveE)) (buildE (l.map aliveE)) w) := by
  obtain ⟨i0, hi, hz0, hz1, hz2⟩ := info_parts ent_info
  have hmk := fun W => run_make_rowN (P := Tryd.prog) 59 27 i0 _ Tryd.underlying59 hi hz0 l.length (by rw [hz2]; omega) (by omega) W
  rw [hz1] at hmk
  clear hi hz0 hz1 hz2
  obtain ⟨W0, hW0⟩ : ∃ W0, (w.alloc (.cells #[.slice none 0 0] 61)).alloc (.cells (madeCells (Value.agg #[Value.int IntKind.i64 0, Value.int IntKind.i64 0, Value.bool false]).cells (l.length * 3)) 27) = W0 := ⟨_, rfl⟩
  have hb0 : Below w.heap.size w W0 := by rw [← hW0]; exact ((Below.refl _ _).alloc (Nat.le_refl _) _).alloc (by simp) _
  have hr0 : Blk W0 w.heap.size 61 #[.slice none 0 0] := by rw [← hW0]; exact (Blk.new w _ _).alloc _
  have hg0 : Blk W0 (w.heap.size + 1) 27 (madeCells (Value.agg #[Value.int IntKind.i64 0, Value.int IntKind.i64 0, Value.bool false]).cells (l.length * 3)) := by
    rw [← hW0]; have := Blk.new (w.alloc (.cells #[.slice none 0 0] 61)) 27 (madeCells (Value.agg #[Value.int IntKind.i64 0, Value.int IntKind.i64 0, Value.bool false]).cells (l.length * 3))
    rwa [World.size_alloc] at this
  go_enter Tryd.func64, Tryd.ntmps64
  go_wp2
  have hW0' : (w.alloc (.cells #[.slice none 0 0] 61)).alloc (.cells (madeCells #[Value.int IntKind.i64 0, Value.int IntKind.i64 0, Value.bool false] (l.length * 3)) 27) = W0 := hW0
  rw [hW0']
  clear hW0 hW0' hmk
  go_loopw [12] (fun i wr => ∃ k : Nat, k ≤ l.length ∧ i = .int .i64 k ∧ Mod (fun b => b = w.heap.size + 1) W0 wr ∧
      ∃ cur : Array Value, Hid (cur.size = l.length * 3) ∧ Blk wr (w.heap.size + 1) 27 cur ∧ Hid (cur.toList.take (k * 3) = ((l.take k).map aliveE).flatMap Ent.cells))
      (fun i _ => l.length - (intOf i).toNat)
  case atStart => exact ⟨0, Nat.zero_le _, rfl, Mod.refl _ _, _, by show _ = _; simp [madeCells, Value.cells], hg0, by show _ = _; simp⟩
  case round =>
    obtain ⟨k, hk, rfl, hm, cur, hcs, hcur, hct⟩ := hrel
    have hb : Below w.heap.size w wr := hb0.trans (hm.below hb0.size (by intro k h; omega))
    have hs : w.heap.size + 1 < wr.heap.size := hcur.lt
    by_cases hlt : k < l.length
    · obtain ⟨b, off, rfl, hbl, c1, c2⟩ := hA.prB hb k hlt
      have hsz := hcs.out
      obtain ⟨v1, e1⟩ : ∃ v, wr.cell? ⟨w.heap.size + 1, k * 3, none⟩ = some v := ⟨_, (hcur.cell _).trans (Array.getElem?_eq_getElem (show k * 3 < cur.size by omega))⟩
      obtain ⟨v2, e2⟩ : ∃ v, wr.cell? ⟨w.heap.size + 1, k * 3 + 1, none⟩ = some v := ⟨_, (hcur.cell _).trans (Array.getElem?_eq_getElem (show k * 3 + 1 < cur.size by omega))⟩
      obtain ⟨v3, e3⟩ : ∃ v, wr.cell? ⟨w.heap.size + 1, k * 3 + 2, none⟩ = some v := ⟨_, (hcur.cell _).trans (Array.getElem?_eq_getElem (show k * 3 + 2 < cur.size by omega))⟩
      have f1 := hcur.frozen (k * 3)
      have f2 := hcur.frozen (k * 3 + 1)
      have f3 := hcur.frozen (k * 3 + 2)
      have hki : (0 : Int) ≤ (k : Int) := by omega
      have hki2 : (k : Int) < (l.length : Int) := by omega
      clear hsz hA hbl
      go_wp2
      go_roundw
      case rel =>
        refine ⟨k + 1, by omega, by go_num, (((hm.setCell (p := ⟨w.heap.size + 1, k * 3, none⟩) rfl _).setCell (p := ⟨w.heap.size + 1, k * 3 + 1, none⟩) rfl _).setCell (p := ⟨w.heap.size + 1, k * 3 + 2, none⟩) rfl _).alloc _, _, ?_, (((hcur.set_ (k * 3) _).set_ (k * 3 + 1) _).set_ (k * 3 + 2) _).alloc _, ?_⟩
        · show _ = _; simpa using hcs.out
        · show _ = _
          rw [take_set3 _ _ _ (by rw [hcs.out]; omega) hct.out, List.take_succ_eq_append_getElem hlt, List.map_append, List.flatMap_append]
          simp [Ent.cells, aliveE]
      case measure => simp [intOf]; omega
    · have hkn := Lib.hid (show k = l.length by omega)
      have hr4 : Blk wr w.heap.size 61 #[.slice none 0 0] := hr0.mod hm (by omega)
      have hct' := hct.out
      rw [hkn.out, List.take_length] at hct'
      have hsl : Sl wr (some ⟨w.heap.size + 1, 0, none⟩) ((l.map aliveE).flatMap Ent.cells) := hcur.sl 0 _ (by
        intro j u hu
        rw [← hct', List.getElem?_take] at hu
        split at hu
        · simpa using hu
        · cases hu)
      have HCT := Lib.hid hct'
      clear hct'
      go_wp2_with fail
      refine (build_n _ (l.map aliveE) l.length l.length _ (by simp) hsl (by simp; omega)).mono ?_
      rintro e w2 ⟨A2, c2, rfl, hown2, hb2⟩
      have hb02 : Below w.heap.size w w2 := bext hb hb2
      have hr2 : Blk w2 w.heap.size 61 #[.slice none 0 0] := hr4.below hb2 (by omega)
      have hc2 : w2.cell? ⟨w.heap.size, 0, none⟩ = some (.slice none 0 0) := hr2.cell 0
      have hf2 : w2.frozen? ⟨w.heap.size, 0, none⟩ = false := hr2.frozen 0
      go_wp2
      refine bodyPost_ret (v := .tuple #[.agg #[.slice A2 (buildL (l.map aliveE)).length c2], .int .i64 (buildE (l.map aliveE))]) (by simp [results, Tryd.results64, go_sem, hc2]) rfl ?_
      refine ⟨A2, c2, rfl, own_far (own_mono hown2 (by omega)) ?_ _, hb02.setCell (p := ⟨w.heap.size, 0, none⟩) (by simp) _⟩
      intro e
      have := (hown2.lt _ e).1
      dsimp only at this
      omega
end Go.Proofs.YthbppblmecdekaaDoor

/- Plain facts: sorted lists of entries in one; heaps. No program in sight. -/
namespace Go.Proofs.YthbppblmecdekaaDoor
open Go

def RisE (l : List Ent) : Prop := l.Pairwise (fun a b => a.key < b.key)
theorem RisE.cons {a : Ent} {l : List Ent} : RisE (a :: l) ↔ (∀ e ∈ l, a.key < e.key) ∧ RisE l := List.pairwise_cons
theorem RisE.nil : RisE [] := List.Pairwise.nil
def look (l : List Ent) (k : Int) : Option Ent := l.find? (fun e => e.key == k)
theorem look_cons (a : Ent) (l : List Ent) (k : Int) : look (a :: l) k = if a.key = k then some a else look l k := by
  unfold look
  rw [List.find?_cons]
  by_cases h : a.key = k
  · simp [h]
  · have h2 : (a.key == k) = false := by simpa using h
    rw [if_neg h, h2]
theorem look_none {l : List Ent} {k : Int} (h : ∀ e ∈ l, k < e.key) : look l k = none := by
  unfold look
  rw [List.find?_eq_none]
  intro e he
  have := h e he
  simp; omega
theorem look_key {l : List Ent} {k : Int} {e : Ent} (h : look l k = some e) : e.key = k ∧ e ∈ l := by
  unfold look at h
  exact ⟨by simpa using List.find?_some h, List.mem_of_find?_eq_some h⟩
theorem look_mem {l : List Ent} (hr : RisE l) {e : Ent} (h : e ∈ l) : look l e.key = some e := by
  induction l with
  | nil => simp at h
  | cons a l ih =>
    obtain ⟨h1, h2⟩ := RisE.cons.1 hr
    rw [look_cons]
    rcases List.mem_cons.1 h with rfl | h
    · rw [if_pos rfl]
    · have := h1 e h
      rw [if_neg (by omega), ih h2 h]
theorem look_append (l m : List Ent) (k : Int) : look (l ++ m) k = (look l k).or (look m k) := by unfold look; rw [List.find?_append]
/-- rising lists that answer alike are the same -/
theorem look_ext : ∀ {x y : List Ent}, RisE x → RisE y → (∀ k, look x k = look y k) → x = y
  | [], [], _, _, _ => rfl
  | a :: x, [], _, _, h => by have := h a.key; rw [look_cons, if_pos rfl] at this; cases this
  | [], b :: y, _, _, h => by have := h b.key; rw [look_cons, if_pos rfl] at this; cases this
  | a :: x, b :: y, hx, hy, h => by
    obtain ⟨a1, a2⟩ := RisE.cons.1 hx
    obtain ⟨b1, b2⟩ := RisE.cons.1 hy
    have ha := h a.key
    have hb := h b.key
    rw [look_cons, if_pos rfl, look_cons] at ha
    rw [look_cons, look_cons, if_pos rfl] at hb
    have hk : a.key = b.key := by
      rcases Int.lt_trichotomy a.key b.key with hlt | heq | hgt
      · rw [if_neg (by omega), look_none (fun e he => by have := b1 e he; omega)] at ha; cases ha
      · exact heq
      · rw [if_neg (by omega), look_none (fun e he => by have := a1 e he; omega)] at hb; cases hb
    rw [if_pos hk.symm] at ha
    have hab : a = b := by simpa using ha
    subst hab
    congr 1
    refine look_ext a2 b2 fun k => ?_
    have hk2 := h k
    rw [look_cons, look_cons] at hk2
    by_cases e : a.key = k
    · subst e; rw [look_none a1, look_none b1]
    · rwa [if_neg e, if_neg e] at hk2

/-- two lists, the first one's where both have a key -/
def bothE : List Ent → List Ent → List Ent
  | [], b => b
  | x :: a, [] => x :: a
  | x :: a, y :: b => if x.key < y.key then x :: bothE a (y :: b) else if x.key = y.key then x :: bothE a b else y :: bothE (x :: a) b
termination_by a b => a.length + b.length
theorem bothE_gt (K : Int) : ∀ (n : Nat) (a b : List Ent), a.length + b.length ≤ n → (∀ e ∈ a, K < e.key) → (∀ e ∈ b, K < e.key) → ∀ e ∈ bothE a b, K < e.key := by
  intro n
  induction n with
  | zero => intro a b h ha hb; cases a <;> cases b <;> simp at h; simp [bothE]
  | succ n ih =>
    intro a b h ha hb
    cases a with
    | nil => rw [bothE]; exact hb
    | cons x a =>
      cases b with
      | nil => rw [bothE]; exact ha
      | cons y b =>
        simp only [List.length_cons] at h
        have hx := ha x (by simp)
        have hy := hb y (by simp)
        have ha' : ∀ e ∈ a, K < e.key := fun e he => ha e (by simp [he])
        have hb' : ∀ e ∈ b, K < e.key := fun e he => hb e (by simp [he])
        rw [bothE]
        split
        · intro e he
          rcases List.mem_cons.1 he with rfl | he
          · exact hx
          · exact ih a (y :: b) (by simp; omega) ha' hb e he
        · split
          · intro e he
            rcases List.mem_cons.1 he with rfl | he
            · exact hx
            · exact ih a b (by omega) ha' hb' e he
          · intro e he
            rcases List.mem_cons.1 he with rfl | he
            · exact hy
            · exact ih (x :: a) b (by simp; omega) ha hb' e he
theorem bothE_law : ∀ (n : Nat) (a b : List Ent), a.length + b.length ≤ n → RisE a → RisE b → RisE (bothE a b) ∧ ∀ k, look (bothE a b) k = (look a k).or (look b k) := by
  intro n
  induction n with
  | zero => intro a b h ha hb; cases a <;> cases b <;> simp at h; simp [bothE, RisE, look]
  | succ n ih =>
    intro a b h ha hb
    cases a with
    | nil => rw [bothE]; exact ⟨hb, fun k => by simp [look]⟩
    | cons x a =>
      cases b with
      | nil => rw [bothE]; exact ⟨ha, fun k => by simp [look]⟩
      | cons y b =>
        simp only [List.length_cons] at h
        obtain ⟨a1, a2⟩ := RisE.cons.1 ha
        obtain ⟨b1, b2⟩ := RisE.cons.1 hb
        rw [bothE]
        split
        · rename_i hlt
          obtain ⟨r1, r2⟩ := ih a (y :: b) (by simp; omega) a2 hb
          refine ⟨RisE.cons.2 ⟨bothE_gt x.key _ a (y :: b) (Nat.le_refl _) a1 (fun e he => ?_), r1⟩, fun k => ?_⟩
          · rcases List.mem_cons.1 he with rfl | he
            · exact hlt
            · have := b1 e he; omega
          · rw [look_cons, look_cons x a, r2]
            split <;> simp
        · rename_i hlt
          split
          · rename_i heq
            obtain ⟨r1, r2⟩ := ih a b (by omega) a2 b2
            refine ⟨RisE.cons.2 ⟨bothE_gt x.key _ a b (Nat.le_refl _) a1 (fun e he => by have := b1 e he; omega), r1⟩, fun k => ?_⟩
            rw [look_cons, look_cons x a, look_cons y b, r2]
            by_cases e : x.key = k
            · rw [if_pos e, if_pos e]; simp
            · rw [if_neg e, if_neg e, if_neg (by omega)]
          · rename_i hne
            obtain ⟨r1, r2⟩ := ih (x :: a) b (by simp; omega) ha b2
            refine ⟨RisE.cons.2 ⟨bothE_gt y.key _ (x :: a) b (Nat.le_refl _) (fun e he => ?_) b1, r1⟩, fun k => ?_⟩
            · rcases List.mem_cons.1 he with rfl | he
              · omega
              · have := a1 e he; omega
            · rw [look_cons, look_cons y b, r2]
              by_cases e : y.key = k
              · rw [if_pos e, if_pos e, look_none (l := x :: a)]
                · rfl
                · intro q hq
                  rcases List.mem_cons.1 hq with rfl | hq
                  · omega
                  · have := a1 q hq; omega
              · rw [if_neg e, if_neg e]
theorem bothE_ris {a b : List Ent} (ha : RisE a) (hb : RisE b) : RisE (bothE a b) := (bothE_law _ a b (Nat.le_refl _) ha hb).1
theorem bothE_look {a b : List Ent} (ha : RisE a) (hb : RisE b) (k : Int) : look (bothE a b) k = (look a k).or (look b k) := (bothE_law _ a b (Nat.le_refl _) ha hb).2 k
theorem bothE_len : ∀ (n : Nat) (a b : List Ent), a.length + b.length ≤ n → (bothE a b).length ≤ a.length + b.length := by
  intro n
  induction n with
  | zero => intro a b h; cases a <;> cases b <;> simp at h; simp [bothE]
  | succ n ih =>
    intro a b h
    cases a with
    | nil => rw [bothE]; simp
    | cons x a =>
      cases b with
      | nil => rw [bothE]; simp
      | cons y b =>
        simp only [List.length_cons] at h ⊢
        rw [bothE]
        split
        · have := ih a (y :: b) (by simp; omega); simp at this ⊢; omega
        · split
          · have := ih a b (by omega); simp at this ⊢; omega
          · have := ih (x :: a) b (by simp; omega); simp at this ⊢; omega

/-- what the newest run that has a key has -/
def newest (rs : List (List Ent)) (k : Int) : Option Ent := rs.findSome? (fun r => look r k)
theorem newest_cons (r : List Ent) (rs : List (List Ent)) (k : Int) : newest (r :: rs) k = (look r k).or (newest rs k) := by
  unfold newest
  rw [List.findSome?_cons]
  cases look r k <;> rfl
/-- all runs in one, the newest first -/
def allE (rs : List (List Ent)) : List Ent := rs.foldl bothE []
theorem fold_law : ∀ (rs : List (List Ent)) {acc : List Ent}, RisE acc → (∀ r ∈ rs, RisE r) → RisE (rs.foldl bothE acc) ∧ ∀ k, look (rs.foldl bothE acc) k = (look acc k).or (newest rs k)
  | [], acc, ha, _ => ⟨ha, fun k => by simp [newest]⟩
  | r :: rs, acc, ha, hr => by
    have h1 := hr r (by simp)
    obtain ⟨g1, g2⟩ := fold_law rs (bothE_ris ha h1) (fun q hq => hr q (by simp [hq]))
    refine ⟨g1, fun k => ?_⟩
    rw [List.foldl_cons, g2, bothE_look ha h1, newest_cons, Option.or_assoc]
theorem all_unique {rs : List (List Ent)} (hr : ∀ r ∈ rs, RisE r) {out : List Ent} (ho : RisE out) (h : ∀ k, look out k = newest rs k) : out = allE rs := by
  obtain ⟨g1, g2⟩ := fold_law rs RisE.nil hr
  exact look_ext ho g1 fun k => by rw [h]; unfold allE; have := g2 k; rw [this]; simp [look]
theorem fold_len : ∀ (rs : List (List Ent)) (acc : List Ent), (rs.foldl bothE acc).length ≤ acc.length + (rs.map List.length).sum
  | [], acc => by simp
  | r :: rs, acc => by
    have h1 := fold_len rs (bothE acc r)
    have h2 := bothE_len _ acc r (Nat.le_refl _)
    simp only [List.foldl_cons, List.map_cons, List.sum_cons]
    omega

/-! ### heaps -/
/-- what is left of a run, and its age -/
structure Hd where
  e : Ent
  rest : List Ent
  age : Nat
def hlt (a b : Hd) : Bool := if a.e.key = b.e.key then decide (a.age < b.age) else decide (a.e.key < b.e.key)
def hle (a b : Hd) : Prop := a.e.key < b.e.key ∨ (a.e.key = b.e.key ∧ a.age ≤ b.age)
theorem hlt_iff (a b : Hd) : hlt a b = true ↔ (a.e.key < b.e.key ∨ (a.e.key = b.e.key ∧ a.age < b.age)) := by
  unfold hlt
  split
  · rename_i h; simp [h]
  · rename_i h; simp [h]
theorem hle_of_not {a b : Hd} (h : hlt a b = false) : hle b a := by
  have := mt (hlt_iff a b).2 (by rw [h]; simp)
  unfold hle
  omega
theorem hle_of_lt {a b : Hd} (h : hlt a b = true) : hle a b := by
  have := (hlt_iff a b).1 h
  unfold hle
  omega
theorem hle_trans {a b c : Hd} (h1 : hle a b) (h2 : hle b c) : hle a c := by unfold hle at *; omega
theorem hle_refl (a : Hd) : hle a a := by unfold hle; omega

/-- from a place on, no thing is greater than those under it -/
def HeapFrom (H : List Hd) (i0 : Nat) : Prop := ∀ j c (hc : c < H.length) (hj : j < c), i0 ≤ j → (c = 2 * j + 1 ∨ c = 2 * j + 2) → hle (H[j]'(by omega)) (H[c]'hc)
/-- the same, but for one place, that sinks -/
def Sinks (H : List Hd) (i0 i : Nat) : Prop :=
  (∀ j c (hc : c < H.length) (hj : j < c), i0 ≤ j → j ≠ i → (c = 2 * j + 1 ∨ c = 2 * j + 2) → hle (H[j]'(by omega)) (H[c]'hc)) ∧
  (∀ p c (hc : c < H.length) (hp : p < c), i0 ≤ p → (i = 2 * p + 1 ∨ i = 2 * p + 2) → (c = 2 * i + 1 ∨ c = 2 * i + 2) → hle (H[p]'(by omega)) (H[c]'hc))
theorem Sinks.start {H : List Hd} {i0 : Nat} (h : HeapFrom H (i0 + 1)) : Sinks H i0 i0 :=
  ⟨fun j c hc hj h0 hne hcc => h j c hc hj (by omega) hcc, fun p c hc hp h0 hi hcc => by omega⟩
theorem Sinks.done {H : List Hd} {i0 i : Nat} (h : Sinks H i0 i) (hd : ∀ c (hc : c < H.length) (hi : i < c), (c = 2 * i + 1 ∨ c = 2 * i + 2) → hle (H[i]'(by omega)) (H[c]'hc)) : HeapFrom H i0 := by
  intro j c hc hj h0 hcc
  by_cases e : j = i
  · subst e; exact hd c hc hj hcc
  · exact h.1 j c hc hj h0 e hcc
def swapL (H : List Hd) (i k : Nat) (hi : i < H.length) (hk : k < H.length) : List Hd := (H.set i (H[k]'hk)).set k (H[i]'hi)
theorem swap_length (H : List Hd) (i k : Nat) (hi : i < H.length) (hk : k < H.length) : (swapL H i k hi hk).length = H.length := by simp [swapL]
theorem swap_get {H : List Hd} {i k : Nat} (hi : i < H.length) (hk : k < H.length) (_hik : i ≠ k) (j : Nat) (hj : j < (swapL H i k hi hk).length) :
    (swapL H i k hi hk)[j]'hj = if j = k then H[i]'hi else if j = i then H[k]'hk else H[j]'(by rw [swap_length] at hj; exact hj) := by
  have hg : ∀ hj2 : j < ((H.set i (H[k]'hk)).set k (H[i]'hi)).length, ((H.set i (H[k]'hk)).set k (H[i]'hi))[j]'hj2 = if j = k then H[i]'hi else if j = i then H[k]'hk else H[j]'(by rw [swap_length] at hj; exact hj) := by
    intro hj2
    rw [List.getElem_set]
    by_cases h1 : k = j
    · rw [if_pos h1, if_pos h1.symm]
    · rw [if_neg h1, if_neg (fun e => h1 e.symm), List.getElem_set]
      by_cases h2 : i = j
      · rw [if_pos h2, if_pos h2.symm]
      · rw [if_neg h2, if_neg (fun e => h2 e.symm)]
  exact hg hj
theorem swap_perm {H : List Hd} {i k : Nat} (hi : i < H.length) (hk : k < H.length) : (swapL H i k hi hk).Perm H := by
  unfold swapL
  exact List.set_set_perm hi hk
theorem Sinks.step {H : List Hd} {i0 i k : Nat} (h : Sinks H i0 i) (h0 : i0 ≤ i) (hi : i < H.length) (hk : k < H.length) (hkc : k = 2 * i + 1 ∨ k = 2 * i + 2) (hlt' : hlt (H[k]'hk) (H[i]'hi) = true)
    (hmin : ∀ c (hc : c < H.length), (c = 2 * i + 1 ∨ c = 2 * i + 2) → hle (H[k]'hk) (H[c]'hc)) : Sinks (swapL H i k hi hk) i0 k := by
  have hik : i ≠ k := by omega
  have hki := hle_of_lt hlt'
  constructor
  · intro j c hc hj hj0 hne hcc
    have hc' : c < H.length := by rwa [swap_length] at hc
    rw [swap_get hi hk hik, swap_get hi hk hik, if_neg hne]
    by_cases e1 : j = i
    · rw [if_pos e1]
      by_cases e2 : c = k
      · rw [if_pos e2]; exact hki
      · rw [if_neg e2, if_neg (by omega)]; exact hmin c hc' (by omega)
    · rw [if_neg e1, if_neg (by omega)]
      by_cases e3 : c = i
      · rw [if_pos e3]
        exact h.2 j k hk (by omega) hj0 (by omega) hkc
      · rw [if_neg e3]
        exact h.1 j c hc' hj hj0 e1 hcc
  · intro p c hc hp hp0 hkp hcc
    have hc' : c < H.length := by rwa [swap_length] at hc
    have hpi : p = i := by omega
    subst hpi
    rw [swap_get hi hk hik, swap_get hi hk hik, if_neg hik, if_pos rfl, if_neg (by omega), if_neg (by omega)]
    exact h.1 k c hc' (by omega) (by omega) (by omega) hcc
theorem heap_top {H : List Hd} (h : HeapFrom H 0) : ∀ j (hj : j < H.length), hle (H[0]'(by omega)) (H[j]'hj) := by
  intro j
  induction j using Nat.strongRecOn with
  | _ j ih =>
    intro hj
    by_cases e : j = 0
    · subst e; exact hle_refl _
    · have hp : (j - 1) / 2 < j := by omega
      exact hle_trans (ih _ hp (by omega)) (h ((j - 1) / 2) j hj hp (Nat.zero_le _) (by omega))
theorem heap_leaves {H : List Hd} {i : Nat} (h : H.length / 2 ≤ i) : HeapFrom H i := by
  intro j c hc hj h0 hcc
  omega
end Go.Proofs.YthbppblmecdekaaDoor

/- Plain facts: merging runs by a heap of what is left of each. No program in sight. -/
namespace Go.Proofs.YthbppblmecdekaaDoor
open Go

/-- what stands while runs are merged -/
def MInv (rs : List (List Ent)) (out : List Ent) (H : List Hd) : Prop :=
  RisE out ∧ (∀ e ∈ out, newest rs e.key = some e) ∧
  (∀ h ∈ H, ∃ r, rs[h.age]? = some r ∧ ∃ c, r = c ++ h.e :: h.rest ∧ ∀ e ∈ c, ∃ o ∈ out, o.key = e.key) ∧
  (∀ a r, rs[a]? = some r → (∃ h ∈ H, h.age = a) ∨ (∀ e ∈ r, ∃ o ∈ out, o.key = e.key)) ∧
  (∀ h ∈ H, ∀ o ∈ out, o.key ≤ h.e.key)
theorem MInv.perm {rs : List (List Ent)} {out : List Ent} {H H' : List Hd} (h : MInv rs out H) (hp : H'.Perm H) : MInv rs out H' := by
  obtain ⟨h1, h2, h3, h4, h5⟩ := h
  refine ⟨h1, h2, fun x hx => h3 x (hp.mem_iff.1 hx), fun a r hr => ?_, fun x hx => h5 x (hp.mem_iff.1 hx)⟩
  rcases h4 a r hr with ⟨x, hx, e⟩ | h
  · exact .inl ⟨x, hp.mem_iff.2 hx, e⟩
  · exact .inr h
theorem newest_at : ∀ {rs : List (List Ent)} {a : Nat} {r : List Ent} {k : Int} {e : Ent}, rs[a]? = some r → look r k = some e → (∀ b, b < a → ∀ r', rs[b]? = some r' → look r' k = none) → newest rs k = some e
  | [], _, _, _, _, h, _, _ => by simp at h
  | r0 :: rs, 0, r, k, e, h, hl, _ => by
    have : r0 = r := by simpa using h
    subst this
    rw [newest_cons, hl]; rfl
  | r0 :: rs, a + 1, r, k, e, h, hl, hb => by
    rw [newest_cons, hb 0 (by omega) r0 rfl, newest_at (rs := rs) (a := a) (by simpa using h) hl (fun b hlt r' hr' => hb (b + 1) (by omega) r' (by simpa using hr'))]
    rfl
theorem newest_mem : ∀ {rs : List (List Ent)} {k : Int} {e : Ent}, newest rs k = some e → ∃ (a : Nat) (r : List Ent), rs[a]? = some r ∧ e ∈ r ∧ e.key = k
  | [], _, _, h => by simp [newest] at h
  | r :: rs, k, e, h => by
    rw [newest_cons] at h
    cases hl : look r k with
    | some x =>
      rw [hl] at h
      have : x = e := by simpa using h
      subst this
      exact ⟨0, r, rfl, (look_key hl).2, (look_key hl).1⟩
    | none =>
      rw [hl] at h
      obtain ⟨a, r', h1, h2⟩ := newest_mem (rs := rs) (by simpa using h)
      exact ⟨a + 1, r', by simpa using h1, h2⟩
theorem ris_part {c l : List Ent} {e : Ent} (h : RisE (c ++ e :: l)) : ∀ x ∈ l, e.key < x.key := by
  have := (List.pairwise_append.1 h).2.1
  exact (List.pairwise_cons.1 this).1
/-- is the least key not yet out? -/
def fresh (out : List Ent) (k : Int) : Bool := match out.getLast? with | none => true | some o => !(o.key == k)
theorem fresh_no {out : List Ent} {k : Int} (hr : RisE out) (hle : ∀ o ∈ out, o.key ≤ k) (h : fresh out k = true) : ∀ o ∈ out, o.key < k := by
  intro o ho
  rcases List.eq_nil_or_concat out with rfl | ⟨l, z, rfl⟩
  · simp at ho
  · rw [List.concat_eq_append] at *
    unfold fresh at h
    rw [List.getLast?_append] at h
    have hz : z.key ≠ k := by simpa using h
    have hz2 := hle z (by simp)
    rcases List.mem_append.1 ho with ho | ho
    · have := (List.pairwise_append.1 hr).2.2 o ho z (by simp)
      omega
    · obtain rfl : o = z := by simpa using ho
      omega
theorem fresh_has {out : List Ent} {k : Int} (h : fresh out k = false) : ∃ o ∈ out, o.key = k := by
  unfold fresh at h
  cases hg : out.getLast? with
  | none => rw [hg] at h; cases h
  | some z =>
    rw [hg] at h
    exact ⟨z, List.mem_of_getLast? hg, by simpa using h⟩
def outOf (out : List Ent) (e : Ent) : List Ent := if fresh out e.key = true then out ++ [e] else out
def nextHd (t : Hd) : List Hd := match t.rest with | [] => [] | e :: l => [⟨e, l, t.age⟩]
theorem MInv.step {rs : List (List Ent)} (hrs : ∀ r ∈ rs, RisE r) {out : List Ent} {t : Hd} {H : List Hd} (h : MInv rs out (t :: H)) (ht : ∀ x ∈ H, hle t x) : MInv rs (outOf out t.e) (nextHd t ++ H) := by
  obtain ⟨h1, h2, h3, h4, h5⟩ := h
  obtain ⟨r, hr, c, hc, hcov⟩ := h3 t (by simp)
  have hrr : RisE r := hrs r (List.mem_of_getElem? hr)
  have hlo := h5 t (by simp)
  have hsub : ∀ o ∈ out, o ∈ outOf out t.e := by
    intro o ho
    unfold outOf
    split
    · exact List.mem_append_left _ ho
    · exact ho
  have hcov' : ∃ o ∈ outOf out t.e, o.key = t.e.key := by
    unfold outOf
    cases hf : fresh out t.e.key
    · rw [if_neg (by simp)]; exact fresh_has hf
    · rw [if_pos rfl]; exact ⟨t.e, by simp, rfl⟩
  have hall : ∀ x ∈ c ++ [t.e], ∃ o ∈ outOf out t.e, o.key = x.key := by
    intro x hx
    rcases List.mem_append.1 hx with hx | hx
    · obtain ⟨o, ho, e⟩ := hcov x hx
      exact ⟨o, hsub o ho, e⟩
    · obtain rfl : x = t.e := by simpa using hx
      exact hcov'
  have hmemo : ∀ o ∈ outOf out t.e, o ∈ out ∨ (o = t.e ∧ fresh out t.e.key = true) := by
    intro o ho
    unfold outOf at ho
    split at ho
    · rename_i hf
      rcases List.mem_append.1 ho with ho | ho
      · exact .inl ho
      · exact .inr ⟨by simpa using ho, hf⟩
    · exact .inl ho
  refine ⟨?_, ?_, ?_, ?_, ?_⟩
  · unfold outOf
    split
    · rename_i hf
      refine List.pairwise_append.2 ⟨h1, List.pairwise_singleton _ _, fun o ho x hx => ?_⟩
      have hx' : x = t.e := by simpa using hx
      rw [hx']
      exact fresh_no h1 hlo hf o ho
    · exact h1
  · intro o ho
    rcases hmemo o ho with ho | ⟨rfl, hf⟩
    · exact h2 o ho
    · have hno := fresh_no h1 hlo hf
      refine newest_at hr (look_mem hrr (by rw [hc]; simp)) ?_
      intro b hb r' hr'
      cases hl : look r' t.e.key with
      | none => rfl
      | some x =>
        exfalso
        obtain ⟨hxk, hxr⟩ := look_key hl
        rcases h4 b r' hr' with ⟨g, hg, hga⟩ | hcovd
        · obtain ⟨r2, hr2, c2, hc2, hcov2⟩ := h3 g hg
          rw [hga, hr'] at hr2
          obtain rfl : r' = r2 := by simpa using hr2
          rw [hc2] at hxr
          rcases List.mem_append.1 hxr with hx | hx
          · obtain ⟨o', ho', e⟩ := hcov2 x hx
            have := hno o' ho'
            omega
          · have hge : g.e.key ≤ x.key := by
              rcases List.mem_cons.1 hx with rfl | hx
              · exact Int.le_refl _
              · have := ris_part (hc2 ▸ hrs r' (List.mem_of_getElem? hr')) x hx
                omega
            rcases List.mem_cons.1 hg with rfl | hg
            · omega
            · have := ht g hg
              unfold hle at this
              omega
        · obtain ⟨o', ho', e⟩ := hcovd x hxr
          have := hno o' ho'
          omega
  · intro g hg
    rcases List.mem_append.1 hg with hg | hg
    · unfold nextHd at hg
      cases hrest : t.rest with
      | nil => rw [hrest] at hg; simp at hg
      | cons e2 l2 =>
        rw [hrest] at hg
        obtain rfl : g = ⟨e2, l2, t.age⟩ := by simpa using hg
        exact ⟨r, hr, c ++ [t.e], by rw [hc, hrest]; simp, hall⟩
    · obtain ⟨r2, hr2, c2, hc2, hcov2⟩ := h3 g (by simp [hg])
      exact ⟨r2, hr2, c2, hc2, fun x hx => by obtain ⟨o, ho, e⟩ := hcov2 x hx; exact ⟨o, hsub o ho, e⟩⟩
  · intro a r' hr'
    rcases h4 a r' hr' with ⟨g, hg, hga⟩ | hcovd
    · rcases List.mem_cons.1 hg with rfl | hg
      · cases hrest : g.rest with
        | nil =>
          right
          rw [hga, hr'] at hr
          obtain rfl : r' = r := by simpa using hr
          rw [hc, hrest]
          exact hall
        | cons e2 l2 =>
          left
          refine ⟨⟨e2, l2, g.age⟩, ?_, hga⟩
          unfold nextHd
          rw [hrest]
          simp
      · exact .inl ⟨g, by simp [hg], hga⟩
    · exact .inr fun x hx => by obtain ⟨o, ho, e⟩ := hcovd x hx; exact ⟨o, hsub o ho, e⟩
  · intro g hg o ho
    have hto : o.key ≤ t.e.key := by
      rcases hmemo o ho with ho | ⟨rfl, _⟩
      · exact hlo o ho
      · exact Int.le_refl _
    rcases List.mem_append.1 hg with hg | hg
    · unfold nextHd at hg
      cases hrest : t.rest with
      | nil => rw [hrest] at hg; simp at hg
      | cons e2 l2 =>
        rw [hrest] at hg
        obtain rfl : g = ⟨e2, l2, t.age⟩ := by simpa using hg
        have := ris_part (hc ▸ hrr) e2 (by rw [hrest]; simp)
        show o.key ≤ e2.key
        omega
    · have h6 := ht g hg
      unfold Go.Proofs.YthbppblmecdekaaDoor.hle at h6
      omega
theorem MInv.done {rs : List (List Ent)} (hrs : ∀ r ∈ rs, RisE r) {out : List Ent} (h : MInv rs out []) : out = allE rs := by
  obtain ⟨h1, h2, h3, h4, h5⟩ := h
  refine all_unique hrs h1 fun k => ?_
  cases hl : look out k with
  | some e =>
    obtain ⟨hk, hm⟩ := look_key hl
    rw [← hk, h2 e hm]
  | none =>
    cases hn : newest rs k with
    | none => rfl
    | some e =>
      obtain ⟨a, r, hr, her, hk⟩ := newest_mem hn
      rcases h4 a r hr with ⟨g, hg, _⟩ | hcov
      · simp at hg
      · obtain ⟨o, ho, e2⟩ := hcov e her
        have := look_mem h1 ho
        rw [e2, hk, hl] at this
        cases this

/-- the heads of runs, by age -/
def headsE : Nat → List (List Ent) → List Hd
  | _, [] => []
  | i, [] :: rs => headsE (i + 1) rs
  | i, (e :: l) :: rs => ⟨e, l, i⟩ :: headsE (i + 1) rs
theorem heads_append : ∀ (rs qs : List (List Ent)) (i : Nat), headsE i (rs ++ qs) = headsE i rs ++ headsE (i + rs.length) qs
  | [], qs, i => rfl
  | [] :: rs, qs, i => by rw [List.cons_append, headsE, headsE, heads_append rs qs (i + 1)]; simp; congr 1; omega
  | (e :: l) :: rs, qs, i => by rw [List.cons_append, headsE, headsE, heads_append rs qs (i + 1)]; simp; congr 1; omega
theorem heads_mem : ∀ {rs : List (List Ent)} {i : Nat} {h : Hd}, h ∈ headsE i rs → i ≤ h.age ∧ rs[h.age - i]? = some (h.e :: h.rest)
  | [], _, _, hm => by simp [headsE] at hm
  | [] :: rs, i, h, hm => by
    rw [headsE] at hm
    obtain ⟨h1, h2⟩ := heads_mem hm
    refine ⟨by omega, ?_⟩
    rw [show h.age - i = (h.age - (i + 1)) + 1 by omega]
    simpa using h2
  | (e :: l) :: rs, i, h, hm => by
    rw [headsE] at hm
    rcases List.mem_cons.1 hm with rfl | hm
    · exact ⟨Nat.le_refl _, by simp⟩
    · obtain ⟨h1, h2⟩ := heads_mem hm
      refine ⟨by omega, ?_⟩
      rw [show h.age - i = (h.age - (i + 1)) + 1 by omega]
      simpa using h2
theorem heads_all : ∀ {rs : List (List Ent)} {i a : Nat} {e : Ent} {l : List Ent}, rs[a]? = some (e :: l) → (⟨e, l, i + a⟩ : Hd) ∈ headsE i rs
  | [], _, _, _, _, h => by simp at h
  | r :: rs, i, 0, e, l, h => by
    have : r = e :: l := by simpa using h
    subst this
    rw [headsE]; simp
  | r :: rs, i, a + 1, e, l, h => by
    have h2 := heads_all (rs := rs) (i := i + 1) (a := a) (by simpa using h)
    rw [show i + 1 + a = i + (a + 1) by omega] at h2
    cases r with
    | nil => rw [headsE]; exact h2
    | cons x y => rw [headsE]; simp [h2]
theorem MInv.start (rs : List (List Ent)) : MInv rs [] (headsE 0 rs) := by
  refine ⟨RisE.nil, by simp, ?_, ?_, by simp⟩
  · intro h hh
    obtain ⟨_, h2⟩ := heads_mem hh
    exact ⟨_, by simpa using h2, [], rfl, by simp⟩
  · intro a r hr
    cases r with
    | nil => exact .inr (by simp)
    | cons e l =>
      have := heads_all (i := 0) hr
      rw [Nat.zero_add] at this
      exact .inl ⟨_, this, rfl⟩
end Go.Proofs.YthbppblmecdekaaDoor

/- What a region that draws its order keeps: all that was there in the base world is as it was. No program in sight. -/
namespace Go.Proofs.YthbppblmecdekaaDoor
open Go Go.RowKit

/-- the facts of a later world: old cells, old marks, old blocks -/
theorem wfacts {W w1 : World} {B : Nat} (hb : Below B W w1) : (∀ b o, b < B → w1.cell? ⟨b, o, none⟩ = W.cell? ⟨b, o, none⟩) ∧ (∀ b o, b < B → w1.frozen? ⟨b, o, none⟩ = W.frozen? ⟨b, o, none⟩) ∧ (∀ b, b < W.heap.size → b < w1.heap.size) :=
  ⟨(bcell hb).1, (bcell hb).2, fun _ h => Nat.lt_of_lt_of_le h hb.size⟩
theorem undrew {B : Nat} {w W : World} (h : Below B w W.drew) : Below B w W := ⟨h.os, h.tape, h.output, h.size, h.block⟩

/-- all that was there in w is in W as it was -/
abbrev SB (w W : World) : Prop := (∀ b o, b < w.heap.size → W.cell? ⟨b, o, none⟩ = w.cell? ⟨b, o, none⟩) ∧ (∀ b o, b < w.heap.size → W.frozen? ⟨b, o, none⟩ = w.frozen? ⟨b, o, none⟩) ∧ w.heap.size ≤ W.heap.size ∧ Below w.heap.size w W
section
variable {w W W' : World}
theorem SB.of (h : Below w.heap.size w W) : SB w W := ⟨(bcell h).1, (bcell h).2, h.size, h⟩
theorem SB.bel (h : SB w W) : Below w.heap.size w W := h.2.2.2
theorem SB.init : SB w w.drew := SB.of (Below.refl _ _).drew
theorem SB.init0 : SB w w := SB.of (Below.refl _ _)
theorem SB.below (hb : Below W.heap.size W W') (h : SB w W) : SB w W' := SB.of (bext h.bel hb)
theorem SB.drew (h : SB w W) : SB w W.drew := SB.of h.bel.drew
theorem SB.undrew (h : SB w W.drew) : SB w W := SB.of (_root_.Go.Proofs.YthbppblmecdekaaDoor.undrew h.bel)
theorem SB.alloc (x : Obj) (h : SB w W) : SB w (W.alloc x) := SB.of (h.bel.alloc h.bel.size x)
theorem SB.allocD (x : Obj) (h : SB w W.drew) : SB w (W.alloc x).drew := (SB.alloc x h.undrew).drew
theorem SB.le (hb : Below W.heap.size W W') (h : SB w W) : w.heap.size ≤ W'.heap.size := Nat.le_trans h.2.2.1 hb.size
theorem SB.re {x : Obj} (y : Obj) (hw : w.heap.size ≤ W.heap.size) (h : SB w (W.alloc x)) : SB w (W.alloc y) :=
  SB.of ⟨h.bel.os, h.bel.tape, h.bel.output, by simp; omega, fun b hb => (Below.heap_alloc W y b (by omega)).trans ((Below.heap_alloc W x b (by omega)).symm.trans (h.bel.block b hb))⟩
theorem SB.re2 {x z : Obj} (y : Obj) (hw : w.heap.size ≤ W.heap.size) (h : SB w ((W.alloc x).alloc z)) : SB w ((W.alloc y).alloc z) :=
  SB.of ⟨h.bel.os, h.bel.tape, h.bel.output, by simp; omega, fun b hb => ((Below.heap_alloc (W.alloc y) z b (by simp; omega)).trans (Below.heap_alloc W y b (by omega))).trans (((Below.heap_alloc (W.alloc x) z b (by simp; omega)).trans (Below.heap_alloc W x b (by omega))).symm.trans (h.bel.block b hb))⟩
theorem SB.re2D {x z : Obj} (y : Obj) (hw : w.heap.size ≤ W.heap.size) (h : SB w ((W.alloc x).alloc z).drew) : SB w ((W.alloc y).alloc z).drew := (SB.re2 y hw h.undrew).drew
theorem SB.reD {x : Obj} (y : Obj) (hw : w.heap.size ≤ W.heap.size) (h : SB w (W.alloc x).drew) : SB w (W.alloc y).drew := (SB.re y hw h.undrew).drew
theorem SB.set {g : Nat} (hg : w.heap.size ≤ g) (i : Nat) (y : Value) (h : SB w W) : SB w (W.setCell ⟨g, i, none⟩ y) := SB.of (h.bel.setCell (p := ⟨g, i, none⟩) hg y)
theorem SB.two {g : Nat} (hg : w.heap.size ≤ g) (y0 y1 : Value) (h : SB w W) : SB w ((W.setCell ⟨g, 0, none⟩ y0).setCell ⟨g, 1, none⟩ y1) := SB.set hg _ _ (SB.set hg _ _ h)
theorem SB.three {g : Nat} (hg : w.heap.size ≤ g) (y0 y1 y2 : Value) (h : SB w W) : SB w (((W.setCell ⟨g, 0, none⟩ y0).setCell ⟨g, 1, none⟩ y1).setCell ⟨g, 2, none⟩ y2) := SB.set hg _ _ (SB.two hg _ _ h)
theorem SB.four {g : Nat} (hg : w.heap.size ≤ g) (y0 y1 y2 y3 : Value) (h : SB w W) : SB w ((((W.setCell ⟨g, 0, none⟩ y0).setCell ⟨g, 1, none⟩ y1).setCell ⟨g, 2, none⟩ y2).setCell ⟨g, 3, none⟩ y3) := SB.set hg _ _ (SB.three hg _ _ _ h)
end

/-! ### a cell that is written -/
theorem cell_other {w : World} {g g' i j : Nat} (v : Value) (h : g' ≠ g) : (w.setCell ⟨g, i, none⟩ v).cell? ⟨g', j, none⟩ = w.cell? ⟨g', j, none⟩ := World.cell?_of_block (a := ⟨g', j, none⟩) (Below.heap_setCell w ⟨g, i, none⟩ v g' h)
theorem cell_same {w : World} {g i : Nat} {u : Value} (v : Value) (h : w.cell? ⟨g, i, none⟩ = some u) : (w.setCell ⟨g, i, none⟩ v).cell? ⟨g, i, none⟩ = some v := by
  have hg : g < w.heap.size := World.block_lt_of_cell? w _ h
  unfold World.cell? at h ⊢
  simp only [World.setCell, Array.getElem?_modify]
  cases ho : w.heap[g]? with
  | none => rw [ho] at h; cases h
  | some o =>
    rw [ho] at h
    cases o with
    | cells cs t fr =>
      simp at h ⊢
      have hi : i < cs.size := by
        rcases Nat.lt_or_ge i cs.size with h2 | h2
        · exact h2
        · rw [Array.getElem?_eq_none h2] at h; cases h
      simp [hi]
    | _ => simp at h

/-! ### a slice that has just been built -/
theorem sl_new1 (W : World) (t : TypeId) (cs : Array Value) : Sl (W.alloc (.cells cs t)) (some ⟨W.heap.size, 0, none⟩) cs.toList :=
  (Blk.new W t cs).sl 0 _ (by intro j u hu; simpa using hu)
theorem sl_new1D (W : World) (t : TypeId) (cs : Array Value) : Sl (W.alloc (.cells cs t)).drew (some ⟨W.heap.size, 0, none⟩) cs.toList := sl_new1 W t cs
theorem sl_old (W : World) (x : Obj) (t : TypeId) (cs : Array Value) : Sl ((W.alloc (.cells cs t)).alloc x) (some ⟨W.heap.size, 0, none⟩) cs.toList :=
  ((Blk.new W t cs).alloc x).sl 0 _ (by intro j u hu; simpa using hu)
theorem sl_new2 (W : World) (x : Obj) (t : TypeId) (cs : Array Value) : Sl ((W.alloc x).alloc (.cells cs t)) (some ⟨W.heap.size + 1, 0, none⟩) cs.toList := by
  have := sl_new1 (W.alloc x) t cs
  rwa [World.size_alloc] at this
end Go.Proofs.YthbppblmecdekaaDoor
