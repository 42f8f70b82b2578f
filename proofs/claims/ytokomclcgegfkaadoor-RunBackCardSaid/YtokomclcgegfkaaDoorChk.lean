/- Contracts: a run's entries by their ranks (bound's and the reference's), whether a run may be, and its sorted entries. -/
import Derived.Test.YtokomclcgegfkaaDoorBld
namespace Go.Proofs.YtokomclcgegfkaaDoor
open Go Go.RowKit
set_option maxRecDepth 100000

/-- the entries of a run, by their ranks -/
def inL (l : List Ent) : List Ent := (inord l.length 0).map (entAt l)
theorem inL_length (l : List Ent) : (inL l).length = l.length := by simp [inL, inord_length]
theorem inL_get {l : List Ent} {k : Nat} (h : k < (inL l).length) : (inL l)[k]'h = entAt l ((inord l.length 0)[k]'(by simpa [inL] using h)) := by simp [inL]

/-- the first k places' entries stand where their ranks are -/
def Scat (l : List Ent) (k : Nat) (cur : Array Value) : Prop := ∀ a, a < k → ∀ (ha : a < l.length) (j : Nat), j < 3 → cur[(inord l.length 0).idxOf a * 3 + j]? = ((l[a]'ha).cells)[j]?
theorem Scat.start (l : List Ent) (cur : Array Value) : Scat l 0 cur := fun a h => absurd h (by omega)
theorem Scat.step {l : List Ent} {k : Nat} {cur : Array Value} (h : Scat l k cur) (hk : k < l.length) (hs : cur.size = l.length * 3) (r : Nat) (hr : r = (inord l.length 0).idxOf k) :
    Scat l (k + 1) (((cur.setIfInBounds (r * 3) (.int .i64 (l[k]'hk).key)).setIfInBounds (r * 3 + 1) (.int .i64 (l[k]'hk).val)).setIfInBounds (r * 3 + 2) (.bool (l[k]'hk).dead)) := by
  subst hr
  have hrl := ranks_lt hk
  intro a ha hal j hj
  by_cases e : a = k
  · subst e
    have : j = 0 ∨ j = 1 ∨ j = 2 := by omega
    rcases this with rfl | rfl | rfl
    · rw [Array.getElem?_setIfInBounds_ne (by omega), Array.getElem?_setIfInBounds_ne (by omega), Nat.add_zero, Array.getElem?_setIfInBounds_self_of_lt (by omega)]; rfl
    · rw [Array.getElem?_setIfInBounds_ne (by omega), Array.getElem?_setIfInBounds_self_of_lt (by simp; omega)]; rfl
    · rw [Array.getElem?_setIfInBounds_self_of_lt (by simp; omega)]; rfl
  · have hne : (inord l.length 0).idxOf a ≠ (inord l.length 0).idxOf k := by
      intro e2
      have h1 := inord_idx hal
      have h2 := inord_idx hk
      simp only [e2] at h1
      exact e (h1.symm.trans h2)
    rw [Array.getElem?_setIfInBounds_ne (by omega), Array.getElem?_setIfInBounds_ne (by omega), Array.getElem?_setIfInBounds_ne (by omega)]
    exact h a (by omega) hal j hj
theorem Scat.done {l : List Ent} {cur : Array Value} (h : Scat l l.length cur) (hs : cur.size = l.length * 3) : cur.toList.take (l.length * 3) = (inL l).flatMap Ent.cells := by
  rw [List.take_of_length_le (by simp; omega)]
  refine List.ext_getElem? fun i => ?_
  by_cases hi : i < l.length * 3
  · have hk : i / 3 < l.length := by omega
    have hk' : i / 3 < (inord l.length 0).length := by rw [inord_length]; exact hk
    have e : i / 3 * 3 + i % 3 = i := by omega
    have hf := flat_get Ent.cells 3 Ent.cells_length (inL l) (i / 3) (i % 3) (by rw [inL_length]; exact hk) (by omega)
    rw [e, inL_get] at hf
    have hp := inord_lt (List.getElem_mem hk')
    rw [entAt_get hp] at hf
    have hc := h _ hp hp (i % 3) (by omega)
    rw [idx_inord hk', e] at hc
    rw [hf, ← hc]
    simp
  · rw [List.getElem?_eq_none (by simp; omega), List.getElem?_eq_none (by rw [flat_length Ent.cells 3 Ent.cells_length, inL_length]; omega)]

set_option maxHeartbeats 3200000 in
theorem refIn_any (A : Option Addr) (l : List Ent) (c : Nat) (w : World) (hA : Sl w A (l.flatMap Ent.cells)) (hn : l.length ≤ 65536) :
    Calls Tryd.prog 70 #[.agg #[.slice A l.length c]] w (GivesOwn 29 3 l.length ((inL l).flatMap Ent.cells) w) := by
  obtain ⟨i0, hi, hz0, hz1, hz2⟩ := info_parts ent_info
  have hb0 : Below w.heap.size w (w.alloc (.cells #[.slice A l.length c] 24)) := (Below.refl _ _).alloc (Nat.le_refl _) _
  have hx0 : Blk (w.alloc (.cells #[.slice A l.length c] 24)) w.heap.size 24 #[.slice A l.length c] := Blk.new _ _ _
  go_enter Tryd.func70, Tryd.ntmps70
  go_wp2_with fail
  refine (refPlaces_any l.length l.length 0 _ _ _ rfl rfl hn (by omega) (by omega)).mono ?_
  rintro e w1 ⟨A1, c1, rfl, hown1, hb1⟩
  have hlen := Lib.hid (inord_length l.length)
  have hb01 : Below w.heap.size w w1 := bext hb0 hb1
  have hx1 : Blk w1 w.heap.size 24 #[.slice A l.length c] := hx0.below hb1 (by simp)
  have hsl := own_sl hown1
  have hs1 : w.heap.size < w1.heap.size := hx1.lt
  have hbase := own_base hown1
  clear hown1 hb1
  go_wp2
  go_loopw [3, 5] (fun v i wr => ∃ k : Nat, k ≤ l.length ∧ i = .int .i64 k ∧ Mod (fun b => w1.heap.size ≤ b) w1 wr ∧ ∃ A' c', v = .slice A' k c' ∧
      wr.ownsRow w1.heap.size 29 3 (.slice A' k c') k (((inL l).take k).flatMap Ent.cells)) (fun _ i _ => l.length - (intOf i).toNat)
  case atStart => exact ⟨0, Nat.zero_le _, rfl, Mod.refl _ _, none, 0, rfl, World.ownsRow_nil _ _ _ _⟩
  case round =>
    obtain ⟨k, hk, rfl, hm, A', c', rfl, hown⟩ := hrel
    have hbm : Below w1.heap.size w1 wr := hm.below (Nat.le_refl _) (fun _ h => h)
    have hb : Below w.heap.size w wr := bext hb01 hbm
    by_cases hlt : k < l.length
    · have hlt' : k < (inord l.length 0).length := by rw [hlen.out]; exact hlt
      obtain ⟨b1, o1, rfl, hb1l, cp⟩ := hsl.oneB hbm k hlt'
      obtain ⟨x, hx⟩ : ∃ x, (inord l.length 0)[k]'hlt' = x := ⟨_, rfl⟩
      have hxn : x < l.length := hx ▸ inord_lt (List.getElem_mem hlt')
      rw [hx] at cp
      have cp' : wr.cell? ⟨b1, o1 + k, none⟩ = some (.int .i64 (x : Nat)) := cp
      obtain ⟨b, off, rfl, hbl, q1, q2, q3⟩ := hA.entB hb x hxn
      have cx : wr.cell? ⟨w.heap.size, 0, none⟩ = some (.slice (some ⟨b, off, none⟩) l.length c) := (hx1.below hbm hs1).cell 0
      have hki : (0 : Int) ≤ (k : Int) := by omega
      have hki2 : (k : Int) < ((inord l.length 0).length : Int) := by omega
      have hxi : (0 : Int) ≤ (x : Int) := by omega
      have hxi2 : (x : Int) < (l.length : Int) := by omega
      have HX := Lib.hid hx
      have hsz := hm.size
      clear cp hx hbl hb1l hsl hx0 hb0
      go_wp2_with fail
      go_region_law (
        (refine step_append_sl _ (by rfl) _ _ _ (by rfl) w1.heap.size 29 i0 _ 3 24 Tryd.underlying22 hi hz0 hz1 hz2 rfl (by omega) (.slice A' k c') k _ (by rfl) ((hown.alloc _).drew) _ 1 _ (l[x]'hxn).cells (by rfl) ((Blk.new wr _ _).sl 0 _ (by intro j u hu; simpa [Ent.cells] using hu)) (by rfl) (by simp [Ent.cells, Value.oneCell']) (by unfold maxLen; omega) (by omega) (by simp; omega) ?_; intro v2 w2 hown2 hg2; obtain ⟨A2, z2, rfl, hle2, hmx2⟩ := own_form hown2))
      all_goals
        go_wp2
        have hm2 : Mod (fun b => w1.heap.size ≤ b) w1 w2 := ((hm.alloc _).drew).grown hg2 (fun k hk => .inl (hown.lt k hk).1)
        have hlk : (inL l)[k]'(by rw [inL_length]; exact hlt) = l[x]'hxn := by rw [inL_get]; simp [HX.out, entAt_get hxn]
        have hlt2 : k < (inL l).length := by rw [inL_length]; exact hlt
        go_roundw
        case rel =>
          refine ⟨k + 1, by omega, by go_num, hm2, A2, z2, rfl, ?_⟩
          rw [List.take_succ_eq_append_getElem hlt2, List.flatMap_append, hlk]
          simpa using hown2
        case measure => simp [intOf]; omega
    · have hkn := Lib.hid (show k = l.length by omega)
      have hge : (inord l.length 0).length ≤ k := by rw [hlen.out]; omega
      go_wp2
      go_ret
      have h := own_mono (B' := w.heap.size) hown (by omega)
      rw [hkn.out, List.take_of_length_le (by rw [inL_length]; omega)] at h
      exact ⟨A', c', by rw [hkn.out]; rfl, h, hb⟩

set_option maxHeartbeats 3200000 in
theorem sorted_any (A : Option Addr) (l : List Ent) (c : Nat) (w : World) (hA : Sl w A (l.flatMap Ent.cells)) (hn : l.length ≤ 65536) :
    Calls Tryd.prog 64 #[.agg #[.slice A l.length c]] w (GivesOwn 29 3 l.length ((inL l).flatMap Ent.cells) w) := by
  obtain ⟨i0, hi, hz0, hz1, hz2⟩ := info_parts ent_info
  have hmk := fun W => run_make_rowN (P := Tryd.prog) 22 29 i0 _ Tryd.underlying22 hi hz0 l.length (by rw [hz2]; omega) (by omega) W
  rw [hz1] at hmk
  clear hi hz0 hz1 hz2
  obtain ⟨W0, hW0⟩ : ∃ W0, (w.alloc (.cells #[.slice A l.length c] 88)).alloc (.cells (madeCells #[Value.int IntKind.i64 0, Value.int IntKind.i64 0, Value.bool false] (l.length * 3)) 29) = W0 := ⟨_, rfl⟩
  have hb0 : Below w.heap.size w W0 := by rw [← hW0]; exact ((Below.refl _ _).alloc (Nat.le_refl _) _).alloc (by simp) _
  have hx0 : Blk W0 w.heap.size 88 #[.slice A l.length c] := by rw [← hW0]; exact (Blk.new w _ _).alloc _
  have hg0 : Blk W0 (w.heap.size + 1) 29 (madeCells #[Value.int IntKind.i64 0, Value.int IntKind.i64 0, Value.bool false] (l.length * 3)) := by
    rw [← hW0]; have := Blk.new (w.alloc (.cells #[.slice A l.length c] 88)) 29 (madeCells #[Value.int IntKind.i64 0, Value.int IntKind.i64 0, Value.bool false] (l.length * 3))
    rwa [World.size_alloc] at this
  have hs0 : W0.heap.size = w.heap.size + 1 + 1 := by rw [← hW0]; simp
  have cx0 : W0.cell? ⟨w.heap.size, 0, none⟩ = some (.slice A l.length c) := hx0.cell 0
  go_enter Tryd.func64, Tryd.ntmps64
  go_wp2_with fail
  try rw [hW0]
  refine (order_ok l.length hn _).mono ?_
  rintro e w3 ⟨rfl, ho3, hb3⟩
  rw [hs0] at ho3
  have hb03 : Below w.heap.size w w3 := bext hb0 hb3
  have hx3 := hx0.below hb3 hx0.lt
  have hg3 := hg0.below hb3 hg0.lt
  have hgl := hg3.lt
  have hol := ho3.lt
  clear hmk hW0 hb3 hb0 hx0 hg0 cx0
  rw [hs0]
  go_wp2
  go_loopw [21] (fun i wr => ∃ k : Nat, k ≤ l.length ∧ i = .int .i64 k ∧ Mod (fun b => b = w.heap.size + 1) w3 wr ∧
      ∃ cur : Array Value, Hid (cur.size = l.length * 3) ∧ Blk wr (w.heap.size + 1) 29 cur ∧ Hid (Scat l k cur))
      (fun i _ => l.length - (intOf i).toNat)
  case atStart => exact ⟨0, Nat.zero_le _, rfl, Mod.refl _ _, _, by show _ = _; simp [madeCells], hg3, Scat.start _ _⟩
  case round =>
    obtain ⟨k, hk, rfl, hm, cur, hcs, hcur, hct⟩ := hrel
    by_cases hlt : k < l.length
    · have hb : Below w.heap.size w wr := hb03.trans (hm.below hb03.size (by intro k h; omega))
      have hrl : k < (ranks l.length).length := by rw [ranks_length]; exact hlt
      obtain ⟨x, hx⟩ : ∃ x, (ranks l.length)[k]'hrl = x := ⟨_, rfl⟩
      have hxi : x = (inord l.length 0).idxOf k := by rw [← hx, ranks_get hlt]
      have hxn : x < l.length := by rw [hxi]; exact ranks_lt hlt
      have ho4 := ho3.mod hm (by omega)
      have cr : wr.cell? ⟨w.heap.size + 1 + 1, k, none⟩ = some (.int .i64 (x : Nat)) := by
        rw [ho4.cell]; simp [hrl, hx]
      have cx : wr.cell? ⟨w.heap.size, 0, none⟩ = some (.slice A l.length c) := (hx3.mod hm (by omega)).cell 0
      obtain ⟨b, off, rfl, hbl, c1, c2, c3⟩ := hA.entB hb k hlt
      have hsz := hcs.out
      obtain ⟨v1, e1⟩ : ∃ v, wr.cell? ⟨w.heap.size + 1, x * 3, none⟩ = some v := ⟨_, (hcur.cell _).trans (Array.getElem?_eq_getElem (show x * 3 < cur.size by omega))⟩
      obtain ⟨v2, e2⟩ : ∃ v, wr.cell? ⟨w.heap.size + 1, x * 3 + 1, none⟩ = some v := ⟨_, (hcur.cell _).trans (Array.getElem?_eq_getElem (show x * 3 + 1 < cur.size by omega))⟩
      obtain ⟨v3, e3⟩ : ∃ v, wr.cell? ⟨w.heap.size + 1, x * 3 + 2, none⟩ = some v := ⟨_, (hcur.cell _).trans (Array.getElem?_eq_getElem (show x * 3 + 2 < cur.size by omega))⟩
      have f1 := hcur.frozen (x * 3)
      have f2 := hcur.frozen (x * 3 + 1)
      have f3 := hcur.frozen (x * 3 + 2)
      have hxi1 : (0 : Int) ≤ (x : Int) := by omega
      have hxi2 : (x : Int) < (l.length : Int) := by omega
      have hki : (0 : Int) ≤ (k : Int) := by omega
      have hki2 : (k : Int) < (l.length : Int) := by omega
      have hst := Lib.hid (hct.out.step hlt hcs.out x hxi)
      clear hx hsz hxi hx3
      go_wp2
      go_roundw
      case rel =>
        exact ⟨k + 1, by omega, by go_num, ((hm.setCell (p := ⟨w.heap.size + 1, x * 3, none⟩) rfl _).setCell (p := ⟨w.heap.size + 1, x * 3 + 1, none⟩) rfl _).setCell (p := ⟨w.heap.size + 1, x * 3 + 2, none⟩) rfl _, _, by show _ = _; simpa using hcs.out, ((hcur.set_ (x * 3) _).set_ (x * 3 + 1) _).set_ (x * 3 + 2) _, hst⟩
      case measure => simp [intOf]; omega
    · have hkn : k = l.length := by omega
      have hb : Below w.heap.size w wr := hb03.trans (hm.below hb03.size (by intro k h; omega))
      have hct' := Scat.done (hkn ▸ hct.out) hcs.out
      have HC := Lib.hid hct'
      clear hct' hkn
      go_wp2
      go_ret
      exact ⟨some ⟨w.heap.size + 1, 0, none⟩, l.length, rfl, ⟨by rw [flat_length Ent.cells 3 Ent.cells_length, inL_length], .inr ⟨w.heap.size + 1, l.length, cur, rfl, by omega, hcur, Nat.le_refl _, by unfold maxLen; omega, hcs.out, HC.out⟩⟩, hb⟩
end Go.Proofs.YtokomclcgegfkaaDoor
