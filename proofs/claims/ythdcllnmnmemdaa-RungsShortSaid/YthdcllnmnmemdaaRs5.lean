/- Chk Lw Lb Ld Le Lf Lg Run1: texts of the claim, in this order. -/
import Derived.Test.YthdcllnmnmemdaaRs4
import Derived.Test.YthdcllnmnmemdaaRs3
import Derived.Lib.TrailingZeros
import Derived.Shelf.Spec.TrailingZeros
import Derived.IntWalk
import Derived.Laws.Bits64
import Derived.Lib.SliceRun
/- Contracts: a run's entries by their ranks (bound's and the reference's), whether a run may be, and its sorted entries. -/
namespace Go.Proofs.Ythdcllnmnmemdaa
open Go Go.RowKit
set_option maxRecDepth 100000

/-- the entries of a run, by their ranks -/
def inL (l : List Ent) : List Ent := (inord l.length 0).map (entAt l)
theorem inL_length (l : List Ent) : (inL l).length = l.length := by simp [inL, inord_length]
theorem inL_get {l : List Ent} {k : Nat} (h : k < (inL l).length) : (inL l)[k]'h = entAt l ((inord l.length 0)[k]'(by simpa [inL] using h)) := by simp [inL]

/-- the first k places' entries stand where their ranks are -/
def Scat (l : List Ent) (k : Nat) (cur : Array Value) : Prop := ∀ a, a < k → ∀ (ha : a < l.length) (j : Nat), j < 3 → cur[(inord l.length 0).idxOf a * 3 + j]? = ((l[a]'ha).cells)[j]?
theorem Scat.start (l : List Ent) (cur : Array Value) : Scat l 0 cur := fun a h => absurd h (by omega)
theorem Scat.step {l : List Ent} {k : Nat} {cur : Array Value} (h : Scat l k cur) (hk : k < l.length) (hs : cur.size = l.length * 3) (r : Nat) (hr : r = (inord l.length 0).idxOf k) :
    Scat l (k + 1) (((cur.setIfInBounds (r * 3) (.int .i64 (l[k]'hk).key)).setIfInBounds (r * 3 + 1) (.int .i64 (l[k]'hk).val)).setIfInBounds (r * 3 + 2) (.bool (l[k]'hk).dead)) := by
  subst hr
  have hrl := ranks_lt hk
  intro a ha hal j hj
  by_cases e : a = k
  · subst e
    have : j = 0 ∨ j = 1 ∨ j = 2 := by omega
    rcases this with rfl | rfl | rfl
    · rw [Array.getElem?_setIfInBounds_ne (by omega), Array.getElem?_setIfInBounds_ne (by omega), Nat.add_zero, Array.getElem?_setIfInBounds_self_of_lt (by omega)]; rfl
    · rw [Array.getElem?_setIfInBounds_ne (by omega), Array.getElem?_setIfInBounds_self_of_lt (by simp; omega)]; rfl
    · rw [Array.getElem?_setIfInBounds_self_of_lt (by simp; omega)]; rfl
  · have hne : (inord l.length 0).idxOf a ≠ (inord l.length 0).idxOf k := by
      intro e2
      have h1 := inord_idx hal
      have h2 := inord_idx hk
      simp only [e2] at h1
      exact e (h1.symm.trans h2)
    rw [Array.getElem?_setIfInBounds_ne (by omega), Array.getElem?_setIfInBounds_ne (by omega), Array.getElem?_setIfInBounds_ne (by omega)]
    exact h a (by omega) hal j hj
theorem Scat.done {l : List Ent} {cur : Array Value} (h : Scat l l.length cur) (hs : cur.size = l.length * 3) : cur.toList.take (l.length * 3) = (inL l).flatMap Ent.cells := by
  rw [List.take_of_length_le (by simp; omega)]
  refine List.ext_getElem? fun i => ?_
  by_cases hi : i < l.length * 3
  · have hk : i / 3 < l.length := by omega
    have hk' : i / 3 < (inord l.length 0).length := by rw [inord_length]; exact hk
    have e : i / 3 * 3 + i % 3 = i := by omega
    have hf := flat_get Ent.cells 3 Ent.cells_length (inL l) (i / 3) (i % 3) (by rw [inL_length]; exact hk) (by omega)
    rw [e, inL_get] at hf
    have hp := inord_lt (List.getElem_mem hk')
    rw [entAt_get hp] at hf
    have hc := h _ hp hp (i % 3) (by omega)
    rw [idx_inord hk', e] at hc
    rw [hf, ← hc]
    simp
  · rw [List.getElem?_eq_none (by simp; omega), List.getElem?_eq_none (by rw [flat_length Ent.cells 3 Ent.cells_length, inL_length]; omega)]

set_option maxHeartbeats 3200000 in
theorem refIn_any (A : Option Addr) (l : List Ent) (c : Nat) (w : World) (hA : Sl w A (l.flatMap Ent.cells)) (hn : l.length ≤ 65536) :
    Calls Try.prog 52 #[.agg #[.slice A l.length c]] w (GivesOwn 27 3 l.length ((inL l).flatMap Ent.cells) w) := by
  obtain ⟨i0, hi, hz0, hz1, hz2⟩ := info_parts ent_info
  have hb0 : Below w.heap.size w (w.alloc (.cells #[.slice A l.length c] 49)) := (Below.refl _ _).alloc (Nat.le_refl _) _
  have hx0 : Blk (w.alloc (.cells #[.slice A l.length c] 49)) w.heap.size 49 #[.slice A l.length c] := Blk.new _ _ _
  go_enter Try.func52, Try.ntmps52
  go_wp2_with fail
  refine (refPlaces_any l.length l.length 0 _ _ _ rfl rfl hn (by omega) (by omega)).mono ?_
  rintro e w1 ⟨A1, c1, rfl, hown1, hb1⟩
  have hlen := Lib.hid (inord_length l.length)
  have hb01 : Below w.heap.size w w1 := bext hb0 hb1
  have hx1 : Blk w1 w.heap.size 49 #[.slice A l.length c] := hx0.below hb1 (by simp)
  have hsl := own_sl hown1
  have hs1 : w.heap.size < w1.heap.size := hx1.lt
  have hbase := own_base hown1
  clear hown1 hb1
  go_wp2
  go_loopw [3, 5] (fun v i wr => ∃ k : Nat, k ≤ l.length ∧ i = .int .i64 k ∧ Mod (fun b => w1.heap.size ≤ b) w1 wr ∧ ∃ A' c', v = .slice A' k c' ∧
      wr.ownsRow w1.heap.size 27 3 (.slice A' k c') k (((inL l).take k).flatMap Ent.cells)) (fun _ i _ => l.length - (intOf i).toNat)
  case atStart => exact ⟨0, Nat.zero_le _, rfl, Mod.refl _ _, none, 0, rfl, World.ownsRow_nil _ _ _ _⟩
  case round =>
    obtain ⟨k, hk, rfl, hm, A', c', rfl, hown⟩ := hrel
    have hbm : Below w1.heap.size w1 wr := hm.below (Nat.le_refl _) (fun _ h => h)
    have hb : Below w.heap.size w wr := bext hb01 hbm
    by_cases hlt : k < l.length
    · have hlt' : k < (inord l.length 0).length := by rw [hlen.out]; exact hlt
      obtain ⟨b1, o1, rfl, hb1l, cp⟩ := hsl.oneB hbm k hlt'
      obtain ⟨x, hx⟩ : ∃ x, (inord l.length 0)[k]'hlt' = x := ⟨_, rfl⟩
      have hxn : x < l.length := hx ▸ inord_lt (List.getElem_mem hlt')
      rw [hx] at cp
      have cp' : wr.cell? ⟨b1, o1 + k, none⟩ = some (.int .i64 (x : Nat)) := cp
      obtain ⟨b, off, rfl, hbl, q1, q2, q3⟩ := hA.entB hb x hxn
      have cx : wr.cell? ⟨w.heap.size, 0, none⟩ = some (.slice (some ⟨b, off, none⟩) l.length c) := (hx1.below hbm hs1).cell 0
      have hki : (0 : Int) ≤ (k : Int) := by omega
      have hki2 : (k : Int) < ((inord l.length 0).length : Int) := by omega
      have hxi : (0 : Int) ≤ (x : Int) := by omega
      have hxi2 : (x : Int) < (l.length : Int) := by omega
      have HX := Lib.hid hx
      have hsz := hm.size
      clear cp hx hbl hb1l hsl hx0 hb0
      go_wp2_with fail
      go_region_law (
        (refine step_append_sl _ (by rfl) _ _ _ (by rfl) w1.heap.size 27 i0 _ 3 24 Try.underlying47 hi hz0 hz1 hz2 rfl (by omega) (.slice A' k c') k _ (by rfl) ((hown.alloc _).drew) _ 1 _ (l[x]'hxn).cells (by rfl) ((Blk.new wr _ _).sl 0 _ (by intro j u hu; simpa [Ent.cells] using hu)) (by rfl) (by simp [Ent.cells, Value.oneCell']) (by unfold maxLen; omega) (by omega) (by simp; omega) ?_; intro v2 w2 hown2 hg2; obtain ⟨A2, z2, rfl, hle2, hmx2⟩ := own_form hown2))
      all_goals
        go_wp2
        have hm2 : Mod (fun b => w1.heap.size ≤ b) w1 w2 := ((hm.alloc _).drew).grown hg2 (fun k hk => .inl (hown.lt k hk).1)
        have hlk : (inL l)[k]'(by rw [inL_length]; exact hlt) = l[x]'hxn := by rw [inL_get]; simp [HX.out, entAt_get hxn]
        have hlt2 : k < (inL l).length := by rw [inL_length]; exact hlt
        go_roundw
        case rel =>
          refine ⟨k + 1, by omega, by go_num, hm2, A2, z2, rfl, ?_⟩
          rw [List.take_succ_eq_append_getElem hlt2, List.flatMap_append, hlk]
          simpa using hown2
        case measure => simp [intOf]; omega
    · have hkn := Lib.hid (show k = l.length by omega)
      have hge : (inord l.length 0).length ≤ k := by rw [hlen.out]; omega
      go_wp2
      go_ret
      have h := own_mono (B' := w.heap.size) hown (by omega)
      rw [hkn.out, List.take_of_length_le (by rw [inL_length]; omega)] at h
      exact ⟨A', c', by rw [hkn.out]; rfl, h, hb⟩

set_option maxHeartbeats 3200000 in
theorem sorted_any (A : Option Addr) (l : List Ent) (c : Nat) (w : World) (hA : Sl w A (l.flatMap Ent.cells)) (hn : l.length ≤ 65536) :
    Calls Try.prog 72 #[.agg #[.slice A l.length c]] w (GivesOwn 27 3 l.length ((inL l).flatMap Ent.cells) w) := by
  obtain ⟨i0, hi, hz0, hz1, hz2⟩ := info_parts ent_info
  have hmk := fun W => run_make_rowN (P := Try.prog) 47 27 i0 _ Try.underlying47 hi hz0 l.length (by rw [hz2]; omega) (by omega) W
  rw [hz1] at hmk
  clear hi hz0 hz1 hz2
  obtain ⟨W0, hW0⟩ : ∃ W0, (w.alloc (.cells #[.slice A l.length c] 110)).alloc (.cells (madeCells #[Value.int IntKind.i64 0, Value.int IntKind.i64 0, Value.bool false] (l.length * 3)) 27) = W0 := ⟨_, rfl⟩
  have hb0 : Below w.heap.size w W0 := by rw [← hW0]; exact ((Below.refl _ _).alloc (Nat.le_refl _) _).alloc (by simp) _
  have hx0 : Blk W0 w.heap.size 110 #[.slice A l.length c] := by rw [← hW0]; exact (Blk.new w _ _).alloc _
  have hg0 : Blk W0 (w.heap.size + 1) 27 (madeCells #[Value.int IntKind.i64 0, Value.int IntKind.i64 0, Value.bool false] (l.length * 3)) := by
    rw [← hW0]; have := Blk.new (w.alloc (.cells #[.slice A l.length c] 110)) 27 (madeCells #[Value.int IntKind.i64 0, Value.int IntKind.i64 0, Value.bool false] (l.length * 3))
    rwa [World.size_alloc] at this
  have hs0 : W0.heap.size = w.heap.size + 1 + 1 := by rw [← hW0]; simp
  have cx0 : W0.cell? ⟨w.heap.size, 0, none⟩ = some (.slice A l.length c) := hx0.cell 0
  go_enter Try.func72, Try.ntmps72
  go_wp2_with fail
  try rw [hW0]
  refine (order_ok l.length hn _).mono ?_
  rintro e w3 ⟨rfl, ho3, hb3⟩
  rw [hs0] at ho3
  have hb03 : Below w.heap.size w w3 := bext hb0 hb3
  have hx3 := hx0.below hb3 hx0.lt
  have hg3 := hg0.below hb3 hg0.lt
  have hgl := hg3.lt
  have hol := ho3.lt
  clear hmk hW0 hb3 hb0 hx0 hg0 cx0
  rw [hs0]
  go_wp2
  go_loopw [21] (fun i wr => ∃ k : Nat, k ≤ l.length ∧ i = .int .i64 k ∧ Mod (fun b => b = w.heap.size + 1) w3 wr ∧
      ∃ cur : Array Value, Hid (cur.size = l.length * 3) ∧ Blk wr (w.heap.size + 1) 27 cur ∧ Hid (Scat l k cur))
      (fun i _ => l.length - (intOf i).toNat)
  case atStart => exact ⟨0, Nat.zero_le _, rfl, Mod.refl _ _, _, by show _ = _; simp [madeCells], hg3, Scat.start _ _⟩
  case round =>
    obtain ⟨k, hk, rfl, hm, cur, hcs, hcur, hct⟩ := hrel
    by_cases hlt : k < l.length
    · have hb : Below w.heap.size w wr := hb03.trans (hm.below hb03.size (by intro k h; omega))
      have hrl : k < (ranks l.length).length := by rw [ranks_length]; exact hlt
      obtain ⟨x, hx⟩ : ∃ x, (ranks l.length)[k]'hrl = x := ⟨_, rfl⟩
      have hxi : x = (inord l.length 0).idxOf k := by rw [← hx, ranks_get hlt]
      have hxn : x < l.length := by rw [hxi]; exact ranks_lt hlt
      have ho4 := ho3.mod hm (by omega)
      have cr : wr.cell? ⟨w.heap.size + 1 + 1, k, none⟩ = some (.int .i64 (x : Nat)) := by
        rw [ho4.cell]; simp [hrl, hx]
      have cx : wr.cell? ⟨w.heap.size, 0, none⟩ = some (.slice A l.length c) := (hx3.mod hm (by omega)).cell 0
      obtain ⟨b, off, rfl, hbl, c1, c2, c3⟩ := hA.entB hb k hlt
      have hsz := hcs.out
      obtain ⟨v1, e1⟩ : ∃ v, wr.cell? ⟨w.heap.size + 1, x * 3, none⟩ = some v := ⟨_, (hcur.cell _).trans (Array.getElem?_eq_getElem (show x * 3 < cur.size by omega))⟩
      obtain ⟨v2, e2⟩ : ∃ v, wr.cell? ⟨w.heap.size + 1, x * 3 + 1, none⟩ = some v := ⟨_, (hcur.cell _).trans (Array.getElem?_eq_getElem (show x * 3 + 1 < cur.size by omega))⟩
      obtain ⟨v3, e3⟩ : ∃ v, wr.cell? ⟨w.heap.size + 1, x * 3 + 2, none⟩ = some v := ⟨_, (hcur.cell _).trans (Array.getElem?_eq_getElem (show x * 3 + 2 < cur.size by omega))⟩
      have f1 := hcur.frozen (x * 3)
      have f2 := hcur.frozen (x * 3 + 1)
      have f3 := hcur.frozen (x * 3 + 2)
      have hxi1 : (0 : Int) ≤ (x : Int) := by omega
      have hxi2 : (x : Int) < (l.length : Int) := by omega
      have hki : (0 : Int) ≤ (k : Int) := by omega
      have hki2 : (k : Int) < (l.length : Int) := by omega
      have hst := Lib.hid (hct.out.step hlt hcs.out x hxi)
      clear hx hsz hxi hx3
      go_wp2
      go_roundw
      case rel =>
        exact ⟨k + 1, by omega, by go_num, ((hm.setCell (p := ⟨w.heap.size + 1, x * 3, none⟩) rfl _).setCell (p := ⟨w.heap.size + 1, x * 3 + 1, none⟩) rfl _).setCell (p := ⟨w.heap.size + 1, x * 3 + 2, none⟩) rfl _, _, by show _ = _; simpa using hcs.out, ((hcur.set_ (x * 3) _).set_ (x * 3 + 1) _).set_ (x * 3 + 2) _, hst⟩
      case measure => simp [intOf]; omega
    · have hkn : k = l.length := by omega
      have hb : Below w.heap.size w wr := hb03.trans (hm.below hb03.size (by intro k h; omega))
      have hct' := Scat.done (hkn ▸ hct.out) hcs.out
      have HC := Lib.hid hct'
      clear hct' hkn
      go_wp2
      go_ret
      exact ⟨some ⟨w.heap.size + 1, 0, none⟩, l.length, rfl, ⟨by rw [flat_length Ent.cells 3 Ent.cells_length, inL_length], .inr ⟨w.heap.size + 1, l.length, cur, rfl, by omega, hcur, Nat.le_refl _, by unfold maxLen; omega, hcs.out, HC.out⟩⟩, hb⟩
end Go.Proofs.Ythdcllnmnmemdaa

/- Plain facts: how Lower goes down Eytzinger's tree and back. No program in sight. -/
namespace Go.Proofs.Ythdcllnmnmemdaa
open Go

/-- where a way down ends: places from 1 on -/
def low (n : Nat) (t : Nat → Bool) (m : Nat) : Nat := if h : 1 ≤ m ∧ m ≤ n then low n t (2 * m + (if t (m - 1) then 1 else 0)) else m
termination_by n + 1 - m
decreasing_by split <;> omega
theorem low_in {n : Nat} {t : Nat → Bool} {m : Nat} (h1 : 1 ≤ m) (h2 : m ≤ n) : low n t m = low n t (2 * m + (if t (m - 1) then 1 else 0)) := by rw [low, dif_pos ⟨h1, h2⟩]
theorem low_out {n : Nat} {t : Nat → Bool} {m : Nat} (h : ¬ m ≤ n) : low n t m = m := by rw [low, dif_neg (by omega)]
/-- back over all turns to the right, and the last one to the left -/
def anc (m : Nat) : Nat := if h : m % 2 = 1 then anc (m / 2) else m / 2
termination_by m
decreasing_by omega
theorem anc_odd {m : Nat} (h : m % 2 = 1) : anc m = anc (m / 2) := by rw [anc, dif_pos h]
theorem anc_even {m : Nat} (h : m % 2 ≠ 1) : anc m = m / 2 := by rw [anc, dif_neg h]
theorem anc_left (m : Nat) : anc (2 * m) = m := by rw [anc_even (by omega)]; omega
theorem anc_right (m : Nat) : anc (2 * m + 1) = anc m := by rw [anc_odd (by omega)]; congr 1; omega
theorem anc_le (m : Nat) : anc m ≤ m / 2 := by
  induction m using Nat.strongRecOn with
  | _ m ih =>
    by_cases h : m % 2 = 1
    · rw [anc_odd h]; have := ih (m / 2) (by omega); omega
    · rw [anc_even h]; omega
theorem anc_shift : ∀ (f m : Nat), m < 2 ^ f - 1 → anc m = m / 2 ^ (Lib.ctzFrom f (2 ^ f - 1 - m) + 1)
  | 0, m, h => by simp at h
  | f + 1, m, h => by
    have h2 : 2 ^ (f + 1) = 2 * 2 ^ f := by rw [Nat.pow_succ, Nat.mul_comm]
    have hp : 0 < 2 ^ f := Nat.pow_pos (by omega)
    unfold Lib.ctzFrom
    by_cases hm : m % 2 = 1
    · rw [if_neg (by omega), anc_odd hm, anc_shift f (m / 2) (by omega), show (2 ^ (f + 1) - 1 - m) / 2 = 2 ^ f - 1 - m / 2 by omega, Nat.div_div_eq_div_mul]
      congr 1
      rw [show 1 + Lib.ctzFrom f (2 ^ f - 1 - m / 2) + 1 = (Lib.ctzFrom f (2 ^ f - 1 - m / 2) + 1) + 1 by omega, Nat.pow_succ 2 (Lib.ctzFrom f (2 ^ f - 1 - m / 2) + 1), Nat.mul_comm]
    · rw [if_pos (by omega), anc_even hm]
theorem anc_ctz {m : Nat} (h : m < 18446744073709551615) : anc m = m / 2 ^ (Lib.ctz 64 (18446744073709551615 - m) + 1) := by
  have := anc_shift 64 m (by simpa using h)
  unfold Lib.ctz
  rw [if_neg (by omega)]
  simpa using this

/-- where a way stands -/
def WayAt (n : Nat) (t : Nat → Bool) (m : Nat) : Prop :=
  1 ≤ m ∧ ∃ pre post : List Nat, inord n 0 = pre ++ inord n (m - 1) ++ post ∧ (∀ x ∈ pre, t x = true) ∧ (∀ x ∈ post, t x = false) ∧ post.head? = (if anc m = 0 then none else some (anc m - 1))
theorem WayAt.start (n : Nat) (t : Nat → Bool) : WayAt n t 1 := by
  refine ⟨Nat.le_refl _, [], [], by simp, by simp, by simp, ?_⟩
  have : anc 1 = 0 := by have := anc_le 1; omega
  rw [this]
  rfl
theorem WayAt.step {n : Nat} {t : Nat → Bool} {m : Nat} (hp : (inord n 0).Pairwise (fun a b => t b = true → t a = true)) (h : WayAt n t m) (hm : m ≤ n) : WayAt n t (2 * m + (if t (m - 1) then 1 else 0)) := by
  obtain ⟨h1, pre, post, he, hpre, hpost, hh⟩ := h
  have hin := inord_in (show m - 1 < n by omega)
  rw [hin] at he
  rw [he] at hp
  cases ht : t (m - 1)
  · refine ⟨by omega, pre, (m - 1) :: inord n (2 * (m - 1) + 2) ++ post, ?_, hpre, ?_, ?_⟩
    · rw [he, show 2 * m + (if false = true then 1 else 0) - 1 = 2 * (m - 1) + 1 by simp; omega]; simp
    · intro x hx
      rcases List.mem_append.1 hx with hx | hx
      · rcases List.mem_cons.1 hx with rfl | hx
        · exact ht
        · have h3 := (List.pairwise_append.1 hp).1
          have h4 := (List.pairwise_append.1 h3).2.1
          have h5 := (List.pairwise_append.1 h4).2.1
          have h6 := (List.pairwise_cons.1 h5).1 x hx
          cases htx : t x
          · rfl
          · have := h6 htx; rw [ht] at this; cases this
      · exact hpost x hx
    · rw [show 2 * m + (if false = true then 1 else 0) = 2 * m from rfl, anc_left, if_neg (by omega)]; rfl
  · rw [if_pos rfl]
    refine ⟨by omega, pre ++ inord n (2 * (m - 1) + 1) ++ [m - 1], post, ?_, ?_, hpost, ?_⟩
    · rw [he, show 2 * m + 1 - 1 = 2 * (m - 1) + 2 by omega]; simp
    · intro x hx
      rcases List.mem_append.1 hx with hx | hx
      · rcases List.mem_append.1 hx with hx | hx
        · exact hpre x hx
        · have h3 := (List.pairwise_append.1 hp).1
          have h4 := (List.pairwise_append.1 h3).2.1
          exact (List.pairwise_append.1 h4).2.2 x hx (m - 1) (by simp) ht
      · obtain rfl : x = m - 1 := by simpa using hx
        exact ht
    · rw [anc_right]; exact hh
theorem WayAt.done {n : Nat} {t : Nat → Bool} {m : Nat} (h : WayAt n t m) (hm : ¬ m ≤ n) : (inord n 0)[(inord n 0).countP t]? = (if anc m = 0 then none else some (anc m - 1)) := by
  obtain ⟨h1, pre, post, he, hpre, hpost, hh⟩ := h
  rw [inord_out (show ¬ m - 1 < n by omega), List.append_nil] at he
  have hc : (inord n 0).countP t = pre.length := by
    rw [he, List.countP_append, List.countP_eq_length.2 hpre, List.countP_eq_zero.2 (fun x hx => by rw [hpost x hx]; simp)]
    omega
  rw [hc, he, List.getElem?_append_right (Nat.le_refl _), Nat.sub_self, ← hh]
  cases post <;> rfl
theorem WayAt.lt {n : Nat} {t : Nat → Bool} {m : Nat} (h : WayAt n t m) (hm : ¬ m ≤ n) (h0 : anc m ≠ 0) : anc m - 1 < n := by
  have := h.done hm
  rw [if_neg h0] at this
  exact inord_lt (List.mem_of_getElem? this)
end Go.Proofs.Ythdcllnmnmemdaa

/- Contracts: whether a run may be, its sorted entries, and the place of Lower. -/
namespace Go.Proofs.Ythdcllnmnmemdaa
open Go Go.RowKit
set_option maxRecDepth 100000

/-- the error of a run -/
def chkE (l : List Ent) : Int := if fairE l ≠ 0 then fairE l else riseE (inL l)
theorem fair_len {l : List Ent} (h : fairE l = 0) : l.length ≤ 65536 := by
  unfold fairE at h
  split at h
  · cases h
  · omega
theorem chk_ok {l : List Ent} (h : chkE l = 0) : fairE l = 0 ∧ rises ((inL l).map Ent.key) = true ∧ l.length ≤ 65536 := by
  unfold chkE at h
  split at h
  · exact absurd h (by assumption)
  · rename_i hf
    have hf : fairE l = 0 := by omega
    refine ⟨hf, ?_, fair_len hf⟩
    unfold riseE at h
    split at h
    · assumption
    · cases h

set_option maxHeartbeats 1000000 in
theorem check_any (A : Option Addr) (l : List Ent) (c : Nat) (w : World) (hA : Sl w A (l.flatMap Ent.cells)) (hl : l.length ≤ 4611686018427387903) :
    Calls Try.prog 66 #[.agg #[.slice A l.length c]] w fun r w' => r = .returned (.int .i64 (chkE l)) ∧ Below w.heap.size w w' := by
  have hb0 : Below w.heap.size w (w.alloc (.cells #[.slice A l.length c] 49)) := (Below.refl _ _).alloc (Nat.le_refl _) _
  have bX := Blk.new w 49 #[.slice A l.length c]
  obtain ⟨E, hE⟩ : ∃ E, fairE l = E := ⟨_, rfl⟩
  by_cases h0 : E = 0
  · subst h0
    have hl2 := fair_len hE
    have hc : chkE l = riseE (inL l) := by unfold chkE; rw [if_neg (by omega)]
    rw [hc]
    have HE := Lib.hid hE
    have HL := Lib.hid (inL_length l)
    clear hE hc
    go_enter Try.func66, Try.ntmps66
    go_wp2_with fail
    refine (fair_any A l c _ (hA.below hb0) hl).mono ?_
    rw [HE.out]
    rintro e w1 ⟨rfl, hb1⟩
    have hb01 := bext hb0 hb1
    have c0 : w1.cell? ⟨w.heap.size, 0, none⟩ = some (.slice A l.length c) := (bX.below hb1 bX.lt).cell 0
    clear bX hb1
    go_wp2_with fail
    refine (sorted_any A l c _ (hA.below hb01) hl2).mono ?_
    rintro e w2 ⟨A2, c2, rfl, ho2, hb2⟩
    have hb02 := bext hb01 hb2
    have hs2 := Lib.hid (own_sl ho2)
    clear ho2 c0
    go_wp2_with fail
    rw [← HL.out]
    refine (rising_any A2 (inL l) c2 _ hs2.out (by rw [HL.out]; omega)).mono ?_
    rintro e w3 ⟨rfl, hb3⟩
    go_wp2
    go_ret
    exact ⟨rfl, bext hb02 hb3⟩
  · have hc : chkE l = E := by unfold chkE; rw [hE, if_pos h0]
    rw [hc]
    have HE := Lib.hid hE
    clear hE hc
    go_enter Try.func66, Try.ntmps66
    go_wp2_with fail
    refine (fair_any A l c _ (hA.below hb0) hl).mono ?_
    rw [HE.out]
    rintro e w1 ⟨rfl, hb1⟩
    go_wp2
    go_ret
    exact ⟨rfl, bext hb0 hb1⟩

/-- hands back entries in new memory, and an error -/
def GivesEnts (m : List Ent) (e : Int) (w : World) (r : Ending) (w' : World) : Prop :=
  ∃ A c, r = .returned (.tuple #[.slice A m.length c, .int .i64 e]) ∧ w'.ownsRow w.heap.size 27 3 (.slice A m.length c) m.length (m.flatMap Ent.cells) ∧ Below w.heap.size w w'
def sortL (l : List Ent) : List Ent := if chkE l = 0 then inL l else []
set_option maxHeartbeats 1000000 in
theorem sortedE_any (A : Option Addr) (l : List Ent) (c : Nat) (w : World) (hA : Sl w A (l.flatMap Ent.cells)) (hl : l.length ≤ 4611686018427387903) :
    Calls Try.prog 46 #[.agg #[.slice A l.length c]] w (GivesEnts (sortL l) (chkE l) w) := by
  have hb0 : Below w.heap.size w (w.alloc (.cells #[.slice A l.length c] 49)) := (Below.refl _ _).alloc (Nat.le_refl _) _
  have bX := Blk.new w 49 #[.slice A l.length c]
  obtain ⟨E, hE⟩ : ∃ E, chkE l = E := ⟨_, rfl⟩
  by_cases h0 : E = 0
  · subst h0
    have hl2 := (chk_ok hE).2.2
    have hS : sortL l = inL l := by unfold sortL; rw [if_pos hE]
    rw [hS, hE]
    have HE := Lib.hid hE
    have HL := Lib.hid (inL_length l)
    clear hE hS
    go_enter Try.func46, Try.ntmps46
    go_wp2_with fail
    refine (check_any A l c _ (hA.below hb0) hl).mono ?_
    rw [HE.out]
    rintro e w1 ⟨rfl, hb1⟩
    have hb01 := bext hb0 hb1
    have c0 : w1.cell? ⟨w.heap.size, 0, none⟩ = some (.slice A l.length c) := (bX.below hb1 bX.lt).cell 0
    clear bX hb1
    go_wp2_with fail
    refine (sorted_any A l c _ (hA.below hb01) hl2).mono ?_
    rintro e w2 ⟨A2, c2, rfl, ho2, hb2⟩
    have ho2 := Lib.hid (own_mono ho2 hb01.size)
    go_wp2
    refine bodyPost_ret (v := .tuple #[.slice A2 l.length c2, .int .i64 0]) (by simp [results, Try.results46, go_sem]) rfl ?_
    exact ⟨A2, c2, by rw [HL.out], by rw [HL.out]; exact ho2.out, bext hb01 hb2⟩
  · have hS : sortL l = [] := by unfold sortL; rw [if_neg (by omega)]
    rw [hS, hE]
    have HE := Lib.hid hE
    clear hE hS
    go_enter Try.func46, Try.ntmps46
    go_wp2_with fail
    refine (check_any A l c _ (hA.below hb0) hl).mono ?_
    rw [HE.out]
    rintro e w1 ⟨rfl, hb1⟩
    go_wp2
    refine bodyPost_ret (v := .tuple #[.slice none 0 0, .int .i64 E]) (by simp [results, Try.results46, go_sem]) rfl ?_
    exact ⟨none, 0, rfl, World.ownsRow_nil _ _ _ _, bext hb0 hb1⟩

/-! ### math/bits.TrailingZeros, with its table in its variable -/
theorem tab_below {g : Nat} {w w' : World} (hg : g < w.heap.size) (h : TabAt g Lib.deBruijn64tab w) (hb : Below w.heap.size w w') : TabAt g Lib.deBruijn64tab w' := fun j hj => (hb.cell (p := ⟨g, j, none⟩) hg).trans (h j hj)
theorem tab_lt {g : Nat} {w : World} (h : TabAt g Lib.deBruijn64tab w) : g < w.heap.size := by
  have h0 := h 0 (by decide)
  exact Nat.lt_of_not_le fun hle => by
    have : w.cell? ⟨g, 0, none⟩ = none := by simp [World.cell?, Array.getElem?_eq_none hle]
    rw [this] at h0; cases h0
end Go.Proofs.Ythdcllnmnmemdaa

/- Contracts: the place of Lower, Find, Rank. -/
namespace Go.Proofs.Ythdcllnmnmemdaa
open Go Go.RowKit
set_option maxRecDepth 100000

/-- hands back two numbers -/
def GivesII (a e : Int) (w : World) (r : Ending) (w' : World) : Prop := r = .returned (.tuple #[.int .i64 a, .int .i64 e]) ∧ Below w.heap.size w w'
def belowT (l : List Ent) (key : Int) (x : Nat) : Bool := decide ((entAt l x).key < key)
/-- how many keys are below one -/
def lowK (l : List Ent) (key : Int) : Nat := (inord l.length 0).countP (belowT l key)
def lowE (l : List Ent) (key : Int) : Int := if chkE l ≠ 0 then chkE l else if lowK l key = l.length then 6 else 0
def lowAt (l : List Ent) (key : Int) : Nat := if lowE l key = 0 then (inord l.length 0).getD (lowK l key) 0 else 0
theorem inL_pairs {l : List Ent} (h : rises ((inL l).map Ent.key) = true) (key : Int) : (inord l.length 0).Pairwise (fun a b => belowT l key b = true → belowT l key a = true) := by
  unfold rises at h
  have h := of_decide_eq_true h
  unfold inL at h
  rw [List.map_map] at h
  have h2 := List.pairwise_map.1 h
  refine h2.imp fun {a b} hab => ?_
  intro hb
  unfold belowT at hb ⊢
  have hb := of_decide_eq_true hb
  exact decide_eq_true (Int.lt_trans hab hb)
theorem lowK_le (l : List Ent) (key : Int) : lowK l key ≤ l.length := by
  have : (inord l.length 0).countP (belowT l key) ≤ (inord l.length 0).length := List.countP_le_length
  rw [inord_length] at this
  exact this

theorem not_u64 (m : Nat) (hm : m < 18446744073709551616) : bits BinOp.xor IntKind.u64 IntKind.u64.max (m : Int) = ((18446744073709551615 - m : Nat) : Int) := by
  have h1 : IntKind.u64.max = ((18446744073709551615 : Nat) : Int) := rfl
  rw [h1, bits_xor_u64_nat _ _ (by omega) hm]
  congr 1
  refine Nat.eq_of_testBit_eq fun i => ?_
  have h2 := Nat.testBit_two_pow_sub_succ (n := 64) (x := m) (by simpa using hm) i
  have h3 := Nat.testBit_two_pow_sub_one 64 i
  rw [Nat.testBit_xor]
  rw [show (2 : Nat) ^ 64 - 1 = 18446744073709551615 by rfl] at h3
  rw [show (2 : Nat) ^ 64 - (m + 1) = 18446744073709551615 - m by omega] at h2
  rw [h3, h2]
  by_cases hi : i < 64
  · simp [hi]
  · have : m.testBit i = false := Nat.testBit_lt_two_pow (Nat.lt_of_lt_of_le hm (by rw [show (18446744073709551616 : Nat) = 2 ^ 64 by rfl]; exact Nat.pow_le_pow_right (by omega) (by omega)))
    simp [hi, this]

end Go.Proofs.Ythdcllnmnmemdaa

/- Contracts: Lower, Find, Rank, for every run. -/
namespace Go.Proofs.Ythdcllnmnmemdaa
open Go Go.RowKit
set_option maxRecDepth 100000

theorem chk_vals (l : List Ent) : chkE l = 0 ∨ chkE l = 4 ∨ chkE l = 8 ∨ chkE l = 130 := by
  unfold chkE fairE riseE
  repeat' split
  all_goals simp_all
theorem low_bad {l : List Ent} (key : Int) (h : ¬ chkE l = 0) : lowE l key = chkE l ∧ lowAt l key = 0 := by
  have h1 : lowE l key = chkE l := by unfold lowE; rw [if_pos h]
  exact ⟨h1, by unfold lowAt; rw [h1, if_neg h]⟩
theorem low_six {l : List Ent} {key : Int} (h : chkE l = 0) (hk : lowK l key = l.length) : lowE l key = 6 ∧ lowAt l key = 0 := by
  have h1 : lowE l key = 6 := by unfold lowE; rw [if_neg (by omega), if_pos hk]
  exact ⟨h1, by unfold lowAt; rw [h1]; rfl⟩
theorem low_at {l : List Ent} {key : Int} (h : chkE l = 0) (hk : ¬ lowK l key = l.length) : lowE l key = 0 ∧ (inord l.length 0)[lowK l key]? = some (lowAt l key) ∧ lowAt l key < l.length := by
  have h1 : lowE l key = 0 := by unfold lowE; rw [if_neg (by omega), if_neg hk]
  have hle := lowK_le l key
  have hlt : lowK l key < (inord l.length 0).length := by rw [inord_length]; omega
  have h2 : (inord l.length 0)[lowK l key]? = some (lowAt l key) := by unfold lowAt; rw [if_pos h1, List.getD_eq_getElem?_getD, List.getElem?_eq_getElem hlt]; rfl
  exact ⟨h1, h2, inord_lt (List.mem_of_getElem? h2)⟩
/-- what Find tells -/
def fdE (l : List Ent) (key : Int) : Int := if lowE l key ≠ 0 then lowE l key else if (entAt l (lowAt l key)).key = key then 0 else 6
def fdAt (l : List Ent) (key : Int) : Nat := if fdE l key = 0 then lowAt l key else 0
/-- what Rank tells -/
def rkN (l : List Ent) (key : Int) : Nat := if chkE l = 0 then lowK l key else 0



set_option maxHeartbeats 1000000 in
theorem within_ok (n x : Nat) (w : World) (hn : n ≤ 65536) (hx : x < n) :
    Calls Try.prog 97 #[.int .i64 (n : Nat), .int .i64 (x : Nat)] w fun r w' => r = .returned (.int .i64 0) ∧ w = w' := by
  have h0 : askedE (n : Nat) = 0 := by unfold askedE; rw [if_neg (by omega), if_neg (by omega)]
  have h1 : ¬ (x : Int) < 0 := by omega
  have h2 : ¬ (n : Int) ≤ (x : Int) := by omega
  have H0 := Lib.hid h0
  clear h0
  go_enter Try.func97, Try.ntmps97
  go_wp2_with fail
  refine (asked_any (n : Nat) _).mono ?_
  rw [H0.out]
  rintro e w1 ⟨rfl, rfl⟩
  go_wp2
  go_ret
  exact ⟨rfl, rfl⟩

end Go.Proofs.Ythdcllnmnmemdaa

/- Contract: two runs compared; plain facts: laid out and sorted again. -/
namespace Go.Proofs.Ythdcllnmnmemdaa
open Go Go.RowKit
set_option maxRecDepth 100000

theorem in_laid (l : List Ent) : inL (laid l) = l := by
  refine List.ext_getElem? fun k => ?_
  by_cases hk : k < l.length
  · have hk2 : k < (inL (laid l)).length := by rw [inL_length, laid_length]; exact hk
    have hk3 : k < (inord (laid l).length 0).length := by rw [inord_length, laid_length]; exact hk
    rw [List.getElem?_eq_getElem hk2, List.getElem?_eq_getElem hk, inL_get]
    congr 1
    have hp : (inord (laid l).length 0)[k]'hk3 < (laid l).length := inord_lt (List.getElem_mem hk3)
    rw [entAt_get hp]
    have hidx := idx_inord hk3
    have h2 : ∀ a (ha : a < (laid l).length), (inord (laid l).length 0).idxOf a = k → (laid l)[a]'ha = l[k]'hk := by
      intro a ha he
      rw [laid_length] at he
      have hal : a < l.length := by rwa [laid_length] at ha
      have hr : a < (ranks l.length).length := by rw [ranks_length]; exact hal
      have : (laid l)[a]'ha = entAt l ((ranks l.length)[a]'hr) := by simp [laid]
      rw [this, ranks_get hal, he, entAt_get hk]
    exact h2 _ hp hidx
  · rw [List.getElem?_eq_none (by rw [inL_length, laid_length]; omega), List.getElem?_eq_none (by omega)]
theorem laid_in (x : List Ent) : laid (inL x) = x := by
  refine List.ext_getElem? fun a => ?_
  by_cases ha : a < x.length
  · have ha1 : a < (inL x).length := by rw [inL_length]; exact ha
    have ha2 : a < (laid (inL x)).length := by rw [laid_length]; exact ha1
    rw [List.getElem?_eq_getElem ha2, List.getElem?_eq_getElem ha]
    congr 1
    have hr : a < (ranks (inL x).length).length := by rw [ranks_length]; exact ha1
    have h1 : (laid (inL x))[a]'ha2 = entAt (inL x) ((ranks (inL x).length)[a]'hr) := by simp [laid]
    rw [h1, ranks_get ha1]
    have hlt := ranks_lt ha1
    rw [entAt_get hlt]
    have hlt2 : (inord (inL x).length 0).idxOf a < (inord x.length 0).length := by rw [inord_length, ← inL_length x]; exact hlt
    have h3 : ∀ k (hk : k < (inL x).length), k = (inord x.length 0).idxOf a → (inL x)[k]'hk = x[a]'ha := by
      intro k hk he
      rw [inL_get]
      subst he
      rw [inord_idx ha, entAt_get ha]
    exact h3 _ hlt (by rw [inL_length])
  · rw [List.getElem?_eq_none (by rw [laid_length, inL_length]; omega), List.getElem?_eq_none (by omega)]
theorem laid_mem {l : List Ent} {e : Ent} (h : e ∈ laid l) : e ∈ l := by
  obtain ⟨r, hr, rfl⟩ := List.mem_map.1 h
  unfold ranks at hr
  obtain ⟨a, ha, rfl⟩ := List.mem_map.1 hr
  have ha2 : a < l.length := by simpa using ha
  rw [entAt_get (ranks_lt ha2)]
  exact List.getElem_mem _
theorem inL_mem {l : List Ent} {e : Ent} (h : e ∈ inL l) : e ∈ l := by
  obtain ⟨r, hr, rfl⟩ := List.mem_map.1 h
  rw [entAt_get (inord_lt hr)]
  exact List.getElem_mem _
theorem build_parts {l : List Ent} (h : buildE l = 0) : fairE l = 0 ∧ rises (l.map Ent.key) = true := by
  unfold buildE at h
  unfold fairE
  split at h
  · cases h
  · rename_i h1
    split at h
    · cases h
    · rename_i h2
      split at h
      · rename_i h3; exact ⟨by rw [if_neg h1, if_neg h2], h3⟩
      · cases h
theorem fair_sub {l m : List Ent} (hlen : m.length ≤ l.length) (hm : ∀ e ∈ m, e ∈ l) (h : fairE l = 0) : fairE m = 0 := by
  have hl := fair_len h
  unfold fairE at h ⊢
  rw [if_neg (by omega)] at h ⊢
  cases hb : m.any badEnt
  · rfl
  · obtain ⟨e, he, hbe⟩ := List.any_eq_true.1 hb
    rw [if_pos (List.any_eq_true.2 ⟨e, hm e he, hbe⟩)] at h
    cases h
theorem build_chk {l : List Ent} (h : buildE l = 0) : chkE (laid l) = 0 := by
  obtain ⟨h1, h2⟩ := build_parts h
  have hf := fair_sub (m := laid l) (by rw [laid_length]; exact Nat.le_refl _) (fun e he => laid_mem he) h1
  unfold chkE
  rw [if_neg (by omega), in_laid]
  unfold riseE
  rw [if_pos h2]
theorem chk_build {x : List Ent} (h : chkE x = 0) : buildE (inL x) = 0 := by
  obtain ⟨h1, h2, h3⟩ := chk_ok h
  have hf := fair_sub (m := inL x) (by rw [inL_length]; exact Nat.le_refl _) (fun e he => inL_mem he) h1
  have hl := fair_len hf
  unfold fairE at hf
  rw [if_neg (by omega)] at hf
  unfold buildE
  rw [if_neg (by omega)]
  split at hf
  · cases hf
  · rename_i hb
    rw [if_neg hb, if_pos h2]

end Go.Proofs.Ythdcllnmnmemdaa

/- Contracts: the references of bound; copies of runs. -/
namespace Go.Proofs.Ythdcllnmnmemdaa
open Go Go.RowKit
set_option maxRecDepth 100000

theorem inL_perm (l : List Ent) : (inL l).Perm l := by
  have h := (inord_perm l.length).map (entAt l)
  have e : (List.range l.length).map (entAt l) = l := by
    refine List.ext_getElem? fun i => ?_
    by_cases hi : i < l.length
    · simp [hi, entAt_get hi]
    · rw [List.getElem?_eq_none (by simp; omega), List.getElem?_eq_none (by omega)]
  rw [e] at h
  exact h
def belK (l : List Ent) (key : Int) : Nat := l.countP (fun e => decide (e.key < key))
theorem lowK_bel (l : List Ent) (key : Int) : lowK l key = belK l key := by
  have h := (inL_perm l).countP_eq (fun e => decide (e.key < key))
  unfold belK
  rw [← h]
  unfold lowK inL
  rw [List.countP_map]
  rfl
theorem belK_succ {l : List Ent} {k : Nat} (h : k < l.length) (key : Int) : belK (l.take (k + 1)) key = belK (l.take k) key + (if (l[k]'h).key < key then 1 else 0) := by
  unfold belK
  rw [List.take_succ_eq_append_getElem h, List.countP_append, List.countP_cons, List.countP_nil]
  simp
theorem belK_le (l : List Ent) (key : Int) : belK l key ≤ l.length := List.countP_le_length

set_option maxHeartbeats 1000000 in
theorem refCheck_any (A : Option Addr) (l : List Ent) (c : Nat) (w : World) (hA : Sl w A (l.flatMap Ent.cells)) (hl : l.length ≤ 4611686018427387903) :
    Calls Try.prog 48 #[.agg #[.slice A l.length c]] w fun r w' => r = .returned (.int .i64 (chkE l)) ∧ Below w.heap.size w w' := by
  have hb0 : Below w.heap.size w (w.alloc (.cells #[.slice A l.length c] 49)) := (Below.refl _ _).alloc (Nat.le_refl _) _
  have bX := Blk.new w 49 #[.slice A l.length c]
  have hA' := Lib.hid hA
  clear hA
  by_cases h1 : l.length > 65536
  · have hE : chkE l = 4 := by unfold chkE fairE; rw [if_pos h1]; rfl
    rw [hE]
    have h1' : (65536 : Int) < (l.length : Int) := by omega
    go_enter Try.func48, Try.ntmps48
    go_wp2
    go_ret
    exact ⟨rfl, hb0⟩
  · have h1' : ¬ (65536 : Int) < (l.length : Int) := by omega
    cases h2 : l.any badEnt
    · have hE : chkE l = riseE (inL l) := by unfold chkE fairE; rw [if_neg h1, h2]; rfl
      rw [hE]
      have H2 := Lib.hid h2
      have HL := Lib.hid (inL_length l)
      obtain ⟨b, hb⟩ : ∃ b, rises ((inL l).map Ent.key) = b := ⟨_, rfl⟩
      have HB := Lib.hid hb
      have hR : riseE (inL l) = if b = true then 0 else 130 := by unfold riseE; rw [hb]
      rw [hR]
      clear h2 hE hb hR
      go_enter Try.func48, Try.ntmps48
      go_wp2_with fail
      refine (refFair_any A l c _ (hA'.out.below hb0) hl).mono ?_
      rw [H2.out]
      rintro e w1 ⟨rfl, rfl⟩
      have c0 := bX.cell 0
      go_wp2_with fail
      refine (refIn_any A l c _ (hA'.out.below hb0) (by omega)).mono ?_
      rintro e w2 ⟨A2, c2, rfl, ho2, hb2⟩
      have hb02 := bext hb0 hb2
      have hs2 := Lib.hid (own_sl ho2)
      clear ho2 c0
      go_wp2_with fail
      rw [← HL.out]
      refine (refRising_any A2 (inL l) c2 _ hs2.out (by rw [HL.out]; omega)).mono ?_
      rw [HB.out]
      rintro e w3 ⟨rfl, hb3⟩
      cases b
      · go_wp2
        go_ret
        exact ⟨rfl, bext hb02 hb3⟩
      · go_wp2
        go_ret
        exact ⟨rfl, bext hb02 hb3⟩
    · have hE : chkE l = 8 := by unfold chkE fairE; rw [if_neg h1, h2]; rfl
      rw [hE]
      have H2 := Lib.hid h2
      clear h2 hE
      go_enter Try.func48, Try.ntmps48
      go_wp2_with fail
      refine (refFair_any A l c _ (hA'.out.below hb0) hl).mono ?_
      rw [H2.out]
      rintro e w1 ⟨rfl, rfl⟩
      go_wp2
      go_ret
      exact ⟨rfl, hb0⟩



end Go.Proofs.Ythdcllnmnmemdaa

/- Contracts: pairs that are the same, entries of pairs, run.One and run.Of and their references. -/
namespace Go.Proofs.Ythdcllnmnmemdaa
open Go Go.RowKit
set_option maxRecDepth 100000

theorem pr_stood : Try.prog.stoodInHeld 68 = false := by kernel_rfl
theorem pr_guard : Try.prog.eqGuardType Try.prog.depth 68 = false := by kernel_rfl
theorem pr_info : (Try.prog.info? 68).map (fun i => (i.zero, i.size, i.bytes)) = some (some (.agg #[.int .i64 0, .int .i64 0]), 2, 16) := by kernel_rfl
def neP (a b : Pr) : Bool := decide (a ≠ b)
theorem run_neq_pr (a b : Pr) (w : World) :
    (binOp .neq 68 (.agg #[.int .i64 a.key, .int .i64 a.val]) (.agg #[.int .i64 b.key, .int .i64 b.val])).run Try.prog w = .ok (.bool (neP a b)) w := by
  have h1 := pr_stood
  have h2 := pr_guard
  have h3 := Try.underlying68
  obtain ⟨k, v⟩ := a
  obtain ⟨k', v'⟩ := b
  simp only [go_sem, h1, h3]
  simp [go_sem, neP]
  by_cases hk : k = k' <;> by_cases hv : v = v' <;> simp [hk, hv]

set_option maxRecDepth 100000 in
set_option maxHeartbeats 1000000 in
theorem samePairs_any (A B : Option Addr) (l m : List Pr) (c d : Nat) (w : World) (hA : Sl w A (l.flatMap Pr.cells)) (hB : Sl w B (m.flatMap Pr.cells)) (_hl : l.length ≤ 4611686018427387903) (hm : m.length ≤ 4611686018427387903) :
    Calls Try.prog 13 #[.slice A l.length c, .slice B m.length d] w fun r w' => r = .returned (.bool (decide (l = m))) ∧ Below w.heap.size w w' := by
  by_cases hlen : l.length = m.length
  · have hz : ((l.length : Int) != (m.length : Int)) = false := by simp [hlen]
    have hz2 : (l.length : Int) ≤ (m.length : Int) := by omega
    have HL := Lib.hid hlen
    clear hlen
    go_enter Try.func13, Try.ntmps13
    go_wp2
    go_loopw [5] (fun i wr => ∃ k : Nat, k ≤ l.length ∧ i = .int .i64 k ∧ Below w.heap.size w wr ∧ Hid (l.take k = m.take k)) (fun i _ => l.length - (intOf i).toNat)
    case atStart => exact ⟨0, Nat.zero_le _, rfl, Below.refl _ _, rfl⟩
    case round =>
      obtain ⟨k, hk, rfl, hb, hn⟩ := hrel
      by_cases hlt : k < l.length
      · have hlt2 : k < m.length := by omega
        obtain ⟨b, off, rfl, hbl, c1, c2⟩ := hA.prB hb k hlt
        obtain ⟨b', off', rfl, hbl', d1, d2⟩ := hB.prB hb k hlt2
        have i0 : (0 : Int) ≤ (k : Int) := by omega
        have i1 : (k : Int) < (l.length : Int) := by omega
        have i2 : (k : Int) < (m.length : Int) := by omega
        clear hA hB
        have hne := fun w => run_neq_pr (l[k]'hlt) (m[k]'hlt2) w
        have hgu := pr_guard
        go_wp2
        go_quiet (fail)
        clear hne hgu
        go_wp2
        · have hx : neP (l[k]'hlt) (m[k]'hlt2) = true := by assumption
          go_ret
          refine ⟨ret_bool ?_, bdrew hb _⟩
          symm
          rw [decide_eq_false_iff_not]
          rintro rfl
          simp [neP] at hx
        · have hx : neP (l[k]'hlt) (m[k]'hlt2) = false := by assumption
          go_roundw
          case rel =>
            refine ⟨k + 1, by omega, by go_num, bdrew hb _, ?_⟩
            show _ = _
            rw [List.take_succ_eq_append_getElem hlt, List.take_succ_eq_append_getElem hlt2, hn.out]
            simp [neP] at hx
            rw [hx]
          case measure => simp [intOf]; omega
      · go_wp2
        go_ret
        refine ⟨ret_bool ?_, hb⟩
        have := hn.out
        rw [List.take_of_length_le (by omega), List.take_of_length_le (by have := HL.out; omega)] at this
        rw [this, decide_eq_true rfl]
  · have hz : ((l.length : Int) != (m.length : Int)) = true := by simp; omega
    have HL := Lib.hid hlen
    clear hlen
    go_enter Try.func13, Try.ntmps13
    go_wp2
    go_ret
    refine ⟨ret_bool ?_, Below.refl _ _⟩
    symm
    rw [decide_eq_false_iff_not]
    rintro rfl
    exact HL.out rfl

/-- pairs as live entries -/
def aliveE (p : Pr) : Ent := ⟨p.key, p.val, false⟩

set_option maxRecDepth 100000 in
set_option maxHeartbeats 2000000 in
theorem refAlive_any (A : Option Addr) (l : List Pr) (c : Nat) (w : World) (hA : Sl w A (l.flatMap Pr.cells)) (hn : l.length ≤ 65536) :
    Calls Try.prog 60 #[.slice A l.length c] w (GivesOwn 27 3 l.length ((l.map aliveE).flatMap Ent.cells) w) := by
  obtain ⟨i0, hi, hz0, hz1, hz2⟩ := info_parts ent_info
  go_enter Try.func60, Try.ntmps60
  go_wp2
  go_loopw [3, 4] (fun v i wr => ∃ k : Nat, k ≤ l.length ∧ i = .int .i64 k ∧ Below w.heap.size w wr ∧ ∃ A' c', v = .slice A' k c' ∧
      wr.ownsRow w.heap.size 27 3 (.slice A' k c') k (((l.take k).map aliveE).flatMap Ent.cells)) (fun _ i _ => l.length - (intOf i).toNat)
  case atStart => exact ⟨0, Nat.zero_le _, rfl, Below.refl _ _, none, 0, rfl, World.ownsRow_nil _ _ _ _⟩
  case round =>
    obtain ⟨k, hk, rfl, hb, A', c', rfl, hown⟩ := hrel
    by_cases hlt : k < l.length
    · obtain ⟨b, off, rfl, hbl, c1, c2⟩ := hA.prB hb k hlt
      have hki : (0 : Int) ≤ (k : Int) := by omega
      have hki2 : (k : Int) < (l.length : Int) := by omega
      have hbs := hb.size
      clear hbl
      go_wp2_with fail
      go_region_law (
        (refine step_append_sl _ (by rfl) _ _ _ (by rfl) w.heap.size 27 i0 _ 3 24 Try.underlying47 hi hz0 hz1 hz2 rfl (by omega) (.slice A' k c') k _ (by rfl) ((hown.alloc _).drew) _ 1 _ (aliveE (l[k]'hlt)).cells (by rfl) ((Blk.new wr _ _).sl 0 _ (by intro j u hu; simpa [Ent.cells, aliveE] using hu)) (by rfl) (by simp [Ent.cells, Value.oneCell']) (by unfold maxLen; omega) (by omega) (by simp; omega) ?_; intro v2 w2 hown2 hg2; obtain ⟨A2, q2, rfl, hle2, hmx2⟩ := own_form hown2))
      all_goals
        go_wp2
        have hb2 : Below w.heap.size w w2 := ((hb.alloc hbs _).drew).grown hg2 (by simp; omega) (fun k hk => (hown.lt k hk).1)
        go_roundw
        case rel =>
          refine ⟨k + 1, by omega, by go_num, hb2, A2, q2, rfl, ?_⟩
          rw [List.take_succ_eq_append_getElem hlt, List.map_append, List.flatMap_append]
          simpa using hown2
        case measure => simp [intOf]; omega
    · have hkn := Lib.hid (show k = l.length by omega)
      go_wp2
      go_ret
      have h := hown
      rw [hkn.out, List.take_length] at h
      refine ⟨A', c', by rw [hkn.out]; rfl, h, hb⟩

set_option maxRecDepth 100000 in
set_option maxHeartbeats 1000000 in
theorem runOne_any (x : Ent) (w : World) :
    Calls Try.prog 21 #[.agg #[.int .i64 x.key, .int .i64 x.val, .bool x.dead]] w (GivesRun 27 (buildL [x]) (buildE [x]) w) := by
  obtain ⟨W0, hW0⟩ : ∃ W0, ((w.alloc (.cells #[.int .i64 x.key, .int .i64 x.val, .bool x.dead] 27)).alloc (.cells #[.slice none 0 0] 49)).alloc (.cells #[.int .i64 x.key, .int .i64 x.val, .bool x.dead] 27) = W0 := ⟨_, rfl⟩
  have hb0 : Below w.heap.size w W0 := by rw [← hW0]; exact (((Below.refl _ _).alloc (Nat.le_refl _) _).alloc (by simp) _).alloc (by simp; omega) _
  have hr0 : Blk W0 (w.heap.size + 1) 49 #[.slice none 0 0] := by
    rw [← hW0]; have := Blk.new (w.alloc (.cells #[.int .i64 x.key, .int .i64 x.val, .bool x.dead] 27)) 49 #[.slice none 0 0]
    rw [World.size_alloc] at this
    exact this.alloc _
  have hx0 : Blk W0 (w.heap.size + 1 + 1) 27 #[.int .i64 x.key, .int .i64 x.val, .bool x.dead] := by
    rw [← hW0]; have := Blk.new ((w.alloc (.cells #[.int .i64 x.key, .int .i64 x.val, .bool x.dead] 27)).alloc (.cells #[.slice none 0 0] 49)) 27 #[.int .i64 x.key, .int .i64 x.val, .bool x.dead]
    rwa [World.size_alloc, World.size_alloc] at this
  have hs0 : Sl W0 (some ⟨w.heap.size + 1 + 1, 0, none⟩) ([x].flatMap Ent.cells) := hx0.sl 0 _ (by intro j u hu; simpa [Ent.cells] using hu)
  have hsz := hx0.lt
  go_enter Try.func21, Try.ntmps21
  go_wp2_with fail
  try rw [hW0]
  clear hW0
  refine (build_any _ [x] 1 _ hs0 (by simp)).mono ?_
  rintro e w1 ⟨A1, c1, rfl, hown1, hb1⟩
  have hb01 : Below w.heap.size w w1 := bext hb0 hb1
  have hr1 : Blk w1 (w.heap.size + 1) 49 #[.slice none 0 0] := hr0.below hb1 (by omega)
  have hc1 : w1.cell? ⟨w.heap.size + 1, 0, none⟩ = some (.slice none 0 0) := hr1.cell 0
  have hf1 : w1.frozen? ⟨w.heap.size + 1, 0, none⟩ = false := hr1.frozen 0
  go_wp2
  refine bodyPost_ret (v := .tuple #[.agg #[.slice A1 (buildL [x]).length c1], .int .i64 (buildE [x])]) (by simp [results, Try.results21, go_sem, hc1]) rfl ?_
  refine ⟨A1, c1, rfl, own_far (own_mono hown1 (by omega)) ?_ _, hb01.setCell (p := ⟨w.heap.size + 1, 0, none⟩) (by simp) _⟩
  intro e
  have := (hown1.lt _ e).1
  dsimp only at this
  omega


set_option maxRecDepth 100000 in
set_option maxHeartbeats 1000000 in
theorem refOf_any (A : Option Addr) (l : List Pr) (c : Nat) (w : World) (hA : Sl w A (l.flatMap Pr.cells)) (hn : l.length ≤ 65536) :
    Calls Try.prog 30 #[.slice A l.length c] w (GivesRun 27 (buildL (l.map aliveE)) (buildE (l.map aliveE)) w) := by
  have hb0 : Below w.heap.size w (w.alloc (.cells #[.slice none 0 0] 49)) := (Below.refl _ _).alloc (Nat.le_refl _) _
  have hr0 : Blk (w.alloc (.cells #[.slice none 0 0] 49)) w.heap.size 49 #[.slice none 0 0] := Blk.new _ _ _
  go_enter Try.func30, Try.ntmps30
  go_wp2_with fail
  refine (refAlive_any A l c _ (hA.below hb0) hn).mono ?_
  rintro e w1 ⟨A1, c1, rfl, hown1, hb1⟩
  have hb01 : Below w.heap.size w w1 := bext hb0 hb1
  have hr1 : Blk w1 w.heap.size 49 #[.slice none 0 0] := hr0.below hb1 (by simp)
  go_wp2_with fail
  refine (refBuild_n A1 (l.map aliveE) l.length c1 _ (by simp) (own_sl hown1) (by simp; omega)).mono ?_
  rintro e w2 ⟨A2, c2, rfl, hown2, hb2⟩
  have hb02 : Below w.heap.size w w2 := bext hb01 hb2
  have hr2 : Blk w2 w.heap.size 49 #[.slice none 0 0] := hr1.below hb2 hr1.lt
  have hc2 : w2.cell? ⟨w.heap.size, 0, none⟩ = some (.slice none 0 0) := hr2.cell 0
  have hf2 : w2.frozen? ⟨w.heap.size, 0, none⟩ = false := hr2.frozen 0
  have hs1 := hr1.lt
  go_wp2
  refine bodyPost_ret (v := .tuple #[.agg #[.slice A2 (buildL (l.map aliveE)).length c2], .int .i64 (buildE (l.map aliveE))]) (by simp [results, Try.results30, go_sem, hc2]) rfl ?_
  refine ⟨A2, c2, rfl, own_far (own_mono hown2 (by omega)) ?_ _, hb02.setCell (p := ⟨w.heap.size, 0, none⟩) (by simp) _⟩
  intro e
  have := (hown2.lt _ e).1
  dsimp only at this
  omega

set_option maxRecDepth 100000 in
set_option maxHeartbeats 2000000 in
theorem runOf_any (A : Option Addr) (l : List Pr) (c : Nat) (w : World) (hA : Sl w A (l.flatMap Pr.cells)) (hn : l.length ≤ 1000000) :
    Calls Try.prog 29 #[.slice A l.length c] w (GivesRun 27 (buildL (l.map aliveE)) (buildE (l.map aliveE)) w) := by
  obtain ⟨i0, hi, hz0, hz1, hz2⟩ := info_parts ent_info
  have hmk := fun W => run_make_rowN (P := Try.prog) 47 27 i0 _ Try.underlying47 hi hz0 l.length (by rw [hz2]; omega) (by omega) W
  rw [hz1] at hmk
  clear hi hz0 hz1 hz2
  obtain ⟨W0, hW0⟩ : ∃ W0, (w.alloc (.cells #[.slice none 0 0] 49)).alloc (.cells (madeCells (Value.agg #[Value.int IntKind.i64 0, Value.int IntKind.i64 0, Value.bool false]).cells (l.length * 3)) 27) = W0 := ⟨_, rfl⟩
  have hb0 : Below w.heap.size w W0 := by rw [← hW0]; exact ((Below.refl _ _).alloc (Nat.le_refl _) _).alloc (by simp) _
  have hr0 : Blk W0 w.heap.size 49 #[.slice none 0 0] := by rw [← hW0]; exact (Blk.new w _ _).alloc _
  have hg0 : Blk W0 (w.heap.size + 1) 27 (madeCells (Value.agg #[Value.int IntKind.i64 0, Value.int IntKind.i64 0, Value.bool false]).cells (l.length * 3)) := by
    rw [← hW0]; have := Blk.new (w.alloc (.cells #[.slice none 0 0] 49)) 27 (madeCells (Value.agg #[Value.int IntKind.i64 0, Value.int IntKind.i64 0, Value.bool false]).cells (l.length * 3))
    rwa [World.size_alloc] at this
  go_enter Try.func29, Try.ntmps29
  go_wp2
  have hW0' : (w.alloc (.cells #[.slice none 0 0] 49)).alloc (.cells (madeCells #[Value.int IntKind.i64 0, Value.int IntKind.i64 0, Value.bool false] (l.length * 3)) 27) = W0 := hW0
  rw [hW0']
  clear hW0 hW0' hmk
  go_loopw [12] (fun i wr => ∃ k : Nat, k ≤ l.length ∧ i = .int .i64 k ∧ Mod (fun b => b = w.heap.size + 1) W0 wr ∧
      ∃ cur : Array Value, Hid (cur.size = l.length * 3) ∧ Blk wr (w.heap.size + 1) 27 cur ∧ Hid (cur.toList.take (k * 3) = ((l.take k).map aliveE).flatMap Ent.cells))
      (fun i _ => l.length - (intOf i).toNat)
  case atStart => exact ⟨0, Nat.zero_le _, rfl, Mod.refl _ _, _, by show _ = _; simp [madeCells, Value.cells], hg0, by show _ = _; simp⟩
  case round =>
    obtain ⟨k, hk, rfl, hm, cur, hcs, hcur, hct⟩ := hrel
    have hb : Below w.heap.size w wr := hb0.trans (hm.below hb0.size (by intro k h; omega))
    have hs : w.heap.size + 1 < wr.heap.size := hcur.lt
    by_cases hlt : k < l.length
    · obtain ⟨b, off, rfl, hbl, c1, c2⟩ := hA.prB hb k hlt
      have hsz := hcs.out
      obtain ⟨v1, e1⟩ : ∃ v, wr.cell? ⟨w.heap.size + 1, k * 3, none⟩ = some v := ⟨_, (hcur.cell _).trans (Array.getElem?_eq_getElem (show k * 3 < cur.size by omega))⟩
      obtain ⟨v2, e2⟩ : ∃ v, wr.cell? ⟨w.heap.size + 1, k * 3 + 1, none⟩ = some v := ⟨_, (hcur.cell _).trans (Array.getElem?_eq_getElem (show k * 3 + 1 < cur.size by omega))⟩
      obtain ⟨v3, e3⟩ : ∃ v, wr.cell? ⟨w.heap.size + 1, k * 3 + 2, none⟩ = some v := ⟨_, (hcur.cell _).trans (Array.getElem?_eq_getElem (show k * 3 + 2 < cur.size by omega))⟩
      have f1 := hcur.frozen (k * 3)
      have f2 := hcur.frozen (k * 3 + 1)
      have f3 := hcur.frozen (k * 3 + 2)
      have hki : (0 : Int) ≤ (k : Int) := by omega
      have hki2 : (k : Int) < (l.length : Int) := by omega
      clear hsz hA hbl
      go_wp2
      go_roundw
      case rel =>
        refine ⟨k + 1, by omega, by go_num, (((hm.setCell (p := ⟨w.heap.size + 1, k * 3, none⟩) rfl _).setCell (p := ⟨w.heap.size + 1, k * 3 + 1, none⟩) rfl _).setCell (p := ⟨w.heap.size + 1, k * 3 + 2, none⟩) rfl _).alloc _, _, ?_, (((hcur.set_ (k * 3) _).set_ (k * 3 + 1) _).set_ (k * 3 + 2) _).alloc _, ?_⟩
        · show _ = _; simpa using hcs.out
        · show _ = _
          rw [take_set3 _ _ _ (by rw [hcs.out]; omega) hct.out, List.take_succ_eq_append_getElem hlt, List.map_append, List.flatMap_append]
          simp [Ent.cells, aliveE]
      case measure => simp [intOf]; omega
    · have hkn := Lib.hid (show k = l.length by omega)
      have hr4 : Blk wr w.heap.size 49 #[.slice none 0 0] := hr0.mod hm (by omega)
      have hct' := hct.out
      rw [hkn.out, List.take_length] at hct'
      have hsl : Sl wr (some ⟨w.heap.size + 1, 0, none⟩) ((l.map aliveE).flatMap Ent.cells) := hcur.sl 0 _ (by
        intro j u hu
        rw [← hct', List.getElem?_take] at hu
        split at hu
        · simpa using hu
        · cases hu)
      have HCT := Lib.hid hct'
      clear hct'
      go_wp2_with fail
      refine (build_n _ (l.map aliveE) l.length l.length _ (by simp) hsl (by simp; omega)).mono ?_
      rintro e w2 ⟨A2, c2, rfl, hown2, hb2⟩
      have hb02 : Below w.heap.size w w2 := bext hb hb2
      have hr2 : Blk w2 w.heap.size 49 #[.slice none 0 0] := hr4.below hb2 (by omega)
      have hc2 : w2.cell? ⟨w.heap.size, 0, none⟩ = some (.slice none 0 0) := hr2.cell 0
      have hf2 : w2.frozen? ⟨w.heap.size, 0, none⟩ = false := hr2.frozen 0
      go_wp2
      refine bodyPost_ret (v := .tuple #[.agg #[.slice A2 (buildL (l.map aliveE)).length c2], .int .i64 (buildE (l.map aliveE))]) (by simp [results, Try.results29, go_sem, hc2]) rfl ?_
      refine ⟨A2, c2, rfl, own_far (own_mono hown2 (by omega)) ?_ _, hb02.setCell (p := ⟨w.heap.size, 0, none⟩) (by simp) _⟩
      intro e
      have := (hown2.lt _ e).1
      dsimp only at this
      omega
end Go.Proofs.Ythdcllnmnmemdaa
