/- Kc Ks: texts of the claim, in this order. -/
import Derived.Test.YtolclahkfmplfaaDoorProg
import Derived.Test.YtolclahkfmplfaaDoorWk1
import Derived.Test.YtolclahkfmplfaaDoorWk3
import Derived.BigRegion
import Derived.Deep.CutRange
import Derived.Deep.RegionHeld3
import Derived.IntWalk
/- Contracts of kway's pile of heads: less, down, settle, pop. -/
namespace Go.Proofs.YtolclahkfmplfaaDoor
open Go Go.RowKit
set_option maxRecDepth 100000

/-- a head in memory: what is left of a run as a slice, and its age -/
structure Hm where
  h : Hd
  A : Option Addr
  n : Nat
  c : Nat
def Hm.cells (m : Hm) : List Value := [.slice m.A m.n m.c, .int .i64 m.h.age]
theorem Hm.cells_length (m : Hm) : m.cells.length = 2 := rfl
/-- what it leans on stands in the base world -/
structure Hm.Ok (w0 : World) (m : Hm) : Prop where
  sl : Sl w0 m.A ((m.h.e :: m.h.rest).flatMap Ent.cells)
  n : m.n = m.h.rest.length + 1
  nc : m.n ≤ m.c
  c : m.c ≤ maxLen
theorem Hm.Ok.at0 {w0 w : World} {m : Hm} (h : m.Ok w0) (hb : Below w0.heap.size w0 w) : ∃ b off, m.A = some ⟨b, off, none⟩ ∧ b < w0.heap.size ∧ w.cell? ⟨b, off, none⟩ = some (.int .i64 m.h.e.key) ∧
    w.cell? ⟨b, off + 1, none⟩ = some (.int .i64 m.h.e.val) ∧ w.cell? ⟨b, off + 2, none⟩ = some (.bool m.h.e.dead) := by
  obtain ⟨b, off, h1, h2, h3, h4, h5⟩ := h.sl.entB hb 0 (by simp)
  exact ⟨b, off, h1, h2, by simpa using h3, by simpa using h4, by simpa using h5⟩

set_option maxHeartbeats 1000000 in
theorem less_any (w0 w : World) (a b : Hm) (ha : a.Ok w0) (hb : b.Ok w0) (hB : Below w0.heap.size w0 w) :
    Calls Tryd.prog 17 #[.agg #[.slice a.A a.n a.c, .int .i64 a.h.age], .agg #[.slice b.A b.n b.c, .int .i64 b.h.age]] w
      fun r w' => r = .returned (.bool (hlt a.h b.h)) ∧ Below w.heap.size w w' := by
  obtain ⟨W, hW⟩ : ∃ W, (w.alloc (.cells #[.slice a.A a.n a.c, .int .i64 a.h.age] 50)).alloc (.cells #[.slice b.A b.n b.c, .int .i64 b.h.age] 50) = W := ⟨_, rfl⟩
  have hbW : Below w.heap.size w W := by rw [← hW]; exact ((Below.refl _ _).alloc (Nat.le_refl _) _).alloc (by simp) _
  have b1 : Blk W w.heap.size 50 #[.slice a.A a.n a.c, .int .i64 a.h.age] := by rw [← hW]; exact (Blk.new w _ _).alloc _
  have b2 : Blk W (w.heap.size + 1) 50 #[.slice b.A b.n b.c, .int .i64 b.h.age] := by
    rw [← hW]; have := Blk.new (w.alloc (.cells #[.slice a.A a.n a.c, .int .i64 a.h.age] 50)) 50 #[.slice b.A b.n b.c, .int .i64 b.h.age]
    rwa [World.size_alloc] at this
  have hBW := bext hB (hbW.mono (Nat.le_refl _))
  obtain ⟨ba, oa, eA, la, ka, _, _⟩ := ha.at0 hBW
  obtain ⟨bb, ob, eB, lb, kb, _, _⟩ := hb.at0 hBW
  obtain ⟨h, A, n, c⟩ := a
  obtain ⟨h', A', n', c'⟩ := b
  obtain ⟨e, rest, age⟩ := h
  obtain ⟨e', rest', age'⟩ := h'
  dsimp only at *
  subst eA eB
  have na := ha.n
  have nb := hb.n
  dsimp only at na nb
  have i1 : (0 : Int) < (n : Int) := by omega
  have i2 : (0 : Int) < (n' : Int) := by omega
  have c1 : W.cell? ⟨w.heap.size, 0, none⟩ = some (.slice (some ⟨ba, oa, none⟩) n c) := b1.cell 0
  have c2 : W.cell? ⟨w.heap.size, 1, none⟩ = some (.int .i64 (age : Nat)) := b1.cell 1
  have c3 : W.cell? ⟨w.heap.size + 1, 0, none⟩ = some (.slice (some ⟨bb, ob, none⟩) n' c') := b2.cell 0
  have c4 : W.cell? ⟨w.heap.size + 1, 1, none⟩ = some (.int .i64 (age' : Nat)) := b2.cell 1
  clear ha hb na nb b1 b2 la lb hB hBW
  obtain ⟨E, hE⟩ : ∃ E, hlt ⟨e, rest, age⟩ ⟨e', rest', age'⟩ = E := ⟨_, rfl⟩
  rw [hE]
  by_cases hk : e.key = e'.key
  · have HE : Hid (decide (age < age') = E) := by
      show _ = _
      rw [← hE]; unfold hlt; rw [if_pos hk]
    clear hE
    rw [hk] at ka
    go_enter Tryd.func17, Tryd.ntmps17
    go_wp2_with fail
    try rw [hW]
    go_quiet (fail)
    go_wp2
    go_ret
    exact ⟨ret_bool HE.out, bdrew hbW _⟩
  · have HE : Hid (decide (e.key < e'.key) = E) := by
      show _ = _
      rw [← hE]; unfold hlt; rw [if_neg hk]
    clear hE
    go_enter Tryd.func17, Tryd.ntmps17
    go_wp2_with fail
    try rw [hW]
    go_quiet (fail)
    go_wp2
    go_quiet (fail)
    go_wp2
    go_ret
    exact ⟨ret_bool HE.out, bdrew (bdrew hbW _) _⟩

/-- the heads in memory -/
def HeadsAt (w : World) (g : Nat) (Hs : List Hm) : Prop := ∃ cur, Blk w g 50 cur ∧ cur.toList.take (Hs.length * 2) = Hs.flatMap Hm.cells ∧ Hs.length * 2 ≤ cur.size
theorem HeadsAt.lt {w : World} {g : Nat} {Hs : List Hm} (h : HeadsAt w g Hs) : g < w.heap.size := by obtain ⟨cur, hb, _⟩ := h; exact hb.lt
theorem HeadsAt.mod {S : Nat → Prop} {w w' : World} {g : Nat} {Hs : List Hm} (h : HeadsAt w g Hs) (hm : Mod S w w') (hn : ¬ S g) : HeadsAt w' g Hs := by
  obtain ⟨cur, hb, r⟩ := h; exact ⟨cur, hb.mod hm hn, r⟩
theorem HeadsAt.below {B : Nat} {w w' : World} {g : Nat} {Hs : List Hm} (h : HeadsAt w g Hs) (hm : Below B w w') (hn : g < B) : HeadsAt w' g Hs := by
  obtain ⟨cur, hb, r⟩ := h; exact ⟨cur, hb.below hm hn, r⟩
theorem HeadsAt.frozen {w : World} {g : Nat} {Hs : List Hm} (h : HeadsAt w g Hs) (i : Nat) : w.frozen? ⟨g, i, none⟩ = false := by obtain ⟨cur, hb, _⟩ := h; exact hb.frozen i
theorem HeadsAt.cells {w : World} {g : Nat} {Hs : List Hm} (h : HeadsAt w g Hs) (i : Nat) (hi : i < Hs.length) :
    w.cell? ⟨g, i * 2, none⟩ = some (.slice (Hs[i]'hi).A (Hs[i]'hi).n (Hs[i]'hi).c) ∧ w.cell? ⟨g, i * 2 + 1, none⟩ = some (.int .i64 (Hs[i]'hi).h.age) := by
  obtain ⟨cur, hb, ht, hs⟩ := h
  have hg : ∀ j, j < 2 → cur[i * 2 + j]? = ((Hs[i]'hi).cells)[j]? := by
    intro j hj
    have := flat_get Hm.cells 2 Hm.cells_length Hs i j hi hj
    rw [← ht, List.getElem?_take, if_pos (by omega)] at this
    rw [← this]; simp
  exact ⟨(hb.cell _).trans ((hg 0 (by omega)).trans rfl), (hb.cell _).trans ((hg 1 (by omega)).trans rfl)⟩
theorem take_put {cur : Array Value} {Hs : List Hm} (ht : cur.toList.take (Hs.length * 2) = Hs.flatMap Hm.cells) (hs : Hs.length * 2 ≤ cur.size) (i : Nat) (hi : i < Hs.length) (m : Hm) :
    ((cur.setIfInBounds (i * 2) (.slice m.A m.n m.c)).setIfInBounds (i * 2 + 1) (.int .i64 m.h.age)).toList.take ((Hs.set i m).length * 2) = (Hs.set i m).flatMap Hm.cells := by
  rw [List.length_set]
  simp only [Array.toList_setIfInBounds]
  refine List.ext_getElem? fun j => ?_
  rw [List.getElem?_take]
  by_cases hj : j < Hs.length * 2
  · rw [if_pos hj]
    obtain ⟨q, r, rfl, hr⟩ : ∃ q r, j = q * 2 + r ∧ r < 2 := ⟨j / 2, j % 2, by omega, by omega⟩
    have hq : q < Hs.length := by omega
    rw [flat_get Hm.cells 2 Hm.cells_length (Hs.set i m) q r (by simpa using hq) hr]
    have ho := flat_get Hm.cells 2 Hm.cells_length Hs q r hq hr
    rw [← ht, List.getElem?_take, if_pos hj] at ho
    by_cases h1 : i = q
    · subst h1
      rw [List.getElem_set_self]
      have h2 : r = 0 ∨ r = 1 := by omega
      rcases h2 with rfl | rfl
      · rw [List.getElem?_set_ne (by omega), Nat.add_zero, List.getElem?_set_self (by simp; omega)]; rfl
      · rw [List.getElem?_set_self (by simp; omega)]; rfl
    · rw [List.getElem?_set_ne (by omega), List.getElem?_set_ne (by omega), List.getElem_set_ne h1, ho]
  · rw [if_neg hj, List.getElem?_eq_none]
    rw [flat_length Hm.cells 2 Hm.cells_length, List.length_set]; omega
theorem HeadsAt.put {w : World} {g : Nat} {Hs : List Hm} (h : HeadsAt w g Hs) (i : Nat) (hi : i < Hs.length) (m : Hm) :
    HeadsAt ((w.setCell ⟨g, i * 2, none⟩ (.slice m.A m.n m.c)).setCell ⟨g, i * 2 + 1, none⟩ (.int .i64 m.h.age)) g (Hs.set i m) := by
  obtain ⟨cur, hb, ht, hs⟩ := h
  exact ⟨_, (hb.set_ _ _).set_ _ _, take_put ht hs i hi m, by simpa using hs⟩
theorem HeadsAt.take {w : World} {g : Nat} {Hs : List Hm} (h : HeadsAt w g Hs) (k : Nat) : HeadsAt w g (Hs.take k) := by
  obtain ⟨cur, hb, ht, hs⟩ := h
  refine ⟨cur, hb, ?_, by simp; omega⟩
  refine List.ext_getElem? fun j => ?_
  rw [List.getElem?_take]
  by_cases hj : j < (Hs.take k).length * 2
  · rw [if_pos hj]
    obtain ⟨q, r, rfl, hr⟩ : ∃ q r, j = q * 2 + r ∧ r < 2 := ⟨j / 2, j % 2, by omega, by omega⟩
    have hq : q < (Hs.take k).length := by omega
    have hq2 : q < Hs.length := by simp at hq; omega
    rw [flat_get Hm.cells 2 Hm.cells_length (Hs.take k) q r hq hr]
    have ho := flat_get Hm.cells 2 Hm.cells_length Hs q r hq2 hr
    rw [← ht, List.getElem?_take, if_pos (by omega)] at ho
    rw [ho, List.getElem_take]
  · rw [if_neg hj, List.getElem?_eq_none]
    rw [flat_length Hm.cells 2 Hm.cells_length]; omega

/-- the function value that tells which head is less -/
abbrev lessV : Value := .func (.func 17) #[] #[]

/-- what down leaves -/
def Sunk (_p g : Nat) (Hs : List Hm) (i0 : Nat) (w : World) (r : Ending) (w' : World) : Prop :=
  (∃ v, r = .returned v) ∧ ∃ Hs', Hs'.Perm Hs ∧ HeapFrom (Hs'.map Hm.h) i0 ∧ HeadsAt w' g Hs' ∧ Mod (fun b => b = g) w w'

set_option maxHeartbeats 4000000 in
theorem down_any (w0 w : World) (p g c n i i0 : Nat) (Hs : List Hm) (hn : Hs.length = n) (hmx : n ≤ 1099511627776) (hi : i ≤ n) (h0 : i0 ≤ i)
    (hp : Blk w p 54 #[.slice (some ⟨g, 0, none⟩) n c, lessV]) (hg : HeadsAt w g Hs) (hpg : p ≠ g) (hok : ∀ m ∈ Hs, m.Ok w0) (hB : Below w0.heap.size w0 w)
    (hgB : w0.heap.size ≤ g) (_hpB : w0.heap.size ≤ p) (hs : Sinks (Hs.map Hm.h) i0 i) :
    Calls Tryd.prog 20 #[.pointer (some ⟨p, 0, none⟩), .int .i64 i] w (Sunk p g Hs i0 w) := by
  have hbl := hB.size
  go_enter Tryd.func20, Tryd.ntmps20
  go_wp2
  go_loopw [1] (fun v wr => ∃ (k : Nat) (H : List Hm), k ≤ n ∧ i0 ≤ k ∧ v = .int .i64 k ∧ H.Perm Hs ∧ Mod (fun b => b = g) w wr ∧ HeadsAt wr g H ∧ Hid (Sinks (H.map Hm.h) i0 k)) (fun v _ => n - (intOf v).toNat)
  case atStart => exact ⟨i, Hs, hi, h0, rfl, List.Perm.refl _, Mod.refl _ _, hg, hs⟩
  case round =>
    obtain ⟨k, H, hk, h0k, rfl, hperm, hm, hH, hsk⟩ := hrel
    have hHn : H.length = n := hperm.length_eq.trans hn
    have hokH : ∀ m ∈ H, m.Ok w0 := fun m hm => hok m (hperm.mem_iff.1 hm)
    have hBr : Below w0.heap.size w0 wr := hB.trans (hm.below hbl (by intro k h; omega))
    have hpr := hp.mod hm (by omega)
    have p0 : wr.cell? ⟨p, 0, none⟩ = some (.slice (some ⟨g, 0, none⟩) n c) := hpr.cell 0
    have p1 : wr.cell? ⟨p, 1, none⟩ = some lessV := hpr.cell 1
    have HP := Lib.hid hperm
    have HO := Lib.hid hokH
    have HN := Lib.hid hHn
    clear hperm hokH hok hHn hpr
    by_cases hlt : 2 * k + 1 < n
    · obtain ⟨q, hq⟩ : ∃ q, q = 2 * k + 1 := ⟨_, rfl⟩
      have hqi : 2 * (k : Int) + 1 = (q : Int) := by omega
      have hqn : q < n := by omega
      have q0 : (0 : Int) ≤ (q : Int) := by omega
      have q1 : (q : Int) < (n : Int) := by omega
      have k0 : (0 : Int) ≤ (k : Int) := by omega
      have k1 : (k : Int) < (n : Int) := by omega
      have hqH : q < H.length := by rw [HN.out]; exact hqn
      have hkH : k < H.length := by rw [HN.out]; omega
      have HH := Lib.hid hH
      have HB := Lib.hid hBr
      have HQ := Lib.hid hq
      have gl := hH.lt
      have pl : p < wr.heap.size := Nat.lt_of_not_le fun hle => by rw [World.cell?, Array.getElem?_eq_none hle] at p0; cases p0
      clear hH hBr hq hlt
      have hnq : decide (n ≤ q) = false := decide_eq_false (by omega)
      go_upto_region 2 with fail
      go_cut [44] from 15 to 44 (fun v wx => ∃ E : Bool, v = .bool E ∧ Hid (∀ (hr : q + 1 < H.length), hlt (H[q + 1]'hr).h (H[q]'hqH).h = E) ∧ Hid (E = true → q + 1 < H.length) ∧ Below wr.heap.size wr wx)
      case first =>
        obtain ⟨a1, a2⟩ := HH.out.cells q hqH
        obtain ⟨mq, hmq⟩ : ∃ m, H[q]'hqH = m := ⟨_, rfl⟩
        rw [hmq] at a1 a2
        have HMQ := Lib.hid hmq
        have OQ := Lib.hid (HO.out _ (hmq ▸ List.getElem_mem hqH))
        clear hmq
        by_cases h2 : q + 1 < n
        · obtain ⟨r, hr⟩ : ∃ r, r = q + 1 := ⟨_, rfl⟩
          have hri : (q : Int) + 1 = (r : Int) := by omega
          have hwr : IntKind.i64.wrap (r : Int) = (r : Int) := IntWalk.i64_in _ (by omega)
          have r0 : (0 : Int) ≤ (r : Int) := by omega
          have r1 : (r : Int) < (n : Int) := by omega
          have hrH : r < H.length := by rw [HN.out]; omega
          obtain ⟨c1, c2⟩ := HH.out.cells r hrH
          obtain ⟨mr, hmr⟩ : ∃ m, H[r]'hrH = m := ⟨_, rfl⟩
          rw [hmr] at c1 c2
          have HMR := Lib.hid hmr
          have HR := Lib.hid hr
          have OR := Lib.hid (HO.out _ (hmr ▸ List.getElem_mem hrH))
          have hrl : decide ((r : Int) < (n : Int)) = true := decide_eq_true r1
          obtain ⟨E, hE⟩ : ∃ E, hlt mr.h mq.h = E := ⟨_, rfl⟩
          have HE := Lib.hid hE
          have HEE : Hid (∀ (hr : q + 1 < H.length), hlt (H[q + 1]'hr).h (H[q]'hqH).h = E) := by
            show ∀ _, _
            intro hr2
            subst hr
            rw [hmr, HMQ.out]; exact hE
          clear hE hmr hr h2
          go_region_held3 (fun w' => (∀ bq jq, bq < wr.heap.size → w'.cell? ⟨bq, jq, none⟩ = wr.cell? ⟨bq, jq, none⟩) ∧ (∀ bq jq, bq < wr.heap.size → w'.frozen? ⟨bq, jq, none⟩ = wr.frozen? ⟨bq, jq, none⟩) ∧ wr.heap.size ≤ w'.heap.size ∧ Below wr.heap.size wr w') ((with_reducible first | exact SB.init | exact SB.init0 | exact SB.below (by assumption) (by assumption) | assumption))
            (first
                | (go_at_call 17; refine (less_any w0 _ mr mq OR.out OQ.out (bext HB.out (SB.bel (by assumption)))).mono ?_; rw [HE.out]; rintro e21 v21 ⟨rfl, hv21⟩; have hl21 := SB.le hv21 (by assumption); obtain ⟨hc21, hz21, hs21⟩ := wfacts hv21)
                | fail "no arm")
          all_goals
            go_wp2_with fail
            go_meet
            exact ⟨E, by simp, HEE, fun _ => by have := HR.out; omega, SB.bel (by assumption)⟩
        · have hwr : IntKind.i64.wrap ((q : Int) + 1) = (n : Int) := (IntWalk.i64_in _ (by omega)).trans (by omega)
          have hrl : decide ((n : Int) < (n : Int)) = false := decide_eq_false (by omega)
          go_quiet (fail)
          go_wp2_with fail
          go_meet
          exact ⟨false, by simp, fun hr => absurd hr (by have := HN.out; omega), fun h => (by cases h), bdrew (Below.refl _ _) _⟩
      case rest =>
       obtain ⟨E, rfl, hE1, hE2, hbz⟩ := hcut
       go_upto_if 44 with fail
       go_cut [4] from 45 to 46 (fun v wx => ∃ z : Nat, v = .int .i64 z ∧ Hid (∃ hz : z < H.length, (z = 2 * k + 1 ∨ z = 2 * k + 2) ∧ ∀ ci (hc : ci < H.length), (ci = 2 * k + 1 ∨ ci = 2 * k + 2) → hle (H[z]'hz).h (H[ci]'hc).h) ∧ Below wr.heap.size wr wx)
       case first =>
        cases E
        · go_wp2_with fail
          go_meet
          refine ⟨q, by simp, ⟨hqH, .inl HQ.out, fun ci hc hcc => ?_⟩, hbz⟩
          have e1 := HQ.out
          rcases (show ci = q ∨ ci = q + 1 by omega) with rfl | rfl
          · exact hle_refl _
          · exact hle_of_not (hE1.out hc)
        · have hr := hE2.out rfl
          have hri : IntKind.i64.wrap ((q : Int) + 1) = (q : Int) + 1 := IntWalk.i64_in _ (by omega)
          go_wp2_with fail
          go_meet
          refine ⟨q + 1, by simp, ⟨hr, .inr (by have := HQ.out; omega), fun ci hc hcc => ?_⟩, hbz⟩
          have e1 := HQ.out
          rcases (show ci = q ∨ ci = q + 1 by omega) with rfl | rfl
          · exact hle_of_lt (hE1.out hr)
          · exact hle_refl _
       case rest =>
        clear hbz hE1 hE2
        obtain ⟨z, rfl, hz, hbz⟩ := hcut
        obtain ⟨hzH, hzk, hzm⟩ := hz.out
        have hHc := HH.out.below hbz gl
        have p0' : wc.cell? ⟨p, 0, none⟩ = some (.slice (some ⟨g, 0, none⟩) n c) := ((bcell hbz).1 p _ pl).trans p0
        have p1' : wc.cell? ⟨p, 1, none⟩ = some lessV := ((bcell hbz).1 p _ pl).trans p1
        obtain ⟨a1, a2⟩ := hHc.cells z hzH
        obtain ⟨b1, b2⟩ := hHc.cells k hkH
        obtain ⟨mz, hmz⟩ : ∃ m, H[z]'hzH = m := ⟨_, rfl⟩
        obtain ⟨mk, hmk⟩ : ∃ m, H[k]'hkH = m := ⟨_, rfl⟩
        rw [hmz] at a1 a2
        rw [hmk] at b1 b2
        have HMZ := Lib.hid hmz
        have HMK := Lib.hid hmk
        have OZ := Lib.hid (HO.out _ (hmz ▸ List.getElem_mem hzH))
        have OK := Lib.hid (HO.out _ (hmk ▸ List.getElem_mem hkH))
        have z0 : (0 : Int) ≤ (z : Int) := by omega
        have z1 : (z : Int) < (n : Int) := by have := HN.out; omega
        have HB2 := Lib.hid (bext HB.out hbz)
        have HZK := Lib.hid hzk
        have HZM := Lib.hid hzm
        have HHC := Lib.hid hHc
        have gl2 := hHc.lt
        have pl2 : p < wc.heap.size := Nat.lt_of_lt_of_le pl hbz.size
        have HM := Lib.hid (hm.ext hbz)
        obtain ⟨E, hE⟩ : ∃ E, hlt mz.h mk.h = E := ⟨_, rfl⟩
        have HE := Lib.hid hE
        clear hE hmz hmk hzk hzm hHc p0 p1 hbz hz
        go_upto_region 4 with fail
        cases E
        · go_region_held3 (fun w' => (∀ bq jq, bq < wc.heap.size → w'.cell? ⟨bq, jq, none⟩ = wc.cell? ⟨bq, jq, none⟩) ∧ (∀ bq jq, bq < wc.heap.size → w'.frozen? ⟨bq, jq, none⟩ = wc.frozen? ⟨bq, jq, none⟩) ∧ wc.heap.size ≤ w'.heap.size ∧ Below wc.heap.size wc w') ((with_reducible first | exact SB.init | exact SB.init0 | exact SB.below (by assumption) (by assumption) | assumption))
            (first
              | (go_at_call 17; refine (less_any w0 _ mz mk OZ.out OK.out (bext HB2.out (SB.bel (by assumption)))).mono ?_; rw [HE.out]; rintro e31 v31 ⟨rfl, hv31⟩; have hl31 := SB.le hv31 (by assumption); obtain ⟨hc31, hz31, hs31⟩ := wfacts hv31)
              | fail "no arm")
          all_goals
            go_wp2_with fail
            refine bodyPost_ret (results_none rfl _ _ _) rfl ?_
            refine ⟨⟨_, rfl⟩, H, HP.out, hsk.out.done fun ci hc hi' hcc => ?_, HHC.out.below (SB.bel (by assumption)) gl2, HM.out.ext (SB.bel (by assumption))⟩
            simp at hc
            have h1 : hle mk.h mz.h := hle_of_not HE.out
            have h2 := HZM.out ci hc hcc
            rw [HMZ.out] at h2
            rw [List.getElem_map, List.getElem_map, HMK.out]
            exact hle_trans h1 h2
        · go_region_held3 (fun w' => (∀ bq jq, bq < wc.heap.size → w'.cell? ⟨bq, jq, none⟩ = wc.cell? ⟨bq, jq, none⟩) ∧ (∀ bq jq, bq < wc.heap.size → w'.frozen? ⟨bq, jq, none⟩ = wc.frozen? ⟨bq, jq, none⟩) ∧ wc.heap.size ≤ w'.heap.size ∧ Below wc.heap.size wc w') ((with_reducible first | exact SB.init | exact SB.init0 | exact SB.below (by assumption) (by assumption) | assumption))
            (first
              | (go_at_call 17; refine (less_any w0 _ mz mk OZ.out OK.out (bext HB2.out (SB.bel (by assumption)))).mono ?_; rw [HE.out]; rintro e31 v31 ⟨rfl, hv31⟩; have hl31 := SB.le hv31 (by assumption); obtain ⟨hc31, hz31, hs31⟩ := wfacts hv31)
              | fail "no arm")
          all_goals
            have hbv : Below wc.heap.size wc v31 := SB.bel (by assumption)
            have P0 : v31.cell? ⟨p, 0, none⟩ = some (.slice (some ⟨g, 0, none⟩) n c) := ((bcell hbv).1 p _ pl2).trans p0'
            have A1 := ((bcell hbv).1 g _ gl2).trans a1
            have A2 := ((bcell hbv).1 g _ gl2).trans a2
            have B1 := ((bcell hbv).1 g _ gl2).trans b1
            have B2 := ((bcell hbv).1 g _ gl2).trans b2
            have hHv := HHC.out.below hbv gl2
            have F1 := hHv.frozen (z * 2)
            have F2 := hHv.frozen (z * 2 + 1)
            have F3 := hHv.frozen (k * 2)
            have F4 := hHv.frozen (k * 2 + 1)
            have HHV := Lib.hid hHv
            have HMV := Lib.hid (HM.out.ext hbv)
            have n1 : ¬ z = k := by have := HZK.out; omega
            have n2 : ¬ k = z := by have := HZK.out; omega
            have n3 : ¬ z * 2 = k * 2 + 1 := by omega
            have n4 : ¬ z * 2 + 1 = k * 2 := by omega
            have n5 : ¬ k * 2 = z * 2 + 1 := by omega
            have n6 : ¬ k * 2 + 1 = z * 2 := by omega
            rename_i hHd
            clear hHd p0' p1' a1 a2 b1 b2 hc31 hz31 hs31 hl31 hv31 hbv hHv
            go_upto_region 5 with fail
            go_region
            all_goals
              go_wp2_with fail
              refine ⟨⟨z, (H.set k mz).set z mk, by omega, by have := HZK.out; omega, rfl, ?_, ?_, ?_, ?_⟩, by simp [intOf]; have := HZK.out; omega⟩
              · refine List.Perm.trans ?_ HP.out
                rw [← HMZ.out, ← HMK.out]
                exact List.set_set_perm hkH hzH
              · exact ((((HMV.out.setCell (p := ⟨g, k * 2, none⟩) rfl _).setCell (p := ⟨g, k * 2 + 1, none⟩) rfl _).setCell (p := ⟨g, z * 2, none⟩) rfl _).setCell (p := ⟨g, z * 2 + 1, none⟩) rfl _).drew
              · exact (HHV.out.put k hkH mz).put z (by simpa using hzH) mk
              · have hk' : k < (H.map Hm.h).length := by simpa using hkH
                have hz' : z < (H.map Hm.h).length := by simpa using hzH
                have h1 := hsk.out.step h0k hk' hz' HZK.out (by rw [List.getElem_map, List.getElem_map, HMZ.out, HMK.out]; exact HE.out) (fun ci hc hcc => by
                  rw [List.getElem_map, List.getElem_map]
                  exact HZM.out ci (by simpa using hc) hcc)
                have h2 : swapL (H.map Hm.h) k z hk' hz' = ((H.set k mz).set z mk).map Hm.h := by
                  unfold swapL
                  rw [List.map_set, List.map_set, List.getElem_map, List.getElem_map, HMZ.out, HMK.out]
                rw [h2] at h1
                exact h1
    · go_wp2
      refine bodyPost_ret (results_none rfl _ _ _) rfl ?_
      refine ⟨⟨_, rfl⟩, H, HP.out, hsk.out.done fun c hc hi' hcc => ?_, hH, hm⟩
      simp [HN.out] at hc
      omega
end Go.Proofs.YtolclahkfmplfaaDoor

/- Contracts of kway's pile of heads: settle, pop. -/
namespace Go.Proofs.YtolclahkfmplfaaDoor
open Go Go.RowKit
set_option maxRecDepth 100000

set_option maxHeartbeats 1000000 in
theorem settle_any (w0 w : World) (p g c n : Nat) (Hs : List Hm) (hn : Hs.length = n) (hmx : n ≤ 1099511627776)
    (hp : Blk w p 54 #[.slice (some ⟨g, 0, none⟩) n c, lessV]) (hg : HeadsAt w g Hs) (hpg : p ≠ g) (hok : ∀ m ∈ Hs, m.Ok w0) (hB : Below w0.heap.size w0 w)
    (hgB : w0.heap.size ≤ g) (hpB : w0.heap.size ≤ p) :
    Calls Tryd.prog 18 #[.pointer (some ⟨p, 0, none⟩)] w (Sunk p g Hs 0 w) := by
  have hbl := hB.size
  have c0 : w.cell? ⟨p, 0, none⟩ = some (.slice (some ⟨g, 0, none⟩) n c) := hp.cell 0
  obtain ⟨hf, hhf⟩ : ∃ hf, hf = n / 2 := ⟨_, rfl⟩
  have H2 := Lib.hid hhf
  clear hhf
  go_enter Tryd.func18, Tryd.ntmps18
  go_wp2
  go_loopw [2] (fun v wr => ∃ (k : Nat) (H : List Hm), k ≤ hf ∧ v = .int .i64 ((k : Int) - 1) ∧ H.Perm Hs ∧ Mod (fun b => b = g) w wr ∧ HeadsAt wr g H ∧ Hid (HeapFrom (H.map Hm.h) k)) (fun v _ => (intOf v + 1).toNat)
  case atStart => exact ⟨hf, Hs, Nat.le_refl _, by congr 1; have := H2.out; omega, List.Perm.refl _, Mod.refl _ _, hg, heap_leaves (by have := H2.out; simp; omega)⟩
  case round =>
    obtain ⟨k, H, hk, rfl, hperm, hm, hH, hsk⟩ := hrel
    by_cases h0 : k = 0
    · subst h0
      go_wp2
      refine bodyPost_end (results_none rfl _ _ _) rfl ?_
      exact ⟨⟨_, rfl⟩, H, hperm, hsk.out, hH, hm⟩
    · obtain ⟨j, rfl⟩ : ∃ j, k = j + 1 := ⟨k - 1, by omega⟩
      have e1 : ((j + 1 : Nat) : Int) - 1 = (j : Int) := by omega
      rw [e1]
      have j0 : (0 : Int) ≤ (j : Int) := by omega
      have j1 : (j : Int) ≤ 1099511627776 := by have := H2.out; omega
      have HK := Lib.hid hk
      have HP := Lib.hid hperm
      clear e1 h0 hk hperm
      go_wp2_with fail
      refine (down_any w0 wr p g c n j j H (HP.out.length_eq.trans hn) hmx (by have := HK.out; have := H2.out; omega) (Nat.le_refl _) (hp.mod hm (by omega)) hH hpg (fun m hmm => hok m (HP.out.mem_iff.1 hmm)) (hB.trans (hm.below hbl (by intro k h; omega))) hgB hpB (Sinks.start hsk.out)).mono ?_
      rintro e w1 ⟨⟨v, rfl⟩, H', hp', hh', hH', hm'⟩
      go_wp2
      go_roundw
      case rel => exact ⟨j, H', by have := HK.out; omega, by go_num, hp'.trans HP.out, hm.trans hm', hH', hh'⟩
      case measure => first | (simp [intOf]; omega) | simp [intOf]

set_option maxHeartbeats 1000000 in
theorem settle_nil (w : World) (p : Nat) (F : Value) (hp : Blk w p 54 #[.slice none 0 0, F]) :
    Calls Tryd.prog 18 #[.pointer (some ⟨p, 0, none⟩)] w (fun r w' => (∃ v, r = .returned v) ∧ w' = w) := by
  have c0 : w.cell? ⟨p, 0, none⟩ = some (.slice none 0 0) := hp.cell 0
  go_enter Tryd.func18, Tryd.ntmps18
  go_wp2
  go_loopw [2] (fun v wr => v = .int .i64 (-1) ∧ wr = w) (fun v _ => (intOf v + 1).toNat)
  case atStart => exact ⟨by go_num, rfl⟩
  case round =>
    obtain ⟨rfl, rfl⟩ := hrel
    go_wp2
    refine bodyPost_end (results_none rfl _ _ _) rfl ?_
    exact ⟨⟨_, rfl⟩, rfl⟩

/-- what pop leaves -/
def Popped (p g c : Nat) (Hs : List Hm) (w : World) (r : Ending) (w' : World) : Prop :=
  (∃ v, r = .returned v) ∧ ∃ Hs', Hs'.Perm (Hs.drop 1) ∧ HeapFrom (Hs'.map Hm.h) 0 ∧ HeadsAt w' g Hs' ∧ Blk w' p 54 #[.slice (some ⟨g, 0, none⟩) (Hs.length - 1) c, lessV] ∧ Mod (fun b => b = g ∨ b = p) w w'
set_option maxHeartbeats 2000000 in
theorem pop_any (w0 w : World) (p g c n : Nat) (Hs : List Hm) (hn : Hs.length = n + 1) (hmx : n + 1 ≤ 1099511627776) (hc : n + 1 ≤ c)
    (hp : Blk w p 54 #[.slice (some ⟨g, 0, none⟩) (n + 1) c, lessV]) (hg : HeadsAt w g Hs) (hpg : p ≠ g) (hok : ∀ m ∈ Hs.drop 1, m.Ok w0) (hB : Below w0.heap.size w0 w)
    (hgB : w0.heap.size ≤ g) (hpB : w0.heap.size ≤ p) (hh : HeapFrom (Hs.map Hm.h) 0) :
    Calls Tryd.prog 19 #[.pointer (some ⟨p, 0, none⟩)] w (Popped p g c Hs w) := by
  have hbl := hB.size
  have c0 : w.cell? ⟨p, 0, none⟩ = some (.slice (some ⟨g, 0, none⟩) (n + 1) c) := hp.cell 0
  have hnH : n < Hs.length := by omega
  have h0H : 0 < Hs.length := by omega
  obtain ⟨a1, a2⟩ := hg.cells n hnH
  obtain ⟨b1, b2⟩ := hg.cells 0 h0H
  have f1 := hg.frozen 0
  have f2 := hg.frozen 1
  have f3 := hp.frozen 0
  rw [Nat.zero_mul] at b1 b2
  have b1 : w.cell? ⟨g, 0, none⟩ = some (.slice (Hs[0]'h0H).A (Hs[0]'h0H).n (Hs[0]'h0H).c) := b1
  have b2 : w.cell? ⟨g, 1, none⟩ = some (.int .i64 (Hs[0]'h0H).h.age) := b2
  obtain ⟨ml, hml⟩ : ∃ m, Hs[n]'hnH = m := ⟨_, rfl⟩
  obtain ⟨m0, hm0⟩ : ∃ m, Hs[0]'h0H = m := ⟨_, rfl⟩
  rw [hml] at a1 a2
  rw [hm0] at b1 b2
  obtain ⟨N, hN⟩ : ∃ N, N = n + 1 := ⟨_, rfl⟩
  rw [← hN] at c0
  have n0 : (0 : Int) ≤ (n : Int) := by omega
  have n1 : (n : Int) < (N : Int) := by omega
  have n2 : (0 : Int) < (N : Int) := by omega
  have n3 : (N : Int) - 1 = (n : Int) := by omega
  have n4 : n ≤ c := by omega
  have HHG := Lib.hid hg
  go_enter Tryd.func19, Tryd.ntmps19
  go_wp2_with fail
  go_region
  all_goals
    obtain ⟨W, hW⟩ : ∃ W, (((w.setCell ⟨g, 0, none⟩ (.slice ml.A ml.n ml.c)).setCell ⟨g, 1, none⟩ (.int .i64 ml.h.age)).setCell ⟨p, 0, none⟩ (.slice (some ⟨g, 0, none⟩) n c)).drew = W := ⟨_, rfl⟩
    have hHW : HeadsAt W g ((Hs.set 0 ml).take n) := by
      rw [← hW]
      have h1 : HeadsAt ((w.setCell ⟨g, 0, none⟩ (.slice ml.A ml.n ml.c)).setCell ⟨g, 1, none⟩ (.int .i64 ml.h.age)) g (Hs.set 0 ml) := by
        have := HHG.out.put 0 h0H ml
        simpa using this
      obtain ⟨cur, h2, h3⟩ := h1.take n
      exact ⟨cur, (h2.far (p := ⟨p, 0, none⟩) (fun e => hpg e.symm) _), h3⟩
    have hpW : Blk W p 54 #[.slice (some ⟨g, 0, none⟩) n c, lessV] := by
      rw [← hW]
      have h1 := ((hp.far (p := ⟨g, 0, none⟩) hpg (.slice ml.A ml.n ml.c)).far (p := ⟨g, 1, none⟩) hpg (.int .i64 ml.h.age)).set_ 0 (.slice (some ⟨g, 0, none⟩) n c)
      exact h1
    have hmW : Mod (fun b => b = g ∨ b = p) w W := by
      rw [← hW]
      exact ((((Mod.refl _ w).setCell (p := ⟨g, 0, none⟩) (.inl rfl) _).setCell (p := ⟨g, 1, none⟩) (.inl rfl) _).setCell (p := ⟨p, 0, none⟩) (.inr rfl) _).drew
    have hperm : ((Hs.set 0 ml).take n).Perm (Hs.drop 1) := by
      cases Hs with
      | nil => simp at h0H
      | cons a l =>
        have hl : l.length = n := by simpa using hn
        rcases List.eq_nil_or_concat l with rfl | ⟨l', z, rfl⟩
        · simp at hl; subst hl; simp
        · simp at hl
          subst hl
          rw [← hml]
          simp
          exact (List.perm_append_comm (l₁ := [z]) (l₂ := l'))
    have hsk : Sinks ((((Hs.set 0 ml).take n)).map Hm.h) 0 0 := by
      refine Sinks.start ?_
      intro j ci hci hj h1 hcc
      have := hh j ci (by simp at hci ⊢; omega) hj (by omega) hcc
      simp only [List.getElem_map, List.getElem_take] at this ⊢
      rw [List.getElem_set_ne (by omega), List.getElem_set_ne (by omega)]
      exact this
    have HW := Lib.hid hW
    have HL := Lib.hid (show ((Hs.set 0 ml).take n).length = n by simp; omega)
    clear hW
    have HPP := Lib.hid hperm
    clear hperm
    have hmx' : n ≤ 1099511627776 := by omega
    have hlen : Hs.length - 1 = n := by omega
    go_wp2_with fail
    rw [HW.out]
    refine (down_any w0 W p g c n 0 0 ((Hs.set 0 ml).take n) HL.out hmx' (Nat.zero_le _) (Nat.le_refl _) hpW hHW hpg (fun m hm => hok m (HPP.out.mem_iff.1 hm)) (hB.trans (hmW.below hbl (by intro k h; omega))) hgB hpB hsk).mono ?_
    rintro e w1 ⟨⟨v, rfl⟩, H', hp', hh', hH', hm'⟩
    go_wp2
    refine bodyPost_end (results_none rfl _ _ _) rfl ?_
    exact ⟨⟨_, rfl⟩, H', hp'.trans HPP.out, hh', hH', by rw [hlen]; exact hpW.mod hm' (by omega), hmW.trans (hm'.mono (fun _ _ h => .inl h))⟩
end Go.Proofs.YtolclahkfmplfaaDoor
