/- Fh Fi Dh0 Dc Dj Fd0: texts of the claim, in this order. -/
import Derived.Test.YthbppblmecdekaaGreatDoorWu2
import Derived.Test.YthbppblmecdekaaGreatDoorWg5
import Derived.Lib.SliceRun
import Derived.Test.YthbppblmecdekaaGreatDoorWg18
import Derived.Test.YthbppblmecdekaaGreatDoorWg19
import Derived.Test.YthbppblmecdekaaGreatDoorWg21
/- Contracts: ladder.Range's closure, slices.IndexFunc and DeleteFunc of pairs by it. -/
namespace Go.Proofs.YthbppblmecdekaaGreatDoor
open Go Go.RowKit
set_option maxRecDepth 100000
def inB (p : Pr) (a b : Int) : Bool := decide (a ≤ p.key) && decide (p.key ≤ b)
theorem without_is (l : List Pr) (a b : Int) : withoutL l a b = l.filter (fun p => !inB p a b) := by
  unfold withoutL
  congr 1
  funext p
  unfold inB
  by_cases h1 : a ≤ p.key <;> by_cases h2 : p.key ≤ b <;> simp [h1, h2] <;> omega
theorem range1_any (p : Pr) (g4 g5 : Nat) (a b : Int) (w : World) (h4 : w.cell? ⟨g4, 0, none⟩ = some (.int .i64 a)) (h5 : w.cell? ⟨g5, 0, none⟩ = some (.int .i64 b)) (l4 : g4 < w.heap.size) (l5 : g5 < w.heap.size) :
    Calls Tryz.prog 66 #[.agg #[.int .i64 p.key, .int .i64 p.val], .pointer (some ⟨g4, 0, none⟩), .pointer (some ⟨g5, 0, none⟩)] w fun r w' => r = .returned (.bool (inB p a b)) ∧ Below w.heap.size w w' := by
  obtain ⟨W0, hW0⟩ : ∃ W0, w.alloc (.cells #[.int .i64 p.key, .int .i64 p.val] 47) = W0 := ⟨_, rfl⟩
  have hb0 : Below w.heap.size w W0 := by rw [← hW0]; exact (Below.refl _ _).alloc (Nat.le_refl _) _
  have b0 : Blk W0 w.heap.size 47 #[.int .i64 p.key, .int .i64 p.val] := by rw [← hW0]; exact Blk.new _ _ _
  have c0 : W0.cell? ⟨w.heap.size, 0, none⟩ = some (.int .i64 p.key) := b0.cell 0
  have c4 : W0.cell? ⟨g4, 0, none⟩ = some (.int .i64 a) := ((bcell hb0).1 _ _ l4).trans h4
  have c5 : W0.cell? ⟨g5, 0, none⟩ = some (.int .i64 b) := ((bcell hb0).1 _ _ l5).trans h5
  have HW0 := Lib.hid hW0
  obtain ⟨V, hV⟩ : ∃ V, inB p a b = V := ⟨_, rfl⟩
  rw [hV]
  unfold inB at hV
  have HV := Lib.hid hV
  clear hW0 hV h4 h5 b0
  go_enter Tryz.func66, Tryz.ntmps66
  go_upto_region 1 with fail
  rw [HW0.out]
  by_cases h1 : a ≤ p.key
  · by_cases h2 : p.key ≤ b
    · have HT : Hid (V = true) := by show _ = _; rw [← HV.out, decide_eq_true h1, decide_eq_true h2]; rfl
      go_wp2_with fail
      go_ret
      exact ⟨by rw [HT.out]; rfl, hb0⟩
    · have HT : Hid (V = false) := by show _ = _; rw [← HV.out, decide_eq_false h2]; simp
      go_wp2_with fail
      go_ret
      exact ⟨by rw [HT.out]; rfl, hb0⟩
  · have HT : Hid (V = false) := by show _ = _; rw [← HV.out, decide_eq_false h1]; rfl
    go_wp2_with fail
    go_ret
    exact ⟨by rw [HT.out]; rfl, hb0⟩
/-- where the first of pairs stands that is to go -/
def FirstIn (l : List Pr) (a b : Int) (v : Int) : Prop := (v = -1 ∧ ∀ e ∈ l, inB e a b = false) ∨ ∃ (k : Nat) (h : k < l.length), v = (k : Int) ∧ inB (l[k]'h) a b = true ∧ ∀ e ∈ l.take k, inB e a b = false
set_option maxHeartbeats 2000000 in
theorem indexP_any (A : Option Addr) (l : List Pr) (c g4 g5 : Nat) (a b : Int) (w : World) (hA : Sl w A (l.flatMap Pr.cells)) (hl : l.length ≤ 1000000) (h4 : w.cell? ⟨g4, 0, none⟩ = some (.int .i64 a)) (h5 : w.cell? ⟨g5, 0, none⟩ = some (.int .i64 b)) (l4 : g4 < w.heap.size) (l5 : g5 < w.heap.size) :
    Calls Tryz.prog 102 #[.slice A l.length c, .func (.func 66) #[] #[.pointer (some ⟨g4, 0, none⟩), .pointer (some ⟨g5, 0, none⟩)]] w fun r w' => ∃ v : Int, r = .returned (.int .i64 v) ∧ FirstIn l a b v ∧ Below w.heap.size w w' := by
  have HA := Lib.hid hA
  have H4 := Lib.hid h4
  have H5 := Lib.hid h5
  clear hA h4 h5
  go_enter Tryz.func102, Tryz.ntmps102
  go_wp2_with fail
  go_loopw [8] (fun i wr => ∃ k : Nat, k ≤ l.length ∧ i = .int .i64 k ∧ Below w.heap.size w wr ∧ Hid (∀ e ∈ l.take k, inB e a b = false)) (fun i _ => l.length - (intOf i).toNat)
  case atStart => exact ⟨0, Nat.zero_le _, rfl, Below.refl _ _, fun e h => by simp at h⟩
  case round =>
    obtain ⟨k, hk, rfl, hb, hd⟩ := hrel
    by_cases hlt : k < l.length
    · obtain ⟨bb, off, rfl, hbl, c1, c2⟩ := HA.out.prB hb k hlt
      have hcall := range1_any (l[k]'hlt) g4 g5 a b wr (((bcell hb).1 _ _ l4).trans H4.out) (((bcell hb).1 _ _ l5).trans H5.out) (Nat.lt_of_lt_of_le l4 hb.size) (Nat.lt_of_lt_of_le l5 hb.size)
      obtain ⟨p, hp⟩ : ∃ p, l[k]'hlt = p := ⟨_, rfl⟩
      have HP := Lib.hid hp
      rw [hp] at c1 c2 hcall
      obtain ⟨V, hV⟩ : ∃ V, inB p a b = V := ⟨_, rfl⟩
      rw [hV] at hcall
      have HV := Lib.hid hV
      have HC := Lib.hid hcall
      have i0 : (0 : Int) ≤ (k : Int) := by omega
      have i1 : (k : Int) < (l.length : Int) := by omega
      clear hp hV hcall
      go_wp2_with fail
      refine HC.out.mono ?_
      rintro e w1 ⟨rfl, hb1⟩
      cases V with
      | true =>
        go_wp2_with fail
        go_ret
        exact ⟨k, rfl, .inr ⟨k, hlt, rfl, by rw [HP.out]; exact HV.out, hd.out⟩, bext hb hb1⟩
      | false =>
        go_wp2_with fail
        go_roundw
        case rel =>
          refine ⟨k + 1, by omega, by go_num, bext hb hb1, fun e he => ?_⟩
          rw [List.take_succ_eq_append_getElem hlt, List.mem_append, List.mem_singleton] at he
          rcases he with he | he
          · exact hd.out e he
          · rw [he, HP.out]; exact HV.out
        case measure => simp [intOf]; omega
    · have hkn : l.take k = l := List.take_of_length_le (by omega)
      have i1 : ¬ (k : Int) < (l.length : Int) := by omega
      have HF : Hid (∀ e ∈ l, inB e a b = false) := by rw [hkn] at hd; exact hd.out
      clear hkn
      go_wp2_with fail
      go_ret
      exact ⟨-1, rfl, .inl ⟨rfl, HF.out⟩, hb⟩
end Go.Proofs.YthbppblmecdekaaGreatDoor

/- Contract: slices.DeleteFunc of pairs, by ladder.Range's closure. -/
namespace Go.Proofs.YthbppblmecdekaaGreatDoor
open Go Go.RowKit
set_option maxRecDepth 100000
theorem run_clear_any {P : Program} (w : World) (t e ty : TypeId) (z : Value) (ht : P.underlying t = some (.slice e)) (hv : ∀ w, (zeroValue e).run P w = .ok z w) (b o n c : Nat) (hn : 0 < n)
    (hc : ∀ j, j < (Builtin.zeroCells z.cells n).toList.length → (w.cell? ⟨b, o + j, none⟩).isSome = true) (hf : ∀ j, j < (Builtin.zeroCells z.cells n).toList.length → w.frozen? ⟨b, o + j, none⟩ = false) (h1 : ∀ v ∈ (Builtin.zeroCells z.cells n).toList, v.oneCell' = true) :
    (Builtin.clear_ #[t] ty #[.slice (some ⟨b, o, none⟩) n c]).run P w = .ok (.tuple #[]) (w.setCells b o (Builtin.zeroCells z.cells n).toList) := by
  have hst := run_storeCells_cells (P := P) b o (Builtin.zeroCells z.cells n).toList 0 w (by simpa using hc) (by simpa using hf) h1
  simp only [Nat.add_zero] at hst
  obtain ⟨m, rfl⟩ : ∃ m, n = m + 1 := ⟨n - 1, by omega⟩
  simp only [Builtin.clear_]
  simp [run_underlying ht, hv, hst]
theorem below_setCells {B b : Nat} (hb : B ≤ b) {a : World} : ∀ (vs : List Value) (o : Nat) (w : World), Below B a w → Below B a (w.setCells b o vs)
  | [], _, _, h => h
  | v :: r, o, w, h => below_setCells hb r (o + 1) _ (h.setCell (p := ⟨b, o, none⟩) hb v)
theorem take_push (x y : Value) : ∀ (n : Nat) (L : List Value), n + 2 ≤ L.length → ((L.set n x).set (n + 1) y).take (n + 2) = L.take n ++ [x, y]
  | 0, a :: b :: r, _ => by simp
  | 0, [_], h => by simp at h
  | 0, [], h => by simp at h
  | n + 1, a :: r, h => by
    have := take_push x y n r (by simpa using h)
    simp only [List.set_cons_succ, List.take_succ_cons, List.cons_append, this]
  | n + 1, [], h => by simp at h
/-- while pairs are struck: m is kept of the first k -/
structure DelI (B0 g c : Nat) (a b : Int) (l : List Pr) (w : World) (k : Nat) (m : List Pr) (cur : Array Value) (wr : World) : Prop where
  bel : Below B0 w wr
  blk : Blk wr g 47 cur
  size : c * 2 ≤ cur.size
  cap : l.length ≤ c
  low : cur.toList.take (m.length * 2) = m.flatMap Pr.cells
  high : ∀ j (h : j < l.length), k ≤ j → cur[j * 2]? = some (.int .i64 (l[j]'h).key) ∧ cur[j * 2 + 1]? = some (.int .i64 (l[j]'h).val)
  len : m.length < k
  eq : m = (l.take k).filter (fun p => !inB p a b)
theorem DelI.skip {B0 g c k : Nat} {a b : Int} {l m : List Pr} {w wr wx : World} {cur : Array Value} (h : DelI B0 g c a b l w k m cur wr) (hb : Below wr.heap.size wr wx) (hB : B0 ≤ wr.heap.size) (hk : k < l.length) (hp : inB (l[k]'hk) a b = true) : DelI B0 g c a b l w (k + 1) m cur wx := by
  refine ⟨h.bel.trans (hb.mono hB), h.blk.below hb h.blk.lt, h.size, h.cap, h.low, fun j hj hkj => h.high j hj (by omega), by have := h.len; omega, ?_⟩
  rw [List.take_succ_eq_append_getElem hk, List.filter_append, ← h.eq]
  simp [hp]
theorem DelI.keep {B0 g c k : Nat} {a b : Int} {l m : List Pr} {w wr wx : World} {cur : Array Value} (h : DelI B0 g c a b l w k m cur wr) (hb : Below wr.heap.size wr wx) (hB : B0 ≤ wr.heap.size) (hg : B0 ≤ g) (hk : k < l.length) {p : Pr} (hpe : l[k]'hk = p) (hp : inB p a b = false) :
    ∃ cur', DelI B0 g c a b l w (k + 1) (m ++ [p]) cur' ((wx.setCell ⟨g, m.length * 2, none⟩ (.int .i64 p.key)).setCell ⟨g, m.length * 2 + 1, none⟩ (.int .i64 p.val)) := by
  have hbl := h.blk.below hb h.blk.lt
  have hlen := h.len
  have hsz := h.size
  have hcap := h.cap
  refine ⟨(cur.setIfInBounds (m.length * 2) (.int .i64 p.key)).setIfInBounds (m.length * 2 + 1) (.int .i64 p.val), ?_, (hbl.set_ _ _).set_ _ _, by simpa using hsz, hcap, ?_, ?_, ?_, ?_⟩
  · exact ((h.bel.trans (hb.mono hB)).setCell (p := ⟨g, m.length * 2, none⟩) hg _).setCell (p := ⟨g, m.length * 2 + 1, none⟩) hg _
  · rw [Array.toList_setIfInBounds, Array.toList_setIfInBounds, List.length_append, List.length_singleton, show (m.length + 1) * 2 = m.length * 2 + 2 from by omega, take_push _ _ _ _ (by have : cur.toList.length = cur.size := rfl; omega), h.low, List.flatMap_append]
    simp [Pr.cells]
  · intro j hj hkj
    have h1 := h.high j hj (by omega)
    constructor
    · rw [Array.getElem?_setIfInBounds_ne (by omega), Array.getElem?_setIfInBounds_ne (by omega)]; exact h1.1
    · rw [Array.getElem?_setIfInBounds_ne (by omega), Array.getElem?_setIfInBounds_ne (by omega)]; exact h1.2
  · simp; omega
  · rw [List.take_succ_eq_append_getElem hk, List.filter_append, ← h.eq, hpe]
    simp [hp]
theorem zv_pair (w : World) : (zeroValue 47).run Tryz.prog w = .ok (.agg #[.int .i64 0, .int .i64 0]) w := Tryz.zeroValue47 w
theorem zc_pair (n : Nat) : (Builtin.zeroCells (Value.agg #[.int .i64 0, .int .i64 0]).cells n).toList.length = n * 2 ∧ ∀ v ∈ (Builtin.zeroCells (Value.agg #[.int .i64 0, .int .i64 0]).cells n).toList, v.oneCell' = true := by
  constructor
  · simp [Builtin.zeroCells, Value.cells]
  · intro v hv
    simp [Builtin.zeroCells, Value.cells] at hv
    obtain ⟨i, hi⟩ := hv
    have h2 : i % 2 = 0 ∨ i % 2 = 1 := by omega
    rcases h2 with h2 | h2 <;> simp [h2] at hi <;> rw [← hi.2] <;> rfl
theorem first_take {l : List Pr} {a b : Int} {k : Nat} (h : k < l.length) (h1 : inB (l[k]'h) a b = true) (h2 : ∀ e ∈ l.take k, inB e a b = false) : l.take k = (l.take (k + 1)).filter (fun p => !inB p a b) := by
  rw [List.take_succ_eq_append_getElem h, List.filter_append, List.filter_eq_self.2 (fun e he => by rw [h2 e he]; rfl)]
  simp [h1]
/-- the cells of a block that holds pairs -/
theorem fr_cells {cur : Array Value} {l : List Pr} (h : cur.toList.take (l.length * 2) = l.flatMap Pr.cells) (j : Nat) (hj : j < l.length) : cur[j * 2]? = some (.int .i64 (l[j]'hj).key) ∧ cur[j * 2 + 1]? = some (.int .i64 (l[j]'hj).val) := by
  have h1 : ∀ i u, (l.flatMap Pr.cells)[i]? = some u → cur[i]? = some u := fun i u hu => by
    rw [← h, List.getElem?_take] at hu
    split at hu
    · simpa using hu
    · cases hu
  have h2 := fun q (hq : q < 2) => flat_get Pr.cells 2 Pr.cells_length l j q hj hq
  exact ⟨h1 _ _ (by have := h2 0 (by omega); simpa [Pr.cells] using this), h1 _ _ (by have := h2 1 (by omega); simpa [Pr.cells] using this)⟩
set_option maxHeartbeats 4000000 in
theorem deleteP_any (l : List Pr) (A : Option Addr) (c g4 g5 B0 : Nat) (a b : Int) (w : World) (hF : Fr w B0 47 A c l) (h4 : w.cell? ⟨g4, 0, none⟩ = some (.int .i64 a)) (h5 : w.cell? ⟨g5, 0, none⟩ = some (.int .i64 b)) (l4 : g4 < B0) (l5 : g5 < B0) (hB0 : B0 ≤ w.heap.size) (hl : l.length ≤ 1000000) :
    Calls Tryz.prog 64 #[.slice A l.length c, .func (.func 66) #[] #[.pointer (some ⟨g4, 0, none⟩), .pointer (some ⟨g5, 0, none⟩)]] w fun r w' => ∃ c', r = .returned (.slice A (withoutL l a b).length c') ∧ Sl w' A ((withoutL l a b).flatMap Pr.cells) ∧ Below B0 w w' := by
  have hix := indexP_any A l c g4 g5 a b w hF.sl hl h4 h5 (by omega) (by omega)
  have HIX := Lib.hid hix
  have HF := Lib.hid hF
  have H4 := Lib.hid h4
  have H5 := Lib.hid h5
  have HW := Lib.hid (without_is l a b)
  clear hix hF h4 h5
  go_enter Tryz.func64, Tryz.ntmps64
  go_wp2_with fail
  refine HIX.out.mono ?_
  rintro e w1 ⟨v, rfl, hfi, hb1⟩
  have HFI := Lib.hid hfi
  have HB1 := Lib.hid (hb1.mono hB0)
  have HF1 := Lib.hid (HF.out.below hb1)
  have HS1 := Lib.hid (show B0 ≤ w1.heap.size from Nat.le_trans hB0 hb1.size)
  have H41 := Lib.hid (((bcell hb1).1 _ _ (by omega : g4 < w.heap.size)).trans H4.out)
  have H51 := Lib.hid (((bcell hb1).1 _ _ (by omega : g5 < w.heap.size)).trans H5.out)
  clear hfi hb1
  rcases HFI.out with ⟨hv, hn⟩ | ⟨k0, hk0, hv, hin, hno⟩
  · have HWL : Hid (withoutL l a b = l) := by
      show _ = _
      rw [HW.out]
      exact List.filter_eq_self.2 fun e he => by rw [hn e he]; rfl
    subst hv
    clear hn
    go_wp2_with fail
    go_ret
    rw [HWL.out]
    exact ⟨c, rfl, HF1.out.sl, HB1.out⟩
  · subst hv
    obtain ⟨g, cur, rfl, hg, hblk, hcur, hsz⟩ : ∃ g cur, A = some ⟨g, 0, none⟩ ∧ B0 ≤ g ∧ Blk w1 g 47 cur ∧ cur.toList.take (l.length * 2) = l.flatMap Pr.cells ∧ c * 2 ≤ cur.size := by
      rcases HF1.out.2.2 with ⟨_, h2, _⟩ | h2
      · rw [h2] at hk0; simp at hk0
      · exact h2
    have hcap := HF1.out.1
    have HD0 : Hid (DelI B0 g c a b l w (k0 + 1) (l.take k0) cur w1) := by
      refine ⟨HB1.out, hblk, hsz, hcap, ?_, fun j hj _ => fr_cells hcur j hj, by simp; omega, first_take hk0 hin hno⟩
      have h7 : (l.take k0).length = k0 := by simp; omega
      rw [h7, ← flat_take, ← hcur, List.take_take, Nat.min_eq_left (by omega)]
    have hlk : (l.take k0).length = k0 := by simp; omega
    have hne : ¬ (k0 : Int) = -1 := by omega
    have hne2 : ((k0 : Int) == -1) = false := by simp
    have HG := Lib.hid hg
    have HCP := Lib.hid hcap
    have HLK := Lib.hid hlk
    have HK0 := Lib.hid hk0
    clear hin hno hblk hcur hsz hcap hlk hne hg
    go_wp2_with fail
    go_loopw [5, 6] (fun x y wr => ∃ (k : Nat) (m : List Pr) (cur : Array Value), k ≤ l.length ∧ y = .int .i64 k ∧ x = .int .i64 (m.length : Nat) ∧ Hid (DelI B0 g c a b l w k m cur wr)) (fun _ y _ => l.length - (intOf y).toNat)
    case atStart => exact ⟨k0 + 1, l.take k0, cur, by have := HK0.out; omega, by go_num, by rw [HLK.out], HD0⟩
    case round =>
    obtain ⟨k, m, cu, hk, rfl, rfl, hI⟩ := hrel
    have lg := hI.out.blk.lt
    have hml := hI.out.len
    have hcp := hI.out.cap
    have hsz := hI.out.size
    have HSW := Lib.hid (show B0 ≤ wr.heap.size from Nat.le_trans hB0 hI.out.bel.size)
    by_cases hlt : k < l.length
    case neg =>
      have hkl : k = l.length := by omega
      have HWM : Hid (withoutL l a b = m) := by
        show _ = _
        rw [HW.out, hI.out.eq, List.take_of_length_le (by omega)]
      have hzc := zc_pair (l.length - m.length)
      have hcl : ∀ ty, (Builtin.clear_ #[37] ty #[.slice (some ⟨g, m.length * 2, none⟩) (l.length - m.length) (c - m.length)]).run Tryz.prog wr = .ok (.tuple #[]) (wr.setCells g (m.length * 2) (Builtin.zeroCells (Value.agg #[.int .i64 0, .int .i64 0]).cells (l.length - m.length)).toList) := fun ty =>
        run_clear_any wr _ 47 ty _ Tryz.underlying37 zv_pair g (m.length * 2) _ _ (by omega)
          (fun j hj => by
            rw [hzc.1] at hj
            rw [hI.out.blk.cell, Array.getElem?_eq_getElem (by omega)]; rfl)
          (fun j hj => hI.out.blk.frozen _) hzc.2
      obtain ⟨Z, hZ⟩ : ∃ Z, (Builtin.zeroCells (Value.agg #[.int .i64 0, .int .i64 0]).cells (l.length - m.length)).toList = Z := ⟨_, rfl⟩
      rw [hZ] at hcl
      have HBZ := Lib.hid (below_setCells HG.out Z (m.length * 2) wr hI.out.bel)
      have HSL : Hid (Sl (wr.setCells g (m.length * 2) Z) (some ⟨g, 0, none⟩) (m.flatMap Pr.cells)) := by
        refine .inr ⟨g, 0, rfl, ?_, fun j u hu => ?_⟩
        · have h9 := (below_setCells (B := wr.heap.size) (b := wr.heap.size) (Nat.le_refl _) [] 0 wr (Below.refl _ _)).size
          have h8 : ∀ (vs : List Value) (o : Nat) (W : World), (W.setCells g o vs).heap.size = W.heap.size := fun vs => by
            induction vs with
            | nil => intro o W; rfl
            | cons v r ih => intro o W; rw [World.setCells, ih]; simp [World.setCell]
          rw [h8]; exact lg
        · have hjm : j < m.length * 2 := by
            have := (List.getElem?_eq_some_iff.1 hu).1
            rwa [prs_length] at this
          rw [World.cell?_setCells_out g Z (m.length * 2) wr _ (fun _ _ => .inl (by simpa using hjm)), Nat.zero_add, hI.out.blk.cell]
          rw [← hI.out.low, List.getElem?_take, if_pos hjm] at hu
          simpa using hu
      have hci : ¬ c = m.length := by omega
      have hci2 : ¬ m.length = c := by omega
      have i1 : ¬ (k : Int) < (l.length : Int) := by omega
      have i2 : (0 : Int) ≤ (m.length : Int) := by omega
      have i3 : (m.length : Int) ≤ (l.length : Int) := by omega
      have i4 : (m.length : Int) ≤ (c : Int) := by omega
      have i5 : (l.length : Int) ≤ (c : Int) := by omega
      clear hzc hZ hkl hml hcp hsz hI hB0 hl l4 l5
      go_wp2_with fail
      go_ret
      rw [HWM.out]
      exact ⟨⟨c, rfl⟩, HSL.out, HBZ.out⟩
    case pos =>
    have hh := hI.out.high k hlt (Nat.le_refl _)
    obtain ⟨p, hp⟩ : ∃ p, l[k]'hlt = p := ⟨_, rfl⟩
    rw [hp] at hh
    have c1 : wr.cell? ⟨g, k * 2, none⟩ = some (.int .i64 p.key) := (hI.out.blk.cell _).trans hh.1
    have c2 : wr.cell? ⟨g, k * 2 + 1, none⟩ = some (.int .i64 p.val) := (hI.out.blk.cell _).trans hh.2
    have HP := Lib.hid hp
    have i1 : (k : Int) < (l.length : Int) := by omega
    have i2 : (0 : Int) ≤ (k : Int) := by omega
    have HML := Lib.hid hml
    have HCQ := Lib.hid hcp
    have HSZ := Lib.hid hsz
    clear hh hp hml hcp hsz
    go_upto_region 8 with fail
    obtain ⟨U, hU⟩ : ∃ U, wr.alloc (.cells #[.int .i64 p.key, .int .i64 p.val] 47) = U := ⟨_, rfl⟩
    have hbU : Below wr.heap.size wr U := by rw [← hU]; exact (Below.refl _ _).alloc (Nat.le_refl _) _
    have bU : Blk U wr.heap.size 47 #[.int .i64 p.key, .int .i64 p.val] := by rw [← hU]; exact Blk.new _ _ _
    rw [hU]
    have hcall := range1_any p g4 g5 a b U (((bcell hbU).1 _ _ (Nat.lt_of_lt_of_le l4 HSW.out)).trans (((bcell hI.out.bel).1 _ _ l4).trans H4.out)) (((bcell hbU).1 _ _ (Nat.lt_of_lt_of_le l5 HSW.out)).trans (((bcell hI.out.bel).1 _ _ l5).trans H5.out)) (Nat.lt_of_lt_of_le l4 (Nat.le_trans HSW.out hbU.size)) (Nat.lt_of_lt_of_le l5 (Nat.le_trans HSW.out hbU.size))
    obtain ⟨V, hV⟩ : ∃ V, inB p a b = V := ⟨_, rfl⟩
    rw [hV] at hcall
    have HC := Lib.hid hcall
    have HV := Lib.hid hV
    have HBU := Lib.hid hbU
    have u0 : U.cell? ⟨wr.heap.size, 0, none⟩ = some (.int .i64 p.key) := bU.cell 0
    have u1 : U.cell? ⟨wr.heap.size, 1, none⟩ = some (.int .i64 p.val) := bU.cell 1
    have lU := bU.lt
    have HUB := Lib.hid bU
    clear hU hbU bU hcall hV c1 c2
    go_wp2_with fail
    refine HC.out.mono ?_
    rintro e wx ⟨rfl, hbx⟩
    have HBX := Lib.hid (bext HBU.out hbx)
    have bX := HUB.out.below hbx HUB.out.lt
    clear u0 u1 lU hbx
    cases V with
    | true =>
      have HD := Lib.hid (hI.out.skip HBX.out HSW.out hlt (by rw [HP.out]; exact HV.out))
      go_wp2_with fail
      go_roundw
      case rel => exact ⟨k + 1, m, cu, by omega, by go_num, rfl, HD.out⟩
      case measure => simp [intOf]; omega
    | false =>
      obtain ⟨cu2, hD2⟩ := hI.out.keep HBX.out HSW.out HG.out hlt HP.out HV.out
      have HD := Lib.hid hD2
      have bg := hI.out.blk.below HBX.out hI.out.blk.lt
      have hx1 : m.length * 2 < cu.size := by have := HML.out; have := HCQ.out; have := HSZ.out; omega
      have hx2 : m.length * 2 + 1 < cu.size := by have := HML.out; have := HCQ.out; have := HSZ.out; omega
      have d0 : wx.cell? ⟨g, m.length * 2, none⟩ = some (cu[m.length * 2]'hx1) := (bg.cell _).trans (Array.getElem?_eq_getElem hx1)
      have d1 : wx.cell? ⟨g, m.length * 2 + 1, none⟩ = some (cu[m.length * 2 + 1]'hx2) := (bg.cell _).trans (Array.getElem?_eq_getElem hx2)
      obtain ⟨y0, hy0⟩ : ∃ y, cu[m.length * 2]'hx1 = y := ⟨_, rfl⟩
      obtain ⟨y1, hy1⟩ : ∃ y, cu[m.length * 2 + 1]'hx2 = y := ⟨_, rfl⟩
      rw [hy0] at d0
      rw [hy1] at d1
      have f0 := bg.frozen (m.length * 2)
      have f1 := bg.frozen (m.length * 2 + 1)
      have e0 : wx.cell? ⟨wr.heap.size, 0, none⟩ = some (.int .i64 p.key) := bX.cell 0
      have e1 : wx.cell? ⟨wr.heap.size, 1, none⟩ = some (.int .i64 p.val) := bX.cell 1
      have lx := bX.lt
      have lg2 := bg.lt
      have j1 : (m.length : Int) < (l.length : Int) := by have := HML.out; omega
      have j0 : (0 : Int) ≤ (m.length : Int) := by omega
      clear hD2 bg bX hx1 hx2 hy0 hy1
      go_wp2_with fail
      go_roundw
      case rel => exact ⟨k + 1, m ++ [p], cu2, by omega, by go_num, by rw [List.length_append]; go_num, HD.out⟩
      case measure => simp [intOf]; omega
end Go.Proofs.YthbppblmecdekaaGreatDoor

/- Plain: whether a key is among pairs. No program in sight. -/
namespace Go.Proofs.YthbppblmecdekaaGreatDoor
open Go
theorem len_sub : ∀ {a b : List Int}, a.Nodup → (∀ x ∈ a, x ∈ b) → a.length ≤ b.length
  | [], _, _, _ => Nat.zero_le _
  | x :: a, b, hn, h => by
    have hx := h x List.mem_cons_self
    have h2 := List.nodup_cons.1 hn
    have h3 := len_sub (a := a) (b := b.erase x) h2.2 fun y hy => (List.mem_erase_of_ne (fun e => h2.1 (by rw [← e]; exact hy))).2 (h y (List.mem_cons_of_mem _ hy))
    rw [List.length_erase_of_mem hx] at h3
    have h4 := List.length_pos_of_mem hx
    simp only [List.length_cons]
    omega
theorem key_in {L : Lv} (hM : May L) (k : Int) : k ∈ (allL L).map Ent.key ↔ isB L k = true := by
  have hl := allL_look hM.mE k
  rw [lv_is (chkR_zero.2 hM)] at hl
  constructor
  · intro hm
    obtain ⟨e, he, hk⟩ := List.mem_map.1 hm
    have h5 := look_mem (allL_ris hM) he
    rw [hk, hl] at h5
    by_cases hb : isB L k = true
    · exact hb
    · rw [if_neg hb] at h5; cases h5
  · intro hb
    rw [if_pos hb] at hl
    obtain ⟨h5, h6⟩ := look_key hl
    exact List.mem_map.2 ⟨_, h6, h5⟩
end Go.Proofs.YthbppblmecdekaaGreatDoor

/- Plain facts: neighbours in levels. No program in sight. -/
namespace Go.Proofs.YthbppblmecdekaaGreatDoor
open Go
/-- an order of keys, upward or downward -/
structure Ord (lt : Int → Int → Bool) : Prop where
  tr : ∀ a b c, lt a b = true → lt b c = true → lt a c = true
  tr2 : ∀ a b c, lt a b = true → lt c b = false → lt a c = true
  irr : ∀ a, lt a a = false
def ltN (a b : Int) : Bool := decide (a < b)
def ltL (a b : Int) : Bool := decide (b < a)
theorem ord_N : Ord ltN := ⟨fun a b c h1 h2 => by unfold ltN at *; rw [decide_eq_true_iff] at *; omega, fun a b c h1 h2 => by unfold ltN at *; rw [decide_eq_true_iff] at *; rw [decide_eq_false_iff_not] at h2; omega, fun a => by unfold ltN; rw [decide_eq_false_iff_not]; omega⟩
theorem ord_L : Ord ltL := ⟨fun a b c h1 h2 => by unfold ltL at *; rw [decide_eq_true_iff] at *; omega, fun a b c h1 h2 => by unfold ltL at *; rw [decide_eq_true_iff] at *; rw [decide_eq_false_iff_not] at h2; omega, fun a => by unfold ltL; rw [decide_eq_false_iff_not]; omega⟩
/-- what a run has next, on a side -/
structure AskOk (ok : Int → Bool) (lt : Int → Int → Bool) (l : List Ent) (E : Int) (X : Ent) : Prop where
  vals : E = 0 ∨ E = 6
  mem : E = 0 → X ∈ l ∧ ok X.key = true
  best : E = 0 → ∀ e ∈ l, ok e.key = true → lt e.key X.key = false
  none : E = 6 → ∀ e ∈ l, ok e.key = false
def stepB (lt : Int → Int → Bool) (o : Option Ent) (E : Int) (X : Ent) : Option Ent := if E = 0 ∧ (o = none ∨ lt X.key (o.getD zeroE).key = true) then some X else o
structure BestOk (ok : Int → Bool) (lt : Int → Int → Bool) (rs : Lv) (o : Option Ent) : Prop where
  none : o = none → ∀ l ∈ rs, ∀ e ∈ l, ok e.key = false
  mem : ∀ x, o = some x → ok x.key = true ∧ ∃ l ∈ rs, x ∈ l
  best : ∀ x, o = some x → ∀ l ∈ rs, ∀ e ∈ l, ok e.key = true → lt e.key x.key = false
theorem best_nil (ok : Int → Bool) (lt : Int → Int → Bool) : BestOk ok lt [] none := ⟨fun _ l hl => absurd hl (by simp), fun x hx => (by cases hx), fun x hx => (by cases hx)⟩
theorem best_step {ok : Int → Bool} {lt : Int → Int → Bool} (ho : Ord lt) {rs : Lv} {o : Option Ent} {l : List Ent} {E : Int} {X : Ent} (h : BestOk ok lt rs o) (ha : AskOk ok lt l E X) : BestOk ok lt (rs ++ [l]) (stepB lt o E X) := by
  unfold stepB
  rcases ha.vals with h0 | h6
  · obtain ⟨m1, m2⟩ := ha.mem h0
    have hb := ha.best h0
    cases o with
    | none =>
      rw [if_pos ⟨h0, .inl rfl⟩]
      refine ⟨fun h => (by cases h), fun x hx => ?_, fun x hx q hq e he hok => ?_⟩
      · cases hx; exact ⟨m2, l, by simp, m1⟩
      · cases hx
        rcases List.mem_append.1 hq with hq | hq
        · rw [h.none rfl q hq e he] at hok; cases hok
        · obtain rfl : q = l := by simpa using hq
          exact hb e he hok
    | some b =>
      by_cases hlt : lt X.key b.key = true
      · rw [if_pos ⟨h0, .inr hlt⟩]
        refine ⟨fun h => (by cases h), fun x hx => ?_, fun x hx q hq e he hok => ?_⟩
        · cases hx; exact ⟨m2, l, by simp, m1⟩
        · cases hx
          rcases List.mem_append.1 hq with hq | hq
          · cases hc : lt e.key X.key with
            | false => rfl
            | true =>
              have h1 := h.best b rfl q hq e he hok
              rw [ho.tr _ _ _ hc hlt] at h1; cases h1
          · obtain rfl : q = l := by simpa using hq
            exact hb e he hok
      · have hlf : lt X.key b.key = false := by simpa using hlt
        rw [if_neg (fun h => by rcases h.2 with h | h; · cases h
                                · exact hlt h)]
        refine ⟨fun h => (by cases h), fun x hx => ?_, fun x hx q hq e he hok => ?_⟩
        · cases hx
          obtain ⟨k1, q, k2, k3⟩ := h.mem b rfl
          exact ⟨k1, q, by simp [k2], k3⟩
        · cases hx
          rcases List.mem_append.1 hq with hq | hq
          · exact h.best b rfl q hq e he hok
          · obtain rfl : q = l := by simpa using hq
            cases hc : lt e.key b.key with
            | false => rfl
            | true =>
              have h1 := hb e he hok
              rw [ho.tr2 _ _ _ hc hlf] at h1; cases h1
  · rw [if_neg (fun h => by rw [h6] at h; exact absurd h.1 (by decide))]
    refine ⟨fun hn q hq e he => ?_, fun x hx => ?_, fun x hx q hq e he hok => ?_⟩
    · rcases List.mem_append.1 hq with hq | hq
      · exact h.none hn q hq e he
      · obtain rfl : q = l := by simpa using hq
        exact ha.none h6 e he
    · obtain ⟨k1, q, k2, k3⟩ := h.mem x hx
      exact ⟨k1, q, by simp [k2], k3⟩
    · rcases List.mem_append.1 hq with hq | hq
      · exact h.best x hx q hq e he hok
      · obtain rfl : q = l := by simpa using hq
        rw [ha.none h6 e he] at hok; cases hok
theorem ask_next {l : List Ent} (h : chkE l = 0) (key : Int) : AskOk (fun k => decide (key ≤ k)) ltN l (nxE l key) (nxX l key) := by
  have hr := chk_ris h
  have hp := inL_perm l
  by_cases hB : belK (inL l) key < (inL l).length
  · obtain ⟨h1, h2⟩ := nx_yes h hB
    rw [h1, h2]
    refine ⟨.inl rfl, fun _ => ⟨hp.mem_iff.1 (List.getElem_mem hB), decide_eq_true (ris_at hr hB)⟩, fun _ e he hok => ?_, fun h => (by cases h)⟩
    obtain ⟨j, hj, he2⟩ := List.getElem_of_mem (hp.mem_iff.2 he)
    have h3 := ris_count key hr j hj
    have h4 := of_decide_eq_true hok
    rw [he2] at h3
    have h5 : belK (inL l) key ≤ j := by
      by_cases hx : j < belK (inL l) key
      · have := h3.2 hx; omega
      · omega
    have h6 := ris_le hr h5 hj
    rw [he2] at h6
    unfold ltN
    exact decide_eq_false (by omega)
  · rw [(nx_no h hB).1]
    refine ⟨.inr rfl, fun h => (by cases h), fun h => (by cases h), fun _ e he => ?_⟩
    obtain ⟨j, hj, he2⟩ := List.getElem_of_mem (hp.mem_iff.2 he)
    have h3 := (ris_count key hr j hj).2 (by omega)
    rw [he2] at h3
    exact decide_eq_false (by omega)
theorem ask_last {l : List Ent} (h : chkE l = 0) (key : Int) : AskOk (fun k => decide (k < key)) ltL l (lsE l key) (lsX l key) := by
  have hr := chk_ris h
  have hp := inL_perm l
  have hBl := belK_le (inL l) key
  by_cases hB : 0 < belK (inL l) key
  · obtain ⟨h1, h2⟩ := ls_yes h hB
    have hlt : belK (inL l) key - 1 < (inL l).length := by omega
    rw [h1, h2]
    refine ⟨.inl rfl, fun _ => ⟨hp.mem_iff.1 (List.getElem_mem hlt), decide_eq_true ((ris_count key hr _ hlt).2 (by omega))⟩, fun _ e he hok => ?_, fun h => (by cases h)⟩
    obtain ⟨j, hj, he2⟩ := List.getElem_of_mem (hp.mem_iff.2 he)
    have h3 := ris_count key hr j hj
    rw [he2] at h3
    have h4 := h3.1 (of_decide_eq_true hok)
    have h6 := ris_le hr (show j ≤ belK (inL l) key - 1 by omega) hlt
    rw [he2] at h6
    unfold ltL
    exact decide_eq_false (by omega)
  · rw [ls_no h hB]
    refine ⟨.inr rfl, fun h => (by cases h), fun h => (by cases h), fun _ e he => ?_⟩
    obtain ⟨j, hj, he2⟩ := List.getElem_of_mem (hp.mem_iff.2 he)
    have h3 := ris_count key hr j hj
    rw [he2] at h3
    refine decide_eq_false fun h4 => ?_
    have := h3.1 h4
    omega
theorem near_find {ok : Int → Bool} {lt : Int → Int → Bool} : ∀ {l : List Ent} {z : Ent}, l.Pairwise (fun a b => lt a.key b.key = true) → z ∈ l → ok z.key = true → (∀ e ∈ l, ok e.key = true → lt e.key z.key = false) → l.find? (fun e => ok e.key) = some z
  | [], z, _, hz, _, _ => by simp at hz
  | a :: t, z, hp, hz, hok, h => by
    rcases List.mem_cons.1 hz with rfl | hz
    · rw [List.find?_cons, hok]
    · have h1 := (List.pairwise_cons.1 hp).1 z hz
      have h2 : ok a.key = false := by
        cases hc : ok a.key with
        | false => rfl
        | true =>
          have h3 := h a (by simp) hc
          rw [h1] at h3; cases h3
      rw [List.find?_cons, h2]
      exact near_find (List.pairwise_cons.1 hp).2 hz hok (fun e he => h e (by simp [he]))
theorem find_congr {p q : Ent → Bool} : ∀ {l : List Ent}, (∀ e ∈ l, p e = q e) → l.find? p = l.find? q
  | [], _ => rfl
  | a :: t, h => by
    rw [List.find?_cons, List.find?_cons, h a (by simp), find_congr (fun e he => h e (by simp [he]))]
theorem newest_lv : ∀ {rs : Lv} {k : Int} {e : Ent}, newest rs k = some e → e.key = k ∧ ∃ l ∈ rs, e ∈ l
  | [], k, e, h => by cases h
  | r :: rs, k, e, h => by
    unfold newest at h
    rw [List.findSome?_cons] at h
    cases hl : look r k with
    | some y =>
      rw [hl] at h
      cases h
      exact ⟨(look_key hl).1, r, by simp, (look_key hl).2⟩
    | none =>
      rw [hl] at h
      obtain ⟨h1, l, h2, h3⟩ := newest_lv (rs := rs) h
      exact ⟨h1, l, by simp [h2], h3⟩
theorem newest_of {rs : Lv} {e : Ent} {l : List Ent} (hl : l ∈ rs) (he : e ∈ l) : ∃ z, newest rs e.key = some z ∧ z.key = e.key := by
  cases h : newest rs e.key with
  | some z => exact ⟨z, rfl, (newest_lv h).1⟩
  | none =>
    unfold newest at h
    rw [List.findSome?_eq_none_iff] at h
    exact absurd rfl (look_isNone (h l hl) e he)
/-- the nearest live entry -/
def nxO (L : Lv) (key : Int) : Option Ent := (allL L).find? (fun e => decide (key ≤ e.key))
def lsO (L : Lv) (key : Int) : Option Ent := (allL L).reverse.find? (fun e => decide (e.key < key))
theorem all_in {L : Lv} (h : May L) {e : Ent} (he : e ∈ allL L) : ∃ l ∈ L, e ∈ l := by
  have h1 := look_mem (allL_ris h) he
  rw [allL_look h.mE] at h1
  exact (newest_lv (lv_some h1).1).2
theorem all_live_in {L : Lv} (h : May L) {z : Ent} {k : Int} (hz : newest L k = some z) (hd : z.dead = false) : z ∈ allL L ∧ z.key = k := by
  have h1 := allL_look h.mE k
  rw [hz] at h1
  have h2 : lvO (some z) = some z := by unfold lvO; simp [hd]
  rw [h2] at h1
  exact ⟨(look_key h1).2, (look_key h1).1⟩
theorem all_dead_no {L : Lv} (h : May L) {z : Ent} {k : Int} (hz : newest L k = some z) (hd : z.dead = true) {e : Ent} (he : e ∈ allL L) : e.key ≠ k := by
  intro hk
  have h1 := look_mem (allL_ris h) he
  rw [hk, allL_look h.mE, hz] at h1
  have h2 : lvO (some z) = none := by unfold lvO; simp [hd]
  rw [h2] at h1
  cases h1
theorem nx_none {L : Lv} (h : May L) {key : Int} (hb : BestOk (fun k => decide (key ≤ k)) ltN L none) : nxO L key = none := by
  unfold nxO
  rw [List.find?_eq_none]
  intro e he
  obtain ⟨l, hl, he2⟩ := all_in h he
  have := hb.none rfl l hl e he2
  simpa using this
theorem nx_some {L : Lv} (h : May L) {key : Int} {x z : Ent} (hb : BestOk (fun k => decide (key ≤ k)) ltN L (some x)) (hz : newest L x.key = some z) (hd : z.dead = false) : nxO L key = some z := by
  obtain ⟨h1, h2⟩ := all_live_in h hz hd
  refine near_find (lt := ltN) (ok := fun k => decide (key ≤ k)) ?_ h1 ?_ ?_
  · exact (allL_ris h).imp (fun {a b} hab => decide_eq_true hab)
  · rw [h2]; exact (hb.mem x rfl).1
  · intro e he hok
    obtain ⟨l, hl, he2⟩ := all_in h he
    rw [h2]
    exact hb.best x rfl l hl e he2 hok
theorem nx_skip {L : Lv} (h : May L) {key : Int} {x z : Ent} (hb : BestOk (fun k => decide (key ≤ k)) ltN L (some x)) (hz : newest L x.key = some z) (hd : z.dead = true) : nxO L key = nxO L (x.key + 1) := by
  unfold nxO
  refine find_congr fun e he => ?_
  have h1 := all_dead_no h hz hd he
  obtain ⟨l, hl, he2⟩ := all_in h he
  have h3 := of_decide_eq_true (hb.mem x rfl).1
  by_cases hk : key ≤ e.key
  · have h2 := hb.best x rfl l hl e he2 (decide_eq_true hk)
    unfold ltN at h2
    have h4 := of_decide_eq_false h2
    rw [decide_eq_true hk, decide_eq_true (by omega)]
  · rw [decide_eq_false hk, decide_eq_false (by omega)]
theorem ls_none {L : Lv} (h : May L) {key : Int} (hb : BestOk (fun k => decide (k < key)) ltL L none) : lsO L key = none := by
  unfold lsO
  rw [List.find?_eq_none]
  intro e he
  obtain ⟨l, hl, he2⟩ := all_in h (List.mem_reverse.1 he)
  have := hb.none rfl l hl e he2
  simpa using this
theorem ls_some {L : Lv} (h : May L) {key : Int} {x z : Ent} (hb : BestOk (fun k => decide (k < key)) ltL L (some x)) (hz : newest L x.key = some z) (hd : z.dead = false) : lsO L key = some z := by
  obtain ⟨h1, h2⟩ := all_live_in h hz hd
  refine near_find (lt := ltL) (ok := fun k => decide (k < key)) ?_ (List.mem_reverse.2 h1) ?_ ?_
  · rw [List.pairwise_reverse]
    exact (allL_ris h).imp (fun {a b} hab => decide_eq_true hab)
  · rw [h2]; exact (hb.mem x rfl).1
  · intro e he hok
    obtain ⟨l, hl, he2⟩ := all_in h (List.mem_reverse.1 he)
    rw [h2]
    exact hb.best x rfl l hl e he2 hok
theorem ls_skip {L : Lv} (h : May L) {key : Int} {x z : Ent} (hb : BestOk (fun k => decide (k < key)) ltL L (some x)) (hz : newest L x.key = some z) (hd : z.dead = true) : lsO L key = lsO L x.key := by
  unfold lsO
  refine find_congr fun e he => ?_
  have he' := List.mem_reverse.1 he
  have h1 := all_dead_no h hz hd he'
  obtain ⟨l, hl, he2⟩ := all_in h he'
  have h3 := of_decide_eq_true (hb.mem x rfl).1
  by_cases hk : e.key < key
  · have h2 := hb.best x rfl l hl e he2 (decide_eq_true hk)
    unfold ltL at h2
    have h4 := of_decide_eq_false h2
    rw [decide_eq_true hk, decide_eq_true (by omega)]
  · rw [decide_eq_false hk, decide_eq_false (by omega)]
/-- how many entries lie on the side: it falls from round to round -/
def sideN (L : Lv) (ok : Int → Bool) : Nat := L.flatten.countP (fun e => ok e.key)
theorem side_lt {L : Lv} {p q : Int → Bool} (hpq : ∀ k, p k = true → q k = true) {l : List Ent} {x : Ent} (hl : l ∈ L) (hx : x ∈ l) (h1 : q x.key = true) (h2 : p x.key = false) : sideN L p < sideN L q := by
  have hm : x ∈ L.flatten := List.mem_flatten.2 ⟨l, hl, hx⟩
  unfold sideN
  revert hm
  generalize L.flatten = F
  intro hm
  induction F with
  | nil => exact absurd hm (by simp)
  | cons a t ih =>
    have hle : t.countP (fun e => p e.key) ≤ t.countP (fun e => q e.key) := List.countP_mono_left (fun e _ he => hpq e.key he)
    rw [List.countP_cons, List.countP_cons]
    rcases List.mem_cons.1 hm with rfl | hm
    · rw [h1, h2]
      simp
      omega
    · have := ih hm
      by_cases hp : p a.key = true
      · rw [if_pos hp, if_pos (hpq _ hp)]; omega
      · rw [if_neg hp]; split <;> omega
end Go.Proofs.YthbppblmecdekaaGreatDoor

/- Plain facts for the law LadderNear. No program in sight. -/
namespace Go.Proofs.YthbppblmecdekaaGreatDoor
open Go
def toP (e : Ent) : Pr := ⟨e.key, e.val⟩
theorem prR_map {L : Lv} (h : chkR L = 0) : prR L = (allL L).map toP := by
  unfold prR plainE
  rw [if_pos h]
  have : liveE (allL L) = allL L := by unfold allL; exact live_live _
  rw [this]
  rfl
theorem nx_at {L : Lv} (hM : May L) {key : Int} {n : Nat} (hn : n ≤ (allL L).length) (h1 : ∀ j (h : j < (allL L).length), j < n → ((allL L)[j]'h).key < key) (h2 : ∀ h : n < (allL L).length, ¬ ((allL L)[n]'h).key < key) :
    nxO L key = (allL L)[n]? ∧ lsO L key = if n = 0 then none else (allL L)[n - 1]? := by
  have hr := allL_ris hM
  unfold nxO lsO
  generalize allL L = Q at *
  have hlt : ∀ e ∈ Q.take n, e.key < key := fun e he => by
    obtain ⟨i, hi, rfl⟩ := List.getElem_of_mem he
    rw [List.length_take] at hi
    rw [List.getElem_take]
    exact h1 i (by omega) (by omega)
  have hge : ∀ e ∈ Q.drop n, ¬ e.key < key := fun e he => by
    obtain ⟨i, hi, rfl⟩ := List.getElem_of_mem he
    rw [List.length_drop] at hi
    rw [List.getElem_drop]
    have h0 := h2 (by omega)
    by_cases h9 : i = 0
    · subst h9; exact h0
    · have := List.pairwise_iff_getElem.1 hr n (n + i) (by omega) (by omega) (by omega)
      omega
  have hQ : Q = Q.take n ++ Q.drop n := (List.take_append_drop n Q).symm
  have hR : Q.reverse = (Q.drop n).reverse ++ (Q.take n).reverse := by rw [← List.reverse_append, List.take_append_drop]
  constructor
  · rw [show Q.find? (fun e => decide (key ≤ e.key)) = (Q.take n ++ Q.drop n).find? (fun e => decide (key ≤ e.key)) from by rw [← hQ], List.find?_append]
    rw [List.find?_eq_none.2 (fun e he => by have := hlt e he; simp; omega), Option.none_or]
    by_cases hl : n < Q.length
    · rw [List.drop_eq_getElem_cons hl, List.find?_cons_of_pos (by have := h2 hl; simp; omega), List.getElem?_eq_getElem hl]
    · rw [List.drop_eq_nil_of_le (by omega), List.getElem?_eq_none (by omega)]
      rfl
  · rw [hR, List.find?_append]
    rw [List.find?_eq_none.2 (fun e he => by have := hge e (List.mem_reverse.1 he); simp; omega), Option.none_or]
    by_cases hz : n = 0
    · subst hz; simp
    · rw [if_neg hz]
      have hl : n - 1 < Q.length := by omega
      have ht : Q.take n = Q.take (n - 1) ++ [Q[n - 1]'hl] := by
        have h7 := List.take_append_getElem hl
        rw [show n - 1 + 1 = n from by omega] at h7
        exact h7.symm
      rw [ht, List.reverse_append, List.reverse_singleton, List.singleton_append, List.find?_cons_of_pos (by have := h1 (n - 1) hl (by omega); simpa using this), List.getElem?_eq_getElem hl]
structure NearOk (P : List Pr) (n : Nat) (o l : Option Ent) : Prop where
  nx : ∀ h : n < P.length, isE o = 0 ∧ toP (o.getD zeroE) = P[n]'h
  nn : ¬ n < P.length → isE o = 6
  ls : ∀ (h : n - 1 < P.length), 0 < n → isE l = 0 ∧ toP (l.getD zeroE) = P[n - 1]'h
  ln : ¬ 0 < n → isE l = 6
theorem near_ok {c : Cfg} {L : Lv} (he : errL c L = 0) {key : Int} {n : Nat} (hn : n ≤ (prD c L).length) (h1 : ∀ j (h : j < (prD c L).length), j < n → ((prD c L)[j]'h).key < key) (h2 : ∀ h : n < (prD c L).length, ¬ ((prD c L)[n]'h).key < key) :
    NearOk (prD c L) n (nxO L key) (lsO L key) := by
  have hR := (errL_zero he).2.1
  have hP : prD c L = (allL L).map toP := by unfold prD; rw [if_pos he, prR_map hR]
  generalize prD c L = P at *
  subst hP
  rw [List.length_map] at hn
  obtain ⟨g1, g2⟩ := nx_at (chkR_zero.1 hR) (key := key) hn (fun j h hj => by have := h1 j (by simpa using h) hj; simpa [toP] using this) (fun h => by have := h2 (by simpa using h); simpa [toP] using this)
  rw [g1, g2]
  refine ⟨fun h => ?_, fun h => ?_, fun h h0 => ?_, fun h => ?_⟩
  · rw [List.length_map] at h
    rw [List.getElem?_eq_getElem h]
    exact ⟨rfl, by simp⟩
  · rw [List.length_map] at h
    rw [List.getElem?_eq_none (by omega)]
    rfl
  · rw [List.length_map] at h
    rw [if_neg (by omega), List.getElem?_eq_getElem h]
    exact ⟨rfl, by simp⟩
  · rw [if_pos (by omega)]
    rfl
end Go.Proofs.YthbppblmecdekaaGreatDoor

/- Contract: shelfmarkref27.Value. -/
namespace Go.Proofs.YthbppblmecdekaaGreatDoor
open Go Go.RowKit
set_option maxRecDepth 100000
theorem prD_ris (c : Cfg) (L : Lv) : Ris (prD c L) := by
  unfold prD
  by_cases he : errL c L = 0
  · have hR := (errL_zero he).2.1
    rw [if_pos he, prR_map hR, ris_iff, List.pairwise_map]
    exact allL_ris (chkR_zero.1 hR)
  · rw [if_neg he]; exact Ris.nil
theorem prD_len (c : Cfg) (L : Lv) : (prD c L).length ≤ tot L := by
  unfold prD
  by_cases he : errL c L = 0
  · rw [if_pos he, prR_len (errL_zero he).2.1]; exact allL_le
  · rw [if_neg he]; exact Nat.zero_le _
/-- a key's value among pairs -/
def valB (P : List Pr) (key : Int) : Bool := ceilB P key && decide ((ceilP P key).key = key)
def valV (P : List Pr) (key : Int) : Int := if valB P key = true then (ceilP P key).val else 0
theorem val_at {P : List Pr} (hr : Ris P) {p : Pr} (hp : p ∈ P) : valB P p.key = true ∧ ceilP P p.key = p := by
  obtain ⟨i, hi, rfl⟩ := List.getElem_of_mem hp
  have h1 : bel P (P[i]'hi).key = i := by
    have h2 := bel_iff hr (P[i]'hi).key
    rcases Nat.lt_trichotomy (bel P (P[i]'hi).key) i with h | h | h
    · have h3 := hr.get h hi
      have h4 := (h2 _ (by omega)).1 h3
      omega
    · exact h
    · have h4 := (h2 i hi).2 h
      omega
  have h5 : ceilP P (P[i]'hi).key = P[i]'hi := by unfold ceilP; rw [h1, if_pos hi, getElem!_pos P _ hi]
  refine ⟨?_, h5⟩
  unfold valB ceilB
  rw [h5, h1, decide_eq_true hi, decide_eq_true rfl]
  rfl
theorem val_is {c : Cfg} {L : Lv} (he : errL c L = 0) (key : Int) : valB (prD c L) key = isB L key ∧ valV (prD c L) key = vlD c L key ∧ veD c L key = if valB (prD c L) key = true then 0 else 6 := by
  have hR := (errL_zero he).2.1
  have hP : prD c L = prR L := by unfold prD; rw [if_pos he]
  have hr := prD_ris c L
  have hm := prR_mem hR key
  have hve : veD c L key = if isB L key = true then 0 else 6 := by unfold veD; rw [if_pos he]
  have hvl : vlD c L key = if isB L key = true then (gxR L key).val else 0 := by
    unfold vlD
    by_cases h : isB L key = true
    · rw [if_pos ⟨he, h⟩, if_pos h]
    · rw [if_neg (fun x => h x.2), if_neg h]
  rw [← hP] at hm
  by_cases h : isB L key = true
  · have h1 := of_decide_eq_true (hm.trans h)
    obtain ⟨h2, h3⟩ := val_at hr h1
    refine ⟨h2.trans h.symm, ?_, ?_⟩
    · unfold valV
      rw [h2, if_pos rfl, hvl, if_pos h, h3]
    · rw [hve, if_pos h, if_pos h2]
  · have h2 : valB (prD c L) key = false := by
      cases hv : valB (prD c L) key with
      | false => rfl
      | true =>
        unfold valB at hv
        rw [Bool.and_eq_true] at hv
        have h3 : bel (prD c L) key < (prD c L).length := of_decide_eq_true hv.1
        have h4 : (ceilP (prD c L) key).key = key := of_decide_eq_true hv.2
        have h5 : ceilP (prD c L) key = (prD c L)[bel (prD c L) key]'h3 := by unfold ceilP; rw [if_pos h3, getElem!_pos (prD c L) _ h3]
        rw [h5] at h4
        have h6 : (prD c L)[bel (prD c L) key]'h3 ∈ prD c L := List.getElem_mem h3
        have h7 : key ∈ (prD c L).map Pr.key := List.mem_map.2 ⟨_, h6, h4⟩
        have h8 : (prD c L).map Pr.key = (allL L).map Ent.key := by rw [hP, prR_map hR, List.map_map]; rfl
        rw [h8] at h7
        exact absurd ((key_in (chkR_zero.1 hR) key).1 h7) h
    have h9 : isB L key = false := by cases hb : isB L key <;> simp_all
    refine ⟨h2.trans h9.symm, ?_, ?_⟩
    · unfold valV
      rw [h2, hvl, if_neg h]; rfl
    · rw [hve, if_neg h, h2]; rfl
set_option maxHeartbeats 4000000 in
theorem value27_any (A : Option Addr) (P : List Pr) (ca : Nat) (key : Int) (w : World) (hA : Sl w A (P.flatMap Pr.cells)) (hl : P.length ≤ 1000000) (hr : Hid (Ris P)) :
    Calls Tryz.prog 44 #[.slice A P.length ca, .int .i64 key] w fun r w' => r = .returned (.tuple #[.int .i64 (valV P key), .bool (valB P key)]) ∧ Below w.heap.size w w' := by
  have hc := ceilOf_any A P ca key w hA (by omega) hr
  have hB : valB P key = (ceilB P key && decide ((ceilP P key).key = key)) := rfl
  have hV : valV P key = if valB P key = true then (ceilP P key).val else 0 := rfl
  obtain ⟨p, hp⟩ : ∃ p, ceilP P key = p := ⟨_, rfl⟩
  obtain ⟨b, hb⟩ : ∃ b, ceilB P key = b := ⟨_, rfl⟩
  obtain ⟨V, hv⟩ : ∃ b, valV P key = b := ⟨_, rfl⟩
  obtain ⟨K, hk⟩ : ∃ b, valB P key = b := ⟨_, rfl⟩
  rw [hp, hb] at hc hB
  rw [hk] at hB
  rw [hv, hk, hp] at hV
  rw [hv, hk]
  have HC := Lib.hid hc
  have HKB := Lib.hid hB
  have HV := Lib.hid hV
  clear hc hB hV hp hb hv hk hA
  go_enter Tryz.func44, Tryz.ntmps44
  have HF := Lib.hid (Below.refl w.heap.size w)
  go_wp2_with fail
  refine (HC.out).mono ?_
  rintro e w1 ⟨rfl, hb2⟩
  have HF3 := Lib.hid (bext HF.out hb2)
  clear HF
  clear hb2
  go_upto_region 2 with fail
  obtain ⟨U4, h6⟩ : ∃ U, w1.alloc (.cells #[.int .i64 p.key, .int .i64 p.val] 47) = U := ⟨_, rfl⟩
  have ba7 : Below w1.heap.size w1 U4 := by rw [← h6]; exact (Below.refl _ _).alloc (Nat.le_refl _) _
  have bn8 : Blk U4 w1.heap.size 47 #[.int .i64 p.key, .int .i64 p.val] := by rw [← h6]; exact Blk.new _ _ _
  try rw [h6]
  have HF9 := Lib.hid (bext HF3.out ba7)
  clear HF3
  obtain ⟨g5, h10⟩ : ∃ g, w1.heap.size = g := ⟨_, rfl⟩
  rw [h10] at bn8
  try rw [h10]
  have HX11 := Lib.hid bn8
  clear h6 ba7 bn8 h10
  have c12 : U4.cell? ⟨g5, 0, none⟩ = some (.int .i64 p.key) := HX11.out.cell 0
  have c13 : U4.cell? ⟨g5, 1, none⟩ = some (.int .i64 p.val) := HX11.out.cell 1
  have l14 : g5 < U4.heap.size := HX11.out.lt
  cases b with
  | false =>
    have HK : Hid (K = false) := by show _ = _; rw [HKB.out]; rfl
    go_wp2_with fail
    refine bodyPost_ret (v := .tuple #[.int .i64 0, .bool false]) (by simp [results, Tryz.results44, go_sem]) rfl ?_
    rw [HV.out, HK.out]
    exact ⟨rfl, HF9.out⟩
  | true =>
  by_cases hpk : p.key = key
  case neg =>
    have HK : Hid (K = false) := by show _ = _; rw [HKB.out, decide_eq_false hpk]; rfl
    have h1 : (p.key != key) = true := by simpa using hpk
    clear hpk
    go_wp2_with fail
    refine bodyPost_ret (v := .tuple #[.int .i64 0, .bool false]) (by simp [results, Tryz.results44, go_sem]) rfl ?_
    rw [HV.out, HK.out]
    exact ⟨rfl, HF9.out⟩
  case pos =>
  have HK : Hid (K = true) := by show _ = _; rw [HKB.out, decide_eq_true hpk]; rfl
  have h1 : (p.key != key) = false := by simpa using hpk
  clear hpk
  go_wp2_with fail
  refine bodyPost_ret (v := .tuple #[.int .i64 p.val, .bool true]) (by simp [results, Tryz.results44, go_sem]) rfl ?_
  rw [HV.out, HK.out]
  exact ⟨rfl, HF9.out⟩
end Go.Proofs.YthbppblmecdekaaGreatDoor
