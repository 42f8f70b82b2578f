/- Fi Fk: texts of the claim, in this order. -/
import Derived.Test.YtolclahkfmplfaaGreatDoorWn4
/- Contract: slices.DeleteFunc of pairs, by ladder.Range's closure. -/
namespace Go.Proofs.YtolclahkfmplfaaGreatDoor
open Go Go.RowKit
set_option maxRecDepth 100000
theorem run_clear_any {P : Program} (w : World) (t e ty : TypeId) (z : Value) (ht : P.underlying t = some (.slice e)) (hv : ∀ w, (zeroValue e).run P w = .ok z w) (b o n c : Nat) (hn : 0 < n)
    (hc : ∀ j, j < (Builtin.zeroCells z.cells n).toList.length → (w.cell? ⟨b, o + j, none⟩).isSome = true) (hf : ∀ j, j < (Builtin.zeroCells z.cells n).toList.length → w.frozen? ⟨b, o + j, none⟩ = false) (h1 : ∀ v ∈ (Builtin.zeroCells z.cells n).toList, v.oneCell' = true) :
    (Builtin.clear_ #[t] ty #[.slice (some ⟨b, o, none⟩) n c]).run P w = .ok (.tuple #[]) (w.setCells b o (Builtin.zeroCells z.cells n).toList) := by
  have hst := run_storeCells_cells (P := P) b o (Builtin.zeroCells z.cells n).toList 0 w (by simpa using hc) (by simpa using hf) h1
  simp only [Nat.add_zero] at hst
  obtain ⟨m, rfl⟩ : ∃ m, n = m + 1 := ⟨n - 1, by omega⟩
  simp only [Builtin.clear_]
  simp [run_underlying ht, hv, hst]
theorem below_setCells {B b : Nat} (hb : B ≤ b) {a : World} : ∀ (vs : List Value) (o : Nat) (w : World), Below B a w → Below B a (w.setCells b o vs)
  | [], _, _, h => h
  | v :: r, o, _, h => below_setCells hb r (o + 1) _ (h.setCell (p := ⟨b, o, none⟩) hb v)
theorem take_push (x y : Value) : ∀ (n : Nat) (L : List Value), n + 2 ≤ L.length → ((L.set n x).set (n + 1) y).take (n + 2) = L.take n ++ [x, y]
  | 0, a :: b :: r, _ => by simp
  | 0, [_], h => by simp at h
  | 0, [], h => by simp at h
  | n + 1, a :: r, h => by
    have := take_push x y n r (by simpa using h)
    simp only [List.set_cons_succ, List.take_succ_cons, List.cons_append, this]
  | n + 1, [], h => by simp at h
/-- while pairs are struck: m is kept of the first k -/
structure DelI (B0 g c : Nat) (a b : Int) (l : List Pr) (w : World) (k : Nat) (m : List Pr) (cur : Array Value) (wr : World) : Prop where
  bel : Below B0 w wr
  blk : Blk wr g 40 cur
  size : c * 2 ≤ cur.size
  cap : l.length ≤ c
  low : cur.toList.take (m.length * 2) = m.flatMap Pr.cells
  high : ∀ j (h : j < l.length), k ≤ j → cur[j * 2]? = some (.int .i64 (l[j]'h).key) ∧ cur[j * 2 + 1]? = some (.int .i64 (l[j]'h).val)
  len : m.length < k
  eq : m = (l.take k).filter (fun p => !inB p a b)
theorem DelI.skip {B0 g c k : Nat} {a b : Int} {l m : List Pr} {w wr wx : World} {cur : Array Value} (h : DelI B0 g c a b l w k m cur wr) (hb : Below wr.heap.size wr wx) (hB : B0 ≤ wr.heap.size) (hk : k < l.length) (hp : inB (l[k]'hk) a b = true) : DelI B0 g c a b l w (k + 1) m cur wx := by
  refine ⟨h.bel.trans (hb.mono hB), h.blk.below hb h.blk.lt, h.size, h.cap, h.low, fun j hj hkj => h.high j hj (by omega), by have := h.len; omega, ?_⟩
  rw [List.take_succ_eq_append_getElem hk, List.filter_append, ← h.eq]
  simp [hp]
theorem DelI.keep {B0 g c k : Nat} {a b : Int} {l m : List Pr} {w wr wx : World} {cur : Array Value} (h : DelI B0 g c a b l w k m cur wr) (hb : Below wr.heap.size wr wx) (hB : B0 ≤ wr.heap.size) (hg : B0 ≤ g) (hk : k < l.length) {p : Pr} (hpe : l[k]'hk = p) (hp : inB p a b = false) :
    ∃ cur', DelI B0 g c a b l w (k + 1) (m ++ [p]) cur' ((wx.setCell ⟨g, m.length * 2, none⟩ (.int .i64 p.key)).setCell ⟨g, m.length * 2 + 1, none⟩ (.int .i64 p.val)) := by
  have hbl := h.blk.below hb h.blk.lt
  have hlen := h.len
  have hsz := h.size
  have hcap := h.cap
  refine ⟨(cur.setIfInBounds (m.length * 2) (.int .i64 p.key)).setIfInBounds (m.length * 2 + 1) (.int .i64 p.val), ?_, (hbl.set_ _ _).set_ _ _, by simpa using hsz, hcap, ?_, ?_, ?_, ?_⟩
  · exact ((h.bel.trans (hb.mono hB)).setCell (p := ⟨g, m.length * 2, none⟩) hg _).setCell (p := ⟨g, m.length * 2 + 1, none⟩) hg _
  · rw [Array.toList_setIfInBounds, Array.toList_setIfInBounds, List.length_append, List.length_singleton, show (m.length + 1) * 2 = m.length * 2 + 2 from by omega, take_push _ _ _ _ (by have : cur.toList.length = cur.size := rfl; omega), h.low, List.flatMap_append]
    simp [Pr.cells]
  · intro j hj hkj
    have h1 := h.high j hj (by omega)
    constructor
    · rw [Array.getElem?_setIfInBounds_ne (by omega), Array.getElem?_setIfInBounds_ne (by omega)]; exact h1.1
    · rw [Array.getElem?_setIfInBounds_ne (by omega), Array.getElem?_setIfInBounds_ne (by omega)]; exact h1.2
  · simp; omega
  · rw [List.take_succ_eq_append_getElem hk, List.filter_append, ← h.eq, hpe]
    simp [hp]
theorem zv_pair (w : World) : (zeroValue 40).run Tryz.prog w = .ok (.agg #[.int .i64 0, .int .i64 0]) w := Tryz.zeroValue40 w
theorem zc_pair (n : Nat) : (Builtin.zeroCells (Value.agg #[.int .i64 0, .int .i64 0]).cells n).toList.length = n * 2 ∧ ∀ v ∈ (Builtin.zeroCells (Value.agg #[.int .i64 0, .int .i64 0]).cells n).toList, v.oneCell' = true := by
  constructor
  · simp [Builtin.zeroCells, Value.cells]
  · intro v hv
    simp [Builtin.zeroCells, Value.cells] at hv
    obtain ⟨i, hi⟩ := hv
    have h2 : i % 2 = 0 ∨ i % 2 = 1 := by omega
    rcases h2 with h2 | h2 <;> simp [h2] at hi <;> rw [← hi.2] <;> rfl
theorem first_take {l : List Pr} {a b : Int} {k : Nat} (h : k < l.length) (h1 : inB (l[k]'h) a b = true) (h2 : ∀ e ∈ l.take k, inB e a b = false) : l.take k = (l.take (k + 1)).filter (fun p => !inB p a b) := by
  rw [List.take_succ_eq_append_getElem h, List.filter_append, List.filter_eq_self.2 (fun e he => by rw [h2 e he]; rfl)]
  simp [h1]
/-- the cells of a block that holds pairs -/
theorem fr_cells {cur : Array Value} {l : List Pr} (h : cur.toList.take (l.length * 2) = l.flatMap Pr.cells) (j : Nat) (hj : j < l.length) : cur[j * 2]? = some (.int .i64 (l[j]'hj).key) ∧ cur[j * 2 + 1]? = some (.int .i64 (l[j]'hj).val) := by
  have h1 : ∀ i u, (l.flatMap Pr.cells)[i]? = some u → cur[i]? = some u := fun i u hu => by
    rw [← h, List.getElem?_take] at hu
    split at hu
    · simpa using hu
    · cases hu
  have h2 := fun q (hq : q < 2) => flat_get Pr.cells 2 Pr.cells_length l j q hj hq
  exact ⟨h1 _ _ (by have := h2 0 (by omega); simpa [Pr.cells] using this), h1 _ _ (by have := h2 1 (by omega); simpa [Pr.cells] using this)⟩
set_option maxHeartbeats 4000000 in
theorem deleteP_any (l : List Pr) (A : Option Addr) (c g4 g5 B0 : Nat) (a b : Int) (w : World) (hF : Fr w B0 40 A c l) (h4 : w.cell? ⟨g4, 0, none⟩ = some (.int .i64 a)) (h5 : w.cell? ⟨g5, 0, none⟩ = some (.int .i64 b)) (l4 : g4 < B0) (l5 : g5 < B0) (hB0 : B0 ≤ w.heap.size) (hl : l.length ≤ 1000000) :
    Calls Tryz.prog 22 #[.slice A l.length c, .func (.func 24) #[] #[.pointer (some ⟨g4, 0, none⟩), .pointer (some ⟨g5, 0, none⟩)]] w fun r w' => ∃ c', r = .returned (.slice A (withoutL l a b).length c') ∧ Sl w' A ((withoutL l a b).flatMap Pr.cells) ∧ Below B0 w w' := by
  have hix := indexP_any A l c g4 g5 a b w hF.sl hl h4 h5 (by omega) (by omega)
  have HIX := Lib.hid hix
  have HF := Lib.hid hF
  have H4 := Lib.hid h4
  have H5 := Lib.hid h5
  have HW := Lib.hid (without_is l a b)
  clear hix hF h4 h5
  go_enter Tryz.func22, Tryz.ntmps22
  go_wp2_with fail
  refine HIX.out.mono ?_
  rintro e w1 ⟨v, rfl, hfi, hb1⟩
  have HFI := Lib.hid hfi
  have HB1 := Lib.hid (hb1.mono hB0)
  have HF1 := Lib.hid (HF.out.below hb1)
  have HS1 := Lib.hid (show B0 ≤ w1.heap.size from Nat.le_trans hB0 hb1.size)
  have H41 := Lib.hid (((bcell hb1).1 _ _ (by omega : g4 < w.heap.size)).trans H4.out)
  have H51 := Lib.hid (((bcell hb1).1 _ _ (by omega : g5 < w.heap.size)).trans H5.out)
  clear hfi hb1
  rcases HFI.out with ⟨hv, hn⟩ | ⟨k0, hk0, hv, hin, hno⟩
  · have HWL : Hid (withoutL l a b = l) := by
      show _ = _
      rw [HW.out]
      exact List.filter_eq_self.2 fun e he => by rw [hn e he]; rfl
    subst hv
    clear hn
    go_wp2_with fail
    go_ret
    rw [HWL.out]
    exact ⟨c, rfl, HF1.out.sl, HB1.out⟩
  · subst hv
    obtain ⟨g, cur, rfl, hg, hblk, hcur, hsz⟩ : ∃ g cur, A = some ⟨g, 0, none⟩ ∧ B0 ≤ g ∧ Blk w1 g 40 cur ∧ cur.toList.take (l.length * 2) = l.flatMap Pr.cells ∧ c * 2 ≤ cur.size := by
      rcases HF1.out.2.2 with ⟨_, h2, _⟩ | h2
      · rw [h2] at hk0; simp at hk0
      · exact h2
    have hcap := HF1.out.1
    have HD0 : Hid (DelI B0 g c a b l w (k0 + 1) (l.take k0) cur w1) := by
      refine ⟨HB1.out, hblk, hsz, hcap, ?_, fun j hj _ => fr_cells hcur j hj, by simp; omega, first_take hk0 hin hno⟩
      have h7 : (l.take k0).length = k0 := by simp; omega
      rw [h7, ← flat_take, ← hcur, List.take_take, Nat.min_eq_left (by omega)]
    have hlk : (l.take k0).length = k0 := by simp; omega
    have hne : ¬ (k0 : Int) = -1 := by omega
    have hne2 : ((k0 : Int) == -1) = false := by simp
    have HG := Lib.hid hg
    have HCP := Lib.hid hcap
    have HLK := Lib.hid hlk
    have HK0 := Lib.hid hk0
    clear hin hno hblk hcur hsz hcap hlk hne hg
    go_wp2_with fail
    go_loopw [5, 6] (fun x y wr => ∃ (k : Nat) (m : List Pr) (cur : Array Value), k ≤ l.length ∧ y = .int .i64 k ∧ x = .int .i64 (m.length : Nat) ∧ Hid (DelI B0 g c a b l w k m cur wr)) (fun _ y _ => l.length - (intOf y).toNat)
    case atStart => exact ⟨k0 + 1, l.take k0, cur, by have := HK0.out; omega, by go_num, by rw [HLK.out], HD0⟩
    case round =>
    obtain ⟨k, m, cu, hk, rfl, rfl, hI⟩ := hrel
    have lg := hI.out.blk.lt
    have hml := hI.out.len
    have hcp := hI.out.cap
    have hsz := hI.out.size
    have HSW := Lib.hid (show B0 ≤ wr.heap.size from Nat.le_trans hB0 hI.out.bel.size)
    by_cases hlt : k < l.length
    case neg =>
      have hkl : k = l.length := by omega
      have HWM : Hid (withoutL l a b = m) := by
        show _ = _
        rw [HW.out, hI.out.eq, List.take_of_length_le (by omega)]
      have hzc := zc_pair (l.length - m.length)
      have hcl : ∀ ty, (Builtin.clear_ #[41] ty #[.slice (some ⟨g, m.length * 2, none⟩) (l.length - m.length) (c - m.length)]).run Tryz.prog wr = .ok (.tuple #[]) (wr.setCells g (m.length * 2) (Builtin.zeroCells (Value.agg #[.int .i64 0, .int .i64 0]).cells (l.length - m.length)).toList) := fun ty =>
        run_clear_any wr _ 40 ty _ Tryz.underlying41 zv_pair g (m.length * 2) _ _ (by omega)
          (fun j hj => by
            rw [hzc.1] at hj
            rw [hI.out.blk.cell, Array.getElem?_eq_getElem (by omega)]; rfl)
          (fun j hj => hI.out.blk.frozen _) hzc.2
      obtain ⟨Z, hZ⟩ : ∃ Z, (Builtin.zeroCells (Value.agg #[.int .i64 0, .int .i64 0]).cells (l.length - m.length)).toList = Z := ⟨_, rfl⟩
      rw [hZ] at hcl
      have HBZ := Lib.hid (below_setCells HG.out Z (m.length * 2) wr hI.out.bel)
      have HSL : Hid (Sl (wr.setCells g (m.length * 2) Z) (some ⟨g, 0, none⟩) (m.flatMap Pr.cells)) := by
        refine .inr ⟨g, 0, rfl, ?_, fun j u hu => ?_⟩
        · have h9 := (below_setCells (B := wr.heap.size) (b := wr.heap.size) (Nat.le_refl _) [] 0 wr (Below.refl _ _)).size
          have h8 : ∀ (vs : List Value) (o : Nat) (W : World), (W.setCells g o vs).heap.size = W.heap.size := fun vs => by
            induction vs with
            | nil => intro o W; rfl
            | cons v r ih => intro o W; rw [World.setCells, ih]; simp [World.setCell]
          rw [h8]; exact lg
        · have hjm : j < m.length * 2 := by
            have := (List.getElem?_eq_some_iff.1 hu).1
            rwa [prs_length] at this
          rw [World.cell?_setCells_out g Z (m.length * 2) wr _ (fun _ _ => .inl (by simpa using hjm)), Nat.zero_add, hI.out.blk.cell]
          rw [← hI.out.low, List.getElem?_take, if_pos hjm] at hu
          simpa using hu
      have hci : ¬ c = m.length := by omega
      have hci2 : ¬ m.length = c := by omega
      have i1 : ¬ (k : Int) < (l.length : Int) := by omega
      have i2 : (0 : Int) ≤ (m.length : Int) := by omega
      have i3 : (m.length : Int) ≤ (l.length : Int) := by omega
      have i4 : (m.length : Int) ≤ (c : Int) := by omega
      have i5 : (l.length : Int) ≤ (c : Int) := by omega
      clear hzc hZ hkl hml hcp hsz hI hB0 hl l4 l5
      go_wp2_with fail
      go_ret
      rw [HWM.out]
      exact ⟨⟨c, rfl⟩, HSL.out, HBZ.out⟩
    case pos =>
    have hh := hI.out.high k hlt (Nat.le_refl _)
    obtain ⟨p, hp⟩ : ∃ p, l[k]'hlt = p := ⟨_, rfl⟩
    rw [hp] at hh
    have c1 : wr.cell? ⟨g, k * 2, none⟩ = some (.int .i64 p.key) := (hI.out.blk.cell _).trans hh.1
    have c2 : wr.cell? ⟨g, k * 2 + 1, none⟩ = some (.int .i64 p.val) := (hI.out.blk.cell _).trans hh.2
    have HP := Lib.hid hp
    have i1 : (k : Int) < (l.length : Int) := by omega
    have i2 : (0 : Int) ≤ (k : Int) := by omega
    have HML := Lib.hid hml
    have HCQ := Lib.hid hcp
    have HSZ := Lib.hid hsz
    clear hh hp hml hcp hsz
    go_upto_region 8 with fail
    obtain ⟨U, hU⟩ : ∃ U, wr.alloc (.cells #[.int .i64 p.key, .int .i64 p.val] 40) = U := ⟨_, rfl⟩
    have hbU : Below wr.heap.size wr U := by rw [← hU]; exact (Below.refl _ _).alloc (Nat.le_refl _) _
    have bU : Blk U wr.heap.size 40 #[.int .i64 p.key, .int .i64 p.val] := by rw [← hU]; exact Blk.new _ _ _
    rw [hU]
    have hcall := range1_any p g4 g5 a b U (((bcell hbU).1 _ _ (Nat.lt_of_lt_of_le l4 HSW.out)).trans (((bcell hI.out.bel).1 _ _ l4).trans H4.out)) (((bcell hbU).1 _ _ (Nat.lt_of_lt_of_le l5 HSW.out)).trans (((bcell hI.out.bel).1 _ _ l5).trans H5.out)) (Nat.lt_of_lt_of_le l4 (Nat.le_trans HSW.out hbU.size)) (Nat.lt_of_lt_of_le l5 (Nat.le_trans HSW.out hbU.size))
    obtain ⟨V, hV⟩ : ∃ V, inB p a b = V := ⟨_, rfl⟩
    rw [hV] at hcall
    have HC := Lib.hid hcall
    have HV := Lib.hid hV
    have HBU := Lib.hid hbU
    have u0 : U.cell? ⟨wr.heap.size, 0, none⟩ = some (.int .i64 p.key) := bU.cell 0
    have u1 : U.cell? ⟨wr.heap.size, 1, none⟩ = some (.int .i64 p.val) := bU.cell 1
    have lU := bU.lt
    have HUB := Lib.hid bU
    clear hU hbU bU hcall hV c1 c2
    go_wp2_with fail
    refine HC.out.mono ?_
    rintro e wx ⟨rfl, hbx⟩
    have HBX := Lib.hid (bext HBU.out hbx)
    have bX := HUB.out.below hbx HUB.out.lt
    clear u0 u1 lU hbx
    cases V with
    | true =>
      have HD := Lib.hid (hI.out.skip HBX.out HSW.out hlt (by rw [HP.out]; exact HV.out))
      go_wp2_with fail
      go_roundw
      case rel => exact ⟨k + 1, m, cu, by omega, by go_num, rfl, HD.out⟩
      case measure => simp [intOf]; omega
    | false =>
      obtain ⟨cu2, hD2⟩ := hI.out.keep HBX.out HSW.out HG.out hlt HP.out HV.out
      have HD := Lib.hid hD2
      have bg := hI.out.blk.below HBX.out hI.out.blk.lt
      have hx1 : m.length * 2 < cu.size := by have := HML.out; have := HCQ.out; have := HSZ.out; omega
      have hx2 : m.length * 2 + 1 < cu.size := by have := HML.out; have := HCQ.out; have := HSZ.out; omega
      have d0 : wx.cell? ⟨g, m.length * 2, none⟩ = some (cu[m.length * 2]'hx1) := (bg.cell _).trans (Array.getElem?_eq_getElem hx1)
      have d1 : wx.cell? ⟨g, m.length * 2 + 1, none⟩ = some (cu[m.length * 2 + 1]'hx2) := (bg.cell _).trans (Array.getElem?_eq_getElem hx2)
      obtain ⟨y0, hy0⟩ : ∃ y, cu[m.length * 2]'hx1 = y := ⟨_, rfl⟩
      obtain ⟨y1, hy1⟩ : ∃ y, cu[m.length * 2 + 1]'hx2 = y := ⟨_, rfl⟩
      rw [hy0] at d0
      rw [hy1] at d1
      have f0 := bg.frozen (m.length * 2)
      have f1 := bg.frozen (m.length * 2 + 1)
      have e0 : wx.cell? ⟨wr.heap.size, 0, none⟩ = some (.int .i64 p.key) := bX.cell 0
      have e1 : wx.cell? ⟨wr.heap.size, 1, none⟩ = some (.int .i64 p.val) := bX.cell 1
      have lx := bX.lt
      have lg2 := bg.lt
      have j1 : (m.length : Int) < (l.length : Int) := by have := HML.out; omega
      have j0 : (0 : Int) ≤ (m.length : Int) := by omega
      clear hD2 bg bX hx1 hx2 hy0 hy1
      go_wp2_with fail
      go_roundw
      case rel => exact ⟨k + 1, m ++ [p], cu2, by omega, by go_num, by rw [List.length_append]; go_num, HD.out⟩
      case measure => simp [intOf]; omega
end Go.Proofs.YtolclahkfmplfaaGreatDoor

/- Contracts: ladder.Range, shelfmarkref27.Range. -/
namespace Go.Proofs.YtolclahkfmplfaaGreatDoor
open Go Go.RowKit
set_option maxRecDepth 100000
/-- hands back a map, a number and an error -/
def GivesLn (c : Cfg) (L : Lv) (n cnt e : Int) (w : World) (r : Ending) (w' : World) : Prop := ∃ B k Rs, r = .returned (.tuple #[.agg (lrow c B Rs.length k n), .int .i64 cnt, .int .i64 e]) ∧ lvs Rs = L ∧ OwnRs w' w.heap.size B k Rs ∧ Below w.heap.size w w'
/-- pairs laid anew -/
def newL (l : List Pr) : Lv := standL [] (laid (l.map aliveE))
def rgL (c : Cfg) (L : Lv) (a b : Int) : Lv := if errL c L = 0 then newL (withoutL (prD c L) a b) else []
def rgN (c : Cfg) (L : Lv) (n a b : Int) : Int := if errL c L = 0 then IntKind.u64.wrap (n + (withoutL (prD c L) a b).length) else 0
def rgC (c : Cfg) (L : Lv) (a b : Int) : Int := if errL c L = 0 then ((prD c L).length : Int) - ((withoutL (prD c L) a b).length : Int) else 0
theorem alive_build {l : List Pr} (h : Ris l) (hl : l.length ≤ 65536) : buildE (l.map aliveE) = 0 := by
  unfold buildE
  rw [if_neg (by simp; omega), if_neg (by simp [badEnt, aliveE]), if_pos]
  unfold Ris keys at h
  rw [List.map_map]
  exact h
theorem anew_ok {c : Cfg} {L : Lv} {l : List Pr} (n : Int) (he : errL c L = 0) (hs : l.length ≤ (prD c L).length) (hr : Ris l) (hl : l.length ≤ 65536) : anE c L l = 0 ∧ anL c L l = newL l ∧ anN c L n l = IntKind.u64.wrap (n + l.length) := by
  obtain ⟨_, h2, h3, _⟩ := errL_zero he
  have hP : prD c L = prR L := by unfold prD; rw [if_pos he]
  rw [hP] at hs
  have h4 : ¬ c.most < (l.length : Int) := by omega
  have h5 : ofEr L l = 0 := by unfold ofEr; rw [if_neg (by simp [h2])]; exact alive_build hr hl
  unfold anE anL anN ofLr ofNr newL
  rw [if_neg h4, if_neg h4, if_neg h4, if_pos h5, if_pos h5]
  exact ⟨h5, rfl, rfl⟩
theorem without_ris {l : List Pr} (h : Ris l) (a b : Int) : Ris (withoutL l a b) := h.sub List.filter_sublist
set_option maxHeartbeats 16000000 in
theorem rangeD_any (B : Option Addr) (Rs : List Rm) (k : Nat) (c : Cfg) (n : Int) (x y : Int) (w : World) (hB : RunsAt w B Rs) (hT : tot (lvs Rs) ≤ 1000000) (hl : Rs.length ≤ 1000000) (hT3 : tot (lvs Rs) ≤ 300) :
    Calls Tryz.prog 8 #[.agg (lrow c B Rs.length k n), .int .i64 x, .int .i64 y] w (GivesLn (ldC c (errL c (lvs Rs))) (rgL c (lvs Rs) x y) (rgN c (lvs Rs) n x y) (rgC c (lvs Rs) x y) (errL c (lvs Rs)) w) := by
  obtain ⟨W0, hW0⟩ : ∃ W0, (((w.alloc (.cells #[.int .u8 c.tag, .int .i64 c.most, .int .i64 c.seg, .int .i64 c.least, .int .i64 c.den, .int .i64 c.leafLow, .int .i64 c.rootLow, .int .i64 c.rootHigh, .int .i64 c.leafHigh, .slice B Rs.length k, .int .u64 n] 29)).alloc (.cells #[.int .i64 x] 2)).alloc (.cells #[.int .i64 y] 2)).alloc (.cells #[.int .u8 0, .int .i64 0, .int .i64 0, .int .i64 0, .int .i64 0, .int .i64 0, .int .i64 0, .int .i64 0, .int .i64 0, .slice none 0 0, .int .u64 0] 29) = W0 := ⟨_, rfl⟩
  have hb0 : Below w.heap.size w W0 := by rw [← hW0]; exact ((((Below.refl _ _).alloc (Nat.le_refl _) _).alloc (by simp) _).alloc (by simp; omega) _).alloc (by simp; omega) _
  have b0 : Blk W0 w.heap.size 29 #[.int .u8 c.tag, .int .i64 c.most, .int .i64 c.seg, .int .i64 c.least, .int .i64 c.den, .int .i64 c.leafLow, .int .i64 c.rootLow, .int .i64 c.rootHigh, .int .i64 c.leafHigh, .slice B Rs.length k, .int .u64 n] := by rw [← hW0]; exact (((Blk.new _ _ _).alloc _).alloc _).alloc _
  have bx0 : Blk W0 (w.heap.size + 1) 2 #[.int .i64 x] := by
    rw [← hW0]
    have := Blk.new (w.alloc (.cells #[.int .u8 c.tag, .int .i64 c.most, .int .i64 c.seg, .int .i64 c.least, .int .i64 c.den, .int .i64 c.leafLow, .int .i64 c.rootLow, .int .i64 c.rootHigh, .int .i64 c.leafHigh, .slice B Rs.length k, .int .u64 n] 29)) 2 #[.int .i64 x]
    rw [World.size_alloc] at this
    exact (this.alloc _).alloc _
  have by0 : Blk W0 (w.heap.size + 1 + 1) 2 #[.int .i64 y] := by
    rw [← hW0]
    have := Blk.new ((w.alloc (.cells #[.int .u8 c.tag, .int .i64 c.most, .int .i64 c.seg, .int .i64 c.least, .int .i64 c.den, .int .i64 c.leafLow, .int .i64 c.rootLow, .int .i64 c.rootHigh, .int .i64 c.leafHigh, .slice B Rs.length k, .int .u64 n] 29)).alloc (.cells #[.int .i64 x] 2)) 2 #[.int .i64 y]
    rw [World.size_alloc, World.size_alloc] at this
    exact this.alloc _
  have br0 : Blk W0 (w.heap.size + 1 + 1 + 1) 29 #[.int .u8 0, .int .i64 0, .int .i64 0, .int .i64 0, .int .i64 0, .int .i64 0, .int .i64 0, .int .i64 0, .int .i64 0, .slice none 0 0, .int .u64 0] := by
    rw [← hW0]
    have := Blk.new (((w.alloc (.cells #[.int .u8 c.tag, .int .i64 c.most, .int .i64 c.seg, .int .i64 c.least, .int .i64 c.den, .int .i64 c.leafLow, .int .i64 c.rootLow, .int .i64 c.rootHigh, .int .i64 c.leafHigh, .slice B Rs.length k, .int .u64 n] 29)).alloc (.cells #[.int .i64 x] 2)).alloc (.cells #[.int .i64 y] 2)) 29 #[.int .u8 0, .int .i64 0, .int .i64 0, .int .i64 0, .int .i64 0, .int .i64 0, .int .i64 0, .int .i64 0, .int .i64 0, .slice none 0 0, .int .u64 0]
    rwa [World.size_alloc, World.size_alloc, World.size_alloc] at this
  have HW0 := Lib.hid hW0
  have HB := Lib.hid (hB.below hb0)
  have HB0 := Lib.hid hb0
  have HC0 := Lib.hid b0
  have HX0 := Lib.hid bx0
  have HY0 := Lib.hid by0
  have HR0 := Lib.hid br0
  have hpa := pairsD_any B Rs k c n W0 HB.out hT hl
  have hok := fun he l hs hr hl => anew_ok (c := c) (L := lvs Rs) (l := l) n he hs hr hl
  obtain ⟨E, hE⟩ : ∃ E, errL c (lvs Rs) = E := ⟨_, rfl⟩
  obtain ⟨P, hP⟩ : ∃ P, prD c (lvs Rs) = P := ⟨_, rfl⟩
  have hrL : rgL c (lvs Rs) x y = if E = 0 then newL (withoutL P x y) else [] := by rw [← hE, ← hP]; rfl
  have hrN : rgN c (lvs Rs) n x y = if E = 0 then IntKind.u64.wrap (n + (withoutL P x y).length) else 0 := by rw [← hE, ← hP]; rfl
  have hrC : rgC c (lvs Rs) x y = if E = 0 then (P.length : Int) - ((withoutL P x y).length : Int) else 0 := by rw [← hE, ← hP]; rfl
  have hrE : ldC c E = if E = 0 then c else cz := rfl
  obtain ⟨Lr, hLr⟩ : ∃ z, rgL c (lvs Rs) x y = z := ⟨_, rfl⟩
  obtain ⟨Nr, hNr⟩ : ∃ z, rgN c (lvs Rs) n x y = z := ⟨_, rfl⟩
  obtain ⟨Cr, hCr⟩ : ∃ z, rgC c (lvs Rs) x y = z := ⟨_, rfl⟩
  rw [hE, hLr, hNr, hCr]
  rw [hLr] at hrL
  rw [hNr] at hrN
  rw [hCr] at hrC
  have hris := prD_ris c (lvs Rs)
  have hln := prD_len c (lvs Rs)
  have hwl := without_len P x y
  rw [hP] at hris hln
  have hwr := without_ris hris x y
  have hP3 : P.length ≤ 300 := by omega
  rw [hE, hP] at hpa
  rw [hP] at hok
  have hok2 := fun he => hok he (withoutL P x y) hwl hwr (by omega)
  have han := fun A ca W (hW : RunsAt W B Rs) (hA : Sl W A ((withoutL P x y).flatMap Pr.cells)) => anew_any B Rs k c n A (withoutL P x y) ca W hW hT hl hA (by omega)
  rw [hE] at hok2
  have hcl := fun A ca W (hA : Sl W A (P.flatMap Pr.cells)) => clone_any A P ca W hA (by omega)
  have hde := fun A ca g4 g5 B0 W hF h4 h5 l4 l5 hB0 => deleteP_any P A ca g4 g5 B0 x y W hF h4 h5 l4 l5 hB0 (by omega)
  obtain ⟨M, hM⟩ : ∃ M, withoutL P x y = M := ⟨_, rfl⟩
  rw [hM] at hrL hrN hrC hok2 han hde hwl
  obtain ⟨ae, hae⟩ : ∃ z, anE c (lvs Rs) M = z := ⟨_, rfl⟩
  obtain ⟨al, hal⟩ : ∃ z, anL c (lvs Rs) M = z := ⟨_, rfl⟩
  obtain ⟨an, hann⟩ : ∃ z, anN c (lvs Rs) n M = z := ⟨_, rfl⟩
  rw [hae, hal, hann] at hok2 han
  obtain ⟨ac, hac⟩ : ∃ z, ldC c ae = z := ⟨_, rfl⟩
  rw [hac] at han
  have HPA := Lib.hid hpa
  have HOK := Lib.hid hok2
  have HAN := Lib.hid han
  have HCL := Lib.hid hcl
  have HDE := Lib.hid hde
  have HRL := Lib.hid hrL
  have HRN := Lib.hid hrN
  have HRC := Lib.hid hrC
  have HAC := Lib.hid hac
  have HP3 := Lib.hid (And.intro hP3 hwl)
  clear hW0 hB hpa hok hok2 han hcl hde hrL hrN hrC hrE hac hae hal hann hM hE hP hLr hNr hCr hris hln hwl hwr hP3 hT hT3
  have q0 : W0.cell? ⟨w.heap.size, 0, none⟩ = some (.int .u8 c.tag) := b0.cell 0
  have q1 : W0.cell? ⟨w.heap.size, 1, none⟩ = some (.int .i64 c.most) := b0.cell 1
  have q2 : W0.cell? ⟨w.heap.size, 2, none⟩ = some (.int .i64 c.seg) := b0.cell 2
  have q3 : W0.cell? ⟨w.heap.size, 3, none⟩ = some (.int .i64 c.least) := b0.cell 3
  have q4 : W0.cell? ⟨w.heap.size, 4, none⟩ = some (.int .i64 c.den) := b0.cell 4
  have q5 : W0.cell? ⟨w.heap.size, 5, none⟩ = some (.int .i64 c.leafLow) := b0.cell 5
  have q6 : W0.cell? ⟨w.heap.size, 6, none⟩ = some (.int .i64 c.rootLow) := b0.cell 6
  have q7 : W0.cell? ⟨w.heap.size, 7, none⟩ = some (.int .i64 c.rootHigh) := b0.cell 7
  have q8 : W0.cell? ⟨w.heap.size, 8, none⟩ = some (.int .i64 c.leafHigh) := b0.cell 8
  have q9 : W0.cell? ⟨w.heap.size, 9, none⟩ = some (.slice B Rs.length k) := b0.cell 9
  have q10 : W0.cell? ⟨w.heap.size, 10, none⟩ = some (.int .u64 n) := b0.cell 10
  clear b0 hb0 br0 bx0 by0
  go_enter Tryz.func8, Tryz.ntmps8
  go_upto_region 1 with fail
  rw [HW0.out]
  have HY1 := Lib.hid (HB.out)
  go_wp2_with fail
  refine (HPA.out).mono ?_
  rintro e w2 ⟨A1, c1, rfl, ho1, hb3⟩
  have HP1 := Lib.hid (own_sl ho1)
  clear ho1 q0 q1 q2 q3 q4 q5 q6 q7 q8 q9 q10
  have HF4 := Lib.hid (bext HB0.out hb3)
  have HX5 := Lib.hid (HC0.out.below hb3 HC0.out.lt)
  have HX6 := Lib.hid (HX0.out.below hb3 HX0.out.lt)
  have HX7 := Lib.hid (HY0.out.below hb3 HY0.out.lt)
  have HX8 := Lib.hid (HR0.out.below hb3 HR0.out.lt)
  have HY9 := Lib.hid (RunsAt.below HY1.out hb3)
  clear HC0 HX0 HY0 HR0 HY1
  clear hb3
  have HY10 := Lib.hid (HP1.out)
  have c11 : w2.cell? ⟨(w.heap.size + 1 + 1 + 1), 0, none⟩ = some (.int .u8 0) := HX8.out.cell 0
  have c12 : w2.cell? ⟨(w.heap.size + 1 + 1 + 1), 1, none⟩ = some (.int .i64 0) := HX8.out.cell 1
  have c13 : w2.cell? ⟨(w.heap.size + 1 + 1 + 1), 2, none⟩ = some (.int .i64 0) := HX8.out.cell 2
  have c14 : w2.cell? ⟨(w.heap.size + 1 + 1 + 1), 3, none⟩ = some (.int .i64 0) := HX8.out.cell 3
  have c15 : w2.cell? ⟨(w.heap.size + 1 + 1 + 1), 4, none⟩ = some (.int .i64 0) := HX8.out.cell 4
  have c16 : w2.cell? ⟨(w.heap.size + 1 + 1 + 1), 5, none⟩ = some (.int .i64 0) := HX8.out.cell 5
  have c17 : w2.cell? ⟨(w.heap.size + 1 + 1 + 1), 6, none⟩ = some (.int .i64 0) := HX8.out.cell 6
  have c18 : w2.cell? ⟨(w.heap.size + 1 + 1 + 1), 7, none⟩ = some (.int .i64 0) := HX8.out.cell 7
  have c19 : w2.cell? ⟨(w.heap.size + 1 + 1 + 1), 8, none⟩ = some (.int .i64 0) := HX8.out.cell 8
  have c20 : w2.cell? ⟨(w.heap.size + 1 + 1 + 1), 9, none⟩ = some (.slice none 0 0) := HX8.out.cell 9
  have c21 : w2.cell? ⟨(w.heap.size + 1 + 1 + 1), 10, none⟩ = some (.int .u64 0) := HX8.out.cell 10
  have l22 : (w.heap.size + 1 + 1 + 1) < w2.heap.size := HX8.out.lt
  have fr0 := HX8.out.frozen 0
  have fr1 := HX8.out.frozen 1
  have fr2 := HX8.out.frozen 2
  have fr3 := HX8.out.frozen 3
  have fr4 := HX8.out.frozen 4
  have fr5 := HX8.out.frozen 5
  have fr6 := HX8.out.frozen 6
  have fr7 := HX8.out.frozen 7
  have fr8 := HX8.out.frozen 8
  have fr9 := HX8.out.frozen 9
  have fr10 := HX8.out.frozen 10
  by_cases hE0 : E = 0
  case neg =>
    have h1 : (E != 0) = true := by simpa using hE0
    have HZ : Hid (Lr = [] ∧ Nr = 0 ∧ Cr = 0 ∧ ldC c E = cz) := by
      show _ ∧ _
      rw [HRL.out, HRN.out, HRC.out, if_neg hE0, if_neg hE0, if_neg hE0]
      exact ⟨rfl, rfl, rfl, by unfold ldC; rw [if_neg hE0]⟩
    go_wp2_with fail
    have bz := put11 HX8.out (.int .u8 0) (.int .i64 0) (.int .i64 0) (.int .i64 0) (.int .i64 0) (.int .i64 0) (.int .i64 0) (.int .i64 0) (.int .i64 0) (.slice none 0 0) (.int .u64 0)
    have z0 := bz.cell 0
    have z1 := bz.cell 1
    have z2 := bz.cell 2
    have z3 := bz.cell 3
    have z4 := bz.cell 4
    have z5 := bz.cell 5
    have z6 := bz.cell 6
    have z7 := bz.cell 7
    have z8 := bz.cell 8
    have z9 := bz.cell 9
    have z10 := bz.cell 10
    simp only [List.getElem?_toArray, List.getElem?_cons_zero, List.getElem?_cons_succ] at z0 z1 z2 z3 z4 z5 z6 z7 z8 z9 z10
    refine bodyPost_ret (v := .tuple #[.agg #[.int .u8 0, .int .i64 0, .int .i64 0, .int .i64 0, .int .i64 0, .int .i64 0, .int .i64 0, .int .i64 0, .int .i64 0, .slice none 0 0, .int .u64 0], .int .i64 0, .int .i64 E]) (by simp [results, Tryz.results8, go_sem, z0, z1, z2, z3, z4, z5, z6, z7, z8, z9, z10]) rfl ?_
    rw [HZ.out.1, HZ.out.2.1, HZ.out.2.2.1, HZ.out.2.2.2]
    exact ⟨none, 0, [], rfl, rfl, OwnRs.nil _ _, below11 HF4.out (by omega) _ _ _ _ _ _ _ _ _ _ _⟩
  case pos =>
  have HZ : Hid (Lr = newL M ∧ Nr = IntKind.u64.wrap (n + M.length) ∧ Cr = (P.length : Int) - (M.length : Int) ∧ ldC c E = c) := by
    show _ ∧ _
    rw [HRL.out, HRN.out, HRC.out, if_pos hE0, if_pos hE0, if_pos hE0]
    exact ⟨rfl, rfl, rfl, by unfold ldC; rw [if_pos hE0]⟩
  have HO2 := Lib.hid (HOK.out hE0)
  clear HOK HRL HRN HRC
  subst hE0
  go_wp2_with fail
  clear c11 c12 c13 c14 c15 c16 c17 c18 c19 c20 c21 l22
  clear fr0 fr1 fr2 fr3 fr4 fr5 fr6 fr7 fr8 fr9 fr10
  refine (HCL.out _ _ _ HY10.out).mono ?_
  rintro e w23 ⟨A2, c2, rfl, hf2, hb24⟩
  have HSA := Lib.hid (show w.heap.size + 1 + 1 + 1 < w2.heap.size from HX8.out.lt)
  have hde := HDE.out A2 c2 (w.heap.size + 1) (w.heap.size + 1 + 1) _ w23 hf2 ((HX6.out.below hb24 HX6.out.lt).cell 0) ((HX7.out.below hb24 HX7.out.lt).cell 0) (by have := HSA.out; omega) (by have := HSA.out; omega) hb24.size
  have HD2 := Lib.hid hde
  have HB24 := Lib.hid hb24
  clear hde hf2 hb24
  go_wp2_with fail
  refine HD2.out.mono ?_
  rintro e w8 ⟨c8, rfl, hs8, hb8⟩
  have HS8 := Lib.hid hs8
  have hb28 := HB24.out.trans hb8
  clear hs8 hb8 HD2 HB24
  have HF23 := Lib.hid (bext HF4.out hb28)
  have HX24 := Lib.hid (HX5.out.below hb28 HX5.out.lt)
  have HX25 := Lib.hid (HX6.out.below hb28 HX6.out.lt)
  have HX26 := Lib.hid (HX7.out.below hb28 HX7.out.lt)
  have HX27 := Lib.hid (HX8.out.below hb28 HX8.out.lt)
  have HY28 := Lib.hid (RunsAt.below HY9.out hb28)
  have HY29 := Lib.hid (HY10.out.below hb28)
  clear HF4 HX5 HX6 HX7 HX8 HY9 HY10
  clear hb28
  have HY30 := Lib.hid (HS8.out)
  have c31 : w8.cell? ⟨w.heap.size, 0, none⟩ = some (.int .u8 c.tag) := HX24.out.cell 0
  have c32 : w8.cell? ⟨w.heap.size, 1, none⟩ = some (.int .i64 c.most) := HX24.out.cell 1
  have c33 : w8.cell? ⟨w.heap.size, 2, none⟩ = some (.int .i64 c.seg) := HX24.out.cell 2
  have c34 : w8.cell? ⟨w.heap.size, 3, none⟩ = some (.int .i64 c.least) := HX24.out.cell 3
  have c35 : w8.cell? ⟨w.heap.size, 4, none⟩ = some (.int .i64 c.den) := HX24.out.cell 4
  have c36 : w8.cell? ⟨w.heap.size, 5, none⟩ = some (.int .i64 c.leafLow) := HX24.out.cell 5
  have c37 : w8.cell? ⟨w.heap.size, 6, none⟩ = some (.int .i64 c.rootLow) := HX24.out.cell 6
  have c38 : w8.cell? ⟨w.heap.size, 7, none⟩ = some (.int .i64 c.rootHigh) := HX24.out.cell 7
  have c39 : w8.cell? ⟨w.heap.size, 8, none⟩ = some (.int .i64 c.leafHigh) := HX24.out.cell 8
  have c40 : w8.cell? ⟨w.heap.size, 9, none⟩ = some (.slice B Rs.length k) := HX24.out.cell 9
  have c41 : w8.cell? ⟨w.heap.size, 10, none⟩ = some (.int .u64 n) := HX24.out.cell 10
  have l42 : w.heap.size < w8.heap.size := HX24.out.lt
  go_wp2_with fail
  clear c31 c32 c33 c34 c35 c36 c37 c38 c39 c40 c41 l42
  refine (HAN.out _ _ _ HY28.out HY30.out).mono ?_
  rintro e w43 ⟨B2, k2, R2, rfl, hl2, ho2, hb44⟩
  have HL2 := Lib.hid hl2
  obtain ⟨M2, hM2⟩ : ∃ N, R2.length = N := ⟨_, rfl⟩
  rw [hM2]
  have HM2 := Lib.hid hM2
  have HO9 := Lib.hid (ho2.mono HF23.out.size)
  clear hl2 ho2 hM2
  have HF45 := Lib.hid (bext HF23.out hb44)
  have HX46 := Lib.hid (HX24.out.below hb44 HX24.out.lt)
  have HX47 := Lib.hid (HX25.out.below hb44 HX25.out.lt)
  have HX48 := Lib.hid (HX26.out.below hb44 HX26.out.lt)
  have HX49 := Lib.hid (HX27.out.below hb44 HX27.out.lt)
  have HY50 := Lib.hid (RunsAt.below HY28.out hb44)
  have HY51 := Lib.hid (HY29.out.below hb44)
  have HY52 := Lib.hid (HY30.out.below hb44)
  clear HF23 HX24 HX25 HX26 HX27 HY28 HY29 HY30
  clear hb44
  have HY53 := Lib.hid (HO9.out)
  go_upto_region 6 with fail
  obtain ⟨U54, h56⟩ : ∃ U, w43.alloc (.cells #[.int .u8 ac.tag, .int .i64 ac.most, .int .i64 ac.seg, .int .i64 ac.least, .int .i64 ac.den, .int .i64 ac.leafLow, .int .i64 ac.rootLow, .int .i64 ac.rootHigh, .int .i64 ac.leafHigh, .slice B2 M2 k2, .int .u64 an] 29) = U := ⟨_, rfl⟩
  have ba57 : Below w43.heap.size w43 U54 := by rw [← h56]; exact (Below.refl _ _).alloc (Nat.le_refl _) _
  have bn58 : Blk U54 w43.heap.size 29 #[.int .u8 ac.tag, .int .i64 ac.most, .int .i64 ac.seg, .int .i64 ac.least, .int .i64 ac.den, .int .i64 ac.leafLow, .int .i64 ac.rootLow, .int .i64 ac.rootHigh, .int .i64 ac.leafHigh, .slice B2 M2 k2, .int .u64 an] := by rw [← h56]; exact Blk.new _ _ _
  try rw [h56]
  have HF59 := Lib.hid (bext HF45.out ba57)
  have HX60 := Lib.hid (HX46.out.below ba57 HX46.out.lt)
  have HX61 := Lib.hid (HX47.out.below ba57 HX47.out.lt)
  have HX62 := Lib.hid (HX48.out.below ba57 HX48.out.lt)
  have HX63 := Lib.hid (HX49.out.below ba57 HX49.out.lt)
  have HY64 := Lib.hid (RunsAt.below HY50.out ba57)
  have HY65 := Lib.hid (HY51.out.below ba57)
  have HY66 := Lib.hid (HY52.out.below ba57)
  have HY67 := Lib.hid (OwnRs.below HY53.out ba57)
  clear HF45 HX46 HX47 HX48 HX49 HY50 HY51 HY52 HY53
  obtain ⟨g55, h68⟩ : ∃ g, w43.heap.size = g := ⟨_, rfl⟩
  rw [h68] at bn58
  try rw [h68]
  have HX69 := Lib.hid bn58
  clear h56 ba57 bn58 h68
  obtain ⟨z1, z2, z3⟩ := HO2.out
  have HZ2 := Lib.hid z2
  have HZ3 := Lib.hid z3
  have HZ1 : Hid (ac = c) := by show _ = _; rw [← HAC.out, z1]; rfl
  clear z2 z3
  subst z1
  have hp3 := HP3.out
  have hw : IntKind.i64.wrap ((P.length : Int) - (M.length : Int)) = (P.length : Int) - (M.length : Int) := IntWalk.i64_in _ (by omega)
  clear hp3
  have c70 : U54.cell? ⟨g55, 0, none⟩ = some (.int .u8 ac.tag) := HX69.out.cell 0
  have c71 : U54.cell? ⟨g55, 1, none⟩ = some (.int .i64 ac.most) := HX69.out.cell 1
  have c72 : U54.cell? ⟨g55, 2, none⟩ = some (.int .i64 ac.seg) := HX69.out.cell 2
  have c73 : U54.cell? ⟨g55, 3, none⟩ = some (.int .i64 ac.least) := HX69.out.cell 3
  have c74 : U54.cell? ⟨g55, 4, none⟩ = some (.int .i64 ac.den) := HX69.out.cell 4
  have c75 : U54.cell? ⟨g55, 5, none⟩ = some (.int .i64 ac.leafLow) := HX69.out.cell 5
  have c76 : U54.cell? ⟨g55, 6, none⟩ = some (.int .i64 ac.rootLow) := HX69.out.cell 6
  have c77 : U54.cell? ⟨g55, 7, none⟩ = some (.int .i64 ac.rootHigh) := HX69.out.cell 7
  have c78 : U54.cell? ⟨g55, 8, none⟩ = some (.int .i64 ac.leafHigh) := HX69.out.cell 8
  have c79 : U54.cell? ⟨g55, 9, none⟩ = some (.slice B2 M2 k2) := HX69.out.cell 9
  have c80 : U54.cell? ⟨g55, 10, none⟩ = some (.int .u64 an) := HX69.out.cell 10
  have l81 : g55 < U54.heap.size := HX69.out.lt
  have c82 : U54.cell? ⟨(w.heap.size + 1 + 1 + 1), 0, none⟩ = some (.int .u8 0) := HX63.out.cell 0
  have c83 : U54.cell? ⟨(w.heap.size + 1 + 1 + 1), 1, none⟩ = some (.int .i64 0) := HX63.out.cell 1
  have c84 : U54.cell? ⟨(w.heap.size + 1 + 1 + 1), 2, none⟩ = some (.int .i64 0) := HX63.out.cell 2
  have c85 : U54.cell? ⟨(w.heap.size + 1 + 1 + 1), 3, none⟩ = some (.int .i64 0) := HX63.out.cell 3
  have c86 : U54.cell? ⟨(w.heap.size + 1 + 1 + 1), 4, none⟩ = some (.int .i64 0) := HX63.out.cell 4
  have c87 : U54.cell? ⟨(w.heap.size + 1 + 1 + 1), 5, none⟩ = some (.int .i64 0) := HX63.out.cell 5
  have c88 : U54.cell? ⟨(w.heap.size + 1 + 1 + 1), 6, none⟩ = some (.int .i64 0) := HX63.out.cell 6
  have c89 : U54.cell? ⟨(w.heap.size + 1 + 1 + 1), 7, none⟩ = some (.int .i64 0) := HX63.out.cell 7
  have c90 : U54.cell? ⟨(w.heap.size + 1 + 1 + 1), 8, none⟩ = some (.int .i64 0) := HX63.out.cell 8
  have c91 : U54.cell? ⟨(w.heap.size + 1 + 1 + 1), 9, none⟩ = some (.slice none 0 0) := HX63.out.cell 9
  have c92 : U54.cell? ⟨(w.heap.size + 1 + 1 + 1), 10, none⟩ = some (.int .u64 0) := HX63.out.cell 10
  have l93 : (w.heap.size + 1 + 1 + 1) < U54.heap.size := HX63.out.lt
  have fr0 := HX63.out.frozen 0
  have fr1 := HX63.out.frozen 1
  have fr2 := HX63.out.frozen 2
  have fr3 := HX63.out.frozen 3
  have fr4 := HX63.out.frozen 4
  have fr5 := HX63.out.frozen 5
  have fr6 := HX63.out.frozen 6
  have fr7 := HX63.out.frozen 7
  have fr8 := HX63.out.frozen 8
  have fr9 := HX63.out.frozen 9
  have fr10 := HX63.out.frozen 10
  go_wp2_with fail
  have bz := put11 HX63.out (.int .u8 ac.tag) (.int .i64 ac.most) (.int .i64 ac.seg) (.int .i64 ac.least) (.int .i64 ac.den) (.int .i64 ac.leafLow) (.int .i64 ac.rootLow) (.int .i64 ac.rootHigh) (.int .i64 ac.leafHigh) (.slice B2 M2 k2) (.int .u64 an)
  have z0 := bz.cell 0
  have z1 := bz.cell 1
  have z2 := bz.cell 2
  have z3 := bz.cell 3
  have z4 := bz.cell 4
  have z5 := bz.cell 5
  have z6 := bz.cell 6
  have z7 := bz.cell 7
  have z8 := bz.cell 8
  have z9 := bz.cell 9
  have z10 := bz.cell 10
  simp only [List.getElem?_toArray, List.getElem?_cons_zero, List.getElem?_cons_succ] at z0 z1 z2 z3 z4 z5 z6 z7 z8 z9 z10
  refine bodyPost_ret (v := .tuple #[.agg #[.int .u8 ac.tag, .int .i64 ac.most, .int .i64 ac.seg, .int .i64 ac.least, .int .i64 ac.den, .int .i64 ac.leafLow, .int .i64 ac.rootLow, .int .i64 ac.rootHigh, .int .i64 ac.leafHigh, .slice B2 M2 k2, .int .u64 an], .int .i64 ((P.length : Int) - (M.length : Int)), .int .i64 0]) (by simp [results, Tryz.results8, go_sem, z0, z1, z2, z3, z4, z5, z6, z7, z8, z9, z10]) rfl ?_
  rw [HZ.out.1, HZ.out.2.1, HZ.out.2.2.1, HZ.out.2.2.2, ← HZ1.out, ← HZ2.out, ← HZ3.out]
  exact ⟨B2, k2, R2, by rw [HM2.out], HL2.out, HY67.out.set11 HX63.out (by decide) (by decide) _ _ _ _ _ _ _ _ _ _ _, below11 HF59.out (by omega) _ _ _ _ _ _ _ _ _ _ _⟩
end Go.Proofs.YtolclahkfmplfaaGreatDoor
