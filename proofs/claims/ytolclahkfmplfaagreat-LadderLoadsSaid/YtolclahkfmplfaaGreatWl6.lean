/- Gs Hs Fe Rx: texts of the claim, in this order. -/
import Derived.Test.YtolclahkfmplfaaGreatWz11
import Derived.BigRegion
import Derived.Test.YtolclahkfmplfaaGreatWz14
import Derived.Test.YtolclahkfmplfaaGreatWz5
import Derived.Test.YtolclahkfmplfaaGreatWz10
/- Levels that are written over: what stays so that the walk may go on. No walk. -/
namespace Go.Proofs.YtolclahkfmplfaaGreat
open Go Go.RowKit
set_option maxRecDepth 100000
def KeyRow (w : World) (B0 E : Nat) (A : Option Addr) (m : Nat) : Prop := m = 0 ∨ ∃ g cs, A = some ⟨g, 0, none⟩ ∧ (B0 ≤ g ∧ g < E) ∧ Blk w g 68 cs ∧ ∀ q, q < m → ∃ k, cs[q * 3]? = some (.int .i64 k)
structure LvRow (w : World) (B0 E g n : Nat) (cs : Array Value) : Prop where
  blk : Blk w g 58 cs
  base : B0 ≤ g ∧ g < E
  row : ∀ j, j < n → ∃ A m c, cs[j]? = some (.slice A m c) ∧ m ≤ 1000000 ∧ KeyRow w B0 E A m
section
variable {w w' : World} {B0 E g g2 n m i : Nat} {A : Option Addr} {cs : Array Value}
theorem KeyRow.get (h : KeyRow w B0 E A m) {q : Nat} (hq : q < m) : ∃ g k, A = some ⟨g, 0, none⟩ ∧ (B0 ≤ g ∧ g < E) ∧ w.cell? ⟨g, q * 3, none⟩ = some (.int .i64 k) ∧ w.frozen? ⟨g, q * 3, none⟩ = false ∧ ∃ cs, Blk w g 68 cs := by
  rcases h with h0 | ⟨g, cs, h1, h2, h3, h4⟩
  · omega
  · obtain ⟨k, hk⟩ := h4 q hq
    exact ⟨g, k, h1, h2, (h3.cell _).trans hk, h3.frozen _, cs, h3⟩
theorem KeyRow.setKey (h : KeyRow w B0 E A m) (g i : Nat) (k : Int) : KeyRow (w.setCell ⟨g, i, none⟩ (.int .i64 k)) B0 E A m := by
  rcases h with h0 | ⟨g', cs, h1, h2, h4, h5⟩
  · exact .inl h0
  · by_cases e : g' = g
    · subst e
      refine .inr ⟨g', _, h1, h2, h4.set_ i _, fun j hj => ?_⟩
      obtain ⟨k', hk'⟩ := h5 j hj
      rw [Array.getElem?_setIfInBounds]
      by_cases e2 : i = j * 3
      · rw [if_pos e2]
        have hlt : i < cs.size := by rw [e2]; exact (Array.getElem?_eq_some_iff.1 hk').1
        rw [if_pos hlt]
        exact ⟨k, rfl⟩
      · rw [if_neg e2]
        exact ⟨k', hk'⟩
    · exact .inr ⟨g', cs, h1, h2, h4.far (p := ⟨g, i, none⟩) e _, h5⟩
theorem KeyRow.setRow (h : KeyRow w B0 E A m) (hB : Blk w g 58 cs) (i : Nat) (u : Value) : KeyRow (w.setCell ⟨g, i, none⟩ u) B0 E A m := by
  rcases h with h0 | ⟨g', cs', h1, h2, h4, h5⟩
  · exact .inl h0
  · refine .inr ⟨g', cs', h1, h2, h4.far (p := ⟨g, i, none⟩) ?_ _, h5⟩
    intro e
    have e2 : g' = g := e
    subst e2
    have := h4.symm.trans hB
    simp at this
theorem KeyRow.below (h : KeyRow w B0 E A m) (hb : Below w.heap.size w w') : KeyRow w' B0 E A m := by
  rcases h with h0 | ⟨g', cs', h1, h2, h4, h5⟩
  · exact .inl h0
  · exact .inr ⟨g', cs', h1, h2, h4.below hb h4.lt, h5⟩
theorem LvRow.below (h : LvRow w B0 E g n cs) (hb : Below w.heap.size w w') : LvRow w' B0 E g n cs :=
  ⟨h.blk.below hb h.blk.lt, h.base, fun j hj => by obtain ⟨A, m, c, h1, h2, h3⟩ := h.row j hj; exact ⟨A, m, c, h1, h2, h3.below hb⟩⟩
theorem LvRow.setKey {cs2 : Array Value} (h : LvRow w B0 E g n cs) (h2 : Blk w g2 68 cs2) (i : Nat) (k : Int) : LvRow (w.setCell ⟨g2, i, none⟩ (.int .i64 k)) B0 E g n cs := by
  refine ⟨h.blk.far (p := ⟨g2, i, none⟩) ?_ _, h.base, fun j hj => ?_⟩
  · intro e
    have e2 : g = g2 := e
    subst e2
    have := h.blk.symm.trans h2
    simp at this
  · obtain ⟨A, m, c, h1, h3, h4⟩ := h.row j hj
    exact ⟨A, m, c, h1, h3, h4.setKey _ _ _⟩
theorem LvRow.clear (h : LvRow w B0 E g n cs) (i : Nat) : LvRow (w.setCell ⟨g, i, none⟩ (.slice none 0 0)) B0 E g n (cs.setIfInBounds i (.slice none 0 0)) := by
  refine ⟨h.blk.set_ i _, h.base, fun j hj => ?_⟩
  obtain ⟨A, m, c, h1, h3, h4⟩ := h.row j hj
  by_cases e : i = j
  · subst e
    have hlt : i < cs.size := (Array.getElem?_eq_some_iff.1 h1).1
    exact ⟨none, 0, 0, by rw [Array.getElem?_setIfInBounds, if_pos rfl, if_pos hlt], by omega, .inl rfl⟩
  · exact ⟨A, m, c, by rw [Array.getElem?_setIfInBounds, if_neg e]; exact h1, h3, h4.setRow h.blk _ _⟩
theorem OwnRs.lvRow {w0 : World} {B : Option Addr} {c : Nat} {Rs : List Rm} (h0 : OwnRs w0 B0 B c Rs) (h : OwnRs w B0 B c Rs) (hn : 0 < Rs.length) (hm : ∀ r ∈ Rs, r.l.length ≤ 1000000) : ∃ g cs, B = some ⟨g, 0, none⟩ ∧ LvRow w B0 w0.heap.size g Rs.length cs := by
  obtain ⟨g, cur, h1, h2, h3, h4, h5⟩ := h.at hn
  have hg0 := (h0.row.lt g (by rw [h1]; simp [Value.ownBlock])).2
  refine ⟨g, cur, h1, h3, ⟨h2, hg0⟩, fun j hj => ?_⟩
  have h6 := h5 j hj
  rw [h3.cell] at h6
  have hmem := List.getElem_mem hj
  refine ⟨_, _, _, h6, hm _ hmem, ?_⟩
  have h7 := h.ent _ hmem
  have h8 := h0.ent _ hmem
  by_cases hz : (Rs[j]'hj).l.length = 0
  · exact .inl hz
  · obtain ⟨g', cap, cur', hv, hg, hb, hn', _, hs, ht⟩ := own_blk h7 (by omega)
    have hg1 := (h8.lt g' (by rw [hv]; simp [Value.ownBlock])).2
    refine .inr ⟨g', cur', ?_, ⟨hg, hg1⟩, hb, fun q hq => ⟨((Rs[j]'hj).l[q]'hq).key, ?_⟩⟩
    · have := hv
      unfold Rm.v at this
      injection this
    · have hc := flat_get Ent.cells 3 Ent.cells_length (Rs[j]'hj).l q 0 hq (by omega)
      rw [← ht, List.getElem?_take, if_pos (by omega)] at hc
      simpa [Ent.cells] using hc
end
end Go.Proofs.YtolclahkfmplfaaGreat

/- Contract: levels written over (shelfmarklaw26.spoil). -/
namespace Go.Proofs.YtolclahkfmplfaaGreat
open Go Go.RowKit
set_option maxRecDepth 100000
theorem KeyRow.drew {w : World} {B0 E m : Nat} {A : Option Addr} (h : KeyRow w B0 E A m) : KeyRow w.drew B0 E A m := h
theorem LvRow.drew {w : World} {B0 E g n : Nat} {cs : Array Value} (h : LvRow w B0 E g n cs) : LvRow w.drew B0 E g n cs := ⟨h.blk, h.base, h.row⟩
end Go.Proofs.YtolclahkfmplfaaGreat

/- Contract: maps written over (shelfmarklaw27.spoil). -/
namespace Go.Proofs.YtolclahkfmplfaaGreat
open Go Go.RowKit
set_option maxRecDepth 100000
set_option maxHeartbeats 4000000 in
theorem spoil27_any (cf : Cfg) (B : Option Addr) (Rs : List Rm) (c B0 : Nat) (n : Int) (w0 w : World) (hO0 : OwnRs w0 B0 B c Rs) (hO : OwnRs w B0 B c Rs) (_hsw : w0.heap.size ≤ w.heap.size) (hl : Rs.length ≤ 1000000) (hm : ∀ r ∈ Rs, r.l.length ≤ 1000000) :
    Calls Tryz.prog 13 #[.agg (lrow cf B Rs.length c n)] w fun r w' => (∃ v, r = .returned v) ∧ Mod (fun b => B0 ≤ b ∧ b < w0.heap.size) w w' := by
  obtain ⟨W0, hW0⟩ : ∃ W0, w.alloc (.cells #[.int .u8 cf.tag, .int .i64 cf.most, .int .i64 cf.seg, .int .i64 cf.least, .int .i64 cf.den, .int .i64 cf.leafLow, .int .i64 cf.rootLow, .int .i64 cf.rootHigh, .int .i64 cf.leafHigh, .slice B Rs.length c, .int .u64 n] 29) = W0 := ⟨_, rfl⟩
  have hb0 : Below w.heap.size w W0 := by rw [← hW0]; exact (Below.refl _ _).alloc (Nat.le_refl _) _
  have b1 : Blk W0 w.heap.size 29 #[.int .u8 cf.tag, .int .i64 cf.most, .int .i64 cf.seg, .int .i64 cf.least, .int .i64 cf.den, .int .i64 cf.leafLow, .int .i64 cf.rootLow, .int .i64 cf.rootHigh, .int .i64 cf.leafHigh, .slice B Rs.length c, .int .u64 n] := by rw [← hW0]; exact Blk.new _ _ _
  have hbB : Hid (Mod (fun b => B0 ≤ b ∧ b < w0.heap.size) w W0) := Mod.of_ext hb0
  have hlw : w.heap.size ≤ W0.heap.size := hb0.size
  have HW0 := Lib.hid hW0
  have HO := Lib.hid (hO.below hb0)
  have HO0 := Lib.hid hO0
  clear hW0 hO hO0
  by_cases h0 : Rs.length = 0
  · have c10 : W0.cell? ⟨w.heap.size, 9, none⟩ = some (.slice B Rs.length c) := b1.cell 9
    rw [h0] at c10
    rw [h0] at HW0 ⊢
    clear h0 HO b1
    go_enter Tryz.func13, Tryz.ntmps13
    go_wp2
    rw [HW0.out]
    refine wp_loop_rounds 1 ?_
    rw [rounds_succ]
    go_wp2
    first
    | (go_end0; exact ⟨⟨_, rfl⟩, hbB.out⟩)
    | fail "no end"
  · obtain ⟨g, cs, rfl, hrow⟩ := HO0.out.lvRow HO.out (by omega) hm
    obtain ⟨N, hN⟩ : ∃ N, Rs.length = N := ⟨_, rfl⟩
    have HROW := Lib.hid hrow
    rw [hN] at b1 HW0 HROW hl h0 ⊢
    clear hrow hm HO hN
    go_enter Tryz.func13, Tryz.ntmps13
    go_wp2
    rw [HW0.out]
    go_loopw [2] (fun i wr => ∃ (k : Nat) (cs : Array Value), k ≤ N ∧ i = .int .i64 k ∧ Blk wr w.heap.size 29 #[.int .u8 cf.tag, .int .i64 cf.most, .int .i64 cf.seg, .int .i64 cf.least, .int .i64 cf.den, .int .i64 cf.leafLow, .int .i64 cf.rootLow, .int .i64 cf.rootHigh, .int .i64 cf.leafHigh, .slice (some ⟨g, 0, none⟩) N c, .int .u64 n] ∧ Hid (Mod (fun b => B0 ≤ b ∧ b < w0.heap.size) w wr ∧ LvRow wr B0 w0.heap.size g N cs)) (fun i _ => N - (intOf i).toNat)
    case atStart => exact ⟨0, cs, Nat.zero_le _, rfl, b1, hbB.out, HROW.out⟩
    case round =>
      obtain ⟨k, cs, hk, rfl, bX, hH⟩ := hrel
      have c10 : wr.cell? ⟨w.heap.size, 9, none⟩ = some (.slice (some ⟨g, 0, none⟩) N c) := bX.cell 9
      have c11 : wr.cell? ⟨w.heap.size, 10, none⟩ = some (.int .u64 n) := bX.cell 10
      by_cases hlt : k < N
      · obtain ⟨A, m, c2, hc1, hm1, hkr⟩ := hH.out.2.row k hlt
        have hki : (0 : Int) ≤ (k : Int) := by omega
        have hki2 : (k : Int) < (N : Int) := by omega
        have HC1 := Lib.hid hc1
        have HKR := Lib.hid hkr
        have HBX := Lib.hid bX
        clear hc1 hkr bX
        go_wp2_with fail
        clear c10 c11
        go_loopw [3] (fun i wq => ∃ q : Nat, q ≤ m ∧ i = .int .i64 q ∧ Blk wq w.heap.size 29 #[.int .u8 cf.tag, .int .i64 cf.most, .int .i64 cf.seg, .int .i64 cf.least, .int .i64 cf.den, .int .i64 cf.leafLow, .int .i64 cf.rootLow, .int .i64 cf.rootHigh, .int .i64 cf.leafHigh, .slice (some ⟨g, 0, none⟩) N c, .int .u64 n] ∧ Hid (Mod (fun b => B0 ≤ b ∧ b < w0.heap.size) w wq ∧ LvRow wq B0 w0.heap.size g N cs ∧ KeyRow wq B0 w0.heap.size A m)) (fun i _ => m - (intOf i).toNat)
        case atStart => exact ⟨0, Nat.zero_le _, rfl, HBX.out, hH.out.1, hH.out.2, HKR.out⟩
        case round =>
          obtain ⟨q, hq, rfl, bY, hI⟩ := hrel
          have c10 : wr.cell? ⟨w.heap.size, 9, none⟩ = some (.slice (some ⟨g, 0, none⟩) N c) := bY.cell 9
          have c11 : wr.cell? ⟨w.heap.size, 10, none⟩ = some (.int .u64 n) := bY.cell 10
          have c20 : wr.cell? ⟨g, k, none⟩ = some (.slice A m c2) := (hI.out.2.1.blk.cell k).trans HC1.out
          have f20 : wr.frozen? ⟨g, k, none⟩ = false := hI.out.2.1.blk.frozen k
          by_cases hqm : q < m
          · obtain ⟨g2, kk, rfl, hg2, ck, fk, cs2, b2⟩ := hI.out.2.2.get hqm
            have i0 : (0 : Int) ≤ (q : Int) := by omega
            have i1 : (q : Int) < (m : Int) := by omega
            have HB2 := Lib.hid b2
            have HBY := Lib.hid bY
            have hneX : Hid (w.heap.size ≠ g2) := (blk_ne b2 bY (by decide)).symm
            clear b2 bY
            go_upto_region 7 with fail
            go_region
            all_goals
              go_wp2
              go_roundw
              case rel =>
                exact ⟨q + 1, by omega, by go_num, HBY.out.far (p := ⟨g2, q * 3, none⟩) hneX.out _, (hI.out.1.setCell (p := ⟨g2, q * 3, none⟩) hg2 _).drew, (hI.out.2.1.setKey HB2.out (q * 3) _).drew, (hI.out.2.2.setKey g2 (q * 3) _).drew⟩
              case measure => simp [intOf]; omega
          · have hqf : ¬ (q : Int) < (m : Int) := by omega
            have lg := hI.out.2.1.blk.lt
            have HBY := Lib.hid bY
            have hneX : Hid (w.heap.size ≠ g) := (blk_ne hI.out.2.1.blk bY (by decide)).symm
            clear bY
            go_wp2
            go_roundw
            case rel =>
              have hHo := hI.out
              exact ⟨k + 1, cs, by omega, by go_num, HBY.out, hHo.1, hHo.2.1⟩
            case measure => simp [intOf]; omega
      · have hkf : ¬ (k : Int) < (N : Int) := by omega
        go_wp2
        first
        | (go_end0; exact ⟨⟨_, rfl⟩, hH.out.1⟩)
        | fail "no end"
end Go.Proofs.YtolclahkfmplfaaGreat

/- What stays held while the blocks of a set may change. No program in sight. -/
namespace Go.Proofs.YtolclahkfmplfaaGreat
open Go Go.RowKit
/-- P stands in every world that comes of w by changes of new blocks and of those of X -/
def Held (X : Nat → Prop) (P : World → Prop) (w : World) : Prop := ∀ w', Mod X w w' → P w'
section
variable {X Y : Nat → Prop} {P : World → Prop} {w w' : World}
theorem Held.now (h : Held X P w) : P w := h w (Mod.refl _ _)
theorem Held.step (h : Held X P w) (hm : Mod X w w') : Held X P w' := fun w2 h2 => h w2 (hm.trans h2)
theorem Held.ext (h : Held X P w) (hb : Below w.heap.size w w') : Held X P w' := h.step (Mod.of_ext hb)
/-- new blocks may join -/
theorem Held.join (h : Held X P w) (hm : Mod X w w') (hy : ∀ k, k < w.heap.size → Y k → X k) : Held Y P w' := fun w2 h2 => h w2 (by
  refine ⟨h2.os.trans hm.os, h2.tape.trans hm.tape, h2.output.trans hm.output, Nat.le_trans hm.size h2.size, fun k hk hn => ?_⟩
  rw [h2.block k (Nat.lt_of_lt_of_le hk hm.size) (fun hz => hn (hy k hk hz)), hm.block k hk hn])
theorem Held.mono (h : Held X P w) {Q : World → Prop} (hq : ∀ w', P w' → Q w') : Held X Q w := fun w2 h2 => hq _ (h w2 h2)
theorem held_mono {Q : World → Prop} (h : Held X P w) (hq : ∀ w', P w' → Q w') : Held X Q w := h.mono hq
theorem held_blk {g : Nat} {t : TypeId} {cs : Array Value} (h : Blk w g t cs) (hg : ¬ X g) : Held X (fun W => Blk W g t cs) w := fun _ hm => h.mod hm hg
theorem held_own {B s n : Nat} {e : TypeId} {v : Value} {xs : List Value} (h : w.ownsRow B e s v n xs) (hx : ∀ k, B ≤ k → ¬ X k) : Held X (fun W => W.ownsRow B e s v n xs) w := fun _ hm => own_mod h hm hx
/-- what lies beneath a bound that X does not reach -/
theorem held_low {B : Nat} (hP : ∀ w', Below B w w' → P w') (hB : B ≤ w.heap.size) (hx : ∀ k, X k → B ≤ k) : Held X P w := fun _ hm => hP _ (hm.below hB hx)
theorem mod_set {g i : Nat} {u : Value} (hg : X g) : Mod X w (w.setCell ⟨g, i, none⟩ u) := (Mod.refl _ _).setCell hg u
end
end Go.Proofs.YtolclahkfmplfaaGreat
