/- Contracts of the references: places, ranks, runs that are laid, and whether entries are the same. -/
import Derived.Test.YtokomclcgegfkaaDoorWey
import Derived.Test.YtokomclcgegfkaaDoorEz
import Derived.Deep.RegionHeld3
import Derived.Deep.AppendLies
import Derived.Deep.RegionLaw
namespace Go.Proofs.YtokomclcgegfkaaDoor
open Go Go.RowKit
set_option maxRecDepth 100000

/-- the answer is a slice of the call's own with these cells -/
def GivesOwn (e : TypeId) (s n : Nat) (xs : List Value) (w : World) (r : Ending) (w' : World) : Prop :=
  ∃ A c, r = .returned (.slice A n c) ∧ w'.ownsRow w.heap.size e s (.slice A n c) n xs ∧ Below w.heap.size w w'

set_option maxHeartbeats 1000000 in
theorem refPlaces_any : ∀ (m n a : Nat) (N Z : Int) (w : World), N = n → Z = a → n ≤ 65536 → a ≤ 200000 → n - a ≤ m →
    Calls Tryd.prog 71 #[.int .i64 N, .int .i64 Z] w (GivesOwn 3 1 (inord n a).length ((inord n a).map natV) w) := by
  intro m
  induction m with
  | zero =>
    rintro n a N Z w rfl rfl hn ha hm
    have hlt : ¬ a < n := by omega
    go_enter Tryd.func71, Tryd.ntmps71
    go_wp2_with fail
    go_ret
    rw [inord_out hlt]
    exact ⟨none, 0, rfl, World.ownsRow_nil _ _ _ _, Below.refl _ _⟩
  | succ m ih =>
    rintro n a N Z w rfl rfl hn ha hm
    by_cases hlt : a < n
    · obtain ⟨i0, hi, hz0, hz1, hz2⟩ := info_parts int_info
      have IH := Lib.hid ih
      clear ih
      have l1 := inord_le n (2 * a + 1)
      have l2 := inord_le n (2 * a + 2)
      have l3 := inord_le n a
      have Hlen := Lib.hid (show (inord n a).length = (inord n (2 * a + 1)).length + 1 + (inord n (2 * a + 2)).length by rw [inord_in hlt]; simp; omega)
      have l4 : (inord n (2 * a + 1)).length + 1 + (inord n (2 * a + 2)).length ≤ 65536 := by rw [← Hlen.out]; omega
      go_enter Tryd.func71, Tryd.ntmps71
      go_wp2_with fail
      refine (IH.out n (2 * a + 1) _ _ _ rfl (by omega) hn (by omega) (by omega)).mono ?_
      rintro e w1 ⟨A1, c1, rfl, hown1, hb1⟩
      go_wp2_with (at_builtin; refine wpList_append_sl _ rfl (.tmp 13) (.tmp 15) _ rfl w.heap.size 3 i0 _ 1 8 Tryd.underlying81 hi hz0 hz1 hz2 rfl (by omega) (.slice A1 (inord n (2 * a + 1)).length c1) _ _ rfl (hown1.alloc _) _ 1 _ [natV a] rfl ((Blk.new w1 _ _).sl 0 _ (by intro j u hu; simpa [natV] using hu)) (by simp) (by simp [natV, Value.oneCell']) (by unfold maxLen; omega) (by omega) (by have := hb1.size; simp; omega) ?_; intro v2 w2 hown2 hg2)
      have hb2 : Below w.heap.size w w2 := (hb1.alloc hb1.size _).grown hg2 (by have := hb1.size; simp; omega) (fun k hk => (hown1.lt k hk).1)
      refine (IH.out n (2 * a + 2) _ _ _ rfl (by omega) hn (by omega) (by omega)).mono ?_
      rintro e w3 ⟨A3, c3, rfl, hown3, hb3⟩
      have hown2' := own_below hown2 hb3
      have hb23 := bext hb2 hb3
      go_wp2_with (at_builtin; refine wpList_append_sl _ rfl (.tmp 17) (.tmp 22) _ rfl w.heap.size 3 i0 _ 1 8 Tryd.underlying81 hi hz0 hz1 hz2 rfl (by omega) v2 _ _ rfl hown2' _ _ _ ((inord n (2 * a + 2)).map natV) rfl (own_sl hown3) (by simp) (by simp [natV, Value.oneCell']) (by unfold maxLen; omega) (by omega) (by have := hb23.size; omega) ?_; intro v4 w4 hown4 hg4)
      obtain ⟨A4, c4, rfl, _, _⟩ := own_form hown4
      go_ret
      refine ⟨A4, c4, by rw [Hlen.out]; rfl, ?_, hb23.grown hg4 hb23.size (fun k hk => (hown2'.lt k hk).1)⟩
      rw [Hlen.out, inord_in hlt]
      simpa using hown4
    · go_enter Tryd.func71, Tryd.ntmps71
      go_wp2_with fail
      go_ret
      rw [inord_out hlt]
      exact ⟨none, 0, rfl, World.ownsRow_nil _ _ _ _, Below.refl _ _⟩

set_option maxHeartbeats 1000000 in
theorem refRanks_any (n : Nat) (hn : n ≤ 65536) (w : World) :
    Calls Tryd.prog 100 #[.int .i64 (n : Nat)] w fun r w' => r = .returned (.slice (some ⟨w.heap.size, 0, none⟩) n n) ∧
      Blk w' w.heap.size 3 ((ranks n).map natV).toArray ∧ Below w.heap.size w w' := by
  obtain ⟨i0, hi, hz0, hz1, hz2⟩ := info_parts int_info
  have hmk := fun W => run_make_rowN (P := Tryd.prog) 81 3 i0 (.int .i64 0) Tryd.underlying81 hi hz0 n (by rw [hz2]; omega) (by omega) W
  rw [hz1] at hmk
  clear hi hz0 hz1 hz2
  go_enter Tryd.func100, Tryd.ntmps100
  go_wp2_with fail
  refine (refPlaces_any n n 0 _ _ _ rfl rfl hn (by omega) (by omega)).mono ?_
  rintro e w1 ⟨A1, c1, rfl, hown1, hb1⟩
  have hb0 : Blk w1 w.heap.size 3 (madeCells #[Value.int IntKind.i64 0] n) := (Blk.new w _ _).below hb1 (by simp)
  have hlen := Lib.hid (inord_length n)
  have hsl := own_sl hown1
  have hbw : Below w.heap.size w w1 := ((Below.refl _ w).alloc (Nat.le_refl _) _).trans (hb1.mono (by simp))
  have hbase := own_base hown1
  clear hmk hb1 hown1
  go_wp2
  go_loopw [5] (fun i wr => ∃ k : Nat, k ≤ n ∧ i = .int .i64 k ∧ Mod (fun b => b = w.heap.size) w1 wr ∧ ∃ cur, Hid (cur.size = n) ∧ Blk wr w.heap.size 3 cur ∧ Hid (∀ j x, j < k → (inord n 0)[j]? = some x → cur[x]? = some (natV j)))
      (fun i _ => n - (intOf i).toNat)
  case atStart => exact ⟨0, Nat.zero_le _, rfl, Mod.refl _ _, _, by show _ = n; simp [madeCells], hb0, fun j x h => by omega⟩
  case round =>
    obtain ⟨k, hk, rfl, hm, cur, hcs, hcur, hc⟩ := hrel
    have hslk : Sl wr A1 ((inord n 0).map natV) := hsl.mod hm (fun a ha => by have := hbase a ha; simp at this; omega)
    by_cases hlt : k < n
    · have hlt' : k < (inord n 0).length := by rw [hlen.out]; exact hlt
      obtain ⟨b, off, rfl, hbl, hck⟩ := hslk.one k hlt'
      obtain ⟨x, hx⟩ : ∃ x, (inord n 0)[k]'hlt' = x := ⟨_, rfl⟩
      rw [hx] at hck
      have hxn : x < n := hx ▸ inord_lt (List.getElem_mem hlt')
      obtain ⟨vx, hcx⟩ : ∃ vx, wr.cell? ⟨w.heap.size, x, none⟩ = some vx := ⟨_, (hcur.cell x).trans (Array.getElem?_eq_getElem (show x < cur.size by rw [hcs.out]; exact hxn))⟩
      have hfx : wr.frozen? ⟨w.heap.size, x, none⟩ = false := hcur.frozen x
      have hck' : wr.cell? ⟨b, off + k, none⟩ = some (.int .i64 (x : Nat)) := hck
      have hxi : (0 : Int) ≤ (x : Int) := by omega
      have hxi2 : (x : Int) < (n : Int) := by omega
      have hi1 : (k : Int) < ((inord n 0).length : Int) := by omega
      have HX := Lib.hid (show (inord n 0)[k]? = some x by rw [List.getElem?_eq_getElem hlt', hx])
      clear hck hx hslk hsl hb0
      go_wp2
      go_roundw
      case rel =>
        refine ⟨k + 1, by omega, by go_num, hm.setCell (p := ⟨w.heap.size, x, none⟩) rfl _, _, ?_, hcur.set_ x _, ?_⟩
        · show _ = n; simpa using hcs.out
        · intro j y hj hy
          have hcs := hcs.out
          by_cases hjk : j = k
          · subst hjk
            rw [HX.out] at hy
            obtain rfl := Option.some.inj hy
            simp [hcs, hxn, natV]
          · have hy' := hc.out j y (by omega) hy
            have hne : x ≠ y := by
              intro e
              subst e
              have h1 := List.getElem?_eq_some_iff.1 hy
              have h2 := List.getElem?_eq_some_iff.1 HX.out
              have e1 := idx_inord h1.1
              have e2 := idx_inord h2.1
              rw [h1.2] at e1
              rw [h2.2] at e2
              exact hjk (e1.symm.trans e2)
            rw [Array.getElem?_setIfInBounds_ne hne]
            exact hy'
      case measure => simp [intOf]; omega
    · have hge : (inord n 0).length ≤ k := by rw [hlen.out]; omega
      have hkn := Lib.hid (show k = n by omega)
      go_wp2
      go_ret
      have hcur' : cur = ((ranks n).map natV).toArray := by
        have hcs := hcs.out
        refine Array.ext (by simp [ranks_length, hcs]) fun i h1 h2 => ?_
        have hi : i < n := by omega
        have h := hc.out _ i (by rw [hkn.out]; exact ranks_lt hi) (by rw [List.getElem?_eq_getElem (by rw [inord_length]; exact ranks_lt hi), inord_idx hi])
        rw [Array.getElem?_eq_getElem h1] at h
        simp [Option.some.inj h, ranks_get hi]
      refine ⟨rfl, by rw [← hcur']; exact hcur, hbw.trans (hm.below hbw.size (by intro k h; omega))⟩

theorem ent_info : (Tryd.prog.info? 29).map (fun i => (i.zero, i.size, i.bytes)) = some (some (.agg #[.int .i64 0, .int .i64 0, .bool false]), 3, 24) := by kernel_rfl

def entAt (l : List Ent) (i : Nat) : Ent := l.getD i ⟨0, 0, false⟩
theorem entAt_get {l : List Ent} {i : Nat} (h : i < l.length) : entAt l i = l[i] := by simp [entAt, List.getD, h]
/-- the entries, place by place -/
def laid (l : List Ent) : List Ent := (ranks l.length).map (entAt l)
theorem laid_length (l : List Ent) : (laid l).length = l.length := by simp [laid, ranks_length]

set_option maxRecDepth 100000 in
set_option maxHeartbeats 3200000 in
theorem refLaid_any (A : Option Addr) (l : List Ent) (c : Nat) (w : World) (hA : Sl w A (l.flatMap Ent.cells)) (hn : l.length ≤ 65536) :
    Calls Tryd.prog 85 #[.slice A l.length c] w fun r w' => ∃ A' c', r = .returned (.agg #[.slice A' l.length c']) ∧
      w'.ownsRow w.heap.size 29 3 (.slice A' l.length c') l.length ((laid l).flatMap Ent.cells) ∧ Below w.heap.size w w' := by
  obtain ⟨i0, hi, hz0, hz1, hz2⟩ := info_parts ent_info
  go_enter Tryd.func85, Tryd.ntmps85
  go_wp2_with fail
  refine (refRanks_any l.length hn _).mono ?_
  rintro e w1 ⟨rfl, hr1, hb1⟩
  simp only [World.size_alloc] at hr1 hb1
  have hx1 : Blk w1 (w.heap.size + 1) 24 #[.slice none 0 0] := by
    have := Blk.new (w.alloc (Obj.cells #[Value.slice none 0 0] 24)) 24 #[Value.slice none 0 0]
    rw [World.size_alloc] at this
    exact this.below hb1 (by omega)
  have hx0 : Blk w1 w.heap.size 24 #[.slice none 0 0] := by
    exact ((Blk.new w _ _).alloc _).below hb1 (by omega)
  have hbw : Below w.heap.size w w1 := (((Below.refl _ w).alloc (Nat.le_refl _) _).alloc (by simp) _).trans (hb1.mono (by omega))
  have hs1 : w.heap.size + 1 + 1 < w1.heap.size := hr1.lt
  have hA1 : Sl w1 A (l.flatMap Ent.cells) := hA.below hbw
  clear hb1
  go_wp2
  go_loopw [5] (fun i wr => ∃ k : Nat, k ≤ l.length ∧ i = .int .i64 k ∧ Mod (fun b => b = w.heap.size + 1 ∨ w1.heap.size ≤ b) w1 wr ∧
      ∃ A' c', Blk wr (w.heap.size + 1) 24 #[.slice A' k c'] ∧ wr.ownsRow w1.heap.size 29 3 (.slice A' k c') k (((laid l).take k).flatMap Ent.cells))
      (fun i _ => l.length - (intOf i).toNat)
  case atStart => exact ⟨0, Nat.zero_le _, rfl, Mod.refl _ _, none, 0, hx1, World.ownsRow_nil _ _ _ _⟩
  case round =>
    obtain ⟨k, hk, rfl, hm, A', c', hbx, hown⟩ := hrel
    by_cases hlt : k < l.length
    · have hb : Below w.heap.size w wr := hbw.trans (hm.below hbw.size (by intro k h; omega))
      have hr2 : Blk wr (w.heap.size + 1 + 1) 3 ((ranks l.length).map natV).toArray := hr1.mod hm (by omega)
      have hrl : k < (ranks l.length).length := by rw [ranks_length]; exact hlt
      obtain ⟨x, hx⟩ : ∃ x, (ranks l.length)[k]'hrl = x := ⟨_, rfl⟩
      have hxn : x < l.length := by rw [← hx, ranks_get hlt]; exact ranks_lt hlt
      have cr : wr.cell? ⟨w.heap.size + 1 + 1, k, none⟩ = some (.int .i64 (x : Nat)) := by
        rw [hr2.cell]; simp [hrl, hx, natV]
      obtain ⟨b, off, rfl, hbl, c1, c2, c3⟩ := hA.entB hb x hxn
      have cb : wr.cell? ⟨w.heap.size + 1, 0, none⟩ = some (.slice A' k c') := hbx.cell 0
      have fb : wr.frozen? ⟨w.heap.size + 1, 0, none⟩ = false := hbx.frozen 0
      have hxi : (0 : Int) ≤ (x : Int) := by omega
      have hxi2 : (x : Int) < (l.length : Int) := by omega
      have hki : (0 : Int) ≤ (k : Int) := by omega
      have hki2 : (k : Int) < (l.length : Int) := by omega
      have HX := Lib.hid hx
      have hsz := hm.size
      have hbl2 : b < w1.heap.size := by omega
      have hnb : ∀ b', b' < w1.heap.size → some b' ≠ (Value.slice A' k c').ownBlock := fun b' hb' e => by have := (hown.lt _ e.symm).1; omega
      clear hx hA1 hx1 hx0 hbl
      go_wp2_with fail
      have hal : ∀ o, (wr.alloc o).cell? ⟨w.heap.size + 1, 0, none⟩ = some (.slice A' k c') := fun o => alloc_cell cb o
      go_region_law (
        (refine step_append_sl _ (by rfl) _ _ _ (by rfl) w1.heap.size 29 i0 _ 3 24 Tryd.underlying22 hi hz0 hz1 hz2 rfl (by omega) (.slice A' k c') k _ (by rfl) ((hown.alloc _).drew) _ 1 _ (l[x]'hxn).cells (by rfl) ((Blk.new wr _ _).sl 0 _ (by intro j u hu; simpa [Ent.cells] using hu)) (by rfl) (by simp [Ent.cells, Value.oneCell']) (by unfold maxLen; omega) (by omega) (by simp; omega) ?_; intro v2 w2 hown2 hg2; obtain ⟨A2, q2, rfl, hle2, hmx2⟩ := own_form hown2; have s1 := grown_cell hg2 (alloc_cell cb _) (hnb _ (by dsimp only; omega)); have s2 := grown_cell hg2 (alloc_cell cr _) (hnb _ (by dsimp only; omega)); have s3 := grown_cell hg2 (alloc_cell c1 _) (hnb b hbl2); have s4 := grown_cell hg2 (alloc_cell c2 _) (hnb b hbl2); have s5 := grown_cell hg2 (alloc_cell c3 _) (hnb b hbl2); have s6 := grown_frozen hg2 (by simp; omega) (alloc_frozen (by dsimp only; omega) fb _) (hnb _ (by dsimp only; omega))))
      all_goals
        go_wp2
        have hm2 : Mod (fun b => b = w.heap.size + 1 ∨ w1.heap.size ≤ b) w1 w2 := ((hm.alloc _).drew).grown hg2 (fun k hk => .inl (.inr (hown.lt k hk).1))
        have hbx2 : Blk w2 (w.heap.size + 1) 24 #[.slice A' k c'] := (hbx.alloc _).of (hg2.block _ (by simp; omega) (hnb _ (by omega)))
        have hlk : (laid l)[k]'(by rw [laid_length]; exact hlt) = l[x]'hxn := by simp [laid, HX.out, entAt_get hxn]
        have hlt' : k < (laid l).length := by rw [laid_length]; exact hlt
        go_roundw
        case rel =>
          refine ⟨k + 1, by omega, by go_num, hm2.setCell (p := ⟨w.heap.size + 1, 0, none⟩) (.inl rfl) _, A2, q2, hbx2.set_ 0 _, ?_⟩
          rw [List.take_succ_eq_append_getElem hlt', List.flatMap_append, hlk]
          refine own_far (by simpa using hown2) ?_ _
          intro e
          have := (hown2.lt _ e).1
          dsimp only at this
          omega
        case measure => simp [intOf]; omega
    · have cb : wr.cell? ⟨w.heap.size + 1, 0, none⟩ = some (.slice A' k c') := hbx.cell 0
      have hb0 : Blk wr w.heap.size 24 #[.slice none 0 0] := hx0.mod hm (by omega)
      have c0 : wr.cell? ⟨w.heap.size, 0, none⟩ = some (.slice none 0 0) := hb0.cell 0
      have f0 : wr.frozen? ⟨w.heap.size, 0, none⟩ = false := hb0.frozen 0
      have hkn := Lib.hid (show k = l.length by omega)
      have hb : Below w.heap.size w wr := hbw.trans (hm.below hbw.size (by intro k h; omega))
      go_wp2
      refine bodyPost_ret (v := .agg #[.slice A' k c']) (by simp [results, Tryd.results85, go_sem, c0]) rfl ⟨A', c', by rw [hkn.out], ?_, hb.setCell (p := ⟨w.heap.size, 0, none⟩) (Nat.le_refl _) _⟩
      have hown' := own_mono (B' := w.heap.size) hown hbw.size
      rw [List.take_of_length_le (by rw [laid_length]; omega), hkn.out] at hown'
      refine own_far hown' ?_ _
      intro e
      rw [hkn.out] at hown
      have := (hown.lt _ e).1
      dsimp only at this
      omega

set_option maxHeartbeats 1000000 in
theorem refRising_any (A : Option Addr) (l : List Ent) (c : Nat) (w : World) (hA : Sl w A (l.flatMap Ent.cells)) (hl : l.length ≤ 4611686018427387903) :
    Calls Tryd.prog 74 #[.slice A l.length c] w fun r w' => r = .returned (.bool (rises (l.map Ent.key))) ∧ Below w.heap.size w w' := by
  go_enter Tryd.func74, Tryd.ntmps74
  go_wp2
  go_loopw [3] (fun i wr => ∃ k : Nat, 1 ≤ k ∧ i = .int .i64 k ∧ Below w.heap.size w wr ∧ Hid (RiseTo (l.map Ent.key) k)) (fun i _ => l.length - (intOf i).toNat)
  case atStart => exact ⟨1, Nat.le_refl _, rfl, Below.refl _ _, RiseTo.start _⟩
  case round =>
    obtain ⟨k, hk, rfl, hb, hn⟩ := hrel
    by_cases hlt : k < l.length
    · obtain ⟨b, off, rfl, hbl, c1, c2, c3⟩ := hA.entB hb k hlt
      obtain ⟨b', off', e, _, d1, d2, d3⟩ := hA.entB hb (k - 1) (by omega)
      simp only [Option.some.injEq, Addr.mk.injEq] at e
      obtain ⟨rfl, rfl, _⟩ := e
      have i0 : (0 : Int) ≤ (k : Int) := by omega
      have i1 : (k : Int) < (l.length : Int) := by omega
      have i2 : (0 : Int) ≤ (k : Int) - 1 := by omega
      have i3 : (k : Int) - 1 < (l.length : Int) := by omega
      clear c2 c3 d2 d3 hA
      go_wp2
      go_quiet (fail)
      go_wp2
      · have hx : (l[k]'hlt).key ≤ (l[k - 1]'(by omega)).key := by assumption
        go_ret
        refine ⟨?_, bdrew hb _⟩
        rw [RiseTo.no hk (by simpa using hlt) (by simpa using hx)]
        rfl
      · have hx : (l[k - 1]'(by omega)).key < (l[k]'hlt).key := by assumption
        go_roundw
        case rel => exact ⟨k + 1, by omega, by go_num, bdrew hb _, hn.out.step hk (by simpa using hlt) (by simpa using hx)⟩
        case measure => simp [intOf]; omega
    · go_wp2
      go_ret
      refine ⟨?_, hb⟩
      rw [hn.out.all (by simp; omega)]
      rfl

set_option maxHeartbeats 1000000 in
theorem refFair_any (A : Option Addr) (l : List Ent) (c : Nat) (w : World) (hA : Sl w A (l.flatMap Ent.cells)) (hl : l.length ≤ 4611686018427387903) :
    Calls Tryd.prog 73 #[.slice A l.length c] w fun r w' => r = .returned (.bool !(l.any badEnt)) ∧ w = w' := by
  go_enter Tryd.func73, Tryd.ntmps73
  go_wp2
  go_loop [3] (fun i => ∃ k : Nat, k ≤ l.length ∧ i = .int .i64 k ∧ Hid ((l.take k).any badEnt = false)) (fun i => l.length - (intOf i).toNat)
  case atStart => exact ⟨0, Nat.zero_le _, rfl, rfl⟩
  case round =>
    obtain ⟨k, hk, rfl, hn⟩ := hrel
    by_cases hlt : k < l.length
    · obtain ⟨b, off, rfl, hbl, c1, c2, c3⟩ := hA.ent k hlt
      have i0 : (0 : Int) ≤ (k : Int) := by omega
      have i1 : (k : Int) < (l.length : Int) := by omega
      obtain ⟨e, he⟩ : ∃ e, l[k]'hlt = e := ⟨_, rfl⟩
      have HE := Lib.hid he
      rw [he] at c1 c2 c3
      clear he hA c1
      obtain ⟨ek, ev, ed⟩ := e
      cases ed
      · dsimp only at c2 c3
        go_wp2
        go_round
        case rel => exact ⟨k + 1, by omega, by go_num, by show _ = false; rw [List.take_succ_eq_append_getElem hlt, List.any_append, hn.out, HE.out]; rfl⟩
        case measure => simp [intOf]; omega
      · dsimp only at c2 c3
        by_cases hv : ev = 0
        · have hv1 : (ev != 0) = false := by simp [hv]
          clear hv
          go_wp2
          go_round
          case rel => exact ⟨k + 1, by omega, by go_num, by show _ = false; rw [List.take_succ_eq_append_getElem hlt, List.any_append, hn.out, HE.out]; simp [badEnt, hv1]⟩
          case measure => simp [intOf]; omega
        · have hv1 : (ev != 0) = true := by simp [hv]
          clear hv
          go_wp2
          go_ret
          refine ⟨?_, rfl⟩
          rw [List.any_eq_true.2 ⟨_, List.getElem_mem hlt, by rw [HE.out]; simp [badEnt, hv1]⟩]
          rfl
    · go_wp2
      go_ret
      refine ⟨?_, rfl⟩
      have := hn.out
      rw [List.take_of_length_le (by omega)] at this
      rw [this]
      rfl

set_option maxRecDepth 100000 in
set_option maxHeartbeats 1000000 in
theorem sameEntries_any (A B : Option Addr) (l m : List Ent) (c d : Nat) (w : World) (hA : Sl w A (l.flatMap Ent.cells)) (hB : Sl w B (m.flatMap Ent.cells)) (_hl : l.length ≤ 4611686018427387903) (hm : m.length ≤ 4611686018427387903) :
    Calls Tryd.prog 22 #[.slice A l.length c, .slice B m.length d] w fun r w' => r = .returned (.bool (decide (l = m))) ∧ Below w.heap.size w w' := by
  by_cases hlen : l.length = m.length
  · have hz : ((l.length : Int) != (m.length : Int)) = false := by simp [hlen]
    have hz2 : (l.length : Int) ≤ (m.length : Int) := by omega
    have HL := Lib.hid hlen
    clear hlen
    go_enter Tryd.func22, Tryd.ntmps22
    go_wp2
    go_loopw [5] (fun i wr => ∃ k : Nat, k ≤ l.length ∧ i = .int .i64 k ∧ Below w.heap.size w wr ∧ Hid (l.take k = m.take k)) (fun i _ => l.length - (intOf i).toNat)
    case atStart => exact ⟨0, Nat.zero_le _, rfl, Below.refl _ _, rfl⟩
    case round =>
      obtain ⟨k, hk, rfl, hb, hn⟩ := hrel
      by_cases hlt : k < l.length
      · have hlt2 : k < m.length := by omega
        obtain ⟨b, off, rfl, hbl, c1, c2, c3⟩ := hA.entB hb k hlt
        obtain ⟨b', off', rfl, hbl', d1, d2, d3⟩ := hB.entB hb k hlt2
        have i0 : (0 : Int) ≤ (k : Int) := by omega
        have i1 : (k : Int) < (l.length : Int) := by omega
        have i2 : (k : Int) < (m.length : Int) := by omega
        clear hA hB
        have hne := fun w => run_neq_ent (l[k]'hlt) (m[k]'hlt2) w
        have hgu := ent_guard
        go_wp2
        go_quiet (fail)
        clear hne hgu
        go_wp2
        · have hx : neE (l[k]'hlt) (m[k]'hlt2) = true := by assumption
          go_ret
          refine ⟨ret_bool ?_, bdrew hb _⟩
          symm
          rw [decide_eq_false_iff_not]
          rintro rfl
          simp [neE] at hx
        · have hx : neE (l[k]'hlt) (m[k]'hlt2) = false := by assumption
          go_roundw
          case rel =>
            refine ⟨k + 1, by omega, by go_num, bdrew hb _, ?_⟩
            show _ = _
            rw [List.take_succ_eq_append_getElem hlt, List.take_succ_eq_append_getElem hlt2, hn.out]
            simp [neE] at hx
            rw [hx]
          case measure => simp [intOf]; omega
      · go_wp2
        go_ret
        refine ⟨ret_bool ?_, hb⟩
        have := hn.out
        rw [List.take_of_length_le (by omega), List.take_of_length_le (by have := HL.out; omega)] at this
        rw [this, decide_eq_true rfl]
  · have hz : ((l.length : Int) != (m.length : Int)) = true := by simp; omega
    have HL := Lib.hid hlen
    clear hlen
    go_enter Tryd.func22, Tryd.ntmps22
    go_wp2
    go_ret
    refine ⟨ret_bool ?_, Below.refl _ _⟩
    symm
    rw [decide_eq_false_iff_not]
    rintro rfl
    exact HL.out rfl
end Go.Proofs.YtokomclcgegfkaaDoor
