/- Contracts of bound.Build and of the reference's, and of shelfmarkref23.Same. -/
import Derived.Test.YtokomclcgegfkaaDoorEref
namespace Go.Proofs.YtokomclcgegfkaaDoor
open Go Go.RowKit
set_option maxRecDepth 100000

/-- the error of Build -/
def buildE (l : List Ent) : Int := if l.length > 65536 then 4 else if l.any badEnt then 8 else if rises (l.map Ent.key) then 0 else 130
/-- the entries of the run that it gives -/
def buildL (l : List Ent) : List Ent := if buildE l = 0 then laid l else []

/-- the answer is a run of the call's own with these entries, and an error -/
def GivesRun (t : TypeId) (m : List Ent) (e : Int) (w : World) (r : Ending) (w' : World) : Prop :=
  ∃ A c, r = .returned (.tuple #[.agg #[.slice A m.length c], .int .i64 e]) ∧ w'.ownsRow w.heap.size t 3 (.slice A m.length c) m.length (m.flatMap Ent.cells) ∧ Below w.heap.size w w'

theorem gives_none {t : TypeId} {e : Int} {w w' : World} (h : Below w.heap.size w w') {m : List Ent} (hm : m = []) : GivesRun t m e w (.returned (.tuple #[.agg #[.slice none 0 0], .int .i64 e])) w' := by
  subst hm; exact ⟨none, 0, rfl, World.ownsRow_nil _ _ _ _, h⟩


theorem fairE_bad {l : List Ent} (h1 : ¬ l.length > 65536) (h2 : l.any badEnt = true) : fairE l = 8 := by unfold fairE; rw [if_neg h1, if_pos h2]
theorem fairE_ok {l : List Ent} (h1 : ¬ l.length > 65536) (h2 : l.any badEnt = false) : fairE l = 0 := by unfold fairE; rw [if_neg h1, h2]; rfl

set_option maxRecDepth 100000 in
set_option maxHeartbeats 2000000 in
theorem build_no (A : Option Addr) (l : List Ent) (c : Nat) (w : World) (hA : Sl w A (l.flatMap Ent.cells)) (hl : l.length ≤ 4611686018427387903) (hno : buildE l ≠ 0) :
    Calls Tryd.prog 14 #[.slice A l.length c] w (GivesRun 29 (buildL l) (buildE l) w) := by
  have hL : buildL l = [] := by unfold buildL; rw [if_neg hno]
  have hb0 : Below w.heap.size w (w.alloc (.cells #[.slice none 0 0] 24)) := (Below.refl _ _).alloc (Nat.le_refl _) _
  have hA0 : Sl (w.alloc (.cells #[.slice none 0 0] 24)) A (l.flatMap Ent.cells) := hA.below hb0
  rw [hL]
  by_cases hf : fairE l = 0
  · have h1 : ¬ l.length > 65536 := by intro h; unfold fairE at hf; rw [if_pos h] at hf; cases hf
    have h2 : l.any badEnt = false := by
      cases h : l.any badEnt with
      | false => rfl
      | true => rw [fairE_bad h1 h] at hf; cases hf
    have h3 : rises (l.map Ent.key) = false := by
      cases h : rises (l.map Ent.key) with
      | false => rfl
      | true => exact absurd (show buildE l = 0 by unfold buildE; rw [if_neg h1, h2, h]; rfl) hno
    have he : buildE l = 130 := by unfold buildE; rw [if_neg h1, h2, h3]; rfl
    have H3 := Lib.hid (show riseE l = 130 by unfold riseE; rw [h3]; rfl)
    have HF := Lib.hid hf
    rw [he]
    clear he h2 h3 hf hL hno
    go_enter Tryd.func14, Tryd.ntmps14
    go_wp2_with fail
    refine (fair_any A l c _ hA0 hl).mono ?_
    rw [HF.out]
    rintro e w1 ⟨rfl, hb1⟩
    have hb01 : Below w.heap.size w w1 := bext hb0 hb1
    have hA1 := hA0.below hb1
    go_wp2_with fail
    refine (rising_any A l c _ hA1 hl).mono ?_
    rw [H3.out]
    rintro e w2 ⟨rfl, hb2⟩
    have hb02 : Below w.heap.size w w2 := bext hb01 hb2
    have hx : Blk w2 w.heap.size 24 #[.slice none 0 0] := ((Blk.new w _ _).below hb1 (by simp)).below hb2 (by have := hb1.size; simp at this; omega)
    have hc2 : w2.cell? ⟨w.heap.size, 0, none⟩ = some (.slice none 0 0) := hx.cell 0
    have hf2 : w2.frozen? ⟨w.heap.size, 0, none⟩ = false := hx.frozen 0
    go_wp2
    refine bodyPost_ret (v := .tuple #[.agg #[.slice none 0 0], .int .i64 130]) (by simp [results, Tryd.results14, go_sem, hc2]) rfl (gives_none ?_ rfl)
    exact hb02.setCell (p := ⟨w.heap.size, 0, none⟩) (Nat.le_refl _) _
  · have he : buildE l = fairE l := by
      unfold fairE at hf
      unfold buildE fairE
      by_cases h1 : l.length > 65536
      · rw [if_pos h1, if_pos h1]
      · rw [if_neg h1] at hf
        rw [if_neg h1, if_neg h1]
        cases h : l.any badEnt with
        | true => rfl
        | false => rw [h] at hf; exact absurd rfl hf
    rw [he]
    obtain ⟨q, hq⟩ : ∃ q, fairE l = q := ⟨_, rfl⟩
    rw [hq] at hf ⊢
    have HF := Lib.hid hq
    have hz : (q != 0) = true := by simpa using hf
    clear hq hf he hL hno
    go_enter Tryd.func14, Tryd.ntmps14
    go_wp2_with fail
    refine (fair_any A l c _ hA0 hl).mono ?_
    rw [HF.out]
    rintro e w1 ⟨rfl, hb1⟩
    have hb01 : Below w.heap.size w w1 := bext hb0 hb1
    have hx : Blk w1 w.heap.size 24 #[.slice none 0 0] := (Blk.new w _ _).below hb1 (by simp)
    have hc2 : w1.cell? ⟨w.heap.size, 0, none⟩ = some (.slice none 0 0) := hx.cell 0
    have hf2 : w1.frozen? ⟨w.heap.size, 0, none⟩ = false := hx.frozen 0
    go_wp2
    refine bodyPost_ret (v := .tuple #[.agg #[.slice none 0 0], .int .i64 q]) (by simp [results, Tryd.results14, go_sem, hc2]) rfl (gives_none ?_ rfl)
    exact hb01.setCell (p := ⟨w.heap.size, 0, none⟩) (Nat.le_refl _) _

set_option maxRecDepth 100000 in
set_option maxHeartbeats 2000000 in
theorem build_yes (A : Option Addr) (l : List Ent) (c : Nat) (w : World) (hA : Sl w A (l.flatMap Ent.cells)) (hl : l.length ≤ 4611686018427387903) (hyes : buildE l = 0) :
    Calls Tryd.prog 14 #[.slice A l.length c] w (GivesRun 29 (buildL l) (buildE l) w) := by
  have hL : buildL l = laid l := by unfold buildL; rw [if_pos hyes]
  have hb0 : Below w.heap.size w (w.alloc (.cells #[.slice none 0 0] 24)) := (Below.refl _ _).alloc (Nat.le_refl _) _
  have hA0 : Sl (w.alloc (.cells #[.slice none 0 0] 24)) A (l.flatMap Ent.cells) := hA.below hb0
  have h1 : ¬ l.length > 65536 := by intro h; unfold buildE at hyes; rw [if_pos h] at hyes; cases hyes
  have h2 : l.any badEnt = false := by
    cases h : l.any badEnt with
    | false => rfl
    | true => unfold buildE at hyes; rw [if_neg h1, h] at hyes; cases hyes
  have h3 : rises (l.map Ent.key) = true := by
    cases h : rises (l.map Ent.key) with
    | true => rfl
    | false => unfold buildE at hyes; rw [if_neg h1, h2, h] at hyes; cases hyes
  have HF := Lib.hid (fairE_ok h1 h2)
  have H3 := Lib.hid (show riseE l = 0 by unfold riseE; rw [h3]; rfl)
  rw [hL, hyes]
  clear h2 h3 hL hyes
  obtain ⟨i0, hi, hz0, hz1, hz2⟩ := info_parts ent_info
  have hmk := fun W => run_make_rowN (P := Tryd.prog) 22 29 i0 _ Tryd.underlying22 hi hz0 l.length (by rw [hz2]; omega) (by omega) W
  rw [hz1] at hmk
  clear hi hz0 hz1 hz2
  go_enter Tryd.func14, Tryd.ntmps14
  go_wp2_with fail
  refine (fair_any A l c _ hA0 hl).mono ?_
  rw [HF.out]
  rintro e w1 ⟨rfl, hb1⟩
  have hb01 : Below w.heap.size w w1 := bext hb0 hb1
  have hA1 := hA0.below hb1
  go_wp2_with fail
  refine (rising_any A l c _ hA1 hl).mono ?_
  rw [H3.out]
  rintro e w2 ⟨rfl, hb2⟩
  have hb02 : Below w.heap.size w w2 := bext hb01 hb2
  have hs2 : w.heap.size < w2.heap.size := by have := hb1.size; have := hb2.size; simp at *; omega
  have hx2 : Blk w2 w.heap.size 24 #[.slice none 0 0] := ((Blk.new w _ _).below hb1 (by simp)).below hb2 (by have := hb1.size; simp at this; omega)
  go_wp2_with fail
  refine (order_ok l.length (by omega) _).mono ?_
  rintro e w3 ⟨rfl, ho3, hb3⟩
  simp only [World.size_alloc] at ho3 hb3
  have hb23 : Below w2.heap.size w2 w3 := ((Below.refl _ _).alloc (Nat.le_refl _) _).trans (hb3.mono (by omega))
  have hb03 : Below w.heap.size w w3 := bext hb02 hb23
  have hx3 := hx2.below hb23 hs2
  have hg3 := (Blk.new w2 29 (madeCells (Value.agg #[Value.int IntKind.i64 0, Value.int IntKind.i64 0, Value.bool false]).cells (l.length * 3))).below hb3 (by omega)
  have hA3 : Sl w3 A (l.flatMap Ent.cells) := hA.below hb03
  clear hmk hb3 hb0 hA0 hA1
  go_wp2
  go_loopw [34] (fun i wr => ∃ k : Nat, k ≤ l.length ∧ i = .int .i64 k ∧ Mod (fun b => b = w2.heap.size) w3 wr ∧
      ∃ cur : Array Value, Hid (cur.size = l.length * 3) ∧ Blk wr w2.heap.size 29 cur ∧ Hid (cur.toList.take (k * 3) = ((laid l).take k).flatMap Ent.cells))
      (fun i _ => l.length - (intOf i).toNat)
  case atStart => exact ⟨0, Nat.zero_le _, rfl, Mod.refl _ _, _, by show _ = _; simp [madeCells, Value.cells], hg3, by show _ = _; simp⟩
  case round =>
    obtain ⟨k, hk, rfl, hm, cur, hcs, hcur, hct⟩ := hrel
    by_cases hlt : k < l.length
    · have hb : Below w.heap.size w wr := hb03.trans (hm.below hb03.size (by intro k h; omega))
      have hrl : k < (ranks l.length).length := by rw [ranks_length]; exact hlt
      obtain ⟨x, hx⟩ : ∃ x, (ranks l.length)[k]'hrl = x := ⟨_, rfl⟩
      have hxn : x < l.length := by rw [← hx, ranks_get hlt]; exact ranks_lt hlt
      have ho4 := ho3.mod hm (by omega)
      have cr : wr.cell? ⟨w2.heap.size + 1, k, none⟩ = some (.int .i64 (x : Nat)) := by
        rw [ho4.cell]; simp [hrl, hx]
      obtain ⟨b, off, rfl, hbl, c1, c2, c3⟩ := hA.entB hb x hxn
      have hsz := hcs.out
      obtain ⟨v1, e1⟩ : ∃ v, wr.cell? ⟨w2.heap.size, k * 3, none⟩ = some v := ⟨_, (hcur.cell _).trans (Array.getElem?_eq_getElem (show k * 3 < cur.size by omega))⟩
      obtain ⟨v2, e2⟩ : ∃ v, wr.cell? ⟨w2.heap.size, k * 3 + 1, none⟩ = some v := ⟨_, (hcur.cell _).trans (Array.getElem?_eq_getElem (show k * 3 + 1 < cur.size by omega))⟩
      obtain ⟨v3, e3⟩ : ∃ v, wr.cell? ⟨w2.heap.size, k * 3 + 2, none⟩ = some v := ⟨_, (hcur.cell _).trans (Array.getElem?_eq_getElem (show k * 3 + 2 < cur.size by omega))⟩
      have f1 := hcur.frozen (k * 3)
      have f2 := hcur.frozen (k * 3 + 1)
      have f3 := hcur.frozen (k * 3 + 2)
      have hxi : (0 : Int) ≤ (x : Int) := by omega
      have hxi2 : (x : Int) < (l.length : Int) := by omega
      have hki : (0 : Int) ≤ (k : Int) := by omega
      have hki2 : (k : Int) < (l.length : Int) := by omega
      have hlk : Hid ((laid l)[k]'(by rw [laid_length]; exact hlt) = l[x]'hxn) := by show _ = _; simp [laid, hx, entAt_get hxn]
      have hlt' : k < (laid l).length := by rw [laid_length]; exact hlt
      have n1 := Nat.ne_of_lt hs2
      clear hx hsz
      go_wp2
      go_roundw
      case rel =>
        refine ⟨k + 1, by omega, by go_num, ((hm.setCell (p := ⟨w2.heap.size, k * 3, none⟩) rfl _).setCell (p := ⟨w2.heap.size, k * 3 + 1, none⟩) rfl _).setCell (p := ⟨w2.heap.size, k * 3 + 2, none⟩) rfl _, _, ?_, ((hcur.set_ (k * 3) _).set_ (k * 3 + 1) _).set_ (k * 3 + 2) _, ?_⟩
        · show _ = _; simpa using hcs.out
        · show _ = _
          rw [take_set3 _ _ _ (by rw [hcs.out]; omega) hct.out, List.take_succ_eq_append_getElem hlt', List.flatMap_append, hlk.out]
          simp [Ent.cells]
      case measure => simp [intOf]; omega
    · have hkn := Lib.hid (show k = l.length by omega)
      have hb : Below w.heap.size w wr := hb03.trans (hm.below hb03.size (by intro k h; omega))
      have hx4 := hx3.mod hm (by omega)
      have hc4 : wr.cell? ⟨w.heap.size, 0, none⟩ = some (.slice none 0 0) := hx4.cell 0
      have hf4 : wr.frozen? ⟨w.heap.size, 0, none⟩ = false := hx4.frozen 0
      have HL := Lib.hid (laid_length l)
      go_wp2
      refine bodyPost_ret (v := .tuple #[.agg #[.slice (some ⟨w2.heap.size, 0, none⟩) l.length l.length], .int .i64 0]) (by simp [results, Tryd.results14, go_sem, hc4]) rfl ?_
      refine ⟨some ⟨w2.heap.size, 0, none⟩, l.length, by rw [HL.out], ?_, hb.setCell (p := ⟨w.heap.size, 0, none⟩) (Nat.le_refl _) _⟩
      rw [HL.out]
      have hct' := hct.out
      rw [hkn.out, List.take_of_length_le (l := laid l) (by rw [HL.out]; omega)] at hct'
      refine own_far ⟨by rw [flat_length Ent.cells 3 Ent.cells_length, HL.out], .inr ⟨w2.heap.size, l.length, cur, rfl, by omega, hcur, Nat.le_refl _, by unfold maxLen; omega, hcs.out, hct'⟩⟩ ?_ _
      simp [Value.ownBlock]
      omega

theorem build_any (A : Option Addr) (l : List Ent) (c : Nat) (w : World) (hA : Sl w A (l.flatMap Ent.cells)) (hl : l.length ≤ 4611686018427387903) :
    Calls Tryd.prog 14 #[.slice A l.length c] w (GivesRun 29 (buildL l) (buildE l) w) := by
  by_cases h : buildE l = 0
  · exact build_yes A l c w hA hl h
  · exact build_no A l c w hA hl h

theorem buildL_le (l : List Ent) : (buildL l).length ≤ l.length := by unfold buildL; split <;> simp [laid_length]
theorem build_n (A : Option Addr) (l : List Ent) (n c : Nat) (w : World) (hn : l.length = n) (hA : Sl w A (l.flatMap Ent.cells)) (hl : l.length ≤ 4611686018427387903) :
    Calls Tryd.prog 14 #[.slice A n c] w (GivesRun 29 (buildL l) (buildE l) w) := by subst hn; exact build_any A l c w hA hl
set_option maxRecDepth 100000 in
set_option maxHeartbeats 1000000 in
theorem refSame_any (A B : Option Addr) (l m : List Ent) (c d : Nat) (w : World) (hA : Sl w A (l.flatMap Ent.cells)) (hB : Sl w B (m.flatMap Ent.cells)) (hl : l.length ≤ 4611686018427387903) (hm : m.length ≤ 4611686018427387903) :
    Calls Tryd.prog 31 #[.agg #[.slice A l.length c], .agg #[.slice B m.length d]] w fun r w' => r = .returned (.bool (decide (l = m))) ∧ Below w.heap.size w w' := by
  have hb0 : Below w.heap.size w ((w.alloc (.cells #[.slice A l.length c] 24)).alloc (.cells #[.slice B m.length d] 24)) := ((Below.refl _ _).alloc (Nat.le_refl _) _).alloc (by simp) _
  go_enter Tryd.func31, Tryd.ntmps31
  go_wp2_with (go_at_call 22; refine (sameEntries_any A B l m c d _ (hA.below hb0) (hB.below hb0) hl hm).mono ?_; rintro e w1 ⟨rfl, hb1⟩)
  go_ret
  exact ⟨rfl, bext hb0 hb1⟩

end Go.Proofs.YtokomclcgegfkaaDoor
