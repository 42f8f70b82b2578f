/- Bld Kn Chk: texts of the claim, in this order. -/
import Derived.Test.YtolclahkfmplfaaGreatWz4
import Derived.Test.YtolclahkfmplfaaGreatWz3
/- Contracts of bound.Build and of the reference's, and of shelfmarkref23.Same. -/
namespace Go.Proofs.YtolclahkfmplfaaGreat
open Go Go.RowKit
set_option maxRecDepth 100000

/-- the error of Build -/
def buildE (l : List Ent) : Int := if l.length > 65536 then 4 else if l.any badEnt then 8 else if rises (l.map Ent.key) then 0 else 130
/-- the entries of the run that it gives -/
def buildL (l : List Ent) : List Ent := if buildE l = 0 then laid l else []

/-- the answer is a run of the call's own with these entries, and an error -/
def GivesRun (t : TypeId) (m : List Ent) (e : Int) (w : World) (r : Ending) (w' : World) : Prop :=
  ∃ A c, r = .returned (.tuple #[.agg #[.slice A m.length c], .int .i64 e]) ∧ w'.ownsRow w.heap.size t 3 (.slice A m.length c) m.length (m.flatMap Ent.cells) ∧ Below w.heap.size w w'

theorem gives_none {t : TypeId} {e : Int} {w w' : World} (h : Below w.heap.size w w') {m : List Ent} (hm : m = []) : GivesRun t m e w (.returned (.tuple #[.agg #[.slice none 0 0], .int .i64 e])) w' := by
  subst hm; exact ⟨none, 0, rfl, World.ownsRow_nil _ _ _ _, h⟩


theorem fairE_bad {l : List Ent} (h1 : ¬ l.length > 65536) (h2 : l.any badEnt = true) : fairE l = 8 := by unfold fairE; rw [if_neg h1, if_pos h2]
theorem fairE_ok {l : List Ent} (h1 : ¬ l.length > 65536) (h2 : l.any badEnt = false) : fairE l = 0 := by unfold fairE; rw [if_neg h1, h2]; rfl

set_option maxRecDepth 100000 in
set_option maxHeartbeats 2000000 in
theorem build_no (A : Option Addr) (l : List Ent) (c : Nat) (w : World) (hA : Sl w A (l.flatMap Ent.cells)) (hl : l.length ≤ 4611686018427387903) (hno : buildE l ≠ 0) :
    Calls Tryz.prog 41 #[.slice A l.length c] w (GivesRun 68 (buildL l) (buildE l) w) := by
  have hL : buildL l = [] := by unfold buildL; rw [if_neg hno]
  have hb0 : Below w.heap.size w (w.alloc (.cells #[.slice none 0 0] 58)) := (Below.refl _ _).alloc (Nat.le_refl _) _
  have hA0 : Sl (w.alloc (.cells #[.slice none 0 0] 58)) A (l.flatMap Ent.cells) := hA.below hb0
  rw [hL]
  by_cases hf : fairE l = 0
  · have h1 : ¬ l.length > 65536 := by intro h; unfold fairE at hf; rw [if_pos h] at hf; cases hf
    have h2 : l.any badEnt = false := by
      cases h : l.any badEnt with
      | false => rfl
      | true => rw [fairE_bad h1 h] at hf; cases hf
    have h3 : rises (l.map Ent.key) = false := by
      cases h : rises (l.map Ent.key) with
      | false => rfl
      | true => exact absurd (show buildE l = 0 by unfold buildE; rw [if_neg h1, h2, h]; rfl) hno
    have he : buildE l = 130 := by unfold buildE; rw [if_neg h1, h2, h3]; rfl
    have H3 := Lib.hid (show riseE l = 130 by unfold riseE; rw [h3]; rfl)
    have HF := Lib.hid hf
    rw [he]
    clear he h2 h3 hf hL hno
    go_enter Tryz.func41, Tryz.ntmps41
    go_wp2_with fail
    refine (fair_any A l c _ hA0 hl).mono ?_
    rw [HF.out]
    rintro e w1 ⟨rfl, hb1⟩
    have hb01 : Below w.heap.size w w1 := bext hb0 hb1
    have hA1 := hA0.below hb1
    go_wp2_with fail
    refine (rising_any A l c _ hA1 hl).mono ?_
    rw [H3.out]
    rintro e w2 ⟨rfl, hb2⟩
    have hb02 : Below w.heap.size w w2 := bext hb01 hb2
    have hx : Blk w2 w.heap.size 58 #[.slice none 0 0] := ((Blk.new w _ _).below hb1 (by simp)).below hb2 (by have := hb1.size; simp at this; omega)
    have hc2 : w2.cell? ⟨w.heap.size, 0, none⟩ = some (.slice none 0 0) := hx.cell 0
    have hf2 : w2.frozen? ⟨w.heap.size, 0, none⟩ = false := hx.frozen 0
    go_wp2
    refine bodyPost_ret (v := .tuple #[.agg #[.slice none 0 0], .int .i64 130]) (by simp [results, Tryz.results41, go_sem, hc2]) rfl (gives_none ?_ rfl)
    exact hb02.setCell (p := ⟨w.heap.size, 0, none⟩) (Nat.le_refl _) _
  · have he : buildE l = fairE l := by
      unfold fairE at hf
      unfold buildE fairE
      by_cases h1 : l.length > 65536
      · rw [if_pos h1, if_pos h1]
      · rw [if_neg h1] at hf
        rw [if_neg h1, if_neg h1]
        cases h : l.any badEnt with
        | true => rfl
        | false => rw [h] at hf; exact absurd rfl hf
    rw [he]
    obtain ⟨q, hq⟩ : ∃ q, fairE l = q := ⟨_, rfl⟩
    rw [hq] at hf ⊢
    have HF := Lib.hid hq
    have hz : (q != 0) = true := by simpa using hf
    clear hq hf he hL hno
    go_enter Tryz.func41, Tryz.ntmps41
    go_wp2_with fail
    refine (fair_any A l c _ hA0 hl).mono ?_
    rw [HF.out]
    rintro e w1 ⟨rfl, hb1⟩
    have hb01 : Below w.heap.size w w1 := bext hb0 hb1
    have hx : Blk w1 w.heap.size 58 #[.slice none 0 0] := (Blk.new w _ _).below hb1 (by simp)
    have hc2 : w1.cell? ⟨w.heap.size, 0, none⟩ = some (.slice none 0 0) := hx.cell 0
    have hf2 : w1.frozen? ⟨w.heap.size, 0, none⟩ = false := hx.frozen 0
    go_wp2
    refine bodyPost_ret (v := .tuple #[.agg #[.slice none 0 0], .int .i64 q]) (by simp [results, Tryz.results41, go_sem, hc2]) rfl (gives_none ?_ rfl)
    exact hb01.setCell (p := ⟨w.heap.size, 0, none⟩) (Nat.le_refl _) _

set_option maxRecDepth 100000 in
set_option maxHeartbeats 2000000 in
theorem build_yes (A : Option Addr) (l : List Ent) (c : Nat) (w : World) (hA : Sl w A (l.flatMap Ent.cells)) (hl : l.length ≤ 4611686018427387903) (hyes : buildE l = 0) :
    Calls Tryz.prog 41 #[.slice A l.length c] w (GivesRun 68 (buildL l) (buildE l) w) := by
  have hL : buildL l = laid l := by unfold buildL; rw [if_pos hyes]
  have hb0 : Below w.heap.size w (w.alloc (.cells #[.slice none 0 0] 58)) := (Below.refl _ _).alloc (Nat.le_refl _) _
  have hA0 : Sl (w.alloc (.cells #[.slice none 0 0] 58)) A (l.flatMap Ent.cells) := hA.below hb0
  have h1 : ¬ l.length > 65536 := by intro h; unfold buildE at hyes; rw [if_pos h] at hyes; cases hyes
  have h2 : l.any badEnt = false := by
    cases h : l.any badEnt with
    | false => rfl
    | true => unfold buildE at hyes; rw [if_neg h1, h] at hyes; cases hyes
  have h3 : rises (l.map Ent.key) = true := by
    cases h : rises (l.map Ent.key) with
    | true => rfl
    | false => unfold buildE at hyes; rw [if_neg h1, h2, h] at hyes; cases hyes
  have HF := Lib.hid (fairE_ok h1 h2)
  have H3 := Lib.hid (show riseE l = 0 by unfold riseE; rw [h3]; rfl)
  rw [hL, hyes]
  clear h2 h3 hL hyes
  obtain ⟨i0, hi, hz0, hz1, hz2⟩ := info_parts ent_info
  have hmk := fun W => run_make_rowN (P := Tryz.prog) 56 68 i0 _ Tryz.underlying56 hi hz0 l.length (by rw [hz2]; omega) (by omega) W
  rw [hz1] at hmk
  clear hi hz0 hz1 hz2
  go_enter Tryz.func41, Tryz.ntmps41
  go_wp2_with fail
  refine (fair_any A l c _ hA0 hl).mono ?_
  rw [HF.out]
  rintro e w1 ⟨rfl, hb1⟩
  have hb01 : Below w.heap.size w w1 := bext hb0 hb1
  have hA1 := hA0.below hb1
  go_wp2_with fail
  refine (rising_any A l c _ hA1 hl).mono ?_
  rw [H3.out]
  rintro e w2 ⟨rfl, hb2⟩
  have hb02 : Below w.heap.size w w2 := bext hb01 hb2
  have hs2 : w.heap.size < w2.heap.size := by have := hb1.size; have := hb2.size; simp at *; omega
  have hx2 : Blk w2 w.heap.size 58 #[.slice none 0 0] := ((Blk.new w _ _).below hb1 (by simp)).below hb2 (by have := hb1.size; simp at this; omega)
  go_wp2_with fail
  refine (order_ok l.length (by omega) _).mono ?_
  rintro e w3 ⟨rfl, ho3, hb3⟩
  simp only [World.size_alloc] at ho3 hb3
  have hb23 : Below w2.heap.size w2 w3 := ((Below.refl _ _).alloc (Nat.le_refl _) _).trans (hb3.mono (by omega))
  have hb03 : Below w.heap.size w w3 := bext hb02 hb23
  have hx3 := hx2.below hb23 hs2
  have hg3 := (Blk.new w2 68 (madeCells (Value.agg #[Value.int IntKind.i64 0, Value.int IntKind.i64 0, Value.bool false]).cells (l.length * 3))).below hb3 (by omega)
  have hA3 : Sl w3 A (l.flatMap Ent.cells) := hA.below hb03
  clear hmk hb3 hb0 hA0 hA1
  go_wp2
  go_loopw [34] (fun i wr => ∃ k : Nat, k ≤ l.length ∧ i = .int .i64 k ∧ Mod (fun b => b = w2.heap.size) w3 wr ∧
      ∃ cur : Array Value, Hid (cur.size = l.length * 3) ∧ Blk wr w2.heap.size 68 cur ∧ Hid (cur.toList.take (k * 3) = ((laid l).take k).flatMap Ent.cells))
      (fun i _ => l.length - (intOf i).toNat)
  case atStart => exact ⟨0, Nat.zero_le _, rfl, Mod.refl _ _, _, by show _ = _; simp [madeCells, Value.cells], hg3, by show _ = _; simp⟩
  case round =>
    obtain ⟨k, hk, rfl, hm, cur, hcs, hcur, hct⟩ := hrel
    by_cases hlt : k < l.length
    · have hb : Below w.heap.size w wr := hb03.trans (hm.below hb03.size (by intro k h; omega))
      have hrl : k < (ranks l.length).length := by rw [ranks_length]; exact hlt
      obtain ⟨x, hx⟩ : ∃ x, (ranks l.length)[k]'hrl = x := ⟨_, rfl⟩
      have hxn : x < l.length := by rw [← hx, ranks_get hlt]; exact ranks_lt hlt
      have ho4 := ho3.mod hm (by omega)
      have cr : wr.cell? ⟨w2.heap.size + 1, k, none⟩ = some (.int .i64 (x : Nat)) := by
        rw [ho4.cell]; simp [hrl, hx]
      obtain ⟨b, off, rfl, hbl, c1, c2, c3⟩ := hA.entB hb x hxn
      have hsz := hcs.out
      obtain ⟨v1, e1⟩ : ∃ v, wr.cell? ⟨w2.heap.size, k * 3, none⟩ = some v := ⟨_, (hcur.cell _).trans (Array.getElem?_eq_getElem (show k * 3 < cur.size by omega))⟩
      obtain ⟨v2, e2⟩ : ∃ v, wr.cell? ⟨w2.heap.size, k * 3 + 1, none⟩ = some v := ⟨_, (hcur.cell _).trans (Array.getElem?_eq_getElem (show k * 3 + 1 < cur.size by omega))⟩
      obtain ⟨v3, e3⟩ : ∃ v, wr.cell? ⟨w2.heap.size, k * 3 + 2, none⟩ = some v := ⟨_, (hcur.cell _).trans (Array.getElem?_eq_getElem (show k * 3 + 2 < cur.size by omega))⟩
      have f1 := hcur.frozen (k * 3)
      have f2 := hcur.frozen (k * 3 + 1)
      have f3 := hcur.frozen (k * 3 + 2)
      have hxi : (0 : Int) ≤ (x : Int) := by omega
      have hxi2 : (x : Int) < (l.length : Int) := by omega
      have hki : (0 : Int) ≤ (k : Int) := by omega
      have hki2 : (k : Int) < (l.length : Int) := by omega
      have hlk : Hid ((laid l)[k]'(by rw [laid_length]; exact hlt) = l[x]'hxn) := by show _ = _; simp [laid, hx, entAt_get hxn]
      have hlt' : k < (laid l).length := by rw [laid_length]; exact hlt
      have n1 := Nat.ne_of_lt hs2
      clear hx hsz
      go_wp2
      go_roundw
      case rel =>
        refine ⟨k + 1, by omega, by go_num, ((hm.setCell (p := ⟨w2.heap.size, k * 3, none⟩) rfl _).setCell (p := ⟨w2.heap.size, k * 3 + 1, none⟩) rfl _).setCell (p := ⟨w2.heap.size, k * 3 + 2, none⟩) rfl _, _, ?_, ((hcur.set_ (k * 3) _).set_ (k * 3 + 1) _).set_ (k * 3 + 2) _, ?_⟩
        · show _ = _; simpa using hcs.out
        · show _ = _
          rw [take_set3 _ _ _ (by rw [hcs.out]; omega) hct.out, List.take_succ_eq_append_getElem hlt', List.flatMap_append, hlk.out]
          simp [Ent.cells]
      case measure => simp [intOf]; omega
    · have hkn := Lib.hid (show k = l.length by omega)
      have hb : Below w.heap.size w wr := hb03.trans (hm.below hb03.size (by intro k h; omega))
      have hx4 := hx3.mod hm (by omega)
      have hc4 : wr.cell? ⟨w.heap.size, 0, none⟩ = some (.slice none 0 0) := hx4.cell 0
      have hf4 : wr.frozen? ⟨w.heap.size, 0, none⟩ = false := hx4.frozen 0
      have HL := Lib.hid (laid_length l)
      go_wp2
      refine bodyPost_ret (v := .tuple #[.agg #[.slice (some ⟨w2.heap.size, 0, none⟩) l.length l.length], .int .i64 0]) (by simp [results, Tryz.results41, go_sem, hc4]) rfl ?_
      refine ⟨some ⟨w2.heap.size, 0, none⟩, l.length, by rw [HL.out], ?_, hb.setCell (p := ⟨w.heap.size, 0, none⟩) (Nat.le_refl _) _⟩
      rw [HL.out]
      have hct' := hct.out
      rw [hkn.out, List.take_of_length_le (l := laid l) (by rw [HL.out]; omega)] at hct'
      refine own_far ⟨by rw [flat_length Ent.cells 3 Ent.cells_length, HL.out], .inr ⟨w2.heap.size, l.length, cur, rfl, by omega, hcur, Nat.le_refl _, by unfold maxLen; omega, hcs.out, hct'⟩⟩ ?_ _
      simp [Value.ownBlock]
      omega

theorem build_any (A : Option Addr) (l : List Ent) (c : Nat) (w : World) (hA : Sl w A (l.flatMap Ent.cells)) (hl : l.length ≤ 4611686018427387903) :
    Calls Tryz.prog 41 #[.slice A l.length c] w (GivesRun 68 (buildL l) (buildE l) w) := by
  by_cases h : buildE l = 0
  · exact build_yes A l c w hA hl h
  · exact build_no A l c w hA hl h

theorem buildL_le (l : List Ent) : (buildL l).length ≤ l.length := by unfold buildL; split <;> simp [laid_length]
theorem build_n (A : Option Addr) (l : List Ent) (n c : Nat) (w : World) (hn : l.length = n) (hA : Sl w A (l.flatMap Ent.cells)) (hl : l.length ≤ 4611686018427387903) :
    Calls Tryz.prog 41 #[.slice A n c] w (GivesRun 68 (buildL l) (buildE l) w) := by subst hn; exact build_any A l c w hA hl
set_option maxRecDepth 100000 in
set_option maxHeartbeats 1000000 in
theorem refSame_any (A B : Option Addr) (l m : List Ent) (c d : Nat) (w : World) (hA : Sl w A (l.flatMap Ent.cells)) (hB : Sl w B (m.flatMap Ent.cells)) (hl : l.length ≤ 4611686018427387903) (hm : m.length ≤ 4611686018427387903) :
    Calls Tryz.prog 73 #[.agg #[.slice A l.length c], .agg #[.slice B m.length d]] w fun r w' => r = .returned (.bool (decide (l = m))) ∧ Below w.heap.size w w' := by
  have hb0 : Below w.heap.size w ((w.alloc (.cells #[.slice A l.length c] 58)).alloc (.cells #[.slice B m.length d] 58)) := ((Below.refl _ _).alloc (Nat.le_refl _) _).alloc (by simp) _
  go_enter Tryz.func73, Tryz.ntmps73
  go_wp2_with (go_at_call 99; refine (sameEntries_any A B l m c d _ (hA.below hb0) (hB.below hb0) hl hm).mono ?_; rintro e w1 ⟨rfl, hb1⟩)
  go_ret
  exact ⟨rfl, bext hb0 hb1⟩

end Go.Proofs.YtolclahkfmplfaaGreat

/- Contract of kway.merged: what runs have, in order. -/
namespace Go.Proofs.YtolclahkfmplfaaGreat
open Go Go.RowKit
set_option maxRecDepth 100000

theorem head_info : (Tryz.prog.info? 140).map (fun i => (i.zero, i.size, i.bytes)) = some (some (.agg #[.slice none 0 0, .int .i64 0]), 2, 32) := by kernel_rfl

/-- a run in memory -/
structure Rm where
  l : List Ent
  A : Option Addr
  c : Nat
def Rm.v (r : Rm) : Value := .slice r.A r.l.length r.c
structure Rm.Ok (w : World) (r : Rm) : Prop where
  sl : Sl w r.A (r.l.flatMap Ent.cells)
  lc : r.l.length ≤ r.c
  c : r.c ≤ maxLen
def hd1 (i : Nat) (r : Rm) : List Hm := match r.l with | [] => [] | e :: l => [⟨⟨e, l, i⟩, r.A, r.l.length, r.c⟩]
def headsM : Nat → List Rm → List Hm
  | _, [] => []
  | i, r :: rs => hd1 i r ++ headsM (i + 1) rs
theorem headsM_append : ∀ (rs qs : List Rm) (i : Nat), headsM i (rs ++ qs) = headsM i rs ++ headsM (i + rs.length) qs
  | [], qs, i => rfl
  | r :: rs, qs, i => by rw [List.cons_append, headsM, headsM, headsM_append rs qs (i + 1), List.append_assoc]; congr 3; simp; omega
theorem headsM_map : ∀ (rs : List Rm) (i : Nat), (headsM i rs).map Hm.h = headsE i (rs.map Rm.l)
  | [], i => rfl
  | r :: rs, i => by
    rw [headsM, List.map_append, headsM_map rs (i + 1), List.map_cons]
    unfold hd1
    cases h : r.l with
    | nil => rfl
    | cons e l => rfl
theorem headsM_sum : ∀ (rs : List Rm) (i : Nat), ((headsM i rs).map Hm.n).sum = (rs.map (fun r => r.l.length)).sum
  | [], i => rfl
  | r :: rs, i => by
    rw [headsM, List.map_append, List.sum_append, headsM_sum rs (i + 1), List.map_cons, List.sum_cons]
    congr 1
    unfold hd1
    cases h : r.l with
    | nil => rfl
    | cons e l => simp
theorem headsM_len : ∀ (rs : List Rm) (i : Nat), (headsM i rs).length ≤ rs.length
  | [], i => Nat.le_refl _
  | r :: rs, i => by
    rw [headsM, List.length_append, List.length_cons]
    have := headsM_len rs (i + 1)
    have : (hd1 i r).length ≤ 1 := by unfold hd1; split <;> simp
    omega
theorem headsM_ok {w : World} : ∀ {rs : List Rm} {i : Nat}, (∀ r ∈ rs, r.Ok w) → ∀ m ∈ headsM i rs, m.Ok w
  | [], i, _, m, hm => by simp [headsM] at hm
  | r :: rs, i, h, m, hm => by
    rw [headsM] at hm
    rcases List.mem_append.1 hm with hm | hm
    · have hr := h r (by simp)
      unfold hd1 at hm
      split at hm
      · simp at hm
      · rename_i e l he
        obtain rfl : m = _ := by simpa using hm
        refine ⟨?_, ?_, hr.lc, hr.c⟩
        · have := hr.sl; rw [he] at this; exact this
        · show r.l.length = _
          rw [he]; rfl
    · exact headsM_ok (fun q hq => h q (by simp [hq])) m hm
/-- what of a world tells how much is left -/
def lenAt (w : World) (g i : Nat) : Nat := match w.cell? ⟨g, i * 2, none⟩ with | some (.slice _ n _) => n | _ => 0
def wtAt (w : World) (p : Nat) : Nat := match w.cell? ⟨p, 0, none⟩ with | some (.slice (some a) n _) => ((List.range n).map (lenAt w a.block)).sum | _ => 0
theorem wt_of {w : World} {p g c : Nat} {Hs : List Hm} {F : Value} {t : TypeId} (hp : Blk w p t #[.slice (some ⟨g, 0, none⟩) Hs.length c, F]) (hg : HeadsAt w g Hs) : wtAt w p = (Hs.map Hm.n).sum := by
  have h0 : w.cell? ⟨p, 0, none⟩ = some (.slice (some ⟨g, 0, none⟩) Hs.length c) := hp.cell 0
  unfold wtAt
  rw [h0]
  show ((List.range Hs.length).map (lenAt w g)).sum = _
  congr 1
  refine List.ext_getElem (by simp) fun i h1 h2 => ?_
  rw [List.getElem_map, List.getElem_range, List.getElem_map]
  unfold lenAt
  rw [(hg.cells i (by simpa using h2)).1]

theorem HeadsAt.put0 {w : World} {g : Nat} {m m' : Hm} {Hs : List Hm} (h : HeadsAt w g (m :: Hs)) (ha : m'.h.age = m.h.age) : HeadsAt (w.setCell ⟨g, 0, none⟩ (.slice m'.A m'.n m'.c)) g (m' :: Hs) := by
  obtain ⟨cur, hb, ht, hs⟩ := h
  refine ⟨_, hb.set_ 0 _, ?_, by simpa using hs⟩
  rw [Array.toList_setIfInBounds, List.take_set]
  rw [show (m' :: Hs).length = (m :: Hs).length from rfl, ht]
  simp [Hm.cells, ha]

/-- what stands in memory while the second loop goes on -/
structure Kmid (w0 : World) (p g c S : Nat) (out : List Ent) (Hs : List Hm) (A' : Option Addr) (c' : Nat) (wr : World) : Prop where
  own : wr.ownsRow S 68 3 (.slice A' out.length c') out.length (out.flatMap Ent.cells)
  pile : Blk wr p 144 #[.slice (some ⟨g, 0, none⟩) Hs.length c, lessV]
  heads : HeadsAt wr g Hs
  frame : Below w0.heap.size w0 wr
  size : S ≤ wr.heap.size
/-- and what is so at the head of its round -/
structure Kst (w0 : World) (p g c S T : Nat) (rs : List (List Ent)) (out : List Ent) (Hs : List Hm) (A' : Option Addr) (c' : Nat) (wr : World) : Prop where
  mid : Kmid w0 p g c S out Hs A' c' wr
  heap : HeapFrom (Hs.map Hm.h) 0
  inv : MInv rs out (Hs.map Hm.h)
  ok : ∀ m ∈ Hs, m.Ok w0
  tot : out.length + (Hs.map Hm.n).sum ≤ T
  hc : Hs.length ≤ c
  hl : Hs.length ≤ 1099511627776

section
variable {w0 wr wc W : World} {p g c S T c' q2 : Nat} {rs : List (List Ent)} {out : List Ent} {m m' : Hm} {Hs : List Hm} {A' A2 : Option Addr}
theorem Kmid.own_set (h : Kmid w0 p g c S out Hs A2 q2 wc) (hg : g < S) (v : Value) : (wc.setCell ⟨g, 0, none⟩ v).ownsRow S 68 3 (.slice A2 out.length q2) out.length (out.flatMap Ent.cells) :=
  own_far h.own (fun e => by have := (h.own.lt _ e).1; dsimp only at this; omega) v
theorem own_mod {Sx : Nat → Prop} {w w' : World} {B s n : Nat} {e : TypeId} {v : Value} {xs : List Value} (h : w.ownsRow B e s v n xs) (hm : Mod Sx w w') (hn : ∀ k, B ≤ k → ¬ Sx k) : w'.ownsRow B e s v n xs := by
  refine ⟨h.1, ?_⟩
  rcases h.2 with h2 | ⟨g, cap, cur, hv, hg, hh, r⟩
  · exact .inl h2
  · exact .inr ⟨g, cap, cur, hv, hg, (hm.block g (Array.getElem?_eq_some_iff.1 hh).1 (hn g hg)).trans hh, r⟩
theorem kst_top (hK : Kst w0 p g c S T rs out (m :: Hs) A' c' wr) : ∀ x ∈ Hs.map Hm.h, hle m.h x := by
  intro x hx
  obtain ⟨i, hi, rfl⟩ := List.getElem_of_mem hx
  have := heap_top hK.heap (i + 1) (by simpa using hi)
  simpa using this
theorem kst_len (_hr : ∀ r ∈ rs, RisE r) (_hK : Kst w0 p g c S T rs out (m :: Hs) A' c' wr) : (outOf out m.h.e).length ≤ out.length + 1 := by
  unfold outOf; split <;> simp
theorem kst_pop (hr : ∀ r ∈ rs, RisE r) (hK : Kst w0 p g c S T rs out (m :: Hs) A' c' wr) (hrest : m.h.rest = []) (hK2 : Kmid w0 p g c S (outOf out m.h.e) (m :: Hs) A2 q2 wc) (hpg : p ≠ g) (hpS : p < S) (hgS : g < S) (hg0 : w0.heap.size ≤ g) (hp0 : w0.heap.size ≤ p)
    (hh : m'.h = m.h) (hW : wc.setCell ⟨g, 0, none⟩ (.slice m'.A m'.n m'.c) = W) :
    Blk W p 144 #[.slice (some ⟨g, 0, none⟩) (Hs.length + 1) c, lessV] ∧ HeadsAt W g (m' :: Hs) ∧ (∀ x ∈ (m' :: Hs).drop 1, x.Ok w0) ∧ Below w0.heap.size w0 W ∧ HeapFrom ((m' :: Hs).map Hm.h) 0 ∧
      ∀ r w', Popped p g c (m' :: Hs) W r w' → (∃ v, r = .returned v) ∧ ∃ Hs', Kst w0 p g c S T rs (outOf out m.h.e) Hs' A2 q2 w' ∧ (Hs'.map Hm.n).sum < ((m :: Hs).map Hm.n).sum := by
  have hWb : Below w0.heap.size w0 W := by rw [← hW]; exact hK2.frame.setCell (p := ⟨g, 0, none⟩) hg0 _
  have hWo := hK2.own_set hgS (.slice m'.A m'.n m'.c)
  rw [hW] at hWo
  have hWs : S ≤ W.heap.size := by rw [← hW]; simpa [World.setCell] using hK2.size
  have hmn : 1 ≤ m.n := by have := (hK.ok m (by simp)).n; omega
  refine ⟨?_, ?_, fun x hx => hK.ok x (by simp at hx; simp [hx]), hWb, ?_, ?_⟩
  · rw [← hW]; exact hK2.pile.far (p := ⟨g, 0, none⟩) hpg _
  · rw [← hW]; exact hK2.heads.put0 (by rw [hh])
  · have := hK.heap
    rw [List.map_cons] at this ⊢
    rw [hh]; exact this
  · rintro r w' ⟨hv, Hs', hp', hh', hH', hpb, hm'⟩
    have hp1 : Hs'.Perm Hs := by simpa using hp'
    have hbw : Below w0.heap.size w0 w' := hWb.trans (hm'.below hWb.size (by intro k h; omega))
    refine ⟨hv, Hs', ⟨⟨own_mod hWo hm' (by intro k hk h; omega), ?_, hH', hbw, Nat.le_trans hWs hm'.size⟩, hh', ?_, fun x hx => hK.ok x (by simp [hp1.mem_iff.1 hx]), ?_, ?_, ?_⟩, ?_⟩
    · rw [hp1.length_eq]; simpa using hpb
    · have h1 := hK.inv
      rw [List.map_cons] at h1
      have h2 := h1.step hr (kst_top hK)
      have h3 : nextHd m.h = [] := by unfold nextHd; rw [hrest]
      rw [h3, List.nil_append] at h2
      exact h2.perm (hp1.map Hm.h)
    · have h1 := hK.tot
      have h2 := (hp1.map Hm.n).sum_nat
      have h3 := kst_len hr hK
      simp at h1
      omega
    · have := hK.hc; rw [hp1.length_eq]; simp at this; omega
    · have := hK.hl; rw [hp1.length_eq]; simp at this; omega
    · have h2 := (hp1.map Hm.n).sum_nat
      simp
      omega
theorem kst_down {e2 : Ent} {l2 : List Ent} (hr : ∀ r ∈ rs, RisE r) (hK : Kst w0 p g c S T rs out (m :: Hs) A' c' wr) (hrest : m.h.rest = e2 :: l2) (hK2 : Kmid w0 p g c S (outOf out m.h.e) (m :: Hs) A2 q2 wc) (hpg : p ≠ g) (_hpS : p < S) (hgS : g < S) (hg0 : w0.heap.size ≤ g) (_hp0 : w0.heap.size ≤ p)
    (hh : m'.h = ⟨e2, l2, m.h.age⟩) (hmok : m'.Ok w0) (hmn : m'.n + 1 = m.n) (hW : wc.setCell ⟨g, 0, none⟩ (.slice m'.A m'.n m'.c) = W) :
    Blk W p 144 #[.slice (some ⟨g, 0, none⟩) (Hs.length + 1) c, lessV] ∧ HeadsAt W g (m' :: Hs) ∧ (∀ x ∈ m' :: Hs, x.Ok w0) ∧ Below w0.heap.size w0 W ∧ Sinks ((m' :: Hs).map Hm.h) 0 0 ∧
      ∀ r w', Sunk p g (m' :: Hs) 0 W r w' → (∃ v, r = .returned v) ∧ ∃ Hs', Kst w0 p g c S T rs (outOf out m.h.e) Hs' A2 q2 w' ∧ (Hs'.map Hm.n).sum < ((m :: Hs).map Hm.n).sum := by
  have hWb : Below w0.heap.size w0 W := by rw [← hW]; exact hK2.frame.setCell (p := ⟨g, 0, none⟩) hg0 _
  have hWo := hK2.own_set hgS (.slice m'.A m'.n m'.c)
  rw [hW] at hWo
  have hWs : S ≤ W.heap.size := by rw [← hW]; simpa [World.setCell] using hK2.size
  have hWp : Blk W p 144 #[.slice (some ⟨g, 0, none⟩) (Hs.length + 1) c, lessV] := by rw [← hW]; exact hK2.pile.far (p := ⟨g, 0, none⟩) hpg _
  have hokA : ∀ x ∈ m' :: Hs, x.Ok w0 := by
    intro x hx
    rcases List.mem_cons.1 hx with rfl | hx
    · exact hmok
    · exact hK.ok x (by simp [hx])
  refine ⟨hWp, ?_, hokA, hWb, ?_, ?_⟩
  · rw [← hW]; exact hK2.heads.put0 (by rw [hh])
  · refine Sinks.start ?_
    intro j ci hci hj h1 hcc
    obtain ⟨j, rfl⟩ : ∃ k, j = k + 1 := ⟨j - 1, by omega⟩
    obtain ⟨ci, rfl⟩ : ∃ k, ci = k + 1 := ⟨ci - 1, by omega⟩
    have := hK.heap (j + 1) (ci + 1) (by simpa using hci) hj (by omega) hcc
    simpa using this
  · rintro r w' ⟨hv, Hs', hp', hh', hH', hm'⟩
    have hbw : Below w0.heap.size w0 w' := hWb.trans (hm'.below hWb.size (by intro k h; omega))
    have hsum := (hp'.map Hm.n).sum_nat
    have hlen := hp'.length_eq
    simp at hsum hlen
    refine ⟨hv, Hs', ⟨⟨own_mod hWo hm' (by intro k hk h; omega), by rw [hlen]; exact hWp.mod hm' hpg, hH', hbw, Nat.le_trans hWs hm'.size⟩, hh', ?_, fun x hx => hokA x (hp'.mem_iff.1 hx), ?_, ?_, ?_⟩, ?_⟩
    · have h1 := hK.inv
      rw [List.map_cons] at h1
      have h2 := h1.step hr (kst_top hK)
      have h3 : nextHd m.h = [⟨e2, l2, m.h.age⟩] := by unfold nextHd; rw [hrest]
      rw [h3] at h2
      refine h2.perm ?_
      have := hp'.map Hm.h
      rw [List.map_cons, hh] at this
      exact this
    · have h1 := hK.tot
      have h3 := kst_len hr hK
      simp at h1
      omega
    · have := hK.hc; simp at this; omega
    · have := hK.hl; simp at this; omega
    · simp
      omega
end

set_option maxHeartbeats 2000000 in
theorem merged_any (w : World) (B : Option Addr) (Rs : List Rm) (cb T : Nat) (hB : Sl w B (Rs.map Rm.v)) (hok : ∀ r ∈ Rs, r.Ok w) (hris : ∀ r ∈ Rs, RisE r.l)
    (hRl : Rs.length ≤ 1099511627775) (hT : (Rs.map (fun r => r.l.length)).sum ≤ T) (hT2 : T ≤ 1099511627776) :
    Calls Tryz.prog 69 #[.slice B Rs.length cb] w (GivesOwn 68 3 (allE (Rs.map Rm.l)).length ((allE (Rs.map Rm.l)).flatMap Ent.cells) w) := by
  obtain ⟨th0, hI1⟩ := info_parts head_info
  obtain ⟨te0, hI2⟩ := info_parts ent_info
  have HI1 := Lib.hid hI1
  have HI2 := Lib.hid hI2
  clear hI1 hI2
  have hx0 := Blk.new w 144 #[.slice none 0 0, lessV]
  obtain ⟨W, hW⟩ : ∃ W, w.alloc (.cells #[.slice none 0 0, lessV] 144) = W := ⟨_, rfl⟩
  have hbW : Below w.heap.size w W := by rw [← hW]; exact (Below.refl _ _).alloc (Nat.le_refl _) _
  have hsW : W.heap.size = w.heap.size + 1 := by rw [← hW]; simp
  rw [hW] at hx0
  go_enter Tryz.func69, Tryz.ntmps69
  go_wp2_with fail
  go_step3
  go_wp2
  try rw [hW]
  go_loopw [12] (fun v wr => ∃ (k : Nat) (v1 : Value), k ≤ Rs.length ∧ v = .int .i64 k ∧ Below w.heap.size w wr ∧ W.heap.size ≤ wr.heap.size ∧
      Blk wr w.heap.size 144 #[v1, lessV] ∧ wr.ownsRow W.heap.size 140 2 v1 (headsM 0 (Rs.take k)).length ((headsM 0 (Rs.take k)).flatMap Hm.cells) ∧
      Hid (headsM 0 (Rs.take k) = [] → v1 = .slice none 0 0)) (fun v _ => Rs.length - (intOf v).toNat)
  case atStart => exact ⟨0, _, Nat.zero_le _, rfl, hbW, Nat.le_refl _, hx0, World.ownsRow_nil _ _ _ _, fun _ => rfl⟩
  case round =>
    obtain ⟨k, v1, hk, rfl, hb, hsz, hx, hown, hnil⟩ := hrel
    clear hW hx0
    by_cases hlt : k < Rs.length
    · obtain ⟨b1, o1, rfl, hb1l, cp⟩ := hB.oneB hb k hlt
      obtain ⟨r, hr⟩ : ∃ r, Rs[k]'hlt = r := ⟨_, rfl⟩
      have hrok := hok _ (List.getElem_mem hlt)
      rw [hr] at cp hrok
      have k0 : (0 : Int) ≤ (k : Int) := by omega
      have k1 : (k : Int) < (Rs.length : Int) := by omega
      have htk : headsM 0 (Rs.take (k + 1)) = headsM 0 (Rs.take k) ++ hd1 k r := by
        rw [List.take_succ_eq_append_getElem hlt, headsM_append, hr, Nat.zero_add, List.length_take, Nat.min_eq_left (by omega)]
        simp [headsM]
      obtain ⟨l, A, c⟩ := r
      have HTK := Lib.hid htk
      clear htk hr
      have cp1 : wr.cell? ⟨b1, o1 + k, none⟩ = some (.slice A l.length c) := cp
      clear cp
      cases l with
      | nil =>
        go_wp2_with fail
        go_roundw
        case rel =>
          refine ⟨k + 1, v1, by omega, by go_num, hb, hsz, hx, ?_, ?_⟩
          · rw [HTK.out]; simpa [hd1] using hown
          · rw [HTK.out]; simpa [hd1] using hnil
        case measure => simp [intOf]; omega
      | cons e l =>
        have hne : ∀ q, v1.ownBlock = some q → w.heap.size < q := fun q hq => by have := (hown.lt q hq).1; omega
        have hxl := hx.lt
        have c0 : wr.cell? ⟨w.heap.size, 0, none⟩ = some v1 := hx.cell 0
        have l0 : (0 : Int) < ((l.length : Int) + 1) := by omega
        obtain ⟨n, hn⟩ : ∃ n, n = (headsM 0 (Rs.take k)).length := ⟨_, rfl⟩
        have hn2 : n ≤ k := by rw [hn]; have := headsM_len (Rs.take k) 0; simp at this; omega
        rw [← hn] at hown
        have HN := Lib.hid hn
        have HNE := Lib.hid hne
        have HX := Lib.hid hx
        have HO := Lib.hid hown
        have HBW := Lib.hid hbW
        have ca : (wr.alloc (.cells #[.slice A (l.length + 1) c, .int .i64 (k : Nat)] 140)).cell? ⟨w.heap.size, 0, none⟩ = some v1 := alloc_cell c0 _
        clear hn hne hx hown hbW hnil
        go_wp2_with (at_builtin; refine wpList_append_sl _ rfl (.tmp 24) (.tmp 28) _ rfl W.heap.size 140 th0 _ 2 32 Tryz.underlying142 HI1.out.1 HI1.out.2.1 HI1.out.2.2.1 HI1.out.2.2.2 rfl (by omega) v1 n _ rfl (HO.out.alloc _) _ 1 _ [.slice A (l.length + 1) c, .int .i64 (k : Nat)] rfl (by exact sl_new1 _ _ _) rfl (by simp [Value.oneCell']) (by unfold maxLen; omega) (by omega) (by simp; omega) ?_; intro v2 w2 hown2 hg2; have hx2 : Blk w2 w.heap.size 144 #[v1, lessV] := (HX.out.alloc _).of (hg2.block _ (by simp; omega) (fun e => by have := HNE.out _ e.symm; omega)); have e0 : w2.cell? ⟨w.heap.size, 0, none⟩ = some v1 := hx2.cell 0; have e1 := hx2.frozen 0; have HX2 := Lib.hid hx2; clear hx2; obtain ⟨A2, q2, rfl, hle2, hmx2⟩ := own_form hown2; have HO2 := Lib.hid hown2; clear hown2)
        go_roundw
        case rel =>
          have hgb : Below w.heap.size w w2 := (hb.alloc (by omega) _).grown hg2 (by simp; omega) (fun q hq => by have := HNE.out q hq; omega)
          refine ⟨k + 1, .slice A2 (n + 1) q2, by omega, by go_num, hgb.setCell (p := ⟨w.heap.size, 0, none⟩) (Nat.le_refl _) _, by have := hg2.size; simp at this; simp [World.setCell]; omega, HX2.out.set_ 0 _, ?_, ?_⟩
          · rw [HTK.out, List.length_append, List.flatMap_append, ← HN.out]
            refine own_far (by simpa [hd1, Hm.cells] using HO2.out) ?_ _
            intro e
            have := (HO2.out.lt _ e).1
            dsimp only at this
            omega
          · show _ → _
            intro h
            rw [HTK.out] at h
            simp [hd1] at h
        case measure => simp [intOf]; omega
    · have hkn : k = Rs.length := by omega
      subst hkn
      rw [List.take_of_length_le (Nat.le_refl _)] at hown hnil
      obtain ⟨Hs, hHs⟩ : ∃ Hs, headsM 0 Rs = Hs := ⟨_, rfl⟩
      rw [hHs] at hown hnil
      have hI0 : MInv (Rs.map Rm.l) [] (Hs.map Hm.h) := by rw [← hHs, headsM_map]; exact MInv.start _
      have hHok : ∀ m ∈ Hs, m.Ok w := by rw [← hHs]; exact headsM_ok hok
      have hHsum : (Hs.map Hm.n).sum ≤ T := by rw [← hHs, headsM_sum]; exact hT
      have hHlen : Hs.length ≤ 1099511627776 := by rw [← hHs]; have := headsM_len Rs 0; omega
      have hR : ∀ r ∈ Rs.map Rm.l, RisE r := by intro r hr; obtain ⟨q, hq, rfl⟩ := List.mem_map.1 hr; exact hris q hq
      have HI0 := Lib.hid hI0
      have HOK := Lib.hid hHok
      have HR := Lib.hid hR
      have HXX := Lib.hid hx
      have hxl := hx.lt
      have hbs := Lib.hid hb
      clear hI0 hHok hR hok hris hT hB hHs hbW hx hb
      cases Hs with
      | nil =>
        obtain rfl := hnil.out rfl
        have hall : allE (Rs.map Rm.l) = [] := (HI0.out.done HR.out).symm
        have c0 : wr.cell? ⟨w.heap.size, 0, none⟩ = some (.slice none 0 0) := HXX.out.cell 0
        have HALL := Lib.hid hall
        clear hall hown hHsum hHlen
        go_wp2_with fail
        refine (settle_nil wr w.heap.size _ HXX.out).mono ?_
        rintro e w1 ⟨⟨v, rfl⟩, rfl⟩
        go_wp2
        go_step3
        go_wp2
        go_loopw [2] (fun v wr2 => v = .slice none 0 0 ∧ wr2 = w1) (fun _ _ => 0)
        case atStart => exact ⟨rfl, rfl⟩
        case round =>
          obtain ⟨rfl, rfl⟩ := hrel
          go_wp2
          go_ret
          exact ⟨none, 0, by rw [HALL.out]; rfl, by rw [HALL.out]; exact World.ownsRow_nil _ _ _ _, hbs.out⟩
      | cons m0 Hs0 =>
        obtain ⟨g, cap, cur, rfl, hgB, hgblk, hncap, hcapm, hcurs, hcurt⟩ := own_blk hown (by simp)
        have hHA : HeadsAt wr g (m0 :: Hs0) := ⟨cur, hgblk, hcurt, by rw [hcurs]; exact Nat.mul_le_mul_right _ hncap⟩
        have hpg : w.heap.size ≠ g := by omega
        clear hgblk hcurs hcurt hown
        go_wp2_with fail
        refine (settle_any w wr w.heap.size g cap _ (m0 :: Hs0) rfl hHlen HXX.out hHA hpg HOK.out hbs.out (by omega) (Nat.le_refl _)).mono ?_
        rintro e w1 ⟨⟨v, rfl⟩, Hs1, hp1, hh1, hH1, hm1⟩
        have hgl := hH1.lt
        have hb1 : Below w.heap.size w w1 := hbs.out.trans (hm1.below hbs.out.size (by intro k h; omega))
        have hl1 := hp1.length_eq
        have hK : Kst w w.heap.size g cap w1.heap.size T (Rs.map Rm.l) [] Hs1 none 0 w1 :=
          ⟨⟨World.ownsRow_nil _ _ _ _, by rw [hl1]; exact HXX.out.mod hm1 (by omega), hH1, hb1, Nat.le_refl _⟩, hh1, HI0.out.perm (hp1.map Hm.h), fun m hm => HOK.out m (hp1.mem_iff.1 hm), by
            rw [(hp1.map Hm.n).sum_nat]; simpa using hHsum, by omega, by omega⟩
        have hpl : w.heap.size < w1.heap.size := Nat.lt_of_lt_of_le hxl hm1.size
        clear hp1 hh1 hH1 hm1 hHA HI0 HOK HXX hHsum hHlen hl1 hnil
        go_wp2
        go_step3
        go_wp2
        go_loopw [2] (fun v wr2 => ∃ (out : List Ent) (Hs : List Hm) (A' : Option Addr) (c' : Nat), v = .slice A' out.length c' ∧ Hid (Kst w w.heap.size g cap w1.heap.size T (Rs.map Rm.l) out Hs A' c' wr2)) (fun _ wr2 => wtAt wr2 w.heap.size)
        case atStart => exact ⟨[], Hs1, none, 0, rfl, hK⟩
        case round =>
          clear hK
          obtain ⟨out, Hs, A', c', rfl, hK⟩ := hrel
          have c0 : wr.cell? ⟨w.heap.size, 0, none⟩ = some (.slice (some ⟨g, 0, none⟩) Hs.length cap) := hK.out.mid.pile.cell 0
          cases Hs with
          | nil =>
            have hd := hK.out.inv.done HR.out
            go_wp2
            go_ret
            have ho := own_mono (B' := w.heap.size) hK.out.mid.own (by omega)
            rw [hd] at ho
            exact ⟨A', c', by rw [hd]; rfl, ho, hK.out.mid.frame⟩
          | cons m Hs =>
            obtain ⟨a1, a2⟩ := hK.out.mid.heads.cells 0 (by simp)
            have okm := hK.out.ok m (by simp)
            obtain ⟨⟨e, rest, age⟩, A, n, c⟩ := m
            obtain ⟨b, off, hA, hbl, ek, ev, ed⟩ := okm.at0 hK.out.mid.frame
            have hnr : n = rest.length + 1 := okm.n
            have hnc : n ≤ c := okm.nc
            dsimp only at hA ek ev ed
            subst hA
            rw [Nat.zero_mul] at a1 a2
            have a1' : wr.cell? ⟨g, 0, none⟩ = some (.slice (some ⟨b, off, none⟩) n c) := a1
            have c0' : wr.cell? ⟨w.heap.size, 0, none⟩ = some (.slice (some ⟨g, 0, none⟩) (Hs.length + 1) cap) := c0
            have n0 : (0 : Int) < (Hs.length : Int) + 1 := by omega
            have n1 : (0 : Int) < (n : Int) := by omega
            have hgl2 : g < wr.heap.size := hK.out.mid.heads.lt
            have HOKM := Lib.hid okm
            clear a1 a2 c0 okm
            go_upto_region 12 with fail
            go_cut [65] from 48 to 65 (fun v wx => v = .bool (fresh out e.key) ∧ Below wr.heap.size wr wx)
            case first =>
              rcases List.eq_nil_or_concat out with hnil2 | ⟨l', z, hz⟩
              · subst hnil2
                go_quiet (fail)
                go_wp2_with fail
                go_meet
                exact ⟨by simp [fresh], bdrew (Below.refl _ _) _⟩
              · rw [List.concat_eq_append] at hz
                have hj2 : out.length = l'.length + 1 := by rw [hz]; simp
                have hol : out.length ≤ 1099511627776 := by have := hK.out.tot; omega
                obtain ⟨j, hj⟩ : ∃ j, j = l'.length := ⟨_, rfl⟩
                have hjo : j < out.length := by omega
                have hg : out[j]'hjo = z := by subst hj; subst hz; simp
                obtain ⟨b2, off2, hA2, hb2l, z1, z2, z3⟩ := (own_sl hK.out.mid.own).ent j hjo
                rw [hg] at z1
                subst hA2
                have hF : Hid (fresh out e.key = (z.key != e.key)) := by
                  show _ = _
                  rw [hz]
                  unfold fresh
                  rw [List.getLast?_append]
                  rfl
                have o0 : ((out.length : Int) == 0) = false := beq_eq_false_iff_ne.2 (by omega)
                have o1 : IntKind.i64.wrap ((out.length : Int) - 1) = (j : Int) := by
                  rw [show (out.length : Int) - 1 = (j : Int) by omega]; exact IntWalk.i64_in _ (by omega)
                have o2 : (0 : Int) ≤ (j : Int) := by omega
                have o3 : (j : Int) < (out.length : Int) := by omega
                have HZ := Lib.hid hz
                clear hz hg hj2 hj z2 z3
                go_quiet (fail)
                go_wp2_with fail
                go_meet
                exact ⟨by simp [hF.out], bdrew (Below.refl _ _) _⟩
            case rest =>
              obtain ⟨rfl, hbx⟩ := hcut
              have hmid : Kmid w w.heap.size g cap w1.heap.size out (⟨⟨e, rest, age⟩, some ⟨b, off, none⟩, n, c⟩ :: Hs) A' c' wc :=
                ⟨own_below hK.out.mid.own hbx, hK.out.mid.pile.below hbx hK.out.mid.pile.lt, hK.out.mid.heads.below hbx hgl2, bext hK.out.mid.frame hbx, Nat.le_trans hK.out.mid.size hbx.size⟩
              have HMID := Lib.hid hmid
              obtain ⟨F, hF⟩ : ∃ F, fresh out e.key = F := ⟨_, rfl⟩
              rw [hF]
              have HF := Lib.hid hF
              clear hmid hF a1' c0' ek ev ed hbx
              go_upto_if 65 with fail
              go_cut [2] from 66 to 74 (fun v wx => ∃ A2 q2, v = .slice A2 (outOf out e).length q2 ∧ Hid (Kmid w w.heap.size g cap w1.heap.size (outOf out e) (⟨⟨e, rest, age⟩, some ⟨b, off, none⟩, n, c⟩ :: Hs) A2 q2 wx))
              case first =>
                cases F
                · go_wp2_with fail
                  go_meet
                  have ho : outOf out e = out := by unfold outOf; rw [HF.out]; rfl
                  rw [ho]
                  exact ⟨A', c', by simp, HMID.out⟩
                · have ho : outOf out e = out ++ [e] := by unfold outOf; rw [HF.out]; rfl
                  have HO := Lib.hid ho
                  have hl2 : (outOf out e).length = out.length + 1 := by rw [ho]; simp
                  have HL2 := Lib.hid hl2
                  clear ho hl2
                  have hol : out.length ≤ T := by have := hK.out.tot; omega
                  have hol2 : out.length + n ≤ T := by have := hK.out.tot; simp at this; omega
                  have d0 : wc.cell? ⟨g, 0, none⟩ = some (.slice (some ⟨b, off, none⟩) n c) := (HMID.out.heads.cells 0 (by simp)).1
                  obtain ⟨b9, off9, hA9, hbl9, d1, d2, d3⟩ := HOKM.out.at0 HMID.out.frame
                  obtain ⟨rfl, rfl⟩ : b = b9 ∧ off = off9 := by simpa using hA9
                  have hsw := HMID.out.size
                  have bP := HMID.out.pile
                  have bH := HMID.out.heads
                  have hgl3 := bH.lt
                  have BP := Lib.hid bP
                  have n63 : out.length ≤ 1099511627776 := by omega
                  clear bP bH hbl9
                  go_wp2_with (at_builtin; refine wpList_append_sl _ rfl (.tmp 66) (.tmp 73) _ rfl w1.heap.size 68 te0 _ 3 24 Tryz.underlying56 HI2.out.1 HI2.out.2.1 HI2.out.2.2.1 HI2.out.2.2.2 rfl (by omega) (.slice A' out.length c') out.length _ rfl (HMID.out.own.alloc _) _ 1 _ [.int .i64 e.key, .int .i64 e.val, .bool e.dead] rfl (by exact sl_new1 _ _ _) rfl (by simp [Value.oneCell']) (by unfold maxLen; omega) (by omega) (by simp; omega) ?_; intro v2 w2 hown2 hg2; obtain ⟨A2, q2, rfl, hle2, hmx2⟩ := own_form hown2; have HO2 := Lib.hid hown2; clear hown2)
                  go_meet
                  have hne : ∀ q, q < w1.heap.size → some q ≠ (Value.slice A' out.length c').ownBlock := fun q hq e => by have := (HMID.out.own.lt q e.symm).1; omega
                  refine ⟨A2, q2, by rw [HL2.out], ?_⟩
                  refine ⟨by rw [HL2.out, HO.out, List.flatMap_append]; simpa [Ent.cells] using HO2.out, (BP.out.alloc _).of (hg2.block _ (by simp; omega) (hne _ hpl)), ?_, (HMID.out.frame.alloc (by omega) _).grown hg2 (by simp; omega) (fun q hq => by have := (HMID.out.own.lt q hq).1; omega), by have := hg2.size; simp at this; omega⟩
                  obtain ⟨cur, hc1, hc2⟩ := HMID.out.heads
                  exact ⟨cur, (hc1.alloc _).of (hg2.block _ (by simp; omega) (hne _ hgl)), hc2⟩
              case rest =>
                obtain ⟨A2, q2, rfl, hK2⟩ := hcut
                have d0 : wc.cell? ⟨g, 0, none⟩ = some (.slice (some ⟨b, off, none⟩) n c) := (hK2.out.heads.cells 0 (by simp)).1
                have d1 : wc.frozen? ⟨g, 0, none⟩ = false := hK2.out.heads.frozen 0
                have n2 : (1 : Int) ≤ (n : Int) := by omega
                cases rest with
                | nil =>
                  obtain rfl : n = 1 := by simpa using hnr
                  clear hnr
                  by_cases hc1 : c = 1
                  · subst hc1
                    go_upto_region 16 with fail
                    obtain ⟨W2, hW2⟩ : ∃ W2, wc.setCell ⟨g, 0, none⟩ (.slice (some ⟨b, off, none⟩) 0 (0)) = W2 := ⟨_, rfl⟩
                    obtain ⟨q1, q2', q3, q4, q5, q6⟩ := kst_pop (m := ⟨⟨e, [], age⟩, some ⟨b, off, none⟩, 1, 1⟩) (m' := ⟨⟨e, [], age⟩, some ⟨b, off, none⟩, 0, 0⟩) HR.out hK.out rfl hK2.out hpg hpl hgl (by omega) (Nat.le_refl _) rfl hW2
                    rw [hW2]
                    have Q1 := Lib.hid q1
                    have Q2 := Lib.hid q2'
                    have Q6 := Lib.hid q6
                    have hlx := hK.out.hl
                    have hcx := hK.out.hc
                    simp at hlx hcx
                    clear q1 q2' q6 d0 d1 hW2
                    go_wp2_with fail
                    refine (pop_any w W2 w.heap.size g cap Hs.length (⟨⟨e, [], age⟩, some ⟨b, off, none⟩, 0, 0⟩ :: Hs) (by simp) (by omega) hcx Q1.out Q2.out hpg q3 q4 (by omega) (Nat.le_refl _) q5).mono ?_
                    rintro ee w4 hpp
                    obtain ⟨⟨v4, rfl⟩, Hs', hK3, hlt3⟩ := Q6.out ee w4 hpp
                    have HK3 := Lib.hid hK3
                    clear q3 q4 q5 hpp hK3
                    go_wp2_with fail
                    refine ⟨⟨_, Hs', A2, q2, rfl, HK3.out⟩, ?_⟩
                    rw [wt_of HK3.out.mid.pile HK3.out.mid.heads, wt_of hK.out.mid.pile hK.out.mid.heads]
                    exact hlt3
                  · have hcb : (c == 1) = false := by simpa using hc1
                    go_upto_region 16 with fail
                    obtain ⟨W2, hW2⟩ : ∃ W2, wc.setCell ⟨g, 0, none⟩ (.slice (some ⟨b, off + 3, none⟩) 0 (c - 1)) = W2 := ⟨_, rfl⟩
                    obtain ⟨q1, q2', q3, q4, q5, q6⟩ := kst_pop (m := ⟨⟨e, [], age⟩, some ⟨b, off, none⟩, 1, c⟩) (m' := ⟨⟨e, [], age⟩, some ⟨b, off + 3, none⟩, 0, c - 1⟩) HR.out hK.out rfl hK2.out hpg hpl hgl (by omega) (Nat.le_refl _) rfl hW2
                    rw [hW2]
                    have Q1 := Lib.hid q1
                    have Q2 := Lib.hid q2'
                    have Q6 := Lib.hid q6
                    have hlx := hK.out.hl
                    have hcx := hK.out.hc
                    simp at hlx hcx
                    clear q1 q2' q6 d0 d1 hW2
                    go_wp2_with fail
                    refine (pop_any w W2 w.heap.size g cap Hs.length (⟨⟨e, [], age⟩, some ⟨b, off + 3, none⟩, 0, c - 1⟩ :: Hs) (by simp) (by omega) hcx Q1.out Q2.out hpg q3 q4 (by omega) (Nat.le_refl _) q5).mono ?_
                    rintro ee w4 hpp
                    obtain ⟨⟨v4, rfl⟩, Hs', hK3, hlt3⟩ := Q6.out ee w4 hpp
                    have HK3 := Lib.hid hK3
                    clear q3 q4 q5 hpp hK3
                    go_wp2_with fail
                    refine ⟨⟨_, Hs', A2, q2, rfl, HK3.out⟩, ?_⟩
                    rw [wt_of HK3.out.mid.pile HK3.out.mid.heads, wt_of hK.out.mid.pile hK.out.mid.heads]
                    exact hlt3
                | cons e2 l2 =>
                  obtain ⟨n', rfl⟩ : ∃ n', n = n' + 1 := ⟨n - 1, by omega⟩
                  obtain ⟨c1, rfl⟩ : ∃ c1, c = c1 + 1 := ⟨c - 1, by omega⟩
                  have hc1 : ¬ c1 + 1 = 1 := by simp at hnr; omega
                  go_upto_region 17 with fail
                  have hn' : n' = l2.length + 1 := by simp at hnr; omega
                  subst hn'
                  obtain ⟨W2, hW2⟩ : ∃ W2, wc.setCell ⟨g, 0, none⟩ (.slice (some ⟨b, off + 3, none⟩) (l2.length + 1) c1) = W2 := ⟨_, rfl⟩
                  have hmok : Hm.Ok w ⟨⟨e2, l2, age⟩, some ⟨b, off + 3, none⟩, l2.length + 1, c1⟩ := by
                    have h1 := HOKM.out
                    refine ⟨?_, rfl, by have := h1.nc; simp at this ⊢; omega, by have := h1.c; simp at this ⊢; omega⟩
                    rcases h1.sl with h2 | ⟨b3, o3, h3, h4, h5⟩
                    · simp [Ent.cells] at h2
                    · obtain ⟨rfl, rfl⟩ : b = b3 ∧ off = o3 := by simpa using h3
                      refine .inr ⟨b, off + 3, rfl, h4, fun j u hu => ?_⟩
                      have := h5 (3 + j) u (by rw [List.flatMap_cons, List.getElem?_append_right (by simp [Ent.cells])]; simpa [Ent.cells] using hu)
                      rw [show off + 3 + j = off + (3 + j) by omega]; exact this
                  obtain ⟨q1, q2', q3, q4, q5, q6⟩ := kst_down (m := ⟨⟨e, e2 :: l2, age⟩, some ⟨b, off, none⟩, l2.length + 1 + 1, c1 + 1⟩) (m' := ⟨⟨e2, l2, age⟩, some ⟨b, off + 3, none⟩, l2.length + 1, c1⟩) HR.out hK.out rfl hK2.out hpg hpl hgl (by omega) (Nat.le_refl _) rfl hmok rfl hW2
                  rw [hW2]
                  have Q1 := Lib.hid q1
                  have Q2 := Lib.hid q2'
                  have Q6 := Lib.hid q6
                  have hlx := hK.out.hl
                  simp at hlx
                  clear q1 q2' q6 d0 d1 hW2 hmok
                  go_wp2_with fail
                  refine (down_any w W2 w.heap.size g cap (Hs.length + 1) 0 0 (⟨⟨e2, l2, age⟩, some ⟨b, off + 3, none⟩, l2.length + 1, c1⟩ :: Hs) (by simp) (by omega) (Nat.zero_le _) (Nat.le_refl _) Q1.out Q2.out hpg q3 q4 (by omega) (Nat.le_refl _) q5).mono ?_
                  rintro ee w4 hpp
                  obtain ⟨⟨v4, rfl⟩, Hs', hK3, hlt3⟩ := Q6.out ee w4 hpp
                  have HK3 := Lib.hid hK3
                  clear q3 q4 q5 hpp hK3
                  go_wp2_with fail
                  refine ⟨⟨_, Hs', A2, q2, rfl, HK3.out⟩, ?_⟩
                  rw [wt_of HK3.out.mid.pile HK3.out.mid.heads, wt_of hK.out.mid.pile hK.out.mid.heads]
                  exact hlt3
end Go.Proofs.YtolclahkfmplfaaGreat

/- Contracts: a run's entries by their ranks (bound's and the reference's), whether a run may be, and its sorted entries. -/
namespace Go.Proofs.YtolclahkfmplfaaGreat
open Go Go.RowKit
set_option maxRecDepth 100000

/-- the entries of a run, by their ranks -/
def inL (l : List Ent) : List Ent := (inord l.length 0).map (entAt l)
theorem inL_length (l : List Ent) : (inL l).length = l.length := by simp [inL, inord_length]
theorem inL_get {l : List Ent} {k : Nat} (h : k < (inL l).length) : (inL l)[k]'h = entAt l ((inord l.length 0)[k]'(by simpa [inL] using h)) := by simp [inL]

/-- the first k places' entries stand where their ranks are -/
def Scat (l : List Ent) (k : Nat) (cur : Array Value) : Prop := ∀ a, a < k → ∀ (ha : a < l.length) (j : Nat), j < 3 → cur[(inord l.length 0).idxOf a * 3 + j]? = ((l[a]'ha).cells)[j]?
theorem Scat.start (l : List Ent) (cur : Array Value) : Scat l 0 cur := fun a h => absurd h (by omega)
theorem Scat.step {l : List Ent} {k : Nat} {cur : Array Value} (h : Scat l k cur) (hk : k < l.length) (hs : cur.size = l.length * 3) (r : Nat) (hr : r = (inord l.length 0).idxOf k) :
    Scat l (k + 1) (((cur.setIfInBounds (r * 3) (.int .i64 (l[k]'hk).key)).setIfInBounds (r * 3 + 1) (.int .i64 (l[k]'hk).val)).setIfInBounds (r * 3 + 2) (.bool (l[k]'hk).dead)) := by
  subst hr
  have hrl := ranks_lt hk
  intro a ha hal j hj
  by_cases e : a = k
  · subst e
    have : j = 0 ∨ j = 1 ∨ j = 2 := by omega
    rcases this with rfl | rfl | rfl
    · rw [Array.getElem?_setIfInBounds_ne (by omega), Array.getElem?_setIfInBounds_ne (by omega), Nat.add_zero, Array.getElem?_setIfInBounds_self_of_lt (by omega)]; rfl
    · rw [Array.getElem?_setIfInBounds_ne (by omega), Array.getElem?_setIfInBounds_self_of_lt (by simp; omega)]; rfl
    · rw [Array.getElem?_setIfInBounds_self_of_lt (by simp; omega)]; rfl
  · have hne : (inord l.length 0).idxOf a ≠ (inord l.length 0).idxOf k := by
      intro e2
      have h1 := inord_idx hal
      have h2 := inord_idx hk
      simp only [e2] at h1
      exact e (h1.symm.trans h2)
    rw [Array.getElem?_setIfInBounds_ne (by omega), Array.getElem?_setIfInBounds_ne (by omega), Array.getElem?_setIfInBounds_ne (by omega)]
    exact h a (by omega) hal j hj
theorem Scat.done {l : List Ent} {cur : Array Value} (h : Scat l l.length cur) (hs : cur.size = l.length * 3) : cur.toList.take (l.length * 3) = (inL l).flatMap Ent.cells := by
  rw [List.take_of_length_le (by simp; omega)]
  refine List.ext_getElem? fun i => ?_
  by_cases hi : i < l.length * 3
  · have hk : i / 3 < l.length := by omega
    have hk' : i / 3 < (inord l.length 0).length := by rw [inord_length]; exact hk
    have e : i / 3 * 3 + i % 3 = i := by omega
    have hf := flat_get Ent.cells 3 Ent.cells_length (inL l) (i / 3) (i % 3) (by rw [inL_length]; exact hk) (by omega)
    rw [e, inL_get] at hf
    have hp := inord_lt (List.getElem_mem hk')
    rw [entAt_get hp] at hf
    have hc := h _ hp hp (i % 3) (by omega)
    rw [idx_inord hk', e] at hc
    rw [hf, ← hc]
    simp
  · rw [List.getElem?_eq_none (by simp; omega), List.getElem?_eq_none (by rw [flat_length Ent.cells 3 Ent.cells_length, inL_length]; omega)]

set_option maxHeartbeats 3200000 in
theorem refIn_any (A : Option Addr) (l : List Ent) (c : Nat) (w : World) (hA : Sl w A (l.flatMap Ent.cells)) (hn : l.length ≤ 65536) :
    Calls Tryz.prog 83 #[.agg #[.slice A l.length c]] w (GivesOwn 68 3 l.length ((inL l).flatMap Ent.cells) w) := by
  obtain ⟨i0, hi, hz0, hz1, hz2⟩ := info_parts ent_info
  have hb0 : Below w.heap.size w (w.alloc (.cells #[.slice A l.length c] 58)) := (Below.refl _ _).alloc (Nat.le_refl _) _
  have hx0 : Blk (w.alloc (.cells #[.slice A l.length c] 58)) w.heap.size 58 #[.slice A l.length c] := Blk.new _ _ _
  go_enter Tryz.func83, Tryz.ntmps83
  go_wp2_with fail
  refine (refPlaces_any l.length l.length 0 _ _ _ rfl rfl hn (by omega) (by omega)).mono ?_
  rintro e w1 ⟨A1, c1, rfl, hown1, hb1⟩
  have hlen := Lib.hid (inord_length l.length)
  have hb01 : Below w.heap.size w w1 := bext hb0 hb1
  have hx1 : Blk w1 w.heap.size 58 #[.slice A l.length c] := hx0.below hb1 (by simp)
  have hsl := own_sl hown1
  have hs1 : w.heap.size < w1.heap.size := hx1.lt
  have hbase := own_base hown1
  clear hown1 hb1
  go_wp2
  go_loopw [3, 5] (fun v i wr => ∃ k : Nat, k ≤ l.length ∧ i = .int .i64 k ∧ Mod (fun b => w1.heap.size ≤ b) w1 wr ∧ ∃ A' c', v = .slice A' k c' ∧
      wr.ownsRow w1.heap.size 68 3 (.slice A' k c') k (((inL l).take k).flatMap Ent.cells)) (fun _ i _ => l.length - (intOf i).toNat)
  case atStart => exact ⟨0, Nat.zero_le _, rfl, Mod.refl _ _, none, 0, rfl, World.ownsRow_nil _ _ _ _⟩
  case round =>
    obtain ⟨k, hk, rfl, hm, A', c', rfl, hown⟩ := hrel
    have hbm : Below w1.heap.size w1 wr := hm.below (Nat.le_refl _) (fun _ h => h)
    have hb : Below w.heap.size w wr := bext hb01 hbm
    by_cases hlt : k < l.length
    · have hlt' : k < (inord l.length 0).length := by rw [hlen.out]; exact hlt
      obtain ⟨b1, o1, rfl, hb1l, cp⟩ := hsl.oneB hbm k hlt'
      obtain ⟨x, hx⟩ : ∃ x, (inord l.length 0)[k]'hlt' = x := ⟨_, rfl⟩
      have hxn : x < l.length := hx ▸ inord_lt (List.getElem_mem hlt')
      rw [hx] at cp
      have cp' : wr.cell? ⟨b1, o1 + k, none⟩ = some (.int .i64 (x : Nat)) := cp
      obtain ⟨b, off, rfl, hbl, q1, q2, q3⟩ := hA.entB hb x hxn
      have cx : wr.cell? ⟨w.heap.size, 0, none⟩ = some (.slice (some ⟨b, off, none⟩) l.length c) := (hx1.below hbm hs1).cell 0
      have hki : (0 : Int) ≤ (k : Int) := by omega
      have hki2 : (k : Int) < ((inord l.length 0).length : Int) := by omega
      have hxi : (0 : Int) ≤ (x : Int) := by omega
      have hxi2 : (x : Int) < (l.length : Int) := by omega
      have HX := Lib.hid hx
      have hsz := hm.size
      clear cp hx hbl hb1l hsl hx0 hb0
      go_wp2_with fail
      go_region_law (
        (refine step_append_sl _ (by rfl) _ _ _ (by rfl) w1.heap.size 68 i0 _ 3 24 Tryz.underlying56 hi hz0 hz1 hz2 rfl (by omega) (.slice A' k c') k _ (by rfl) ((hown.alloc _).drew) _ 1 _ (l[x]'hxn).cells (by rfl) ((Blk.new wr _ _).sl 0 _ (by intro j u hu; simpa [Ent.cells] using hu)) (by rfl) (by simp [Ent.cells, Value.oneCell']) (by unfold maxLen; omega) (by omega) (by simp; omega) ?_; intro v2 w2 hown2 hg2; obtain ⟨A2, z2, rfl, hle2, hmx2⟩ := own_form hown2))
      all_goals
        go_wp2
        have hm2 : Mod (fun b => w1.heap.size ≤ b) w1 w2 := ((hm.alloc _).drew).grown hg2 (fun k hk => .inl (hown.lt k hk).1)
        have hlk : (inL l)[k]'(by rw [inL_length]; exact hlt) = l[x]'hxn := by rw [inL_get]; simp [HX.out, entAt_get hxn]
        have hlt2 : k < (inL l).length := by rw [inL_length]; exact hlt
        go_roundw
        case rel =>
          refine ⟨k + 1, by omega, by go_num, hm2, A2, z2, rfl, ?_⟩
          rw [List.take_succ_eq_append_getElem hlt2, List.flatMap_append, hlk]
          simpa using hown2
        case measure => simp [intOf]; omega
    · have hkn := Lib.hid (show k = l.length by omega)
      have hge : (inord l.length 0).length ≤ k := by rw [hlen.out]; omega
      go_wp2
      go_ret
      have h := own_mono (B' := w.heap.size) hown (by omega)
      rw [hkn.out, List.take_of_length_le (by rw [inL_length]; omega)] at h
      exact ⟨A', c', by rw [hkn.out]; rfl, h, hb⟩

set_option maxHeartbeats 3200000 in
theorem sorted_any (A : Option Addr) (l : List Ent) (c : Nat) (w : World) (hA : Sl w A (l.flatMap Ent.cells)) (hn : l.length ≤ 65536) :
    Calls Tryz.prog 91 #[.agg #[.slice A l.length c]] w (GivesOwn 68 3 l.length ((inL l).flatMap Ent.cells) w) := by
  obtain ⟨i0, hi, hz0, hz1, hz2⟩ := info_parts ent_info
  have hmk := fun W => run_make_rowN (P := Tryz.prog) 56 68 i0 _ Tryz.underlying56 hi hz0 l.length (by rw [hz2]; omega) (by omega) W
  rw [hz1] at hmk
  clear hi hz0 hz1 hz2
  obtain ⟨W0, hW0⟩ : ∃ W0, (w.alloc (.cells #[.slice A l.length c] 136)).alloc (.cells (madeCells #[Value.int IntKind.i64 0, Value.int IntKind.i64 0, Value.bool false] (l.length * 3)) 68) = W0 := ⟨_, rfl⟩
  have hb0 : Below w.heap.size w W0 := by rw [← hW0]; exact ((Below.refl _ _).alloc (Nat.le_refl _) _).alloc (by simp) _
  have hx0 : Blk W0 w.heap.size 136 #[.slice A l.length c] := by rw [← hW0]; exact (Blk.new w _ _).alloc _
  have hg0 : Blk W0 (w.heap.size + 1) 68 (madeCells #[Value.int IntKind.i64 0, Value.int IntKind.i64 0, Value.bool false] (l.length * 3)) := by
    rw [← hW0]; have := Blk.new (w.alloc (.cells #[.slice A l.length c] 136)) 68 (madeCells #[Value.int IntKind.i64 0, Value.int IntKind.i64 0, Value.bool false] (l.length * 3))
    rwa [World.size_alloc] at this
  have hs0 : W0.heap.size = w.heap.size + 1 + 1 := by rw [← hW0]; simp
  have cx0 : W0.cell? ⟨w.heap.size, 0, none⟩ = some (.slice A l.length c) := hx0.cell 0
  go_enter Tryz.func91, Tryz.ntmps91
  go_wp2_with fail
  try rw [hW0]
  refine (order_ok l.length hn _).mono ?_
  rintro e w3 ⟨rfl, ho3, hb3⟩
  rw [hs0] at ho3
  have hb03 : Below w.heap.size w w3 := bext hb0 hb3
  have hx3 := hx0.below hb3 hx0.lt
  have hg3 := hg0.below hb3 hg0.lt
  have hgl := hg3.lt
  have hol := ho3.lt
  clear hmk hW0 hb3 hb0 hx0 hg0 cx0
  rw [hs0]
  go_wp2
  go_loopw [21] (fun i wr => ∃ k : Nat, k ≤ l.length ∧ i = .int .i64 k ∧ Mod (fun b => b = w.heap.size + 1) w3 wr ∧
      ∃ cur : Array Value, Hid (cur.size = l.length * 3) ∧ Blk wr (w.heap.size + 1) 68 cur ∧ Hid (Scat l k cur))
      (fun i _ => l.length - (intOf i).toNat)
  case atStart => exact ⟨0, Nat.zero_le _, rfl, Mod.refl _ _, _, by show _ = _; simp [madeCells], hg3, Scat.start _ _⟩
  case round =>
    obtain ⟨k, hk, rfl, hm, cur, hcs, hcur, hct⟩ := hrel
    by_cases hlt : k < l.length
    · have hb : Below w.heap.size w wr := hb03.trans (hm.below hb03.size (by intro k h; omega))
      have hrl : k < (ranks l.length).length := by rw [ranks_length]; exact hlt
      obtain ⟨x, hx⟩ : ∃ x, (ranks l.length)[k]'hrl = x := ⟨_, rfl⟩
      have hxi : x = (inord l.length 0).idxOf k := by rw [← hx, ranks_get hlt]
      have hxn : x < l.length := by rw [hxi]; exact ranks_lt hlt
      have ho4 := ho3.mod hm (by omega)
      have cr : wr.cell? ⟨w.heap.size + 1 + 1, k, none⟩ = some (.int .i64 (x : Nat)) := by
        rw [ho4.cell]; simp [hrl, hx]
      have cx : wr.cell? ⟨w.heap.size, 0, none⟩ = some (.slice A l.length c) := (hx3.mod hm (by omega)).cell 0
      obtain ⟨b, off, rfl, hbl, c1, c2, c3⟩ := hA.entB hb k hlt
      have hsz := hcs.out
      obtain ⟨v1, e1⟩ : ∃ v, wr.cell? ⟨w.heap.size + 1, x * 3, none⟩ = some v := ⟨_, (hcur.cell _).trans (Array.getElem?_eq_getElem (show x * 3 < cur.size by omega))⟩
      obtain ⟨v2, e2⟩ : ∃ v, wr.cell? ⟨w.heap.size + 1, x * 3 + 1, none⟩ = some v := ⟨_, (hcur.cell _).trans (Array.getElem?_eq_getElem (show x * 3 + 1 < cur.size by omega))⟩
      obtain ⟨v3, e3⟩ : ∃ v, wr.cell? ⟨w.heap.size + 1, x * 3 + 2, none⟩ = some v := ⟨_, (hcur.cell _).trans (Array.getElem?_eq_getElem (show x * 3 + 2 < cur.size by omega))⟩
      have f1 := hcur.frozen (x * 3)
      have f2 := hcur.frozen (x * 3 + 1)
      have f3 := hcur.frozen (x * 3 + 2)
      have hxi1 : (0 : Int) ≤ (x : Int) := by omega
      have hxi2 : (x : Int) < (l.length : Int) := by omega
      have hki : (0 : Int) ≤ (k : Int) := by omega
      have hki2 : (k : Int) < (l.length : Int) := by omega
      have hst := Lib.hid (hct.out.step hlt hcs.out x hxi)
      clear hx hsz hxi hx3
      go_wp2
      go_roundw
      case rel =>
        exact ⟨k + 1, by omega, by go_num, ((hm.setCell (p := ⟨w.heap.size + 1, x * 3, none⟩) rfl _).setCell (p := ⟨w.heap.size + 1, x * 3 + 1, none⟩) rfl _).setCell (p := ⟨w.heap.size + 1, x * 3 + 2, none⟩) rfl _, _, by show _ = _; simpa using hcs.out, ((hcur.set_ (x * 3) _).set_ (x * 3 + 1) _).set_ (x * 3 + 2) _, hst⟩
      case measure => simp [intOf]; omega
    · have hkn : k = l.length := by omega
      have hb : Below w.heap.size w wr := hb03.trans (hm.below hb03.size (by intro k h; omega))
      have hct' := Scat.done (hkn ▸ hct.out) hcs.out
      have HC := Lib.hid hct'
      clear hct' hkn
      go_wp2
      go_ret
      exact ⟨some ⟨w.heap.size + 1, 0, none⟩, l.length, rfl, ⟨by rw [flat_length Ent.cells 3 Ent.cells_length, inL_length], .inr ⟨w.heap.size + 1, l.length, cur, rfl, by omega, hcur, Nat.le_refl _, by unfold maxLen; omega, hcs.out, HC.out⟩⟩, hb⟩
end Go.Proofs.YtolclahkfmplfaaGreat
