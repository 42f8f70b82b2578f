/- G4 Gt Gu Gv Ri: texts of the claim, in this order. -/
import Derived.Test.YthbppblmecdekaaDoorWb8
import Derived.Test.YthbppblmecdekaaDoorWb5
import Derived.Lib.BitFns
import Derived.Lib.Strings
import Derived.Lib.Slices
import Derived.Lib.Small
import Derived.Test.YthbppblmecdekaaDoorWb7
import Derived.IntWalk
import Derived.Test.YthbppblmecdekaaDoorWb3
import Derived.Deep.RegionHeld3
import Derived.Orders
import Derived.RegionTactic
/- Contracts: the level of a run: math/bits.Len, frac.Up, rungs.level; the document's Log and Ceil. -/
namespace Go.Proofs.YthbppblmecdekaaDoor
open Go Go.RowKit

theorem bitLen_log (x : Nat) (h : x < 2 ^ 64) : Lib.bitLen x = if x = 0 then 0 else Nat.log2 x + 1 := by
  induction x using Nat.strongRecOn with
  | _ x ih =>
    by_cases h0 : x = 0
    · subst h0; rfl
    · rw [Lib.bitLen_half x h0 h, ih (x / 2) (by omega) (by omega), if_neg h0, Nat.log2_def x]
      by_cases h2 : 2 ≤ x
      · rw [if_pos h2, if_neg (by omega)]; omega
      · obtain rfl : x = 1 := by omega
        simp
theorem bitLen_up {n : Nat} (h : n ≤ 65536) : Lib.bitLen (n - 1) = up n := by
  rw [bitLen_log _ (by omega)]
  unfold up
  by_cases h1 : n ≤ 1
  · rw [if_pos h1, if_pos (by omega)]
  · rw [if_neg h1, if_neg (by omega)]

set_option maxRecDepth 100000 in
set_option maxHeartbeats 4000000 in
theorem len64_any (x : Int) (w : World) (h0 : 0 ≤ x) (h1 : x ≤ 65535) : Calls Tryd.prog 136 #[.int .u64 x] w fun e w' => e = .returned (.int .i64 (Lib.bitLen x.toNat)) ∧ w' = w := by
  have g1 : ¬ 4294967296 ≤ x := by omega
  have g2 : ¬ 65536 ≤ x := by omega
  by_cases h2 : x ≤ 255
  · have g3 : ¬ 256 ≤ x := by omega
    go_enter Tryd.func136, Tryd.ntmps136
    go_wp2
    go_ret
    refine ⟨congrArg Ending.returned (congrArg (Value.int IntKind.i64) ?_), rfl⟩
    rw [Lib.len8_of x h0 h2]
    have l := Lib.bitLen_le8' x h0 h2
    unfold wrap64
    omega
  · have g3 : 256 ≤ x := by omega
    have g4 : 0 ≤ x / 256 := by omega
    have g5 : x / 256 ≤ 255 := by omega
    go_enter Tryd.func136, Tryd.ntmps136
    go_wp2
    go_ret
    refine ⟨congrArg Ending.returned (congrArg (Value.int IntKind.i64) ?_), rfl⟩
    rw [Lib.len8_of (x / 256) g4 g5]
    have e : (x / 256).toNat = x.toNat / 256 := by omega
    have l := Lib.bitLen_le8' (x / 256) g4 g5
    have s := Lib.bitLen_shift8 x.toNat (by omega) (by omega)
    rw [e] at l ⊢
    unfold wrap64
    omega
theorem len_any (x : Int) (w : World) (h0 : 0 ≤ x) (h1 : x ≤ 65535) : Calls Tryd.prog 117 #[.int .u64 x] w fun e w' => e = .returned (.int .i64 (Lib.bitLen x.toNat)) ∧ w' = w := by
  go_enter Tryd.func117, Tryd.ntmps117
  go_wp2_with fail
  refine (len64_any x _ h0 h1).mono ?_
  rintro e w' ⟨rfl, rfl⟩
  go_wp2
  go_ret
  exact ⟨rfl, rfl⟩
/-- the logarithm upward -/
theorem up_any (n : Nat) (w : World) (h0 : 0 < n) (h1 : n ≤ 65536) : Calls Tryd.prog 86 #[.int .i64 (n : Nat)] w fun e w' => e = .returned (.tuple #[.int .i64 (up n : Nat), .int .i64 0]) ∧ w' = w := by
  have g : decide ((n : Int) < 1) = false := decide_eq_false (by omega)
  have e1 : IntKind.i64.wrap ((n : Int) - 1) = ((n - 1 : Nat) : Int) := (IntWalk.i64_in _ (by omega)).trans (by omega)
  have e2 : ((n - 1 : Nat) : Int).toNat = n - 1 := by omega
  have e3 := bitLen_up h1
  obtain ⟨m, hm⟩ : ∃ m, n - 1 = m := ⟨_, rfl⟩
  rw [hm] at e1 e2 e3
  have hm0 : (0 : Int) ≤ (m : Int) := by omega
  have hm1 : (m : Int) ≤ 65535 := by omega
  have HM := Lib.hid hm
  have H2 := Lib.hid e2
  have H3 := Lib.hid e3
  clear hm e2 e3
  go_enter Tryd.func86, Tryd.ntmps86
  go_wp2_with fail
  refine (len_any (m : Int) _ hm0 hm1).mono ?_
  rw [H2.out, H3.out]
  rintro e w' ⟨rfl, rfl⟩
  go_wp2
  refine bodyPost_ret (v := .tuple #[.int .i64 (up n : Nat), .int .i64 0]) (by simp [results, Tryd.results86, go_sem]) rfl ?_
  exact ⟨rfl, rfl⟩
/-- the level of a run that has entries -/
theorem level_any (A : Option Addr) (n c : Nat) (w : World) (h0 : 0 < n) (h1 : n ≤ 65536) : Calls Tryd.prog 53 #[.agg #[.slice A n c]] w fun e w' => e = .returned (.int .i64 (up n : Nat)) ∧ Below w.heap.size w w' := by
  have hb : Below w.heap.size w (w.alloc (.cells #[.slice A n c] 61)) := (Below.refl _ _).alloc (Nat.le_refl _) _
  go_enter Tryd.func53, Tryd.ntmps53
  go_wp2_with fail
  refine (up_any n _ h0 h1).mono ?_
  rintro e w' ⟨rfl, rfl⟩
  go_wp2
  go_ret
  exact ⟨rfl, hb⟩
theorem log2_half {n : Nat} (h : 2 ≤ n) : Nat.log2 n = Nat.log2 (n / 2) + 1 := by rw [Nat.log2_def n, if_pos h]
theorem log2_le {n : Nat} (h : n ≤ 65536) : Nat.log2 n ≤ 16 := by
  by_cases h0 : n = 0
  · subst h0; decide
  · have := Nat.log2_self_le h0
    rcases Nat.lt_or_ge 16 (Nat.log2 n) with h1 | h1
    · have h2 : 2 ^ 17 ≤ 2 ^ Nat.log2 n := Nat.pow_le_pow_right (by omega) h1
      omega
    · exact h1
set_option maxHeartbeats 1000000 in
theorem log_any (n : Nat) (w : World) (h1 : n ≤ 65536) : Calls Tryd.prog 122 #[.int .i64 (n : Nat)] w fun e w' => e = .returned (.int .i64 (Nat.log2 n : Nat)) ∧ w' = w := by
  have hl := log2_le h1
  go_enter Tryd.func122, Tryd.ntmps122
  go_wp2
  go_loopw [0, 3] (fun x i wr => ∃ m k : Nat, x = .int .i64 (m : Nat) ∧ i = .int .i64 (k : Nat) ∧ m ≤ n ∧ k ≤ 16 ∧ Hid (k + Nat.log2 m = Nat.log2 n) ∧ wr = w) (fun x _ _ => (intOf x).toNat)
  case atStart => exact ⟨n, 0, rfl, rfl, Nat.le_refl _, Nat.zero_le _, by show _ = _; omega, rfl⟩
  case round =>
    obtain ⟨m, k, rfl, rfl, hm, hk, hs, rfl⟩ := hrel
    by_cases h2 : 2 ≤ m
    · have g : decide ((m : Int) > 1) = true := decide_eq_true (by omega)
      have hh := log2_half h2
      have hk2 : k + 1 ≤ 16 := by have := hs.out; omega
      have HH := Lib.hid hh
      clear hh
      go_wp2
      go_roundw
      case rel => exact ⟨m / 2, k + 1, by go_num, by go_num, by omega, hk2, by show _ = _; have := hs.out; have := HH.out; omega, by first | rfl | trivial⟩
      case measure => simp [intOf]; omega
    · have g : decide ((m : Int) > 1) = false := decide_eq_false (by omega)
      have h0 : Nat.log2 m = 0 := by
        rw [Nat.log2_def, if_neg h2]
      have e0 : k = Nat.log2 n := by have := hs.out; omega
      have H0 := Lib.hid e0
      clear h0 e0
      go_wp2
      go_ret
      exact ⟨ret_int (by rw [H0.out]), by first | rfl | trivial⟩
theorem ceil_any (n : Nat) (w : World) (h0 : 0 < n) (h1 : n ≤ 65536) : Calls Tryd.prog 93 #[.int .i64 (n : Nat)] w fun e w' => e = .returned (.int .i64 (up n : Nat)) ∧ w' = w := by
  by_cases h2 : n = 1
  · subst h2
    go_enter Tryd.func93, Tryd.ntmps93
    go_wp2
    go_ret
    exact ⟨rfl, rfl⟩
  · have g : decide ((n : Int) = 1) = false := decide_eq_false (by omega)
    have g2 : ((n : Int) == 1) = false := by simpa using g
    have e1 : IntKind.i64.wrap ((n : Int) - 1) = ((n - 1 : Nat) : Int) := (IntWalk.i64_in _ (by omega)).trans (by omega)
    have e3 : up n = Nat.log2 (n - 1) + 1 := by unfold up; rw [if_neg (by omega)]
    obtain ⟨m, hm⟩ : ∃ m, n - 1 = m := ⟨_, rfl⟩
    rw [hm] at e1 e3
    have hm1 : m ≤ 65536 := by omega
    have hl := log2_le hm1
    have H3 := Lib.hid e3
    have HM := Lib.hid hm
    clear e3 hm
    go_enter Tryd.func93, Tryd.ntmps93
    go_wp2_with fail
    refine (log_any m _ hm1).mono ?_
    rintro e w' ⟨rfl, rfl⟩
    go_wp2
    go_ret
    exact ⟨ret_int (by rw [H3.out]; go_num), rfl⟩
end Go.Proofs.YthbppblmecdekaaDoor

/- Contracts: run.Get and Next, kway.Find, and the references'; copies of runs. -/
namespace Go.Proofs.YthbppblmecdekaaDoor
open Go Go.RowKit
set_option maxRecDepth 100000

theorem put3 {w : World} {g : Nat} {t : TypeId} {x0 x1 x2 : Value} (h : Blk w g t #[x0, x1, x2]) (y0 y1 y2 : Value) : Blk (((w.setCell ⟨g, 0, none⟩ y0).setCell ⟨g, 1, none⟩ y1).setCell ⟨g, 2, none⟩ y2) g t #[y0, y1, y2] := by
  have := ((h.set_ 0 y0).set_ 1 y1).set_ 2 y2
  simpa using this
theorem below3 {B : Nat} {a w : World} {g : Nat} (h : Below B a w) (hg : B ≤ g) (y0 y1 y2 : Value) : Below B a (((w.setCell ⟨g, 0, none⟩ y0).setCell ⟨g, 1, none⟩ y1).setCell ⟨g, 2, none⟩ y2) :=
  ((h.setCell (p := ⟨g, 0, none⟩) hg _).setCell (p := ⟨g, 1, none⟩) hg _).setCell (p := ⟨g, 2, none⟩) hg _
/-- hands back an entry and an error -/
def GivesX (x : Ent) (e : Int) (w : World) (r : Ending) (w' : World) : Prop := r = .returned (.tuple #[.agg #[.int .i64 x.key, .int .i64 x.val, .bool x.dead], .int .i64 e]) ∧ Below w.heap.size w w'
/-- hands back an entry, if there is one -/
def GivesO (o : Option Ent) (w : World) (r : Ending) (w' : World) : Prop := r = .returned (.tuple #[.agg #[.int .i64 (o.getD zeroE).key, .int .i64 (o.getD zeroE).val, .bool (o.getD zeroE).dead], .bool o.isSome]) ∧ Below w.heap.size w w'

set_option maxHeartbeats 1000000 in
theorem runGet_any (A : Option Addr) (l : List Ent) (c : Nat) (key : Int) (w : World) (hA : Sl w A (l.flatMap Ent.cells)) (hl : l.length ≤ 4611686018427387903) (hT : TabAt 1 Lib.deBruijn64tab w) :
    Calls Tryd.prog 80 #[.agg #[.slice A l.length c], .int .i64 key] w (GivesX (gtX l key) (gtE l key) w) := by
  obtain ⟨W0, hW0⟩ : ∃ W0, (w.alloc (.cells #[.slice A l.length c] 61)).alloc (.cells #[.int .i64 0, .int .i64 0, .bool false] 27) = W0 := ⟨_, rfl⟩
  have hb0 : Below w.heap.size w W0 := by rw [← hW0]; exact ((Below.refl _ _).alloc (Nat.le_refl _) _).alloc (by simp) _
  have bX0 : Blk W0 w.heap.size 61 #[.slice A l.length c] := by rw [← hW0]; exact (Blk.new _ _ _).alloc _
  have bR0 : Blk W0 (w.heap.size + 1) 27 #[.int .i64 0, .int .i64 0, .bool false] := by
    rw [← hW0]
    have := Blk.new (w.alloc (.cells #[.slice A l.length c] 61)) 27 #[.int .i64 0, .int .i64 0, .bool false]
    rwa [World.size_alloc] at this
  have cX0 : W0.cell? ⟨w.heap.size, 0, none⟩ = some (.slice A l.length c) := bX0.cell 0
  have hT0 := Lib.hid (tab_below (tab_lt hT) hT hb0)
  have HA := Lib.hid hA
  obtain ⟨g1, g2, g3⟩ := gt_fd l key
  obtain ⟨E, hE⟩ : ∃ E, gtE l key = E := ⟨_, rfl⟩
  obtain ⟨at_, hat⟩ : ∃ at_, fdAt l key = at_ := ⟨_, rfl⟩
  obtain ⟨p, hp⟩ : ∃ p, gtX l key = p := ⟨_, rfl⟩
  rw [hE, hp]
  rw [hE] at g1
  rw [← g1, hp, hat] at g2
  rw [← g1, hp] at g3
  have HG := Lib.hid (And.intro g1 (And.intro g2 g3))
  have HAT := Lib.hid hat
  clear hE hat hp g1 g2 g3 hA hT
  go_enter Tryd.func80, Tryd.ntmps80
  go_wp2_with fail
  try rw [hW0]
  clear hW0 cX0
  refine (find_any A l c key _ (HA.out.below hb0) hl hT0.out).mono ?_
  unfold GivesII
  rw [← HG.out.1, HAT.out]
  rintro e w1 ⟨rfl, hb1⟩
  have bX1 := bX0.below hb1 bX0.lt
  have bR1 := bR0.below hb1 bR0.lt
  have hb01 := bext hb0 hb1
  have cX1 : w1.cell? ⟨w.heap.size, 0, none⟩ = some (.slice A l.length c) := bX1.cell 0
  have d0 : w1.cell? ⟨w.heap.size + 1, 0, none⟩ = some (.int .i64 0) := bR1.cell 0
  have d1 : w1.cell? ⟨w.heap.size + 1, 1, none⟩ = some (.int .i64 0) := bR1.cell 1
  have d2 : w1.cell? ⟨w.heap.size + 1, 2, none⟩ = some (.bool false) := bR1.cell 2
  have f0 := bR1.frozen 0
  have f1 := bR1.frozen 1
  have f2 := bR1.frozen 2
  by_cases h0 : E = 0
  · subst h0
    obtain ⟨hlt, hpe⟩ := HG.out.2.1 rfl
    rw [entAt_get hlt] at hpe
    obtain ⟨b, off, rfl, hbl, c1, c2, c3⟩ := HA.out.entB hb01 at_ hlt
    rw [← hpe] at c1 c2 c3
    have i0 : (0 : Int) ≤ (at_ : Int) := by omega
    have i1 : (at_ : Int) < (l.length : Int) := by omega
    clear hpe
    go_wp2_with fail
    have bFy := put3 bR1 (.int .i64 p.key) (.int .i64 p.val) (.bool p.dead)
    have e0y := bFy.cell 0
    have e1y := bFy.cell 1
    have e2y := bFy.cell 2
    simp only [List.getElem?_toArray, List.getElem?_cons_zero, List.getElem?_cons_succ] at e0y e1y e2y
    refine bodyPost_ret (v := .tuple #[.agg #[.int .i64 p.key, .int .i64 p.val, .bool p.dead], .int .i64 0]) (by simp [results, Tryd.results80, go_sem, e0y, e1y, e2y]) rfl ?_
    exact ⟨rfl, below3 hb01 (Nat.le_succ _) _ _ _⟩
  · have hz := HG.out.2.2 h0
    subst hz
    have h1 : (E != 0) = true := by simpa using h0
    clear h0
    go_wp2_with fail
    have bFz := put3 bR1 (.int .i64 0) (.int .i64 0) (.bool false)
    have e0z := bFz.cell 0
    have e1z := bFz.cell 1
    have e2z := bFz.cell 2
    simp only [List.getElem?_toArray, List.getElem?_cons_zero, List.getElem?_cons_succ] at e0z e1z e2z
    refine bodyPost_ret (v := .tuple #[.agg #[.int .i64 0, .int .i64 0, .bool false], .int .i64 E]) (by simp [results, Tryd.results80, go_sem, e0z, e1z, e2z]) rfl ?_
    exact ⟨rfl, below3 hb01 (Nat.le_succ _) _ _ _⟩

theorem look_drop {l : List Ent} {k : Nat} (h : k < l.length) (key : Int) : look (l.drop k) key = if (l[k]'h).key = key then some (l[k]'h) else look (l.drop (k + 1)) key := by
  rw [List.drop_eq_getElem_cons h, look_cons]
set_option maxHeartbeats 1000000 in
theorem has_any (A : Option Addr) (l : List Ent) (c : Nat) (key : Int) (w : World) (hA : Sl w A (l.flatMap Ent.cells)) (hl : l.length ≤ 4611686018427387903) :
    Calls Tryd.prog 97 #[.slice A l.length c, .int .i64 key] w (GivesO (look l key) w) := by
  obtain ⟨W0, hW0⟩ : ∃ W0, w.alloc (.cells #[.int .i64 0, .int .i64 0, .bool false] 27) = W0 := ⟨_, rfl⟩
  have hb0 : Below w.heap.size w W0 := by rw [← hW0]; exact (Below.refl _ _).alloc (Nat.le_refl _) _
  have bR0 : Blk W0 w.heap.size 27 #[.int .i64 0, .int .i64 0, .bool false] := by rw [← hW0]; exact Blk.new _ _ _
  have HA := Lib.hid hA
  clear hA
  go_enter Tryd.func97, Tryd.ntmps97
  go_wp2_with fail
  try rw [hW0]
  clear hW0
  go_loop [6] (fun i => ∃ k : Nat, k ≤ l.length ∧ i = .int .i64 k ∧ Hid (look (l.drop k) key = look l key)) (fun i => l.length - (intOf i).toNat)
  case atStart => exact ⟨0, Nat.zero_le _, rfl, rfl⟩
  case round =>
    obtain ⟨k, hk, rfl, hd⟩ := hrel
    have d0 : W0.cell? ⟨w.heap.size, 0, none⟩ = some (.int .i64 0) := bR0.cell 0
    have d1 : W0.cell? ⟨w.heap.size, 1, none⟩ = some (.int .i64 0) := bR0.cell 1
    have d2 : W0.cell? ⟨w.heap.size, 2, none⟩ = some (.bool false) := bR0.cell 2
    have f0 := bR0.frozen 0
    have f1 := bR0.frozen 1
    have f2 := bR0.frozen 2
    by_cases hlt : k < l.length
    · have hs := look_drop hlt key
      obtain ⟨b, off, rfl, hbl, c1, c2, c3⟩ := HA.out.entB hb0 k hlt
      obtain ⟨p, hp⟩ : ∃ p, l[k]'hlt = p := ⟨_, rfl⟩
      rw [hp] at hs c1 c2 c3
      have i0 : (0 : Int) ≤ (k : Int) := by omega
      have i1 : (k : Int) < (l.length : Int) := by omega
      rw [hd.out] at hs
      clear hp
      by_cases hk2 : p.key = key
      · have hq : (p.key == key) = true := by simpa using hk2
        have HL : Hid (look l key = some p) := by rw [if_pos hk2] at hs; exact hs
        clear hs hk2
        go_wp2_with fail
        have bFy := put3 bR0 (.int .i64 p.key) (.int .i64 p.val) (.bool p.dead)
        have e0y := bFy.cell 0
        have e1y := bFy.cell 1
        have e2y := bFy.cell 2
        simp only [List.getElem?_toArray, List.getElem?_cons_zero, List.getElem?_cons_succ] at e0y e1y e2y
        refine bodyPost_ret (v := .tuple #[.agg #[.int .i64 p.key, .int .i64 p.val, .bool p.dead], .bool true]) (by simp [results, Tryd.results97, go_sem, e0y, e1y, e2y]) rfl ?_
        rw [HL.out]
        exact ⟨rfl, below3 hb0 (Nat.le_refl _) _ _ _⟩
      · have hq : (p.key == key) = false := by simpa using hk2
        have HL : Hid (look (l.drop (k + 1)) key = look l key) := by rw [if_neg hk2] at hs; exact hs.symm
        clear hs hk2 d0 d1 d2 f0 f1 f2
        go_wp2
        go_round
        case rel => exact ⟨k + 1, by omega, by go_num, HL⟩
        case measure => simp [intOf]; omega
    · have HL : Hid (look l key = none) := by
        show _ = _
        rw [← hd.out, List.drop_eq_nil_of_le (by omega)]; rfl
      go_wp2_with fail
      have bFz := put3 bR0 (.int .i64 0) (.int .i64 0) (.bool false)
      have e0z := bFz.cell 0
      have e1z := bFz.cell 1
      have e2z := bFz.cell 2
      simp only [List.getElem?_toArray, List.getElem?_cons_zero, List.getElem?_cons_succ] at e0z e1z e2z
      refine bodyPost_ret (v := .tuple #[.agg #[.int .i64 0, .int .i64 0, .bool false], .bool false]) (by simp [results, Tryd.results97, go_sem, e0z, e1z, e2z]) rfl ?_
      rw [HL.out]
      exact ⟨rfl, below3 hb0 (Nat.le_refl _) _ _ _⟩
end Go.Proofs.YthbppblmecdekaaDoor

/- Contracts: the reference's Get, Newest, kway.Find, the reference's Find; copies of runs, and whether runs are the same. -/
namespace Go.Proofs.YthbppblmecdekaaDoor
open Go Go.RowKit
set_option maxRecDepth 100000


theorem newest_drop {rs : List (List Ent)} {k : Nat} (h : k < rs.length) (key : Int) : newest (rs.drop k) key = (look (rs[k]'h) key).or (newest (rs.drop (k + 1)) key) := by
  rw [List.drop_eq_getElem_cons h, newest_cons]
set_option maxHeartbeats 1000000 in
theorem newest_any (B : Option Addr) (Rs : List Rm) (c : Nat) (key : Int) (w : World) (hB : RunsAt w B Rs) (hl : Rs.length ≤ 4611686018427387903) (hrs : ∀ r ∈ Rs, r.l.length ≤ 4611686018427387903) :
    Calls Tryd.prog 60 #[.slice B Rs.length c, .int .i64 key] w (GivesO (newest (Rs.map Rm.l) key) w) := by
  obtain ⟨W0, hW0⟩ : ∃ W0, w.alloc (.cells #[.int .i64 0, .int .i64 0, .bool false] 27) = W0 := ⟨_, rfl⟩
  have hb0 : Below w.heap.size w W0 := by rw [← hW0]; exact (Below.refl _ _).alloc (Nat.le_refl _) _
  have bR0 : Blk W0 w.heap.size 27 #[.int .i64 0, .int .i64 0, .bool false] := by rw [← hW0]; exact Blk.new _ _ _
  obtain ⟨rs, hrs2⟩ : ∃ rs, Rs.map Rm.l = rs := ⟨_, rfl⟩
  rw [hrs2]
  have hln : rs.length = Rs.length := by rw [← hrs2]; simp
  have HRS := Lib.hid hrs2
  have HB := Lib.hid hB
  have HLN := Lib.hid hln
  have HHR := Lib.hid hrs
  clear hB hrs2 hln hrs
  go_enter Tryd.func60, Tryd.ntmps60
  go_wp2_with fail
  try rw [hW0]
  clear hW0
  go_loopw [6] (fun i wr => ∃ k : Nat, k ≤ Rs.length ∧ i = .int .i64 k ∧ Below W0.heap.size W0 wr ∧ Hid (newest (rs.drop k) key = newest rs key)) (fun i _ => Rs.length - (intOf i).toNat)
  case atStart => exact ⟨0, Nat.zero_le _, rfl, Below.refl _ _, rfl⟩
  case round =>
    obtain ⟨k, hk, rfl, hb, hd⟩ := hrel
    have bR1 := bR0.below hb bR0.lt
    have hbw := bext hb0 hb
    by_cases hlt : k < Rs.length
    · have hltr : k < rs.length := by rw [HLN.out]; exact hlt
      have hs := newest_drop hltr key
      have hg : rs[k]'hltr = (Rs[k]'hlt).l := by have := HRS.out; subst this; simp
      rw [hg, hd.out] at hs
      obtain ⟨b, off, rfl, hbl, cp⟩ := HB.out.sl.oneB hbw k hlt
      have hok := (HB.out.ok _ (List.getElem_mem hlt)).below hbw
      have hrl := HHR.out _ (List.getElem_mem hlt)
      obtain ⟨r, hr⟩ : ∃ r, Rs[k]'hlt = r := ⟨_, rfl⟩
      rw [hr] at hs cp hok hrl
      obtain ⟨l, A, cl⟩ := r
      have cp1 : wr.cell? ⟨b, off + k, none⟩ = some (.slice A l.length cl) := cp
      dsimp only at hs hrl
      have i0 : (0 : Int) ≤ (k : Int) := by omega
      have i1 : (k : Int) < (Rs.length : Int) := by omega
      have HOK := Lib.hid hok.sl
      obtain ⟨o, ho⟩ : ∃ o, look l key = o := ⟨_, rfl⟩
      rw [ho] at hs
      have HO := Lib.hid ho
      have HS := Lib.hid hs
      clear cp hg hr hok ho hs
      go_wp2_with fail
      refine (has_any A l cl key _ HOK.out hrl).mono ?_
      rw [HO.out]
      rintro e w2 ⟨rfl, hb2⟩
      have bR1 := bR1.below hb2 bR1.lt
      obtain ⟨x, hx⟩ : ∃ x, o.getD zeroE = x := ⟨_, rfl⟩
      rw [hx]
      have HXX := Lib.hid hx
      have ba : Below w2.heap.size w2 (w2.alloc (.cells #[.int .i64 x.key, .int .i64 x.val, .bool x.dead] 27)) := (Below.refl _ _).alloc (Nat.le_refl _) _
      have bB : Blk (w2.alloc (.cells #[.int .i64 x.key, .int .i64 x.val, .bool x.dead] 27)) w2.heap.size 27 #[.int .i64 x.key, .int .i64 x.val, .bool x.dead] := Blk.new _ _ _
      have bR1 := bR1.below ba bR1.lt
      have hb3 := bext hb2 ba
      clear cp1 hx
      go_upto_region 5 with fail
      obtain ⟨W3, hW3⟩ : ∃ W3, w2.alloc (.cells #[.int .i64 x.key, .int .i64 x.val, .bool x.dead] 27) = W3 := ⟨_, rfl⟩
      rw [hW3] at ba bB bR1 hb3
      try rw [hW3]
      have d0 : W3.cell? ⟨w.heap.size, 0, none⟩ = some (.int .i64 0) := bR1.cell 0
      have d1 : W3.cell? ⟨w.heap.size, 1, none⟩ = some (.int .i64 0) := bR1.cell 1
      have d2 : W3.cell? ⟨w.heap.size, 2, none⟩ = some (.bool false) := bR1.cell 2
      have f0 := bR1.frozen 0
      have f1 := bR1.frozen 1
      have f2 := bR1.frozen 2
      have b0 : W3.cell? ⟨w2.heap.size, 0, none⟩ = some (.int .i64 x.key) := bB.cell 0
      have b1 : W3.cell? ⟨w2.heap.size, 1, none⟩ = some (.int .i64 x.val) := bB.cell 1
      have b2 : W3.cell? ⟨w2.heap.size, 2, none⟩ = some (.bool x.dead) := bB.cell 2
      clear hW3 ba
      cases o with
      | none =>
        clear b0 b1 b2 d0 d1 d2 f0 f1 f2
        go_wp2
        go_roundw
        case rel => exact ⟨k + 1, by omega, by go_num, bext hb hb3, by show _ = _; rw [HS.out, Option.none_or]⟩
        case measure => simp [intOf]; omega
      | some y =>
        have HZ : Hid (x = y) := HXX.out.symm
        go_wp2_with fail
        have bFy := put3 bR1 (.int .i64 x.key) (.int .i64 x.val) (.bool x.dead)
        have e0y := bFy.cell 0
        have e1y := bFy.cell 1
        have e2y := bFy.cell 2
        simp only [List.getElem?_toArray, List.getElem?_cons_zero, List.getElem?_cons_succ] at e0y e1y e2y
        refine bodyPost_ret (v := .tuple #[.agg #[.int .i64 x.key, .int .i64 x.val, .bool x.dead], .bool true]) (by simp [results, Tryd.results60, go_sem, e0y, e1y, e2y]) rfl ?_
        rw [HS.out, Option.some_or]
        refine ⟨by rw [HZ.out]; rfl, below3 (bext hbw hb3) (Nat.le_refl _) _ _ _⟩
    · have HN : Hid (newest rs key = none) := by show _ = _; rw [← hd.out, List.drop_eq_nil_of_le (by rw [HLN.out]; omega)]; rfl
      have d0 : wr.cell? ⟨w.heap.size, 0, none⟩ = some (.int .i64 0) := bR1.cell 0
      have d1 : wr.cell? ⟨w.heap.size, 1, none⟩ = some (.int .i64 0) := bR1.cell 1
      have d2 : wr.cell? ⟨w.heap.size, 2, none⟩ = some (.bool false) := bR1.cell 2
      have f0 := bR1.frozen 0
      have f1 := bR1.frozen 1
      have f2 := bR1.frozen 2
      go_wp2_with fail
      have bFv := put3 bR1 (.int .i64 0) (.int .i64 0) (.bool false)
      have e0v := bFv.cell 0
      have e1v := bFv.cell 1
      have e2v := bFv.cell 2
      simp only [List.getElem?_toArray, List.getElem?_cons_zero, List.getElem?_cons_succ] at e0v e1v e2v
      refine bodyPost_ret (v := .tuple #[.agg #[.int .i64 0, .int .i64 0, .bool false], .bool false]) (by simp [results, Tryd.results60, go_sem, e0v, e1v, e2v]) rfl ?_
      rw [HN.out]
      exact ⟨rfl, below3 hbw (Nat.le_refl _) _ _ _⟩


theorem run_info1 : (Tryd.prog.info? 61).map (fun i => (i.zero, i.size, i.bytes)) = some (some (.agg #[.slice none 0 0]), 1, 24) := by kernel_rfl
/-- hands back copies of runs, in new memory -/
def GivesTwins (ls : List (List Ent)) (w : World) (r : Ending) (w' : World) : Prop :=
  ∃ (A : Option Addr) (c : Nat) (Ts : List Rm), r = .returned (.slice A Ts.length c) ∧ Ts.map Rm.l = ls ∧ RunsAt w' A Ts ∧ Below w.heap.size w w'
set_option maxHeartbeats 2000000 in
theorem twins_any (B : Option Addr) (Rs : List Rm) (c : Nat) (w : World) (hB : RunsAt w B Rs) (hl : Rs.length ≤ 1000000) (hrs : ∀ r ∈ Rs, r.l.length ≤ 1000000) :
    Calls Tryd.prog 54 #[.slice B Rs.length c] w (GivesTwins (Rs.map Rm.l) w) := by
  obtain ⟨te0, hI⟩ := info_parts run_info1
  have HI := Lib.hid hI
  have HB := Lib.hid hB
  have HHR := Lib.hid hrs
  clear hI hB hrs
  go_enter Tryd.func54, Tryd.ntmps54
  go_wp2
  go_loopw [3, 4] (fun v i wr => ∃ (k : Nat) (Ts : List Rm) (A' : Option Addr) (c' : Nat), k ≤ Rs.length ∧ i = .int .i64 k ∧ Below w.heap.size w wr ∧ v = .slice A' k c' ∧ Hid (Ts.length = k) ∧
      wr.ownsRow w.heap.size 61 1 (.slice A' k c') k (Ts.map Rm.v) ∧ (∀ s ∈ Ts, wr.ownsRow w.heap.size 27 3 s.v s.l.length (s.l.flatMap Ent.cells)) ∧ Hid (Ts.map Rm.l = (Rs.map Rm.l).take k)) (fun _ i _ => Rs.length - (intOf i).toNat)
  case atStart => exact ⟨0, [], none, 0, Nat.zero_le _, rfl, Below.refl _ _, rfl, rfl, World.ownsRow_nil _ _ _ _, by simp, rfl⟩
  case round =>
    obtain ⟨k, Ts, A', c', hk, rfl, hb, rfl, hTk, hown, hS, hin⟩ := hrel
    have hbs := hb.size
    by_cases hlt : k < Rs.length
    · obtain ⟨b, off, rfl, hbl, cp⟩ := HB.out.sl.oneB hb k hlt
      have hok := (HB.out.ok _ (List.getElem_mem hlt)).below hb
      have hrl := HHR.out _ (List.getElem_mem hlt)
      have hin2 : (Rs.map Rm.l).take (k + 1) = (Rs.map Rm.l).take k ++ [(Rs[k]'hlt).l] := by
        rw [List.take_succ_eq_append_getElem (by simpa using hlt)]; simp
      obtain ⟨r, hr⟩ : ∃ r, Rs[k]'hlt = r := ⟨_, rfl⟩
      rw [hr] at cp hok hrl hin2
      obtain ⟨l, A, cl⟩ := r
      have cp1 : wr.cell? ⟨b, off + k, none⟩ = some (.slice A l.length cl) := cp
      dsimp only at hrl hin2
      have hki : (0 : Int) ≤ (k : Int) := by omega
      have hki2 : (k : Int) < (Rs.length : Int) := by omega
      have HOK := Lib.hid hok.sl
      have HIN := Lib.hid hin2
      have HOW := Lib.hid hown
      have HSS := Lib.hid hS
      clear cp hr hok hin2 hown hS
      go_wp2_with fail
      refine (refTwin_any A l cl _ HOK.out hrl).mono ?_
      rintro e w1 ⟨A1, c1, rfl, ho1, hb1⟩
      have HO1 := Lib.hid (own_mono (B' := w.heap.size) ho1 (by omega))
      have HOW1 := Lib.hid (own_below HOW.out hb1)
      have hs1 := hb1.size
      clear ho1 cp1
      go_wp2_with (at_builtin; refine wpList_append_sl _ rfl (.tmp 11) (.tmp 17) _ rfl w.heap.size 61 te0 _ 1 24 Tryd.underlying22 HI.out.1 HI.out.2.1 HI.out.2.2.1 HI.out.2.2.2 rfl (by omega) (.slice A' k c') k _ rfl (HOW1.out.alloc _) _ 1 _ [.slice A1 l.length c1] rfl (by exact sl_new1 _ _ _) rfl (by simp [Value.oneCell']) (by unfold maxLen; omega) (by omega) (by simp; omega) ?_; intro v2 w2 hown2 hg2; obtain ⟨A2, q2, rfl, hle2, hmx2⟩ := own_form hown2; have HO2 := Lib.hid hown2; clear hown2)
      go_roundw
      case rel =>
        refine ⟨k + 1, Ts ++ [⟨l, A1, c1⟩], A2, q2, by omega, by go_num, ?_, rfl, ?_, ?_, ?_, ?_⟩
        · exact ((bext hb hb1).alloc (by omega) _).grown hg2 (by simp; omega) (fun q hq => (HOW1.out.lt q hq).1)
        · show _ = _
          rw [List.length_append, hTk.out]; rfl
        · rw [List.map_append]; exact HO2.out
        · intro s hs
          refine own_grow hg2 (HOW1.out.alloc _) ?_ (by decide)
          rcases List.mem_append.1 hs with hs | hs
          · exact (own_below (HSS.out s hs) hb1).alloc _
          · obtain rfl : s = ⟨l, A1, c1⟩ := by simpa using hs
            exact HO1.out.alloc _
        · show _ = _
          rw [List.map_append, hin.out, HIN.out]; rfl
      case measure => simp [intOf]; omega
    · have hkn : k = Rs.length := by omega
      have HIN : Hid (Ts.map Rm.l = Rs.map Rm.l) := by show _ = _; rw [hin.out, List.take_of_length_le (by simp; omega)]
      have HTN : Hid (Ts.length = k) := hTk
      have hO : RunsAt wr A' Ts := by
        refine ⟨own_sl hown, fun s hs => ?_⟩
        have h1 := hS s hs
        obtain ⟨A3, c3, h3, h4, h5⟩ := own_form h1
        obtain ⟨ls, As, cs⟩ := s
        have h6 : As = A3 ∧ cs = c3 := by simpa [Rm.v] using h3
        obtain ⟨rfl, rfl⟩ := h6
        exact ⟨own_sl h1, h4, h5⟩
      have HO := Lib.hid hO
      clear hkn hO hown hS hin hTk
      go_wp2
      go_ret
      exact ⟨A', c', Ts, by rw [HTN.out]; rfl, HIN.out, HO.out, hb⟩

set_option maxHeartbeats 1000000 in
theorem sameAll_yes (B D : Option Addr) (Rs Ts : List Rm) (n c d : Nat) (w : World) (hn : Ts.length = n) (hB : RunsAt w B Rs) (hD : RunsAt w D Ts) (he : Ts.map Rm.l = Rs.map Rm.l) (hl : Rs.length ≤ 1000000) (hrs : ∀ r ∈ Rs, r.l.length ≤ 1000000) :
    Calls Tryd.prog 63 #[.slice D n d, .slice B Rs.length c] w fun r w' => r = .returned (.bool true) ∧ Below w.heap.size w w' := by
  have hlen : Ts.length = Rs.length := by have := congrArg List.length he; simpa using this
  obtain rfl : n = Rs.length := by omega
  have HB := Lib.hid hB
  have HD := Lib.hid hD
  have HE := Lib.hid he
  have HLL := Lib.hid hlen
  have HHR := Lib.hid hrs
  clear hB hD he hlen hn hrs
  go_enter Tryd.func63, Tryd.ntmps63
  go_wp2
  go_loopw [5] (fun i wr => ∃ k : Nat, k ≤ Rs.length ∧ i = .int .i64 k ∧ Below w.heap.size w wr) (fun i _ => Rs.length - (intOf i).toNat)
  case atStart => exact ⟨0, Nat.zero_le _, rfl, Below.refl _ _⟩
  case round =>
    obtain ⟨k, hk, rfl, hb⟩ := hrel
    by_cases hlt : k < Rs.length
    · have hlt2 : k < Ts.length := by rw [HLL.out]; exact hlt
      obtain ⟨b, off, rfl, hbl, cp⟩ := HB.out.sl.oneB hb k hlt
      obtain ⟨b2, off2, rfl, hbl2, cq⟩ := HD.out.sl.oneB hb k hlt2
      have hok := (HB.out.ok _ (List.getElem_mem hlt)).below hb
      have hok2 := (HD.out.ok _ (List.getElem_mem hlt2)).below hb
      have hll : (Ts[k]'hlt2).l = (Rs[k]'hlt).l := by
        have h := HE.out
        have h2 : (Ts.map Rm.l)[k]? = (Rs.map Rm.l)[k]? := by rw [h]
        simpa [hlt, hlt2] using h2
      have hrl := HHR.out _ (List.getElem_mem hlt)
      obtain ⟨r, hr⟩ : ∃ r, Rs[k]'hlt = r := ⟨_, rfl⟩
      obtain ⟨s, hs⟩ : ∃ s, Ts[k]'hlt2 = s := ⟨_, rfl⟩
      rw [hr] at cp hok hll hrl
      rw [hs] at cq hok2 hll
      obtain ⟨l, A, cl⟩ := r
      obtain ⟨l2, A2, cl2⟩ := s
      dsimp only at hll
      subst hll
      have cp1 : wr.cell? ⟨b, off + k, none⟩ = some (.slice A l2.length cl) := cp
      have cq1 : wr.cell? ⟨b2, off2 + k, none⟩ = some (.slice A2 l2.length cl2) := cq
      dsimp only at hrl
      have htw : ∀ W, Below wr.heap.size wr W → Calls Tryd.prog 99 #[.agg #[.slice A2 l2.length cl2], .agg #[.slice A l2.length cl]] W (fun r w' => r = .returned (.bool true) ∧ Below W.heap.size W w') := by
        intro W hW
        have h8 := refSame_any A2 A l2 l2 cl2 cl W (hok2.sl.below hW) (hok.sl.below hW) (by omega) (by omega)
        rw [decide_eq_true rfl] at h8
        exact h8
      have HTW := Lib.hid htw
      have lb1 : b < wr.heap.size := Nat.lt_of_lt_of_le hbl hb.size
      have lb2 : b2 < wr.heap.size := Nat.lt_of_lt_of_le hbl2 hb.size
      have hki : (0 : Int) ≤ (k : Int) := by omega
      have hki2 : (k : Int) < (Rs.length : Int) := by omega
      clear cp cq hr hs hok hok2 htw hbl hbl2
      go_upto_region 6 with fail
      go_cut [26] from 17 to 26 (fun v wx => v = .bool false ∧ Below wr.heap.size wr wx)
      case first =>
        go_region_held3 (fun w' => (∀ bq jq, bq < wr.heap.size → w'.cell? ⟨bq, jq, none⟩ = wr.cell? ⟨bq, jq, none⟩) ∧ (∀ bq jq, bq < wr.heap.size → w'.frozen? ⟨bq, jq, none⟩ = wr.frozen? ⟨bq, jq, none⟩) ∧ wr.heap.size ≤ w'.heap.size ∧ Below wr.heap.size wr w') ((with_reducible first | exact SB.init | exact SB.init0 | exact SB.below (by assumption) (by assumption) | assumption))
          (first
            | (go_at_call 99; refine (HTW.out _ (SB.bel (by assumption))).mono ?_; rintro e22 v22 ⟨rfl, hv22⟩; have hl22 := SB.le hv22 (by assumption); obtain ⟨hc22, hz22, hs22⟩ := wfacts hv22)
            | fail "no arm")
        all_goals
          go_wp2_with fail
          go_meet
          exact ⟨by simp, SB.bel (by assumption)⟩
      case rest =>
        obtain ⟨rfl, hbx⟩ := hcut
        clear cp1 cq1
        go_wp2
        go_roundw
        case rel => exact ⟨k + 1, by omega, by go_num, bext hb hbx⟩
        case measure => simp [intOf]; omega
    · go_wp2
      go_ret
      exact ⟨rfl, hb⟩
end Go.Proofs.YthbppblmecdekaaDoor

/- Contract: kway.Find. -/
namespace Go.Proofs.YthbppblmecdekaaDoor
open Go Go.RowKit
set_option maxRecDepth 100000

def isE (o : Option Ent) : Int := if o.isSome then 0 else 6
theorem isE_none : isE none = 6 := rfl
theorem isE_some (x : Ent) : isE (some x) = 0 := rfl
/-- what stands in memory while runs are looked through -/
structure Fst (w : World) (o : Option Ent) (wr : World) : Prop where
  bel : Below w.heap.size w wr
  br : Blk wr w.heap.size 27 #[.int .i64 0, .int .i64 0, .bool false]
  bf : Blk wr (w.heap.size + 1) 27 #[.int .i64 (o.getD zeroE).key, .int .i64 (o.getD zeroE).val, .bool (o.getD zeroE).dead]

set_option maxHeartbeats 4000000 in
theorem kfind_any (B : Option Addr) (Rs : List Rm) (c : Nat) (key : Int) (w : World) (hB : RunsAt w B Rs) (hl : Rs.length ≤ 4611686018427387903) (hrs : ∀ r ∈ Rs, r.l.length ≤ 4611686018427387903) (hT : TabAt 1 Lib.deBruijn64tab w) :
    Calls Tryd.prog 41 #[.slice B Rs.length c, .int .i64 key] w (GivesX (kfX (Rs.map Rm.l) key) (kfE (Rs.map Rm.l) key) w) := by
  obtain ⟨W0, hW0⟩ : ∃ W0, (w.alloc (.cells #[.int .i64 0, .int .i64 0, .bool false] 27)).alloc (.cells #[.int .i64 0, .int .i64 0, .bool false] 27) = W0 := ⟨_, rfl⟩
  have hb0 : Below w.heap.size w W0 := by rw [← hW0]; exact ((Below.refl _ _).alloc (Nat.le_refl _) _).alloc (by simp) _
  have bR0 : Blk W0 w.heap.size 27 #[.int .i64 0, .int .i64 0, .bool false] := by rw [← hW0]; exact (Blk.new _ _ _).alloc _
  have bF0 : Blk W0 (w.heap.size + 1) 27 #[.int .i64 0, .int .i64 0, .bool false] := by
    rw [← hW0]
    have := Blk.new (w.alloc (.cells #[.int .i64 0, .int .i64 0, .bool false] 27)) 27 #[.int .i64 0, .int .i64 0, .bool false]
    rwa [World.size_alloc] at this
  have hF0 : Fst w none W0 := ⟨hb0, bR0, bF0⟩
  obtain ⟨rs, hrs2⟩ : ∃ rs, Rs.map Rm.l = rs := ⟨_, rfl⟩
  rw [hrs2]
  have hln : rs.length = Rs.length := by rw [← hrs2]; simp
  obtain ⟨X1, hX1⟩ : ∃ X1, kfX rs key = X1 := ⟨_, rfl⟩
  obtain ⟨G1, hG1⟩ : ∃ G1, kfE rs key = G1 := ⟨_, rfl⟩
  rw [hX1, hG1]
  have HX1 := Lib.hid hX1
  have HG1 := Lib.hid hG1
  have HRS := Lib.hid hrs2
  have HB := Lib.hid hB
  have HLN := Lib.hid hln
  have HHR := Lib.hid hrs
  have HT := Lib.hid hT
  have HF0 := Lib.hid hF0
  have hTl := tab_lt hT
  have HW0 := Lib.hid hW0
  clear hB hrs2 hln hrs hX1 hG1 hT hF0 hb0 bR0 bF0 hW0
  go_enter Tryd.func41, Tryd.ntmps41
  go_wp2_with fail
  try rw [HW0.out]
  clear HW0
  go_loopw [7, 15] (fun v i wr => ∃ (k : Nat) (o : Option Ent) (E : Int), k ≤ Rs.length ∧ i = .int .i64 k ∧ v = .int .i64 E ∧ Hid (E = isE o) ∧ Hid (o = newest (rs.take k) key) ∧ Hid (chkAllE (rs.take k) = 0) ∧ Hid (Fst w o wr)) (fun _ i _ => Rs.length - (intOf i).toNat)
  case atStart => exact ⟨0, none, 6, Nat.zero_le _, rfl, rfl, rfl, rfl, rfl, HF0.out⟩
  case round =>
    obtain ⟨k, o, E, hk, rfl, rfl, hE, ho, hC, hF⟩ := hrel
    by_cases hlt : k < Rs.length
    · have hltr : k < rs.length := by rw [HLN.out]; exact hlt
      obtain ⟨hs1, hs2⟩ := chkAll_take hltr hC.out
      have hs3 := newest_succ hltr key
      have hg : rs[k]'hltr = (Rs[k]'hlt).l := by have := HRS.out; subst this; simp
      rw [hg] at hs1 hs2 hs3
      rw [← ho.out] at hs3
      have hbw := hF.out.bel
      obtain ⟨b, off, rfl, hbl, cp⟩ := HB.out.sl.oneB hbw k hlt
      have hok := (HB.out.ok _ (List.getElem_mem hlt)).below hbw
      have hrl := HHR.out _ (List.getElem_mem hlt)
      obtain ⟨r, hr⟩ : ∃ r, Rs[k]'hlt = r := ⟨_, rfl⟩
      rw [hr] at hs1 hs2 hs3 cp hok hrl
      obtain ⟨l, A, cl⟩ := r
      have cp1 : wr.cell? ⟨b, off + k, none⟩ = some (.slice A l.length cl) := cp
      dsimp only at hs1 hs2 hs3 hrl
      have i0 : (0 : Int) ≤ (k : Int) := by omega
      have i1 : (k : Int) < (Rs.length : Int) := by omega
      have ba0 : Below wr.heap.size wr (wr.alloc (.cells #[.slice A l.length cl] 61)) := (Below.refl _ _).alloc (Nat.le_refl _) _
      have HOK := Lib.hid (hok.sl.below ba0)
      have HTB := Lib.hid (tab_below hTl HT.out (bext hbw ba0))
      have HBA0 := Lib.hid ba0
      have lw : w.heap.size + 1 < wr.heap.size := hF.out.bf.lt
      obtain ⟨f, hf⟩ : ∃ f, gtE l key = f := ⟨_, rfl⟩
      obtain ⟨y, hy⟩ : ∃ y, gtX l key = y := ⟨_, rfl⟩
      have HFE := Lib.hid hf
      have HFX := Lib.hid hy
      have HS1 := Lib.hid hs1
      have HS2 := Lib.hid hs2
      have HS3 := Lib.hid hs3
      clear cp hg hr hok hf hy hs1 hs2 hs3 ba0 hbw
      go_wp2_with fail
      refine (runGet_any A l cl key _ HOK.out hrl HTB.out).mono ?_
      rw [HFE.out, HFX.out]
      rintro e w2 ⟨rfl, hb2⟩
      have hb02 := bext HBA0.out hb2
      have ba : Below w2.heap.size w2 (w2.alloc (.cells #[.int .i64 y.key, .int .i64 y.val, .bool y.dead] 27)) := (Below.refl _ _).alloc (Nat.le_refl _) _
      have bY : Blk (w2.alloc (.cells #[.int .i64 y.key, .int .i64 y.val, .bool y.dead] 27)) w2.heap.size 27 #[.int .i64 y.key, .int .i64 y.val, .bool y.dead] := Blk.new _ _ _
      have hb3 := bext hb02 ba
      clear cp1 hb2
      go_upto_region 6 with fail
      obtain ⟨W3, hW3⟩ : ∃ W3, w2.alloc (.cells #[.int .i64 y.key, .int .i64 y.val, .bool y.dead] 27) = W3 := ⟨_, rfl⟩
      rw [hW3] at ba bY hb3
      try rw [hW3]
      have bR1 := hF.out.br.below hb3 (by omega)
      have bF1 := hF.out.bf.below hb3 lw
      have hb4 := bext hF.out.bel hb3
      have d0y : W3.cell? ⟨w2.heap.size, 0, none⟩ = some (.int .i64 y.key) := bY.cell 0
      have d1y : W3.cell? ⟨w2.heap.size, 1, none⟩ = some (.int .i64 y.val) := bY.cell 1
      have d2y : W3.cell? ⟨w2.heap.size, 2, none⟩ = some (.bool y.dead) := bY.cell 2
      have f0y := bY.frozen 0
      have f1y := bY.frozen 1
      have f2y := bY.frozen 2
      clear hW3 ba f0y f1y f2y
      have hv := gt_vals l key
      rw [HFE.out] at hv
      by_cases hc : chkE l = 0
      · have hf06 : f = 0 ∨ f = 6 := by
          rcases hv with h | h | h
          · exact .inl h
          · exact .inr h
          · exact absurd hc h.1
        have HC2 : Hid (chkAllE (rs.take (k + 1)) = 0) := by show _ = _; rw [HS1.out]; exact hc
        clear hv
        rcases hf06 with rfl | rfl
        · have hsome : ∃ x, look l key = some x := by
            have h := HFE.out
            unfold gtE at h
            rw [if_pos hc] at h
            cases hl2 : look l key with
            | none => rw [hl2] at h; simp at h
            | some x => exact ⟨x, rfl⟩
          obtain ⟨x, hx⟩ := hsome
          have hyx : y = x := by have h := HFX.out; unfold gtX at h; rw [if_pos hc, hx] at h; exact h.symm
          have hnew : newest (rs.take (k + 1)) key = o.or (some x) := by rw [HS3.out, hx]
          have HYX := Lib.hid hyx
          have HNW := Lib.hid hnew
          clear hyx hnew hx hc
          cases o with
          | none =>
            have hE6 : E = 6 := hE.out
            subst hE6
            have d0 : W3.cell? ⟨w.heap.size + 1, 0, none⟩ = some (.int .i64 0) := bF1.cell 0
            have d1 : W3.cell? ⟨w.heap.size + 1, 1, none⟩ = some (.int .i64 0) := bF1.cell 1
            have d2 : W3.cell? ⟨w.heap.size + 1, 2, none⟩ = some (.bool false) := bF1.cell 2
            have f0 := bF1.frozen 0
            have f1 := bF1.frozen 1
            have f2 := bF1.frozen 2
            go_wp2_with fail
            have bF2 := put3 bF1 (.int .i64 y.key) (.int .i64 y.val) (.bool y.dead)
            go_roundw
            case rel =>
              refine ⟨k + 1, some y, 0, by omega, by go_num, rfl, rfl, ?_, HC2, ⟨below3 hb4 (Nat.le_succ _) _ _ _, ?_, bF2⟩⟩
              · show _ = _
                rw [HNW.out, HYX.out]; rfl
              · exact ((bR1.far (p := ⟨w.heap.size + 1, 0, none⟩) (Nat.ne_of_lt (Nat.lt_succ_self _)) _).far (p := ⟨w.heap.size + 1, 1, none⟩) (Nat.ne_of_lt (Nat.lt_succ_self _)) _).far (p := ⟨w.heap.size + 1, 2, none⟩) (Nat.ne_of_lt (Nat.lt_succ_self _)) _
            case measure => simp [intOf]; omega
          | some z =>
            have hE0 : E = 0 := hE.out
            subst hE0
            clear d0y d1y d2y
            go_wp2_with fail
            go_roundw
            case rel => exact ⟨k + 1, some z, 0, by omega, by go_num, rfl, rfl, by show _ = _; rw [HNW.out]; rfl, HC2, ⟨hb4, bR1, bF1⟩⟩
            case measure => simp [intOf]; omega
        · have hnone : look l key = none := by
            have h := HFE.out
            unfold gtE at h
            rw [if_pos hc] at h
            cases hl2 : look l key with
            | none => rfl
            | some x => rw [hl2] at h; simp at h
          have HNW : Hid (newest (rs.take (k + 1)) key = o) := by show _ = _; rw [HS3.out, hnone, Option.or_none]
          clear hnone hc d0y d1y d2y
          go_wp2_with fail
          go_roundw
          case rel => exact ⟨k + 1, o, E, by omega, by go_num, by first | rfl | simp, hE, by show _ = _; rw [HNW.out], HC2, ⟨hb4, bR1, bF1⟩⟩
          case measure => simp [intOf]; omega
      · have hfc : f = chkE l := by
          have h := HFE.out
          unfold gtE at h
          rw [if_neg hc] at h
          exact h.symm
        have hf0 : f ≠ 0 := by rw [hfc]; exact hc
        have hf6 : f ≠ 6 := by rcases chk_vals l with h | h | h | h <;> omega
        have h1 : (f != 0) = true := by simpa using hf0
        have h2 : (f != 6) = true := by simpa using hf6
        have HA1 : Hid (chkAllE rs = f) := by show _ = _; rw [hfc]; exact HS2.out hc
        have HXZ : Hid (X1 = zeroE) := by show _ = _; rw [← HX1.out]; unfold kfX; rw [HA1.out, if_neg hf0]
        have HGF : Hid (G1 = f) := by show _ = _; rw [← HG1.out]; unfold kfE; rw [HA1.out, if_neg hf0]
        have d0 : W3.cell? ⟨w.heap.size, 0, none⟩ = some (.int .i64 0) := bR1.cell 0
        have d1 : W3.cell? ⟨w.heap.size, 1, none⟩ = some (.int .i64 0) := bR1.cell 1
        have d2 : W3.cell? ⟨w.heap.size, 2, none⟩ = some (.bool false) := bR1.cell 2
        have f0 := bR1.frozen 0
        have f1 := bR1.frozen 1
        have f2 := bR1.frozen 2
        clear hfc hf0 hf6 hv hc d0y d1y d2y
        go_wp2_with fail
        have bFz := put3 bR1 (.int .i64 0) (.int .i64 0) (.bool false)
        have e0z := bFz.cell 0
        have e1z := bFz.cell 1
        have e2z := bFz.cell 2
        simp only [List.getElem?_toArray, List.getElem?_cons_zero, List.getElem?_cons_succ] at e0z e1z e2z
        refine bodyPost_ret (v := .tuple #[.agg #[.int .i64 0, .int .i64 0, .bool false], .int .i64 f]) (by simp [results, Tryd.results41, go_sem, e0z, e1z, e2z]) rfl ?_
        rw [HXZ.out, HGF.out]
        exact ⟨rfl, below3 hb4 (Nat.le_refl _) _ _ _⟩
    · have hkn : rs.take k = rs := List.take_of_length_le (by rw [HLN.out]; omega)
      have hC2 := hC.out
      have ho2 := ho.out
      rw [hkn] at hC2 ho2
      have HXZ : Hid (X1 = o.getD zeroE) := by show _ = _; rw [← HX1.out]; unfold kfX; rw [if_pos hC2, ho2]
      have HGF : Hid (G1 = E) := by
        show _ = _
        rw [← HG1.out, hE.out, ho2]
        unfold kfE
        rw [if_pos hC2]
        rfl
      obtain ⟨x, hx⟩ : ∃ x, o.getD zeroE = x := ⟨_, rfl⟩
      have bF1 := hF.out.bf
      rw [hx] at bF1
      have HXX := Lib.hid hx
      have bR1 := hF.out.br
      have d0 : wr.cell? ⟨w.heap.size, 0, none⟩ = some (.int .i64 0) := bR1.cell 0
      have d1 : wr.cell? ⟨w.heap.size, 1, none⟩ = some (.int .i64 0) := bR1.cell 1
      have d2 : wr.cell? ⟨w.heap.size, 2, none⟩ = some (.bool false) := bR1.cell 2
      have f0 := bR1.frozen 0
      have f1 := bR1.frozen 1
      have f2 := bR1.frozen 2
      have d0y : wr.cell? ⟨w.heap.size + 1, 0, none⟩ = some (.int .i64 x.key) := bF1.cell 0
      have d1y : wr.cell? ⟨w.heap.size + 1, 1, none⟩ = some (.int .i64 x.val) := bF1.cell 1
      have d2y : wr.cell? ⟨w.heap.size + 1, 2, none⟩ = some (.bool x.dead) := bF1.cell 2
      have f0y := bF1.frozen 0
      have f1y := bF1.frozen 1
      have f2y := bF1.frozen 2
      clear hkn hC2 ho2 hx f0y f1y f2y
      go_wp2_with fail
      have bFz := put3 bR1 (.int .i64 x.key) (.int .i64 x.val) (.bool x.dead)
      have e0z := bFz.cell 0
      have e1z := bFz.cell 1
      have e2z := bFz.cell 2
      simp only [List.getElem?_toArray, List.getElem?_cons_zero, List.getElem?_cons_succ] at e0z e1z e2z
      refine bodyPost_ret (v := .tuple #[.agg #[.int .i64 x.key, .int .i64 x.val, .bool x.dead], .int .i64 E]) (by simp [results, Tryd.results41, go_sem, e0z, e1z, e2z]) rfl ?_
      rw [HXZ.out, HGF.out, HXX.out]
      exact ⟨rfl, below3 hF.out.bel (Nat.le_refl _) _ _ _⟩
end Go.Proofs.YthbppblmecdekaaDoor

/- A region that draws its order, by what holds behind each operation, whichever have come up. No program in sight. -/
namespace Go.Proofs.YthbppblmecdekaaDoor
open Go Go.RowKit

theorem inv_any {P : Program} {ops : Array Oper} {Q : Exit → Act → World → Prop} {md : Region.Mode} (I : (Nat → Bool) → Act → World → Prop)
    (hwf : ∀ (i : Nat) (o : Oper), ops[i]? = some o → ∀ e ∈ o.after, Region.binds md e = true → e.on < i)
    (hstep : ∀ (L : Nat → Bool) (a : Act) (w : World) (i : Nat) (o : Oper), ops[i]? = some o → L i = false → (∀ e ∈ o.after, Region.binds md e = true → L e.on = true) → I L a w → wpOp P ops Q i (fun a' w' => I (fun j => if j = i then true else L j) a' w') a w)
    (hend : ∀ L a w, (∀ i, i < ops.size → L i = true) → I L a w → Q .normal a w) :
    ∀ (fuel : Nat) (listed : Array Bool) a w, listed.size = ops.size → listed.toList.countP (· = false) ≤ fuel → I (fun j => listed.getD j false) a w → wpAny P md ops Q fuel listed a w := by
  have hfull : ∀ (listed : Array Bool), listed.size = ops.size → Region.ready md ops listed = [] → ∀ i, i < ops.size → listed.getD i false = true := by
    intro listed hsz hr i
    induction i using Nat.strongRecOn with
    | _ i ih =>
      intro hi
      have hmem : i ∉ Region.ready md ops listed := by rw [hr]; simp
      have ho : ops[i]? = some ops[i] := Array.getElem?_eq_getElem hi
      rw [mem_ready] at hmem
      have hall : ∀ e ∈ (ops[i]).after, Region.binds md e = true → listed.getD e.on false = true := fun e he hb => ih e.on (hwf i _ ho e he hb) (by have := hwf i _ ho e he hb; omega)
      have h2 : ¬ listed.getD i true = false := fun h => hmem ⟨h, _, ho, hall⟩
      have hl : i < listed.size := by omega
      simp [Array.getD, hl] at h2 ⊢
      exact h2
  intro fuel
  induction fuel with
  | zero =>
    intro listed a w hsz hc hI
    have hall : ∀ i, i < ops.size → listed.getD i false = true := by
      intro i hi
      have hl : i < listed.size := by omega
      have hz : listed.toList.countP (· = false) = 0 := by omega
      rw [List.countP_eq_zero] at hz
      have := hz (listed[i]) (by simp)
      simp [Array.getD, hl]
      simpa using this
    refine ⟨?_, hend _ a w hall hI⟩
    cases hr : Region.ready md ops listed with
    | nil => rfl
    | cons x xs =>
      have hx : x ∈ Region.ready md ops listed := by rw [hr]; simp
      rw [mem_ready] at hx
      obtain ⟨h1, o, ho, _⟩ := hx
      have hxs : x < ops.size := (Array.getElem?_eq_some_iff.1 ho).1
      have h2 := hall x hxs
      have hl : x < listed.size := by omega
      simp [Array.getD, hl] at h1 h2
      rw [h1] at h2
      cases h2
  | succ fuel ih =>
    intro listed a w hsz hc hI
    refine ⟨fun hr => hend _ a w (hfull listed hsz hr) hI, fun i hi => ?_⟩
    rw [mem_ready] at hi
    obtain ⟨h1, o, ho, hall⟩ := hi
    have his : i < listed.size := by have := (Array.getElem?_eq_some_iff.1 ho).1; omega
    have hLi : listed.getD i false = false := by simpa [Array.getD, his] using h1
    refine wpOp_mono (fun a' w' h => ih (listed.setIfInBounds i true) a' w' (by simpa using hsz) ?_ ?_) (hstep _ a w i o ho hLi hall hI)
    · have hcnt : ∀ (l : List Bool) (i : Nat) (hi : i < l.length), l[i]'hi = false → (l.set i true).countP (· = false) + 1 = l.countP (· = false) := by
        intro l
        induction l with
        | nil => intro i hi; simp at hi
        | cons x l ihl =>
          intro i hi hx
          cases i with
          | zero => simp at hx; subst hx; simp
          | succ i =>
            have := ihl i (by simpa using hi) (by simpa using hx)
            simp only [List.set_cons_succ, List.countP_cons]
            omega
      have hb : listed[i]'his = false := by simpa [Array.getD, his] using hLi
      have := hcnt listed.toList i (by simpa using his) (by simpa using hb)
      rw [Array.toList_setIfInBounds]
      omega
    · have hfun : (fun j => (listed.setIfInBounds i true).getD j false) = (fun j => if j = i then true else listed.getD j false) := by
        funext j
        by_cases hj : j = i
        · subst hj; simp [Array.getD, his]
        · rw [if_neg hj]; exact getD_set_ne false (fun e => hj e.symm)
      rw [hfun]
      exact h

/-- a region that draws its order -/
theorem region_inv {P : Program} {id : Nat} {ops : Array Oper} {Q : Exit → Act → World → Prop} {a0 : Act} {w0 : World} (hm : P.follows .mixedOrders = true)
    (hwf : (List.range ops.size).all (fun i => ((ops[i]?).map fun o => o.after.all fun e => !Region.binds .any e || decide (e.on < i)).getD true) = true)
    (I : (Nat → Bool) → Act → World → Prop) (h0 : I (fun _ => false) a0 w0.drew)
    (hstep : ∀ (L : Nat → Bool) (a : Act) (w : World) (i : Nat) (o : Oper), ops[i]? = some o → L i = false → (∀ e ∈ o.after, Region.binds .any e = true → L e.on = true) → I L a w → wpOp P ops Q i (fun a' w' => I (fun j => if j = i then true else L j) a' w') a w)
    (hend : ∀ L a w, (∀ i, i < ops.size → L i = true) → I L a w → Q .normal a w) : (Code.region id ops true).wp P Q a0 w0 := by
  refine wp_region_any hm ?_
  refine inv_any I ?_ hstep hend ops.size (Array.replicate ops.size false) a0 _ (by simp) (Nat.le_trans List.countP_le_length (by simp)) ?_
  · intro i o ho e he hb
    rw [List.all_eq_true] at hwf
    have := hwf i (by simpa using (Array.getElem?_eq_some_iff.1 ho).1)
    rw [ho] at this
    simp [Array.all_eq_true] at this
    obtain ⟨k, hk, rfl⟩ := Array.mem_iff_getElem.1 he
    have h := this k hk
    rw [hb] at h
    simpa using h
  · have : (fun j => (Array.replicate ops.size false).getD j false) = fun _ => false := by
      funext j
      by_cases hj : j < ops.size <;> simp [Array.getD, hj]
    rw [this]
    exact h0
end Go.Proofs.YthbppblmecdekaaDoor
