/- Contracts: the references' searches in pairs. -/
import Derived.Test.YtibgpghlnfcilaaMp
import Derived.BigQuiet
namespace Go.Proofs.Ytibgpghlnfcilaa
open Go Go.RowKit
set_option maxRecDepth 100000

theorem bel_succ {l : List Pr} {k : Nat} (h : k < l.length) (key : Int) : bel (l.take (k + 1)) key = bel (l.take k) key + (if (l[k]'h).key < key then 1 else 0) := by
  unfold bel
  rw [List.take_succ_eq_append_getElem h, List.countP_append, List.countP_cons, List.countP_nil]
  simp

set_option maxHeartbeats 1000000 in
theorem refBelow_any (A : Option Addr) (l : List Pr) (c : Nat) (key : Int) (w : World) (hA : Sl w A (l.flatMap Pr.cells)) (hl : l.length ≤ 4611686018427387903) :
    Calls Try.prog 44 #[.slice A l.length c, .int .i64 key] w fun r w' => r = .returned (.int .i64 (bel l key)) ∧ Below w.heap.size w w' := by
  go_enter Try.func44, Try.ntmps44
  go_wp2
  go_loopw [5, 6] (fun n i wr => ∃ k : Nat, k ≤ l.length ∧ i = .int .i64 k ∧ n = .int .i64 (bel (l.take k) key) ∧ Below w.heap.size w wr) (fun _ i _ => l.length - (intOf i).toNat)
  case atStart => exact ⟨0, Nat.zero_le _, rfl, rfl, Below.refl _ _⟩
  case round =>
    obtain ⟨k, hk, rfl, rfl, hb⟩ := hrel
    have hle := bel_le (l.take k) key
    have hlt' : (l.take k).length ≤ k := List.length_take_le _ _
    by_cases hlt : k < l.length
    · obtain ⟨b, off, rfl, hbl, c1, c2⟩ := hA.prB hb k hlt
      have i0 : (0 : Int) ≤ (k : Int) := by omega
      have i1 : (k : Int) < (l.length : Int) := by omega
      have hs := bel_succ hlt key
      generalize (l[k]'hlt) = p at *
      clear hA c2
      by_cases hx : p.key < key
      · rw [if_pos hx] at hs
        have HS := Lib.hid hs
        clear hs
        go_wp2
        go_roundw
        case rel => exact ⟨k + 1, by omega, by go_num, by rw [HS.out]; go_num, hb⟩
        case measure => simp [intOf]; omega
      · rw [if_neg hx] at hs
        have HS := Lib.hid hs
        clear hs
        go_wp2
        go_roundw
        case rel => exact ⟨k + 1, by omega, by go_num, by rw [HS.out]; rfl, hb⟩
        case measure => simp [intOf]; omega
    · go_wp2
      go_ret
      exact ⟨ret_int (by rw [List.take_of_length_le (by omega)]), hb⟩

/-- hands back a pair and whether there is one -/
def GivesPB (p : Pr) (b : Bool) (w : World) (r : Ending) (w' : World) : Prop := r = .returned (.tuple #[.agg #[.int .i64 p.key, .int .i64 p.val], .bool b]) ∧ Below w.heap.size w w'
def ceilP (l : List Pr) (key : Int) : Pr := if bel l key < l.length then l[bel l key]! else ⟨0, 0⟩
def ceilB (l : List Pr) (key : Int) : Bool := decide (bel l key < l.length)
def floorP (l : List Pr) (key : Int) : Pr := if 0 < upk l key then l[upk l key - 1]! else ⟨0, 0⟩
def floorB (l : List Pr) (key : Int) : Bool := decide (0 < upk l key)

set_option maxHeartbeats 1000000 in
theorem ceil_any (A : Option Addr) (l : List Pr) (c : Nat) (key : Int) (w : World) (hA : Sl w A (l.flatMap Pr.cells)) (hl : l.length ≤ 4611686018427387903) (hr : Hid (Ris l)) :
    Calls Try.prog 42 #[.slice A l.length c, .int .i64 key] w (GivesPB (ceilP l key) (ceilB l key) w) := by
  have hb0 : Below w.heap.size w (w.alloc (.cells #[.int .i64 0, .int .i64 0] 23)) := (Below.refl _ _).alloc (Nat.le_refl _) _
  have bN := Blk.new w 23 #[.int .i64 0, .int .i64 0]
  go_enter Try.func42, Try.ntmps42
  go_wp2_with fail
  obtain ⟨W, hW⟩ : ∃ W, w.alloc (.cells #[.int .i64 0, .int .i64 0] 23) = W := ⟨_, rfl⟩
  rw [hW] at hb0 bN
  try rw [hW]
  clear hW
  go_loopw [6] (fun i wr => ∃ k : Nat, k ≤ l.length ∧ i = .int .i64 k ∧ Below W.heap.size W wr ∧ k ≤ bel l key) (fun i _ => l.length - (intOf i).toNat)
  case atStart => exact ⟨0, Nat.zero_le _, rfl, Below.refl _ _, Nat.zero_le _⟩
  case round =>
    obtain ⟨k, hk, rfl, hb, hkb⟩ := hrel
    have bNr := bN.below hb bN.lt
    have g0 : wr.cell? ⟨w.heap.size, 0, none⟩ = some (.int .i64 0) := bNr.cell 0
    have g1 : wr.cell? ⟨w.heap.size, 1, none⟩ = some (.int .i64 0) := bNr.cell 1
    have f0 : wr.frozen? ⟨w.heap.size, 0, none⟩ = false := bNr.frozen 0
    have f1 : wr.frozen? ⟨w.heap.size, 1, none⟩ = false := bNr.frozen 1
    have hb2 : ∀ x y : Value, Below w.heap.size w ((wr.setCell ⟨w.heap.size, 0, none⟩ x).setCell ⟨w.heap.size, 1, none⟩ y) := fun x y =>
      ((hb0.trans (hb.mono hb0.size)).setCell (p := ⟨w.heap.size, 0, none⟩) (Nat.le_refl _) x).setCell (p := ⟨w.heap.size, 1, none⟩) (Nat.le_refl _) y
    have e2 : ∀ x y : Value, Blk ((wr.setCell ⟨w.heap.size, 0, none⟩ x).setCell ⟨w.heap.size, 1, none⟩ y) w.heap.size 23 #[x, y] := fun x y => (bNr.set_ 0 x).set_ 1 y
    have hb2 := Lib.hid hb2
    have e2 := Lib.hid e2
    by_cases hlt : k < l.length
    · obtain ⟨b, off, rfl, hbl, c1, c2⟩ := (hA.below hb0).prB hb k hlt
      have i0 : (0 : Int) ≤ (k : Int) := by omega
      have i1 : (k : Int) < (l.length : Int) := by omega
      have hbi := bel_iff hr.out key k hlt
      by_cases hx : (l[k]'hlt).key < key
      · have hkb2 : k + 1 ≤ bel l key := hbi.1 hx
        clear hbi hA
        go_wp2
        go_roundw
        case rel => exact ⟨k + 1, by omega, by go_num, hb, hkb2⟩
        case measure => simp [intOf]; omega
      · have hkb2 : bel l key = k := by have := mt hbi.2 hx; omega
        have hP : ceilP l key = l[k]'hlt := by unfold ceilP; rw [hkb2, if_pos hlt, getElem!_pos l k hlt]
        have hB : ceilB l key = true := by unfold ceilB; rw [hkb2]; exact decide_eq_true hlt
        rw [hP, hB]
        generalize (l[k]'hlt) = p at *
        clear hbi hA hkb2 hP hB
        go_wp2_with fail
        have e := e2.out (.int .i64 p.key) (.int .i64 p.val)
        have h0 := e.cell 0
        have h1 := e.cell 1
        refine bodyPost_ret (v := .tuple #[.agg #[.int .i64 p.key, .int .i64 p.val], .bool true]) (by simp [results, Try.results42, go_sem, h0, h1]) rfl ?_
        exact ⟨rfl, hb2.out _ _⟩
    · have hkb2 : ¬ bel l key < l.length := by omega
      have hP : ceilP l key = ⟨0, 0⟩ := by unfold ceilP; rw [if_neg hkb2]
      have hB : ceilB l key = false := by unfold ceilB; exact decide_eq_false hkb2
      rw [hP, hB]
      clear hA
      go_wp2_with fail
      have e := e2.out (.int .i64 0) (.int .i64 0)
      have h0 := e.cell 0
      have h1 := e.cell 1
      refine bodyPost_ret (v := .tuple #[.agg #[.int .i64 0, .int .i64 0], .bool false]) (by simp [results, Try.results42, go_sem, h0, h1]) rfl ?_
      exact ⟨by rw [hP, hB], hb2.out _ _⟩
set_option maxHeartbeats 1000000 in
theorem floor_any (A : Option Addr) (l : List Pr) (c : Nat) (key : Int) (w : World) (hA : Sl w A (l.flatMap Pr.cells)) (hl : l.length ≤ 4611686018427387903) (hr : Hid (Ris l)) :
    Calls Try.prog 43 #[.slice A l.length c, .int .i64 key] w (GivesPB (floorP l key) (floorB l key) w) := by
  have hb0 : Below w.heap.size w (w.alloc (.cells #[.int .i64 0, .int .i64 0] 23)) := (Below.refl _ _).alloc (Nat.le_refl _) _
  have bN := Blk.new w 23 #[.int .i64 0, .int .i64 0]
  go_enter Try.func43, Try.ntmps43
  go_wp2_with fail
  obtain ⟨W, hW⟩ : ∃ W, w.alloc (.cells #[.int .i64 0, .int .i64 0] 23) = W := ⟨_, rfl⟩
  rw [hW] at hb0 bN
  try rw [hW]
  clear hW
  go_loopw [6] (fun i wr => ∃ k : Nat, k ≤ l.length ∧ i = .int .i64 ((k : Int) - 1) ∧ Below W.heap.size W wr ∧ upk l key ≤ k) (fun i _ => (intOf i + 1).toNat)
  case atStart => exact ⟨l.length, Nat.le_refl _, rfl, Below.refl _ _, upk_le l key⟩
  case round =>
    obtain ⟨k, hk, rfl, hb, hkb⟩ := hrel
    have bNr := bN.below hb bN.lt
    have g0 : wr.cell? ⟨w.heap.size, 0, none⟩ = some (.int .i64 0) := bNr.cell 0
    have g1 : wr.cell? ⟨w.heap.size, 1, none⟩ = some (.int .i64 0) := bNr.cell 1
    have f0 : wr.frozen? ⟨w.heap.size, 0, none⟩ = false := bNr.frozen 0
    have f1 : wr.frozen? ⟨w.heap.size, 1, none⟩ = false := bNr.frozen 1
    have hb2 : ∀ x y : Value, Below w.heap.size w ((wr.setCell ⟨w.heap.size, 0, none⟩ x).setCell ⟨w.heap.size, 1, none⟩ y) := fun x y =>
      ((hb0.trans (hb.mono hb0.size)).setCell (p := ⟨w.heap.size, 0, none⟩) (Nat.le_refl _) x).setCell (p := ⟨w.heap.size, 1, none⟩) (Nat.le_refl _) y
    have e2 : ∀ x y : Value, Blk ((wr.setCell ⟨w.heap.size, 0, none⟩ x).setCell ⟨w.heap.size, 1, none⟩ y) w.heap.size 23 #[x, y] := fun x y => (bNr.set_ 0 x).set_ 1 y
    have hb2 := Lib.hid hb2
    have e2 := Lib.hid e2
    by_cases hlt : 0 < k
    · obtain ⟨j, rfl⟩ : ∃ j, k = j + 1 := ⟨k - 1, by omega⟩
      have hjl : j < l.length := by omega
      obtain ⟨b, off, rfl, hbl, c1, c2⟩ := (hA.below hb0).prB hb j hjl
      have i0 : (0 : Int) ≤ (j : Int) := by omega
      have i1 : (j : Int) < (l.length : Int) := by omega
      have hbi := upk_iff hr.out key j hjl
      rw [show ((j + 1 : Nat) : Int) - 1 = (j : Int) by omega]
      by_cases hx : (l[j]'hjl).key ≤ key
      · have hkb2 : upk l key = j + 1 := by have := hbi.1 hx; omega
        have hP : floorP l key = l[j]'hjl := by unfold floorP; rw [hkb2, if_pos (by omega), Nat.add_sub_cancel, getElem!_pos l j hjl]
        have hB : floorB l key = true := by unfold floorB; rw [hkb2]; exact decide_eq_true (by omega)
        generalize (l[j]'hjl) = p at *
        have HP := Lib.hid hP
        have HB := Lib.hid hB
        clear hbi hA hkb2 hP hB
        go_wp2_with fail
        have e := e2.out (.int .i64 p.key) (.int .i64 p.val)
        have h0 := e.cell 0
        have h1 := e.cell 1
        refine bodyPost_ret (v := .tuple #[.agg #[.int .i64 p.key, .int .i64 p.val], .bool true]) (by simp [results, Try.results43, go_sem, h0, h1]) rfl ?_
        exact ⟨by rw [HP.out, HB.out], hb2.out _ _⟩
      · have hkb2 : upk l key ≤ j := by have := mt hbi.2 hx; omega
        clear hbi hA
        go_wp2
        go_roundw
        case rel => exact ⟨j, by omega, rfl, hb, hkb2⟩
        case measure => simp [intOf]
    · have hk0 : k = 0 := by omega
      subst hk0
      have hkb2 : ¬ 0 < upk l key := by omega
      have hP : floorP l key = ⟨0, 0⟩ := by unfold floorP; rw [if_neg hkb2]
      have hB : floorB l key = false := by unfold floorB; exact decide_eq_false hkb2
      have HP := Lib.hid hP
      have HB := Lib.hid hB
      clear hA hP hB
      go_wp2_with fail
      have e := e2.out (.int .i64 0) (.int .i64 0)
      have h0 := e.cell 0
      have h1 := e.cell 1
      refine bodyPost_ret (v := .tuple #[.agg #[.int .i64 0, .int .i64 0], .bool false]) (by simp [results, Try.results43, go_sem, h0, h1]) rfl ?_
      exact ⟨by rw [HP.out, HB.out], hb2.out _ _⟩

theorem sl_newP (W : World) (t : TypeId) (cs : Array Value) : Sl (W.alloc (.cells cs t)) (some ⟨W.heap.size, 0, none⟩) cs.toList :=
  (Blk.new W t cs).sl 0 _ (by intro j u hu; simpa using hu)
theorem fits_any (n : Int) (w : World) : Calls Try.prog 45 #[.int .i64 n] w fun r w' => r = .returned (.bool (decide (0 ≤ n ∧ n ≤ 1000))) ∧ Below w.heap.size w w' := by
  go_enter Try.func45, Try.ntmps45
  by_cases h1 : 0 ≤ n
  · by_cases h2 : n ≤ 1000
    · go_wp2
      go_ret
      exact ⟨ret_bool (by simp [h1, h2]), Below.refl _ _⟩
    · go_wp2
      go_ret
      exact ⟨ret_bool (by simp [h2]), Below.refl _ _⟩
  · go_wp2
    go_ret
    exact ⟨ret_bool (by simp; omega), Below.refl _ _⟩

def withoutL (l : List Pr) (a b : Int) : List Pr := l.filter (fun p => decide (p.key < a) || decide (b < p.key))
theorem without_succ {l : List Pr} {k : Nat} (h : k < l.length) (a b : Int) : withoutL (l.take (k + 1)) a b = withoutL (l.take k) a b ++ (if (l[k]'h).key < a ∨ b < (l[k]'h).key then [l[k]'h] else []) := by
  unfold withoutL
  rw [List.take_succ_eq_append_getElem h, List.filter_append, List.filter_cons, List.filter_nil]
  by_cases h1 : (l[k]'h).key < a ∨ b < (l[k]'h).key
  · rw [if_pos h1, if_pos (by simpa using h1)]
  · rw [if_neg h1, if_neg (by simpa using h1)]
theorem without_len (l : List Pr) (a b : Int) : (withoutL l a b).length ≤ l.length := List.length_filter_le _ _

set_option maxHeartbeats 2000000 in
theorem without_any (A : Option Addr) (l : List Pr) (c : Nat) (x y : Int) (w : World) (hA : Sl w A (l.flatMap Pr.cells)) (hl : l.length ≤ 1000000) :
    Calls Try.prog 47 #[.slice A l.length c, .int .i64 x, .int .i64 y] w (GivesFr (withoutL l x y) w) := by
  obtain ⟨ti0, hi, hz0, hz1, hz2⟩ := info_parts pr_info0
  have HI := Lib.hid (And.intro hi (And.intro hz0 (And.intro hz1 hz2)))
  clear hi hz0 hz1 hz2
  go_enter Try.func47, Try.ntmps47
  go_wp2
  go_loopw [7, 8] (fun v i wr => ∃ k : Nat, k ≤ l.length ∧ i = .int .i64 k ∧ Below w.heap.size w wr ∧ ∃ A' c', v = .slice A' (withoutL (l.take k) x y).length c' ∧
      wr.ownsRow w.heap.size 23 2 (.slice A' (withoutL (l.take k) x y).length c') (withoutL (l.take k) x y).length ((withoutL (l.take k) x y).flatMap Pr.cells)) (fun _ i _ => l.length - (intOf i).toNat)
  case atStart => exact ⟨0, Nat.zero_le _, rfl, Below.refl _ _, none, 0, rfl, World.ownsRow_nil _ _ _ _⟩
  case round =>
    obtain ⟨k, hk, rfl, hb, A', c', rfl, hown⟩ := hrel
    have hwl := without_len (l.take k) x y
    have htl : (l.take k).length ≤ k := List.length_take_le _ _
    by_cases hlt : k < l.length
    · obtain ⟨b, off, rfl, hbl, c1, c2⟩ := hA.prB hb k hlt
      have i0 : (0 : Int) ≤ (k : Int) := by omega
      have i1 : (k : Int) < (l.length : Int) := by omega
      have hbs := hb.size
      have hs := without_succ hlt x y
      generalize (l[k]'hlt) = p at *
      generalize withoutL (l.take k) x y = L at *
      clear hbl hA
      by_cases h : p.key < x ∨ y < p.key
      · rw [if_pos h] at hs
        have HS := Lib.hid hs
        clear hs
        have hb0 : Below wr.heap.size wr (wr.alloc (.cells #[.int .i64 p.key, .int .i64 p.val] 23)) := (Below.refl _ _).alloc (Nat.le_refl _) _
        by_cases h' : p.key < x
        · clear h
          go_wp2_with (at_builtin; refine wpList_append_sl _ rfl (.tmp 31) (.tmp 36) _ rfl w.heap.size 23 ti0 _ 2 16 Try.underlying24 HI.out.1 HI.out.2.1 HI.out.2.2.1 HI.out.2.2.2 rfl (by omega) (.slice A' L.length c') L.length _ rfl (hown.alloc _) _ 1 _ p.cells rfl (by exact sl_newP _ _ _) rfl (by simp [Pr.cells, Value.oneCell']) (by unfold maxLen; omega) (by omega) (by simp; omega) ?_; intro v2 w2 hown2 hg2; obtain ⟨A2, q2, rfl, hle2, hmx2⟩ := own_form hown2)
          go_roundw
          case rel =>
            have hl2 : (L ++ [p]).length = L.length + 1 := by simp
            refine ⟨k + 1, by omega, by go_num, (hb.alloc hbs _).grown hg2 (by simp; omega) (fun k hk => (hown.lt k hk).1), A2, q2, by rw [HS.out, hl2], ?_⟩
            rw [HS.out, hl2, List.flatMap_append]
            simpa using hown2
          case measure => simp [intOf]; omega
        · have h'' : y < p.key := by omega
          clear h
          go_wp2_with (at_builtin; refine wpList_append_sl _ rfl (.tmp 31) (.tmp 36) _ rfl w.heap.size 23 ti0 _ 2 16 Try.underlying24 HI.out.1 HI.out.2.1 HI.out.2.2.1 HI.out.2.2.2 rfl (by omega) (.slice A' L.length c') L.length _ rfl (hown.alloc _) _ 1 _ p.cells rfl (by exact sl_newP _ _ _) rfl (by simp [Pr.cells, Value.oneCell']) (by unfold maxLen; omega) (by omega) (by simp; omega) ?_; intro v2 w2 hown2 hg2; obtain ⟨A2, q2, rfl, hle2, hmx2⟩ := own_form hown2)
          go_roundw
          case rel =>
            have hl2 : (L ++ [p]).length = L.length + 1 := by simp
            refine ⟨k + 1, by omega, by go_num, (hb.alloc hbs _).grown hg2 (by simp; omega) (fun k hk => (hown.lt k hk).1), A2, q2, by rw [HS.out, hl2], ?_⟩
            rw [HS.out, hl2, List.flatMap_append]
            simpa using hown2
          case measure => simp [intOf]; omega
      · rw [if_neg h, List.append_nil] at hs
        have HS := Lib.hid hs
        clear hs
        have h1 : ¬ p.key < x := by omega
        have h2 : ¬ y < p.key := by omega
        go_wp2
        go_roundw
        case rel => exact ⟨k + 1, by omega, by go_num, hb, A', c', by rw [HS.out], by rw [HS.out]; exact hown⟩
        case measure => simp [intOf]; omega
    · go_wp2
      go_ret
      rw [List.take_of_length_le (by omega)] at hown ⊢
      exact ⟨A', c', rfl, Fr.of_own hown rfl, hb⟩
def runOfL (l : List Pr) (a b : Int) (N : Nat) : List Pr := (l.filter (fun p => decide (a ≤ p.key) && decide (p.key ≤ b))).take N
theorem runOf_succ {l : List Pr} {k : Nat} (h : k < l.length) (a b : Int) (N : Nat) : runOfL (l.take (k + 1)) a b N = runOfL (l.take k) a b N ++ (if a ≤ (l[k]'h).key ∧ (l[k]'h).key ≤ b ∧ (runOfL (l.take k) a b N).length < N then [l[k]'h] else []) := by
  unfold runOfL
  rw [List.take_succ_eq_append_getElem h, List.filter_append, List.filter_cons, List.filter_nil]
  by_cases h1 : a ≤ (l[k]'h).key ∧ (l[k]'h).key ≤ b
  · rw [if_pos (by simpa using h1), List.take_append]
    simp only [List.length_take]
    by_cases h2 : ((l.take k).filter (fun p => decide (a ≤ p.key) && decide (p.key ≤ b))).length < N
    · rw [if_pos ⟨h1.1, h1.2, by omega⟩]
      congr 1
      rw [List.take_of_length_le (by simp; omega)]
    · rw [if_neg (by omega), show N - ((l.take k).filter (fun p => decide (a ≤ p.key) && decide (p.key ≤ b))).length = 0 by omega, List.take_zero]
  · rw [if_neg (by simpa using h1), List.append_nil, if_neg (by omega), List.append_nil]
theorem runOf_len (l : List Pr) (a b : Int) (N : Nat) : (runOfL l a b N).length ≤ l.length := by
  unfold runOfL
  rw [List.length_take]
  have := List.length_filter_le (fun p : Pr => decide (a ≤ p.key) && decide (p.key ≤ b)) l
  omega

set_option maxHeartbeats 2000000 in
theorem runOf_any (A : Option Addr) (l : List Pr) (c : Nat) (x y : Int) (N : Nat) (w : World) (hA : Sl w A (l.flatMap Pr.cells)) (hl : l.length ≤ 1000000) :
    Calls Try.prog 46 #[.slice A l.length c, .int .i64 x, .int .i64 y, .int .i64 (N : Int)] w (GivesFr (runOfL l x y N) w) := by
  obtain ⟨ti0, hi, hz0, hz1, hz2⟩ := info_parts pr_info0
  have HI := Lib.hid (And.intro hi (And.intro hz0 (And.intro hz1 hz2)))
  clear hi hz0 hz1 hz2
  go_enter Try.func46, Try.ntmps46
  go_wp2
  go_loopw [9, 10] (fun v i wr => ∃ k : Nat, k ≤ l.length ∧ i = .int .i64 k ∧ Below w.heap.size w wr ∧ ∃ A' c', v = .slice A' (runOfL (l.take k) x y N).length c' ∧
      wr.ownsRow w.heap.size 23 2 (.slice A' (runOfL (l.take k) x y N).length c') (runOfL (l.take k) x y N).length ((runOfL (l.take k) x y N).flatMap Pr.cells)) (fun _ i _ => l.length - (intOf i).toNat)
  case atStart => exact ⟨0, Nat.zero_le _, rfl, Below.refl _ _, none, 0, by simp [runOfL], by simpa [runOfL] using World.ownsRow_nil w w.heap.size 23 2⟩
  case round =>
    obtain ⟨k, hk, rfl, hb, A', c', rfl, hown⟩ := hrel
    have hwl := runOf_len (l.take k) x y N
    have htl : (l.take k).length ≤ k := List.length_take_le _ _
    by_cases hlt : k < l.length
    · obtain ⟨b, off, rfl, hbl, c1, c2⟩ := hA.prB hb k hlt
      have i0 : (0 : Int) ≤ (k : Int) := by omega
      have i1 : (k : Int) < (l.length : Int) := by omega
      have hbs := hb.size
      have hs := runOf_succ hlt x y N
      generalize (l[k]'hlt) = p at *
      generalize runOfL (l.take k) x y N = L at *
      clear hbl hA
      by_cases h : x ≤ p.key ∧ p.key ≤ y ∧ L.length < N
      · rw [if_pos h] at hs
        have HS := Lib.hid hs
        clear hs
        obtain ⟨h1, h2, h3⟩ := h
        go_wp2_with (at_builtin; refine wpList_append_sl _ rfl (.tmp 39) (.tmp 44) _ rfl w.heap.size 23 ti0 _ 2 16 Try.underlying24 HI.out.1 HI.out.2.1 HI.out.2.2.1 HI.out.2.2.2 rfl (by omega) (.slice A' L.length c') L.length _ rfl (hown.alloc _) _ 1 _ p.cells rfl (by exact sl_newP _ _ _) rfl (by simp [Pr.cells, Value.oneCell']) (by unfold maxLen; omega) (by omega) (by simp; omega) ?_; intro v2 w2 hown2 hg2; obtain ⟨A2, q2, rfl, hle2, hmx2⟩ := own_form hown2)
        go_roundw
        case rel =>
          have hl2 : (L ++ [p]).length = L.length + 1 := by simp
          refine ⟨k + 1, by omega, by go_num, (hb.alloc hbs _).grown hg2 (by simp; omega) (fun k hk => (hown.lt k hk).1), A2, q2, by rw [HS.out, hl2], ?_⟩
          rw [HS.out, hl2, List.flatMap_append]
          simpa using hown2
        case measure => simp [intOf]; omega
      · rw [if_neg h, List.append_nil] at hs
        have HS := Lib.hid hs
        clear hs
        by_cases h1 : x ≤ p.key
        · by_cases h2 : p.key ≤ y
          · have h3 : ¬ L.length < N := fun h3 => h ⟨h1, h2, h3⟩
            clear h
            go_wp2
            go_roundw
            case rel => exact ⟨k + 1, by omega, by go_num, hb, A', c', by rw [HS.out], by rw [HS.out]; exact hown⟩
            case measure => simp [intOf]; omega
          · clear h
            go_wp2
            go_roundw
            case rel => exact ⟨k + 1, by omega, by go_num, hb, A', c', by rw [HS.out], by rw [HS.out]; exact hown⟩
            case measure => simp [intOf]; omega
        · clear h
          go_wp2
          go_roundw
          case rel => exact ⟨k + 1, by omega, by go_num, hb, A', c', by rw [HS.out], by rw [HS.out]; exact hown⟩
          case measure => simp [intOf]; omega
    · go_wp2
      go_ret
      rw [List.take_of_length_le (by omega)] at hown ⊢
      exact ⟨A', c', rfl, Fr.of_own hown rfl, hb⟩
end Go.Proofs.Ytibgpghlnfcilaa
