/- Contract: what an operation that turns pairs leaves: a merge, and all of them. -/
import Derived.Test.YtibgpghlnfcilaaMt
namespace Go.Proofs.Ytibgpghlnfcilaa
open Go Go.RowKit
set_option maxRecDepth 100000

/-- the pairs behind the first k were put in -/
def putsK (l m : List Pr) (k : Nat) : List Pr := (m.take k).foldl putL l
theorem putsK_zero (l m : List Pr) : putsK l m 0 = l := rfl
theorem putsK_all {l m : List Pr} {k : Nat} (h : m.length ≤ k) : putsK l m k = m.foldl putL l := by unfold putsK; rw [List.take_of_length_le h]
theorem putsK_succ {l m : List Pr} {k : Nat} (h : k < m.length) : putsK l m (k + 1) = putL (putsK l m k) (m[k]'h) := by
  unfold putsK
  rw [List.take_succ_eq_append_getElem h, List.foldl_append]
  rfl
theorem putsK_ris {l m : List Pr} (h : Ris l) (k : Nat) : Ris (putsK l m k) := ris_puts h
theorem putsK_len (l m : List Pr) (k : Nat) : (putsK l m k).length ≤ l.length + m.length := by
  have h := puts_len (m := m.take k) (l := l)
  unfold putsK
  simp at h ⊢
  omega

set_option maxHeartbeats 1600000 in
theorem turn13a (most : Int) (A : Option Addr) (l : List Pr) (c B : Nat) (o : Opn) (Ao : Option Addr) (co : Nat) (w : World) (hf : Fr w B 23 A c l) (hB : B ≤ w.heap.size) (hl : l.length ≤ 100000) (hr : Hid (Ris l)) (hO : Sl w Ao (o.pairs.flatMap Pr.cells)) (hp : o.pairs.length ≤ 100000) (hk : o.kind = 13) (hn : Ris o.pairs) (X : List Pr) (hX : Hid (o.pairs.foldl putL l = X)) (hm : most < (X.length : Nat)) :
    Calls Try.prog 30 #[.int .i64 most, .slice A l.length c, .agg #[.int .u8 o.kind, .int .i64 o.key, .int .i64 o.val, .int .i64 o.to, .int .i64 o.n, .slice Ao o.pairs.length co]] w (GivesTurn (turnL most l o) (turnN most l o) (turnE most l o) B w) := by
  have hE : turnE most l o = 9 := by simp [turnE, hk, hn, leftL, hX.out, hm]
  have hL : turnL most l o = [] := by unfold turnL; rw [hE]; rfl
  have hN : turnN most l o = 0 := by unfold turnN; rw [hE]; rfl
  rw [hE, hL, hN]
  clear hE hL hN
  have hb0 : Below w.heap.size w (w.alloc (.cells #[.int .u8 13, .int .i64 o.key, .int .i64 o.val, .int .i64 o.to, .int .i64 o.n, .slice Ao o.pairs.length co] 28)) := (Below.refl _ _).alloc (Nat.le_refl _) _
  have bO0 : Blk (w.alloc (.cells #[.int .u8 13, .int .i64 o.key, .int .i64 o.val, .int .i64 o.to, .int .i64 o.n, .slice Ao o.pairs.length co] 28)) w.heap.size 28 #[.int .u8 13, .int .i64 o.key, .int .i64 o.val, .int .i64 o.to, .int .i64 o.n, .slice Ao o.pairs.length co] := Blk.new _ _ _
  have hA := hf.sl
  have hlc := hf.1
  obtain ⟨i0, hi, hz0, hz1, hz2⟩ := info_parts pr_info0
  go_enter Try.func30, Try.ntmps30
  go_wp2_with fail
  refine (rank_any A l c o.key _ (hA.below hb0) (by omega) hr).mono ?_
  rintro e w1 ⟨rfl, hb1⟩
  have hb01 := bext hb0 hb1
  have bO := bO0.below hb1 bO0.lt
  have cO0 : w1.cell? ⟨w.heap.size, 0, none⟩ = some (.int .u8 13) := bO.cell 0
  have cO1 : w1.cell? ⟨w.heap.size, 1, none⟩ = some (.int .i64 o.key) := bO.cell 1
  have cO2 : w1.cell? ⟨w.heap.size, 2, none⟩ = some (.int .i64 o.val) := bO.cell 2
  have cO3 : w1.cell? ⟨w.heap.size, 3, none⟩ = some (.int .i64 o.to) := bO.cell 3
  have cO5 : w1.cell? ⟨w.heap.size, 5, none⟩ = some (.slice Ao o.pairs.length co) := bO.cell 5
  clear bO0 hb1 hb0
  go_wp2_with fail
  refine (rising_any Ao o.pairs co _ (hO.below hb01) (by omega)).mono ?_
  rw [decide_eq_true hn]
  rintro e w2 ⟨rfl, hb2⟩
  have hb02 := bext hb01 hb2
  have bO0 := bO
  clear bO cO0 cO1 cO2 cO3 cO5
  have bO := bO0.below hb2 bO0.lt
  have cO0 : w2.cell? ⟨w.heap.size, 0, none⟩ = some (.int .u8 13) := bO.cell 0
  have cO1 : w2.cell? ⟨w.heap.size, 1, none⟩ = some (.int .i64 o.key) := bO.cell 1
  have cO2 : w2.cell? ⟨w.heap.size, 2, none⟩ = some (.int .i64 o.val) := bO.cell 2
  have cO3 : w2.cell? ⟨w.heap.size, 3, none⟩ = some (.int .i64 o.to) := bO.cell 3
  have cO5 : w2.cell? ⟨w.heap.size, 5, none⟩ = some (.slice Ao o.pairs.length co) := bO.cell 5
  go_wp2_with fail
  refine (clone_any Ao o.pairs co _ (hO.below hb02) (by omega)).mono ?_
  rintro e w3 ⟨A2, c2, rfl, hf2, hb3⟩
  have hb03 := bext hb02 hb3
  have bO1 := bO
  clear bO bO0 cO0 cO1 cO2 cO3 cO5 hf2
  have bO := bO1.below hb3 bO1.lt
  have cO0 : w3.cell? ⟨w.heap.size, 0, none⟩ = some (.int .u8 13) := bO.cell 0
  have cO1 : w3.cell? ⟨w.heap.size, 1, none⟩ = some (.int .i64 o.key) := bO.cell 1
  have cO2 : w3.cell? ⟨w.heap.size, 2, none⟩ = some (.int .i64 o.val) := bO.cell 2
  have cO3 : w3.cell? ⟨w.heap.size, 3, none⟩ = some (.int .i64 o.to) := bO.cell 3
  have cO5 : w3.cell? ⟨w.heap.size, 5, none⟩ = some (.slice Ao o.pairs.length co) := bO.cell 5
  have hrl := Lib.hid (fun k => putsK_ris (m := o.pairs) hr.out k)
  have hf3 := hf.below hb03
  clear bO1 hb3 hb01 hb02 hb2
  go_wp2
  go_loopw [6, 81] (fun v i wr => ∃ k : Nat, k ≤ o.pairs.length ∧ i = .int .i64 k ∧ ∃ A' c', v = .slice A' (putsK l o.pairs k).length c' ∧ Fr wr B 23 A' c' (putsK l o.pairs k) ∧ Below w.heap.size w wr) (fun _ i _ => o.pairs.length - (intOf i).toNat)
  case atStart => exact ⟨0, Nat.zero_le _, rfl, A, c, rfl, hf3, hb03⟩
  case round =>
    obtain ⟨k, hkn, rfl, A', c', rfl, hfr, hb⟩ := hrel
    have hlen := putsK_len l o.pairs k
    by_cases hlt : k < o.pairs.length
    · obtain ⟨b, off, rfl, hbl, q1, q2⟩ := hO.prB hb k hlt
      have hsu := Lib.hid (putsK_succ (l := l) hlt)
      obtain ⟨p, hp⟩ : ∃ p, o.pairs[k]'hlt = p := ⟨_, rfl⟩
      rw [hp] at q1 q2
      have hsu2 : Hid (putsK l o.pairs (k + 1) = putL (putsK l o.pairs k) p) := Lib.hid (by rw [hsu.out, hp])
      obtain ⟨Y, hY⟩ : ∃ Y, putsK l o.pairs k = Y := ⟨_, rfl⟩
      have hrY : Hid (Ris Y) := Lib.hid (hY ▸ hrl.out k)
      have hYh := Lib.hid hY
      rw [hY] at hfr hlen hsu2
      have hi1 : (0 : Int) ≤ (k : Int) := by omega
      have hi2 : (k : Int) < (o.pairs.length : Int) := by omega
      have hbz := hb.size
      have hba : Below wr.heap.size wr (wr.alloc (.cells #[.int .i64 p.key, .int .i64 p.val] 23)) := (Below.refl _ _).alloc (Nat.le_refl _) _
      rw [hY]
      clear hp hsu hO hY
      go_wp2_with fail
      refine (put_any A' Y c' p _ (hfr.sl.below hba) (by omega) hfr.1 hrY).mono ?_
      rintro e w5 ⟨A5, c5, rfl, hf5, hb5⟩
      have hb55 := bext (bext hb hba) hb5
      have hf55 : Fr w5 B 23 A5 c5 (putL Y p) := hf5.mono (by simp; omega)
      go_wp2_with fail
      go_roundw
      case rel => exact ⟨k + 1, by omega, by go_num, A5, c5, by rw [hsu2.out], by rw [hsu2.out]; exact hf55, hb55⟩
      case measure => simp [intOf]; omega
    · have hY : putsK l o.pairs k = X := by rw [putsK_all (by omega), hX.out]
      rw [hY] at hfr hlen
      rw [hY]
      clear hY
      go_wp2
      go_ret3
      exact ⟨none, 0, rfl, Fr.nil, hb⟩

set_option maxHeartbeats 1600000 in
theorem turn13b (most : Int) (A : Option Addr) (l : List Pr) (c B : Nat) (o : Opn) (Ao : Option Addr) (co : Nat) (w : World) (hf : Fr w B 23 A c l) (hB : B ≤ w.heap.size) (hl : l.length ≤ 100000) (hr : Hid (Ris l)) (hO : Sl w Ao (o.pairs.flatMap Pr.cells)) (hp : o.pairs.length ≤ 100000) (hk : o.kind = 13) (hn : Ris o.pairs) (X : List Pr) (hX : Hid (o.pairs.foldl putL l = X)) (hm : ¬ most < (X.length : Nat)) :
    Calls Try.prog 30 #[.int .i64 most, .slice A l.length c, .agg #[.int .u8 o.kind, .int .i64 o.key, .int .i64 o.val, .int .i64 o.to, .int .i64 o.n, .slice Ao o.pairs.length co]] w (GivesTurn (turnL most l o) (turnN most l o) (turnE most l o) B w) := by
  have hE : turnE most l o = 0 := by simp [turnE, hk, hn, leftL, hX.out, hm]
  have hL : turnL most l o = X := by unfold turnL; rw [hE]; rw [if_pos rfl]; simp [leftL, hk, hX.out]
  have hN : turnN most l o = (X.length : Nat) := by unfold turnN; rw [hE]; rw [if_pos rfl]; simp [leftL, hk, hX.out]
  rw [hE, hL, hN]
  clear hE hL hN
  have hb0 : Below w.heap.size w (w.alloc (.cells #[.int .u8 13, .int .i64 o.key, .int .i64 o.val, .int .i64 o.to, .int .i64 o.n, .slice Ao o.pairs.length co] 28)) := (Below.refl _ _).alloc (Nat.le_refl _) _
  have bO0 : Blk (w.alloc (.cells #[.int .u8 13, .int .i64 o.key, .int .i64 o.val, .int .i64 o.to, .int .i64 o.n, .slice Ao o.pairs.length co] 28)) w.heap.size 28 #[.int .u8 13, .int .i64 o.key, .int .i64 o.val, .int .i64 o.to, .int .i64 o.n, .slice Ao o.pairs.length co] := Blk.new _ _ _
  have hA := hf.sl
  have hlc := hf.1
  obtain ⟨i0, hi, hz0, hz1, hz2⟩ := info_parts pr_info0
  go_enter Try.func30, Try.ntmps30
  go_wp2_with fail
  refine (rank_any A l c o.key _ (hA.below hb0) (by omega) hr).mono ?_
  rintro e w1 ⟨rfl, hb1⟩
  have hb01 := bext hb0 hb1
  have bO := bO0.below hb1 bO0.lt
  have cO0 : w1.cell? ⟨w.heap.size, 0, none⟩ = some (.int .u8 13) := bO.cell 0
  have cO1 : w1.cell? ⟨w.heap.size, 1, none⟩ = some (.int .i64 o.key) := bO.cell 1
  have cO2 : w1.cell? ⟨w.heap.size, 2, none⟩ = some (.int .i64 o.val) := bO.cell 2
  have cO3 : w1.cell? ⟨w.heap.size, 3, none⟩ = some (.int .i64 o.to) := bO.cell 3
  have cO5 : w1.cell? ⟨w.heap.size, 5, none⟩ = some (.slice Ao o.pairs.length co) := bO.cell 5
  clear bO0 hb1 hb0
  go_wp2_with fail
  refine (rising_any Ao o.pairs co _ (hO.below hb01) (by omega)).mono ?_
  rw [decide_eq_true hn]
  rintro e w2 ⟨rfl, hb2⟩
  have hb02 := bext hb01 hb2
  have bO0 := bO
  clear bO cO0 cO1 cO2 cO3 cO5
  have bO := bO0.below hb2 bO0.lt
  have cO0 : w2.cell? ⟨w.heap.size, 0, none⟩ = some (.int .u8 13) := bO.cell 0
  have cO1 : w2.cell? ⟨w.heap.size, 1, none⟩ = some (.int .i64 o.key) := bO.cell 1
  have cO2 : w2.cell? ⟨w.heap.size, 2, none⟩ = some (.int .i64 o.val) := bO.cell 2
  have cO3 : w2.cell? ⟨w.heap.size, 3, none⟩ = some (.int .i64 o.to) := bO.cell 3
  have cO5 : w2.cell? ⟨w.heap.size, 5, none⟩ = some (.slice Ao o.pairs.length co) := bO.cell 5
  go_wp2_with fail
  refine (clone_any Ao o.pairs co _ (hO.below hb02) (by omega)).mono ?_
  rintro e w3 ⟨A2, c2, rfl, hf2, hb3⟩
  have hb03 := bext hb02 hb3
  have bO1 := bO
  clear bO bO0 cO0 cO1 cO2 cO3 cO5 hf2
  have bO := bO1.below hb3 bO1.lt
  have cO0 : w3.cell? ⟨w.heap.size, 0, none⟩ = some (.int .u8 13) := bO.cell 0
  have cO1 : w3.cell? ⟨w.heap.size, 1, none⟩ = some (.int .i64 o.key) := bO.cell 1
  have cO2 : w3.cell? ⟨w.heap.size, 2, none⟩ = some (.int .i64 o.val) := bO.cell 2
  have cO3 : w3.cell? ⟨w.heap.size, 3, none⟩ = some (.int .i64 o.to) := bO.cell 3
  have cO5 : w3.cell? ⟨w.heap.size, 5, none⟩ = some (.slice Ao o.pairs.length co) := bO.cell 5
  have hrl := Lib.hid (fun k => putsK_ris (m := o.pairs) hr.out k)
  have hf3 := hf.below hb03
  clear bO1 hb3 hb01 hb02 hb2
  go_wp2
  go_loopw [6, 81] (fun v i wr => ∃ k : Nat, k ≤ o.pairs.length ∧ i = .int .i64 k ∧ ∃ A' c', v = .slice A' (putsK l o.pairs k).length c' ∧ Fr wr B 23 A' c' (putsK l o.pairs k) ∧ Below w.heap.size w wr) (fun _ i _ => o.pairs.length - (intOf i).toNat)
  case atStart => exact ⟨0, Nat.zero_le _, rfl, A, c, rfl, hf3, hb03⟩
  case round =>
    obtain ⟨k, hkn, rfl, A', c', rfl, hfr, hb⟩ := hrel
    have hlen := putsK_len l o.pairs k
    by_cases hlt : k < o.pairs.length
    · obtain ⟨b, off, rfl, hbl, q1, q2⟩ := hO.prB hb k hlt
      have hsu := Lib.hid (putsK_succ (l := l) hlt)
      obtain ⟨p, hp⟩ : ∃ p, o.pairs[k]'hlt = p := ⟨_, rfl⟩
      rw [hp] at q1 q2
      have hsu2 : Hid (putsK l o.pairs (k + 1) = putL (putsK l o.pairs k) p) := Lib.hid (by rw [hsu.out, hp])
      obtain ⟨Y, hY⟩ : ∃ Y, putsK l o.pairs k = Y := ⟨_, rfl⟩
      have hrY : Hid (Ris Y) := Lib.hid (hY ▸ hrl.out k)
      have hYh := Lib.hid hY
      rw [hY] at hfr hlen hsu2
      have hi1 : (0 : Int) ≤ (k : Int) := by omega
      have hi2 : (k : Int) < (o.pairs.length : Int) := by omega
      have hbz := hb.size
      have hba : Below wr.heap.size wr (wr.alloc (.cells #[.int .i64 p.key, .int .i64 p.val] 23)) := (Below.refl _ _).alloc (Nat.le_refl _) _
      rw [hY]
      clear hp hsu hO hY
      go_wp2_with fail
      refine (put_any A' Y c' p _ (hfr.sl.below hba) (by omega) hfr.1 hrY).mono ?_
      rintro e w5 ⟨A5, c5, rfl, hf5, hb5⟩
      have hb55 := bext (bext hb hba) hb5
      have hf55 : Fr w5 B 23 A5 c5 (putL Y p) := hf5.mono (by simp; omega)
      go_wp2_with fail
      go_roundw
      case rel => exact ⟨k + 1, by omega, by go_num, A5, c5, by rw [hsu2.out], by rw [hsu2.out]; exact hf55, hb55⟩
      case measure => simp [intOf]; omega
    · have hY : putsK l o.pairs k = X := by rw [putsK_all (by omega), hX.out]
      rw [hY] at hfr hlen
      rw [hY]
      clear hY
      go_wp2
      go_ret3
      exact ⟨A', c', rfl, hfr, hb⟩

theorem turn_any (most : Int) (A : Option Addr) (l : List Pr) (c B : Nat) (o : Opn) (Ao : Option Addr) (co : Nat) (w : World) (hf : Fr w B 23 A c l) (hB : B ≤ w.heap.size) (hl : l.length ≤ 100000) (hr : Hid (Ris l)) (hO : Sl w Ao (o.pairs.flatMap Pr.cells)) (hp : o.pairs.length ≤ 100000) :
    Calls Try.prog 30 #[.int .i64 most, .slice A l.length c, .agg #[.int .u8 o.kind, .int .i64 o.key, .int .i64 o.val, .int .i64 o.to, .int .i64 o.n, .slice Ao o.pairs.length co]] w (GivesTurn (turnL most l o) (turnN most l o) (turnE most l o) B w) := by
  by_cases n2 : o.kind = 2
  · by_cases hm : most < ((putL l ⟨o.key, o.val⟩).length : Nat)
    · exact turn2a most A l c B o Ao co w hf hB hl hr hO hp n2 hm
    · exact turn2b most A l c B o Ao co w hf hB hl hr hO hp n2 hm
  by_cases n3 : o.kind = 3
  · cases hh : has l o.key
    · exact turn3n most A l c B o Ao co w hf hB hl hr hO hp n3 hh
    · by_cases hm : most < ((l.take (bel l o.key) ++ l.drop (bel l o.key + 1)).length : Nat)
      · exact turn3a most A l c B o Ao co w hf hB hl hr hO hp n3 hh _ (Lib.hid rfl) _ (Lib.hid rfl) hm
      · exact turn3b most A l c B o Ao co w hf hB hl hr hO hp n3 hh _ (Lib.hid rfl) _ (Lib.hid rfl) hm
  by_cases n11 : o.kind = 11
  · by_cases hu : bel l o.key < upk l o.to
    · by_cases hm : most < ((l.take (bel l o.key) ++ l.drop (upk l o.to)).length : Nat)
      · exact turn11au most A l c B o Ao co w hf hB hl hr hO hp n11 _ _ (Lib.hid rfl) (Lib.hid rfl) hu _ (Lib.hid rfl) hm
      · exact turn11bu most A l c B o Ao co w hf hB hl hr hO hp n11 _ _ (Lib.hid rfl) (Lib.hid rfl) hu _ (Lib.hid rfl) hm
    · by_cases hm : most < ((l.take (bel l o.key) ++ l.drop (bel l o.key)).length : Nat)
      · exact turn11ak most A l c B o Ao co w hf hB hl hr hO hp n11 _ _ (Lib.hid rfl) (Lib.hid rfl) (by omega) _ (Lib.hid rfl) hm
      · exact turn11bk most A l c B o Ao co w hf hB hl hr hO hp n11 _ _ (Lib.hid rfl) (Lib.hid rfl) (by omega) _ (Lib.hid rfl) hm
  by_cases n12 : o.kind = 12
  · by_cases hn : Ris o.pairs
    · by_cases hm : most < (o.pairs.length : Nat)
      · exact turn12a most A l c B o Ao co w hf hB hl hr hO hp n12 hn hm
      · exact turn12b most A l c B o Ao co w hf hB hl hr hO hp n12 hn hm
    · exact turn12n most A l c B o Ao co w hf hB hl hr hO hp n12 hn
  by_cases n13 : o.kind = 13
  · by_cases hn : Ris o.pairs
    · by_cases hm : most < ((o.pairs.foldl putL l).length : Nat)
      · exact turn13a most A l c B o Ao co w hf hB hl hr hO hp n13 hn _ (Lib.hid rfl) hm
      · exact turn13b most A l c B o Ao co w hf hB hl hr hO hp n13 hn _ (Lib.hid rfl) hm
    · exact turn13n most A l c B o Ao co w hf hB hl hr hO hp n13 hn
  exact turnno most A l c B o Ao co w hf hB hl hr hO hp n2 n3 n11 n12 n13
end Go.Proofs.Ytibgpghlnfcilaa
