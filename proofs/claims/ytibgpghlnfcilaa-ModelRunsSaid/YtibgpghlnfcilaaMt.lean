/- Contract: what an operation that turns pairs leaves. -/
import Derived.Test.YtibgpghlnfcilaaMp
import Derived.Test.YtibgpghlnfcilaaPn
import Derived.Deep.CutRange
namespace Go.Proofs.Ytibgpghlnfcilaa
open Go Go.RowKit
set_option maxRecDepth 100000

/-- hands back pairs in memory behind B, a number and an error -/
def GivesTurn (m : List Pr) (n e : Int) (B : Nat) (w : World) (r : Ending) (w' : World) : Prop :=
  ∃ A c, r = .returned (.tuple #[.slice A m.length c, .int .i64 n, .int .i64 e]) ∧ Fr w' B 23 A c m ∧ Below w.heap.size w w'
theorem Fr.appendX {w w' : World} {B : Nat} {t : TypeId} {A : Option Addr} {k : Nat} {l news X : List Pr} {v' : Value} {n m : Nat} (h : Fr w B t A k l) (hn : n = l.length) (hkn : k = n) (hm : m = news.length) (hB : B ≤ w.heap.size) (hX : l ++ news = X)
    (h1 : 0 < m → w'.ownsRow w.heap.size t 2 v' (n + m) (l.flatMap Pr.cells ++ news.flatMap Pr.cells)) (h2 : m = 0 → v' = .slice A n n ∧ w' = w) :
    ∃ A2 c2, v' = .slice A2 X.length c2 ∧ Fr w' B t A2 c2 X := by
  obtain ⟨A2, c2, e, hf⟩ := Fr.append (_A' := none) (_c := 0) h hn hkn hm hB h1 h2
  subst hX
  exact ⟨A2, c2, by rw [e, hn, hm, List.length_append], hf⟩
theorem Sl.none_nil {w : World} {A : Option Addr} {l : List Pr} (h : Sl w A (l.flatMap Pr.cells)) (hA : A = none) : l = [] := by
  rcases h with h1 | ⟨b, off, h1, _⟩
  · have := prs_length l
    rw [h1] at this
    exact List.eq_nil_of_length_eq_zero (by simp at this; omega)
  · rw [hA] at h1; cases h1

set_option maxHeartbeats 1600000 in
theorem turnno (most : Int) (A : Option Addr) (l : List Pr) (c B : Nat) (o : Opn) (Ao : Option Addr) (co : Nat) (w : World) (hf : Fr w B 23 A c l) (_hB : B ≤ w.heap.size) (hl : l.length ≤ 100000) (hr : Hid (Ris l)) (_hO : Sl w Ao (o.pairs.flatMap Pr.cells)) (_hp : o.pairs.length ≤ 100000) (n2 : ¬ o.kind = 2) (n3 : ¬ o.kind = 3) (n11 : ¬ o.kind = 11) (n12 : ¬ o.kind = 12) (n13 : ¬ o.kind = 13) :
    Calls Try.prog 30 #[.int .i64 most, .slice A l.length c, .agg #[.int .u8 o.kind, .int .i64 o.key, .int .i64 o.val, .int .i64 o.to, .int .i64 o.n, .slice Ao o.pairs.length co]] w (GivesTurn (turnL most l o) (turnN most l o) (turnE most l o) B w) := by
  have hE : turnE most l o = 291 := by simp [turnE, n2, n3, n11, n12, n13]
  have hL : turnL most l o = [] := by unfold turnL; rw [hE]; rfl
  have hN : turnN most l o = 0 := by unfold turnN; rw [hE]; rfl
  rw [hE, hL, hN]
  clear hE hL hN
  have hb0 : Below w.heap.size w (w.alloc (.cells #[.int .u8 o.kind, .int .i64 o.key, .int .i64 o.val, .int .i64 o.to, .int .i64 o.n, .slice Ao o.pairs.length co] 28)) := (Below.refl _ _).alloc (Nat.le_refl _) _
  have bO0 : Blk (w.alloc (.cells #[.int .u8 o.kind, .int .i64 o.key, .int .i64 o.val, .int .i64 o.to, .int .i64 o.n, .slice Ao o.pairs.length co] 28)) w.heap.size 28 #[.int .u8 o.kind, .int .i64 o.key, .int .i64 o.val, .int .i64 o.to, .int .i64 o.n, .slice Ao o.pairs.length co] := Blk.new _ _ _
  have hA := hf.sl
  have hlc := hf.1
  obtain ⟨i0, hi, hz0, hz1, hz2⟩ := info_parts pr_info0
  go_enter Try.func30, Try.ntmps30
  go_wp2_with fail
  refine (rank_any A l c o.key _ (hA.below hb0) (by omega) hr).mono ?_
  rintro e w1 ⟨rfl, hb1⟩
  have hb01 := bext hb0 hb1
  have bO := bO0.below hb1 bO0.lt
  have cO0 : w1.cell? ⟨w.heap.size, 0, none⟩ = some (.int .u8 o.kind) := bO.cell 0
  have cO1 : w1.cell? ⟨w.heap.size, 1, none⟩ = some (.int .i64 o.key) := bO.cell 1
  have cO2 : w1.cell? ⟨w.heap.size, 2, none⟩ = some (.int .i64 o.val) := bO.cell 2
  have cO3 : w1.cell? ⟨w.heap.size, 3, none⟩ = some (.int .i64 o.to) := bO.cell 3
  have cO5 : w1.cell? ⟨w.heap.size, 5, none⟩ = some (.slice Ao o.pairs.length co) := bO.cell 5
  clear bO0 hb1 hb0
  go_wp2_with fail
  go_ret3
  exact ⟨none, 0, rfl, Fr.nil, hb01⟩

set_option maxHeartbeats 1600000 in
theorem turn2a (most : Int) (A : Option Addr) (l : List Pr) (c B : Nat) (o : Opn) (Ao : Option Addr) (co : Nat) (w : World) (hf : Fr w B 23 A c l) (_hB : B ≤ w.heap.size) (hl : l.length ≤ 100000) (hr : Hid (Ris l)) (_hO : Sl w Ao (o.pairs.flatMap Pr.cells)) (_hp : o.pairs.length ≤ 100000) (hk : o.kind = 2) (hm : most < ((putL l ⟨o.key, o.val⟩).length : Nat)) :
    Calls Try.prog 30 #[.int .i64 most, .slice A l.length c, .agg #[.int .u8 o.kind, .int .i64 o.key, .int .i64 o.val, .int .i64 o.to, .int .i64 o.n, .slice Ao o.pairs.length co]] w (GivesTurn (turnL most l o) (turnN most l o) (turnE most l o) B w) := by
  have hE : turnE most l o = 9 := by simp [turnE, hk, leftL, hm]
  have hL : turnL most l o = [] := by unfold turnL; rw [hE]; rfl
  have hN : turnN most l o = 0 := by unfold turnN; rw [hE]; rfl
  rw [hE, hL, hN]
  clear hE hL hN
  have hb0 : Below w.heap.size w (w.alloc (.cells #[.int .u8 2, .int .i64 o.key, .int .i64 o.val, .int .i64 o.to, .int .i64 o.n, .slice Ao o.pairs.length co] 28)) := (Below.refl _ _).alloc (Nat.le_refl _) _
  have bO0 : Blk (w.alloc (.cells #[.int .u8 2, .int .i64 o.key, .int .i64 o.val, .int .i64 o.to, .int .i64 o.n, .slice Ao o.pairs.length co] 28)) w.heap.size 28 #[.int .u8 2, .int .i64 o.key, .int .i64 o.val, .int .i64 o.to, .int .i64 o.n, .slice Ao o.pairs.length co] := Blk.new _ _ _
  have hA := hf.sl
  have hlc := hf.1
  obtain ⟨i0, hi, hz0, hz1, hz2⟩ := info_parts pr_info0
  go_enter Try.func30, Try.ntmps30
  go_wp2_with fail
  refine (rank_any A l c o.key _ (hA.below hb0) (by omega) hr).mono ?_
  rintro e w1 ⟨rfl, hb1⟩
  have hb01 := bext hb0 hb1
  have bO := bO0.below hb1 bO0.lt
  have cO0 : w1.cell? ⟨w.heap.size, 0, none⟩ = some (.int .u8 2) := bO.cell 0
  have cO1 : w1.cell? ⟨w.heap.size, 1, none⟩ = some (.int .i64 o.key) := bO.cell 1
  have cO2 : w1.cell? ⟨w.heap.size, 2, none⟩ = some (.int .i64 o.val) := bO.cell 2
  have cO3 : w1.cell? ⟨w.heap.size, 3, none⟩ = some (.int .i64 o.to) := bO.cell 3
  have cO5 : w1.cell? ⟨w.heap.size, 5, none⟩ = some (.slice Ao o.pairs.length co) := bO.cell 5
  clear bO0 hb1 hb0
  go_wp2_with fail
  refine (put_any A l c ⟨o.key, o.val⟩ _ (hA.below hb01) (by omega) hlc hr).mono ?_
  rintro e w2 ⟨A2, c2, rfl, hf2, hb2⟩
  go_wp2_with fail
  go_ret3
  exact ⟨none, 0, rfl, Fr.nil, bext hb01 hb2⟩

set_option maxHeartbeats 1600000 in
theorem turn2b (most : Int) (A : Option Addr) (l : List Pr) (c B : Nat) (o : Opn) (Ao : Option Addr) (co : Nat) (w : World) (hf : Fr w B 23 A c l) (hB : B ≤ w.heap.size) (hl : l.length ≤ 100000) (hr : Hid (Ris l)) (_hO : Sl w Ao (o.pairs.flatMap Pr.cells)) (_hp : o.pairs.length ≤ 100000) (hk : o.kind = 2) (hm : ¬ most < ((putL l ⟨o.key, o.val⟩).length : Nat)) :
    Calls Try.prog 30 #[.int .i64 most, .slice A l.length c, .agg #[.int .u8 o.kind, .int .i64 o.key, .int .i64 o.val, .int .i64 o.to, .int .i64 o.n, .slice Ao o.pairs.length co]] w (GivesTurn (turnL most l o) (turnN most l o) (turnE most l o) B w) := by
  have hE : turnE most l o = 0 := by simp [turnE, hk, leftL, hm]
  have hL : turnL most l o = putL l ⟨o.key, o.val⟩ := by unfold turnL; rw [hE]; rw [if_pos rfl]; simp [leftL, hk]
  have hN : turnN most l o = 0 := by unfold turnN; rw [hE]; rw [if_pos rfl]; simp [leftL, hk]
  rw [hE, hL, hN]
  clear hE hL hN
  have hb0 : Below w.heap.size w (w.alloc (.cells #[.int .u8 2, .int .i64 o.key, .int .i64 o.val, .int .i64 o.to, .int .i64 o.n, .slice Ao o.pairs.length co] 28)) := (Below.refl _ _).alloc (Nat.le_refl _) _
  have bO0 : Blk (w.alloc (.cells #[.int .u8 2, .int .i64 o.key, .int .i64 o.val, .int .i64 o.to, .int .i64 o.n, .slice Ao o.pairs.length co] 28)) w.heap.size 28 #[.int .u8 2, .int .i64 o.key, .int .i64 o.val, .int .i64 o.to, .int .i64 o.n, .slice Ao o.pairs.length co] := Blk.new _ _ _
  have hA := hf.sl
  have hlc := hf.1
  obtain ⟨i0, hi, hz0, hz1, hz2⟩ := info_parts pr_info0
  go_enter Try.func30, Try.ntmps30
  go_wp2_with fail
  refine (rank_any A l c o.key _ (hA.below hb0) (by omega) hr).mono ?_
  rintro e w1 ⟨rfl, hb1⟩
  have hb01 := bext hb0 hb1
  have bO := bO0.below hb1 bO0.lt
  have cO0 : w1.cell? ⟨w.heap.size, 0, none⟩ = some (.int .u8 2) := bO.cell 0
  have cO1 : w1.cell? ⟨w.heap.size, 1, none⟩ = some (.int .i64 o.key) := bO.cell 1
  have cO2 : w1.cell? ⟨w.heap.size, 2, none⟩ = some (.int .i64 o.val) := bO.cell 2
  have cO3 : w1.cell? ⟨w.heap.size, 3, none⟩ = some (.int .i64 o.to) := bO.cell 3
  have cO5 : w1.cell? ⟨w.heap.size, 5, none⟩ = some (.slice Ao o.pairs.length co) := bO.cell 5
  clear bO0 hb1 hb0
  go_wp2_with fail
  refine (put_any A l c ⟨o.key, o.val⟩ _ (hA.below hb01) (by omega) hlc hr).mono ?_
  rintro e w2 ⟨A2, c2, rfl, hf2, hb2⟩
  go_wp2_with fail
  go_ret3
  exact ⟨A2, c2, rfl, hf2.mono (by have := hb01.size; omega), bext hb01 hb2⟩

set_option maxHeartbeats 1600000 in
theorem turn3n (most : Int) (A : Option Addr) (l : List Pr) (c B : Nat) (o : Opn) (Ao : Option Addr) (co : Nat) (w : World) (hf : Fr w B 23 A c l) (hB : B ≤ w.heap.size) (hl : l.length ≤ 100000) (hr : Hid (Ris l)) (_hO : Sl w Ao (o.pairs.flatMap Pr.cells)) (_hp : o.pairs.length ≤ 100000) (hk : o.kind = 3) (hh : has l o.key = false) :
    Calls Try.prog 30 #[.int .i64 most, .slice A l.length c, .agg #[.int .u8 o.kind, .int .i64 o.key, .int .i64 o.val, .int .i64 o.to, .int .i64 o.n, .slice Ao o.pairs.length co]] w (GivesTurn (turnL most l o) (turnN most l o) (turnE most l o) B w) := by
  have hE : turnE most l o = 6 := by simp [turnE, hk, hh]
  have hL : turnL most l o = [] := by unfold turnL; rw [hE]; rfl
  have hN : turnN most l o = 0 := by unfold turnN; rw [hE]; rfl
  rw [hE, hL, hN]
  clear hE hL hN
  have hb0 : Below w.heap.size w (w.alloc (.cells #[.int .u8 3, .int .i64 o.key, .int .i64 o.val, .int .i64 o.to, .int .i64 o.n, .slice Ao o.pairs.length co] 28)) := (Below.refl _ _).alloc (Nat.le_refl _) _
  have bO0 : Blk (w.alloc (.cells #[.int .u8 3, .int .i64 o.key, .int .i64 o.val, .int .i64 o.to, .int .i64 o.n, .slice Ao o.pairs.length co] 28)) w.heap.size 28 #[.int .u8 3, .int .i64 o.key, .int .i64 o.val, .int .i64 o.to, .int .i64 o.n, .slice Ao o.pairs.length co] := Blk.new _ _ _
  have hA := hf.sl
  have hlc := hf.1
  obtain ⟨i0, hi, hz0, hz1, hz2⟩ := info_parts pr_info0
  go_enter Try.func30, Try.ntmps30
  go_wp2_with fail
  refine (rank_any A l c o.key _ (hA.below hb0) (by omega) hr).mono ?_
  rw [hh]; rintro e w1 ⟨rfl, hb1⟩
  have hb01 := bext hb0 hb1
  have bO := bO0.below hb1 bO0.lt
  have cO0 : w1.cell? ⟨w.heap.size, 0, none⟩ = some (.int .u8 3) := bO.cell 0
  have cO1 : w1.cell? ⟨w.heap.size, 1, none⟩ = some (.int .i64 o.key) := bO.cell 1
  have cO2 : w1.cell? ⟨w.heap.size, 2, none⟩ = some (.int .i64 o.val) := bO.cell 2
  have cO3 : w1.cell? ⟨w.heap.size, 3, none⟩ = some (.int .i64 o.to) := bO.cell 3
  have cO5 : w1.cell? ⟨w.heap.size, 5, none⟩ = some (.slice Ao o.pairs.length co) := bO.cell 5
  clear bO0 hb1 hb0
  go_wp2_with fail
  go_ret3
  exact ⟨none, 0, rfl, Fr.nil, hb01⟩

set_option maxHeartbeats 1600000 in
theorem turn3a (most : Int) (A : Option Addr) (l : List Pr) (c B : Nat) (o : Opn) (Ao : Option Addr) (co : Nat) (w : World) (hf : Fr w B 23 A c l) (hB : B ≤ w.heap.size) (hl : l.length ≤ 100000) (hr : Hid (Ris l)) (_hO : Sl w Ao (o.pairs.flatMap Pr.cells)) (_hp : o.pairs.length ≤ 100000) (hk : o.kind = 3) (hh : has l o.key = true) (K : Nat) (hK : Hid (bel l o.key = K)) (X : List Pr) (hX : Hid (l.take (K) ++ l.drop (K + 1) = X)) (hm : most < (X.length : Nat)) :
    Calls Try.prog 30 #[.int .i64 most, .slice A l.length c, .agg #[.int .u8 o.kind, .int .i64 o.key, .int .i64 o.val, .int .i64 o.to, .int .i64 o.n, .slice Ao o.pairs.length co]] w (GivesTurn (turnL most l o) (turnN most l o) (turnE most l o) B w) := by
  have hE : turnE most l o = 9 := by simp [turnE, hk, leftL, hh, hK.out, hX.out, hm]
  have hL : turnL most l o = [] := by unfold turnL; rw [hE]; rfl
  have hN : turnN most l o = 0 := by unfold turnN; rw [hE]; rfl
  rw [hE, hL, hN]
  clear hE hL hN
  have hb0 : Below w.heap.size w (w.alloc (.cells #[.int .u8 3, .int .i64 o.key, .int .i64 o.val, .int .i64 o.to, .int .i64 o.n, .slice Ao o.pairs.length co] 28)) := (Below.refl _ _).alloc (Nat.le_refl _) _
  have bO0 : Blk (w.alloc (.cells #[.int .u8 3, .int .i64 o.key, .int .i64 o.val, .int .i64 o.to, .int .i64 o.n, .slice Ao o.pairs.length co] 28)) w.heap.size 28 #[.int .u8 3, .int .i64 o.key, .int .i64 o.val, .int .i64 o.to, .int .i64 o.n, .slice Ao o.pairs.length co] := Blk.new _ _ _
  have hA := hf.sl
  have hlc := hf.1
  obtain ⟨i0, hi, hz0, hz1, hz2⟩ := info_parts pr_info0
  go_enter Try.func30, Try.ntmps30
  have hKl := bel_le l o.key
  rw [hK.out] at hKl
  have hKu : K + 1 ≤ l.length := by have h1 := upk_le l o.key; have h2 := upk_has hr.out o.key; rw [if_pos hh, hK.out] at h2; omega
  go_wp2_with fail
  refine (rank_any A l c o.key _ (hA.below hb0) (by omega) hr).mono ?_
  rw [hh, hK.out]; rintro e w1 ⟨rfl, hb1⟩
  have hb01 := bext hb0 hb1
  have bO := bO0.below hb1 bO0.lt
  have cO0 : w1.cell? ⟨w.heap.size, 0, none⟩ = some (.int .u8 3) := bO.cell 0
  have cO1 : w1.cell? ⟨w.heap.size, 1, none⟩ = some (.int .i64 o.key) := bO.cell 1
  have cO2 : w1.cell? ⟨w.heap.size, 2, none⟩ = some (.int .i64 o.val) := bO.cell 2
  have cO3 : w1.cell? ⟨w.heap.size, 3, none⟩ = some (.int .i64 o.to) := bO.cell 3
  have cO5 : w1.cell? ⟨w.heap.size, 5, none⟩ = some (.slice Ao o.pairs.length co) := bO.cell 5
  clear bO0 hb1 hb0
  go_wp2_with fail
  have hAk : Hid (A = none → K = 0) := Lib.hid (fun h => by have h2 := hA.none_nil h; rw [h2] at hKl; simpa using hKl)
  have hSk : Hid (Sl (World.drew w1) A ((l.take (K)).flatMap Pr.cells)) := Lib.hid ((hA.below (bdrew1 hb01)).take _)
  have hSd : Hid (Sl (World.drew w1) (partA A (K + 1) c) ((l.drop (K + 1)).flatMap Pr.cells)) := Lib.hid ((hA.below (bdrew1 hb01)).drop (K + 1) c hlc)
  have hFk : Hid (Fr (World.drew w1) B 23 A (K) (l.take (K))) := Lib.hid ((hf.below (bdrew1 hb01)).take _ hKl hAk.out)
  have hBw : B ≤ (World.drew w1).heap.size := (by have := hb01.size; omega : B ≤ w1.heap.size)
  have hKc : ((K : Nat) : Int) ≤ (c : Nat) := by omega
  have hK0 : (0 : Int) ≤ ((K : Nat) : Int) := by omega
  have hw1 : IntKind.i64.wrap (((K : Nat) : Int) + 1) = ((K : Nat) : Int) + 1 := by rw [IntKind.wrap_i64]; omega
  have hK1 : (0 : Int) ≤ ((K : Nat) : Int) + 1 := by omega
  have hK2 : ((K : Nat) : Int) + 1 ≤ (l.length : Nat) := by omega
  go_region_law (refine step_append_full _ rfl (.tmp 39) (.tmp 43) 24 rfl 23 i0 _ 2 16 Try.underlying24 hi hz0 hz1 hz2 rfl (by omega) A (K) ((l.take (K)).flatMap Pr.cells) hAk.out (by simp [Act.eval, Act.put]) hSk.out (by rw [prs_length]; simp; omega) (partA A (K + 1) c) (l.length - (K + 1)) (c - (K + 1)) ((l.drop (K + 1)).flatMap Pr.cells) (by simp [Act.eval, Act.put, partA]) hSd.out (by rw [prs_length]; simp) (one_prs _) (by unfold maxLen; omega) (by omega) ?_; intro v2 w2 ho1 ho2 hg2; obtain ⟨A2, c2, rfl, hf2⟩ := Fr.appendX (w := World.drew w1) (n := K) (m := l.length - (K + 1)) hFk.out (by simp; omega) rfl (by simp) hBw hX.out ho1 ho2; have hb9 := (bdrew1 hb01).grown hg2 (by have := hb01.size; simpa using this) (fun k hk => by cases hk); clear ho1 ho2 hg2)
  all_goals
    go_wp2_with fail
    all_goals
      go_ret3
      exact ⟨none, 0, rfl, Fr.nil, hb9⟩

set_option maxHeartbeats 1600000 in
theorem turn3b (most : Int) (A : Option Addr) (l : List Pr) (c B : Nat) (o : Opn) (Ao : Option Addr) (co : Nat) (w : World) (hf : Fr w B 23 A c l) (hB : B ≤ w.heap.size) (hl : l.length ≤ 100000) (hr : Hid (Ris l)) (_hO : Sl w Ao (o.pairs.flatMap Pr.cells)) (_hp : o.pairs.length ≤ 100000) (hk : o.kind = 3) (hh : has l o.key = true) (K : Nat) (hK : Hid (bel l o.key = K)) (X : List Pr) (hX : Hid (l.take (K) ++ l.drop (K + 1) = X)) (hm : ¬ most < (X.length : Nat)) :
    Calls Try.prog 30 #[.int .i64 most, .slice A l.length c, .agg #[.int .u8 o.kind, .int .i64 o.key, .int .i64 o.val, .int .i64 o.to, .int .i64 o.n, .slice Ao o.pairs.length co]] w (GivesTurn (turnL most l o) (turnN most l o) (turnE most l o) B w) := by
  have hE : turnE most l o = 0 := by simp [turnE, hk, leftL, hh, hK.out, hX.out, hm]
  have hL : turnL most l o = X := by unfold turnL; rw [hE]; rw [if_pos rfl]; simp [leftL, hk, hK.out, hX.out]
  have hN : turnN most l o = 0 := by unfold turnN; rw [hE]; rw [if_pos rfl]; simp [leftL, hk, hK.out, hX.out]
  rw [hE, hL, hN]
  clear hE hL hN
  have hb0 : Below w.heap.size w (w.alloc (.cells #[.int .u8 3, .int .i64 o.key, .int .i64 o.val, .int .i64 o.to, .int .i64 o.n, .slice Ao o.pairs.length co] 28)) := (Below.refl _ _).alloc (Nat.le_refl _) _
  have bO0 : Blk (w.alloc (.cells #[.int .u8 3, .int .i64 o.key, .int .i64 o.val, .int .i64 o.to, .int .i64 o.n, .slice Ao o.pairs.length co] 28)) w.heap.size 28 #[.int .u8 3, .int .i64 o.key, .int .i64 o.val, .int .i64 o.to, .int .i64 o.n, .slice Ao o.pairs.length co] := Blk.new _ _ _
  have hA := hf.sl
  have hlc := hf.1
  obtain ⟨i0, hi, hz0, hz1, hz2⟩ := info_parts pr_info0
  go_enter Try.func30, Try.ntmps30
  have hKl := bel_le l o.key
  rw [hK.out] at hKl
  have hKu : K + 1 ≤ l.length := by have h1 := upk_le l o.key; have h2 := upk_has hr.out o.key; rw [if_pos hh, hK.out] at h2; omega
  go_wp2_with fail
  refine (rank_any A l c o.key _ (hA.below hb0) (by omega) hr).mono ?_
  rw [hh, hK.out]; rintro e w1 ⟨rfl, hb1⟩
  have hb01 := bext hb0 hb1
  have bO := bO0.below hb1 bO0.lt
  have cO0 : w1.cell? ⟨w.heap.size, 0, none⟩ = some (.int .u8 3) := bO.cell 0
  have cO1 : w1.cell? ⟨w.heap.size, 1, none⟩ = some (.int .i64 o.key) := bO.cell 1
  have cO2 : w1.cell? ⟨w.heap.size, 2, none⟩ = some (.int .i64 o.val) := bO.cell 2
  have cO3 : w1.cell? ⟨w.heap.size, 3, none⟩ = some (.int .i64 o.to) := bO.cell 3
  have cO5 : w1.cell? ⟨w.heap.size, 5, none⟩ = some (.slice Ao o.pairs.length co) := bO.cell 5
  clear bO0 hb1 hb0
  go_wp2_with fail
  have hAk : Hid (A = none → K = 0) := Lib.hid (fun h => by have h2 := hA.none_nil h; rw [h2] at hKl; simpa using hKl)
  have hSk : Hid (Sl (World.drew w1) A ((l.take (K)).flatMap Pr.cells)) := Lib.hid ((hA.below (bdrew1 hb01)).take _)
  have hSd : Hid (Sl (World.drew w1) (partA A (K + 1) c) ((l.drop (K + 1)).flatMap Pr.cells)) := Lib.hid ((hA.below (bdrew1 hb01)).drop (K + 1) c hlc)
  have hFk : Hid (Fr (World.drew w1) B 23 A (K) (l.take (K))) := Lib.hid ((hf.below (bdrew1 hb01)).take _ hKl hAk.out)
  have hBw : B ≤ (World.drew w1).heap.size := (by have := hb01.size; omega : B ≤ w1.heap.size)
  have hKc : ((K : Nat) : Int) ≤ (c : Nat) := by omega
  have hK0 : (0 : Int) ≤ ((K : Nat) : Int) := by omega
  have hw1 : IntKind.i64.wrap (((K : Nat) : Int) + 1) = ((K : Nat) : Int) + 1 := by rw [IntKind.wrap_i64]; omega
  have hK1 : (0 : Int) ≤ ((K : Nat) : Int) + 1 := by omega
  have hK2 : ((K : Nat) : Int) + 1 ≤ (l.length : Nat) := by omega
  go_region_law (refine step_append_full _ rfl (.tmp 39) (.tmp 43) 24 rfl 23 i0 _ 2 16 Try.underlying24 hi hz0 hz1 hz2 rfl (by omega) A (K) ((l.take (K)).flatMap Pr.cells) hAk.out (by simp [Act.eval, Act.put]) hSk.out (by rw [prs_length]; simp; omega) (partA A (K + 1) c) (l.length - (K + 1)) (c - (K + 1)) ((l.drop (K + 1)).flatMap Pr.cells) (by simp [Act.eval, Act.put, partA]) hSd.out (by rw [prs_length]; simp) (one_prs _) (by unfold maxLen; omega) (by omega) ?_; intro v2 w2 ho1 ho2 hg2; obtain ⟨A2, c2, rfl, hf2⟩ := Fr.appendX (w := World.drew w1) (n := K) (m := l.length - (K + 1)) hFk.out (by simp; omega) rfl (by simp) hBw hX.out ho1 ho2; have hb9 := (bdrew1 hb01).grown hg2 (by have := hb01.size; simpa using this) (fun k hk => by cases hk); clear ho1 ho2 hg2)
  all_goals
    go_wp2_with fail
    all_goals
      go_ret3
      exact ⟨A2, c2, rfl, hf2, hb9⟩

set_option maxHeartbeats 1600000 in
theorem turn12n (most : Int) (A : Option Addr) (l : List Pr) (c B : Nat) (o : Opn) (Ao : Option Addr) (co : Nat) (w : World) (hf : Fr w B 23 A c l) (hB : B ≤ w.heap.size) (hl : l.length ≤ 100000) (hr : Hid (Ris l)) (hO : Sl w Ao (o.pairs.flatMap Pr.cells)) (hp : o.pairs.length ≤ 100000) (hk : o.kind = 12) (hn : ¬ Ris o.pairs) :
    Calls Try.prog 30 #[.int .i64 most, .slice A l.length c, .agg #[.int .u8 o.kind, .int .i64 o.key, .int .i64 o.val, .int .i64 o.to, .int .i64 o.n, .slice Ao o.pairs.length co]] w (GivesTurn (turnL most l o) (turnN most l o) (turnE most l o) B w) := by
  have hE : turnE most l o = 130 := by simp [turnE, hk, hn]
  have hL : turnL most l o = [] := by unfold turnL; rw [hE]; rfl
  have hN : turnN most l o = 0 := by unfold turnN; rw [hE]; rfl
  rw [hE, hL, hN]
  clear hE hL hN
  have hb0 : Below w.heap.size w (w.alloc (.cells #[.int .u8 12, .int .i64 o.key, .int .i64 o.val, .int .i64 o.to, .int .i64 o.n, .slice Ao o.pairs.length co] 28)) := (Below.refl _ _).alloc (Nat.le_refl _) _
  have bO0 : Blk (w.alloc (.cells #[.int .u8 12, .int .i64 o.key, .int .i64 o.val, .int .i64 o.to, .int .i64 o.n, .slice Ao o.pairs.length co] 28)) w.heap.size 28 #[.int .u8 12, .int .i64 o.key, .int .i64 o.val, .int .i64 o.to, .int .i64 o.n, .slice Ao o.pairs.length co] := Blk.new _ _ _
  have hA := hf.sl
  have hlc := hf.1
  obtain ⟨i0, hi, hz0, hz1, hz2⟩ := info_parts pr_info0
  go_enter Try.func30, Try.ntmps30
  go_wp2_with fail
  refine (rank_any A l c o.key _ (hA.below hb0) (by omega) hr).mono ?_
  rintro e w1 ⟨rfl, hb1⟩
  have hb01 := bext hb0 hb1
  have bO := bO0.below hb1 bO0.lt
  have cO0 : w1.cell? ⟨w.heap.size, 0, none⟩ = some (.int .u8 12) := bO.cell 0
  have cO1 : w1.cell? ⟨w.heap.size, 1, none⟩ = some (.int .i64 o.key) := bO.cell 1
  have cO2 : w1.cell? ⟨w.heap.size, 2, none⟩ = some (.int .i64 o.val) := bO.cell 2
  have cO3 : w1.cell? ⟨w.heap.size, 3, none⟩ = some (.int .i64 o.to) := bO.cell 3
  have cO5 : w1.cell? ⟨w.heap.size, 5, none⟩ = some (.slice Ao o.pairs.length co) := bO.cell 5
  clear bO0 hb1 hb0
  go_wp2_with fail
  refine (rising_any Ao o.pairs co _ (hO.below hb01) (by omega)).mono ?_
  rw [decide_eq_false hn]
  rintro e w2 ⟨rfl, hb2⟩
  have hb02 := bext hb01 hb2
  have bO0 := bO
  clear bO cO0 cO1 cO2 cO3 cO5
  have bO := bO0.below hb2 bO0.lt
  have cO0 : w2.cell? ⟨w.heap.size, 0, none⟩ = some (.int .u8 12) := bO.cell 0
  have cO1 : w2.cell? ⟨w.heap.size, 1, none⟩ = some (.int .i64 o.key) := bO.cell 1
  have cO2 : w2.cell? ⟨w.heap.size, 2, none⟩ = some (.int .i64 o.val) := bO.cell 2
  have cO3 : w2.cell? ⟨w.heap.size, 3, none⟩ = some (.int .i64 o.to) := bO.cell 3
  have cO5 : w2.cell? ⟨w.heap.size, 5, none⟩ = some (.slice Ao o.pairs.length co) := bO.cell 5
  go_wp2_with fail
  go_ret3
  exact ⟨none, 0, rfl, Fr.nil, hb02⟩

set_option maxHeartbeats 1600000 in
theorem turn13n (most : Int) (A : Option Addr) (l : List Pr) (c B : Nat) (o : Opn) (Ao : Option Addr) (co : Nat) (w : World) (hf : Fr w B 23 A c l) (_hB : B ≤ w.heap.size) (hl : l.length ≤ 100000) (hr : Hid (Ris l)) (hO : Sl w Ao (o.pairs.flatMap Pr.cells)) (hp : o.pairs.length ≤ 100000) (hk : o.kind = 13) (hn : ¬ Ris o.pairs) :
    Calls Try.prog 30 #[.int .i64 most, .slice A l.length c, .agg #[.int .u8 o.kind, .int .i64 o.key, .int .i64 o.val, .int .i64 o.to, .int .i64 o.n, .slice Ao o.pairs.length co]] w (GivesTurn (turnL most l o) (turnN most l o) (turnE most l o) B w) := by
  have hE : turnE most l o = 130 := by simp [turnE, hk, hn]
  have hL : turnL most l o = [] := by unfold turnL; rw [hE]; rfl
  have hN : turnN most l o = 0 := by unfold turnN; rw [hE]; rfl
  rw [hE, hL, hN]
  clear hE hL hN
  have hb0 : Below w.heap.size w (w.alloc (.cells #[.int .u8 13, .int .i64 o.key, .int .i64 o.val, .int .i64 o.to, .int .i64 o.n, .slice Ao o.pairs.length co] 28)) := (Below.refl _ _).alloc (Nat.le_refl _) _
  have bO0 : Blk (w.alloc (.cells #[.int .u8 13, .int .i64 o.key, .int .i64 o.val, .int .i64 o.to, .int .i64 o.n, .slice Ao o.pairs.length co] 28)) w.heap.size 28 #[.int .u8 13, .int .i64 o.key, .int .i64 o.val, .int .i64 o.to, .int .i64 o.n, .slice Ao o.pairs.length co] := Blk.new _ _ _
  have hA := hf.sl
  have hlc := hf.1
  obtain ⟨i0, hi, hz0, hz1, hz2⟩ := info_parts pr_info0
  go_enter Try.func30, Try.ntmps30
  go_wp2_with fail
  refine (rank_any A l c o.key _ (hA.below hb0) (by omega) hr).mono ?_
  rintro e w1 ⟨rfl, hb1⟩
  have hb01 := bext hb0 hb1
  have bO := bO0.below hb1 bO0.lt
  have cO0 : w1.cell? ⟨w.heap.size, 0, none⟩ = some (.int .u8 13) := bO.cell 0
  have cO1 : w1.cell? ⟨w.heap.size, 1, none⟩ = some (.int .i64 o.key) := bO.cell 1
  have cO2 : w1.cell? ⟨w.heap.size, 2, none⟩ = some (.int .i64 o.val) := bO.cell 2
  have cO3 : w1.cell? ⟨w.heap.size, 3, none⟩ = some (.int .i64 o.to) := bO.cell 3
  have cO5 : w1.cell? ⟨w.heap.size, 5, none⟩ = some (.slice Ao o.pairs.length co) := bO.cell 5
  clear bO0 hb1 hb0
  go_wp2_with fail
  refine (rising_any Ao o.pairs co _ (hO.below hb01) (by omega)).mono ?_
  rw [decide_eq_false hn]
  rintro e w2 ⟨rfl, hb2⟩
  have hb02 := bext hb01 hb2
  have bO0 := bO
  clear bO cO0 cO1 cO2 cO3 cO5
  have bO := bO0.below hb2 bO0.lt
  have cO0 : w2.cell? ⟨w.heap.size, 0, none⟩ = some (.int .u8 13) := bO.cell 0
  have cO1 : w2.cell? ⟨w.heap.size, 1, none⟩ = some (.int .i64 o.key) := bO.cell 1
  have cO2 : w2.cell? ⟨w.heap.size, 2, none⟩ = some (.int .i64 o.val) := bO.cell 2
  have cO3 : w2.cell? ⟨w.heap.size, 3, none⟩ = some (.int .i64 o.to) := bO.cell 3
  have cO5 : w2.cell? ⟨w.heap.size, 5, none⟩ = some (.slice Ao o.pairs.length co) := bO.cell 5
  go_wp2_with fail
  go_ret3
  exact ⟨none, 0, rfl, Fr.nil, hb02⟩

set_option maxHeartbeats 1600000 in
theorem turn12a (most : Int) (A : Option Addr) (l : List Pr) (c B : Nat) (o : Opn) (Ao : Option Addr) (co : Nat) (w : World) (hf : Fr w B 23 A c l) (_hB : B ≤ w.heap.size) (hl : l.length ≤ 100000) (hr : Hid (Ris l)) (hO : Sl w Ao (o.pairs.flatMap Pr.cells)) (hp : o.pairs.length ≤ 100000) (hk : o.kind = 12) (hn : Ris o.pairs) (hm : most < (o.pairs.length : Nat)) :
    Calls Try.prog 30 #[.int .i64 most, .slice A l.length c, .agg #[.int .u8 o.kind, .int .i64 o.key, .int .i64 o.val, .int .i64 o.to, .int .i64 o.n, .slice Ao o.pairs.length co]] w (GivesTurn (turnL most l o) (turnN most l o) (turnE most l o) B w) := by
  have hE : turnE most l o = 9 := by simp [turnE, hk, hn, leftL, hm]
  have hL : turnL most l o = [] := by unfold turnL; rw [hE]; rfl
  have hN : turnN most l o = 0 := by unfold turnN; rw [hE]; rfl
  rw [hE, hL, hN]
  clear hE hL hN
  have hb0 : Below w.heap.size w (w.alloc (.cells #[.int .u8 12, .int .i64 o.key, .int .i64 o.val, .int .i64 o.to, .int .i64 o.n, .slice Ao o.pairs.length co] 28)) := (Below.refl _ _).alloc (Nat.le_refl _) _
  have bO0 : Blk (w.alloc (.cells #[.int .u8 12, .int .i64 o.key, .int .i64 o.val, .int .i64 o.to, .int .i64 o.n, .slice Ao o.pairs.length co] 28)) w.heap.size 28 #[.int .u8 12, .int .i64 o.key, .int .i64 o.val, .int .i64 o.to, .int .i64 o.n, .slice Ao o.pairs.length co] := Blk.new _ _ _
  have hA := hf.sl
  have hlc := hf.1
  obtain ⟨i0, hi, hz0, hz1, hz2⟩ := info_parts pr_info0
  go_enter Try.func30, Try.ntmps30
  go_wp2_with fail
  refine (rank_any A l c o.key _ (hA.below hb0) (by omega) hr).mono ?_
  rintro e w1 ⟨rfl, hb1⟩
  have hb01 := bext hb0 hb1
  have bO := bO0.below hb1 bO0.lt
  have cO0 : w1.cell? ⟨w.heap.size, 0, none⟩ = some (.int .u8 12) := bO.cell 0
  have cO1 : w1.cell? ⟨w.heap.size, 1, none⟩ = some (.int .i64 o.key) := bO.cell 1
  have cO2 : w1.cell? ⟨w.heap.size, 2, none⟩ = some (.int .i64 o.val) := bO.cell 2
  have cO3 : w1.cell? ⟨w.heap.size, 3, none⟩ = some (.int .i64 o.to) := bO.cell 3
  have cO5 : w1.cell? ⟨w.heap.size, 5, none⟩ = some (.slice Ao o.pairs.length co) := bO.cell 5
  clear bO0 hb1 hb0
  go_wp2_with fail
  refine (rising_any Ao o.pairs co _ (hO.below hb01) (by omega)).mono ?_
  rw [decide_eq_true hn]
  rintro e w2 ⟨rfl, hb2⟩
  have hb02 := bext hb01 hb2
  have bO0 := bO
  clear bO cO0 cO1 cO2 cO3 cO5
  have bO := bO0.below hb2 bO0.lt
  have cO0 : w2.cell? ⟨w.heap.size, 0, none⟩ = some (.int .u8 12) := bO.cell 0
  have cO1 : w2.cell? ⟨w.heap.size, 1, none⟩ = some (.int .i64 o.key) := bO.cell 1
  have cO2 : w2.cell? ⟨w.heap.size, 2, none⟩ = some (.int .i64 o.val) := bO.cell 2
  have cO3 : w2.cell? ⟨w.heap.size, 3, none⟩ = some (.int .i64 o.to) := bO.cell 3
  have cO5 : w2.cell? ⟨w.heap.size, 5, none⟩ = some (.slice Ao o.pairs.length co) := bO.cell 5
  go_wp2_with fail
  refine (clone_any Ao o.pairs co _ (hO.below hb02) (by omega)).mono ?_
  rintro e w3 ⟨A2, c2, rfl, hf2, hb3⟩
  have hb03 := bext hb02 hb3
  have bO1 := bO
  clear bO bO0 cO0 cO1 cO2 cO3 cO5
  have bO := bO1.below hb3 bO1.lt
  have cO0 : w3.cell? ⟨w.heap.size, 0, none⟩ = some (.int .u8 12) := bO.cell 0
  have cO1 : w3.cell? ⟨w.heap.size, 1, none⟩ = some (.int .i64 o.key) := bO.cell 1
  have cO2 : w3.cell? ⟨w.heap.size, 2, none⟩ = some (.int .i64 o.val) := bO.cell 2
  have cO3 : w3.cell? ⟨w.heap.size, 3, none⟩ = some (.int .i64 o.to) := bO.cell 3
  have cO5 : w3.cell? ⟨w.heap.size, 5, none⟩ = some (.slice Ao o.pairs.length co) := bO.cell 5
  go_wp2_with fail
  go_ret3
  exact ⟨none, 0, rfl, Fr.nil, hb03⟩

set_option maxHeartbeats 1600000 in
theorem turn12b (most : Int) (A : Option Addr) (l : List Pr) (c B : Nat) (o : Opn) (Ao : Option Addr) (co : Nat) (w : World) (hf : Fr w B 23 A c l) (hB : B ≤ w.heap.size) (hl : l.length ≤ 100000) (hr : Hid (Ris l)) (hO : Sl w Ao (o.pairs.flatMap Pr.cells)) (hp : o.pairs.length ≤ 100000) (hk : o.kind = 12) (hn : Ris o.pairs) (hm : ¬ most < (o.pairs.length : Nat)) :
    Calls Try.prog 30 #[.int .i64 most, .slice A l.length c, .agg #[.int .u8 o.kind, .int .i64 o.key, .int .i64 o.val, .int .i64 o.to, .int .i64 o.n, .slice Ao o.pairs.length co]] w (GivesTurn (turnL most l o) (turnN most l o) (turnE most l o) B w) := by
  have hE : turnE most l o = 0 := by simp [turnE, hk, hn, leftL]; omega
  have hL : turnL most l o = o.pairs := by unfold turnL; rw [hE]; rw [if_pos rfl]; simp [leftL, hk]
  have hN : turnN most l o = 0 := by unfold turnN; rw [hE]; rw [if_pos rfl]; simp [leftL, hk]
  rw [hE, hL, hN]
  clear hE hL hN
  have hb0 : Below w.heap.size w (w.alloc (.cells #[.int .u8 12, .int .i64 o.key, .int .i64 o.val, .int .i64 o.to, .int .i64 o.n, .slice Ao o.pairs.length co] 28)) := (Below.refl _ _).alloc (Nat.le_refl _) _
  have bO0 : Blk (w.alloc (.cells #[.int .u8 12, .int .i64 o.key, .int .i64 o.val, .int .i64 o.to, .int .i64 o.n, .slice Ao o.pairs.length co] 28)) w.heap.size 28 #[.int .u8 12, .int .i64 o.key, .int .i64 o.val, .int .i64 o.to, .int .i64 o.n, .slice Ao o.pairs.length co] := Blk.new _ _ _
  have hA := hf.sl
  have hlc := hf.1
  obtain ⟨i0, hi, hz0, hz1, hz2⟩ := info_parts pr_info0
  go_enter Try.func30, Try.ntmps30
  go_wp2_with fail
  refine (rank_any A l c o.key _ (hA.below hb0) (by omega) hr).mono ?_
  rintro e w1 ⟨rfl, hb1⟩
  have hb01 := bext hb0 hb1
  have bO := bO0.below hb1 bO0.lt
  have cO0 : w1.cell? ⟨w.heap.size, 0, none⟩ = some (.int .u8 12) := bO.cell 0
  have cO1 : w1.cell? ⟨w.heap.size, 1, none⟩ = some (.int .i64 o.key) := bO.cell 1
  have cO2 : w1.cell? ⟨w.heap.size, 2, none⟩ = some (.int .i64 o.val) := bO.cell 2
  have cO3 : w1.cell? ⟨w.heap.size, 3, none⟩ = some (.int .i64 o.to) := bO.cell 3
  have cO5 : w1.cell? ⟨w.heap.size, 5, none⟩ = some (.slice Ao o.pairs.length co) := bO.cell 5
  clear bO0 hb1 hb0
  go_wp2_with fail
  refine (rising_any Ao o.pairs co _ (hO.below hb01) (by omega)).mono ?_
  rw [decide_eq_true hn]
  rintro e w2 ⟨rfl, hb2⟩
  have hb02 := bext hb01 hb2
  have bO0 := bO
  clear bO cO0 cO1 cO2 cO3 cO5
  have bO := bO0.below hb2 bO0.lt
  have cO0 : w2.cell? ⟨w.heap.size, 0, none⟩ = some (.int .u8 12) := bO.cell 0
  have cO1 : w2.cell? ⟨w.heap.size, 1, none⟩ = some (.int .i64 o.key) := bO.cell 1
  have cO2 : w2.cell? ⟨w.heap.size, 2, none⟩ = some (.int .i64 o.val) := bO.cell 2
  have cO3 : w2.cell? ⟨w.heap.size, 3, none⟩ = some (.int .i64 o.to) := bO.cell 3
  have cO5 : w2.cell? ⟨w.heap.size, 5, none⟩ = some (.slice Ao o.pairs.length co) := bO.cell 5
  go_wp2_with fail
  refine (clone_any Ao o.pairs co _ (hO.below hb02) (by omega)).mono ?_
  rintro e w3 ⟨A2, c2, rfl, hf2, hb3⟩
  have hb03 := bext hb02 hb3
  have bO1 := bO
  clear bO bO0 cO0 cO1 cO2 cO3 cO5
  have bO := bO1.below hb3 bO1.lt
  have cO0 : w3.cell? ⟨w.heap.size, 0, none⟩ = some (.int .u8 12) := bO.cell 0
  have cO1 : w3.cell? ⟨w.heap.size, 1, none⟩ = some (.int .i64 o.key) := bO.cell 1
  have cO2 : w3.cell? ⟨w.heap.size, 2, none⟩ = some (.int .i64 o.val) := bO.cell 2
  have cO3 : w3.cell? ⟨w.heap.size, 3, none⟩ = some (.int .i64 o.to) := bO.cell 3
  have cO5 : w3.cell? ⟨w.heap.size, 5, none⟩ = some (.slice Ao o.pairs.length co) := bO.cell 5
  go_wp2_with fail
  go_ret3
  exact ⟨A2, c2, rfl, hf2.mono (by have := hb02.size; omega), hb03⟩

set_option maxHeartbeats 1600000 in
theorem turn11au (most : Int) (A : Option Addr) (l : List Pr) (c B : Nat) (o : Opn) (Ao : Option Addr) (co : Nat) (w : World) (hf : Fr w B 23 A c l) (hB : B ≤ w.heap.size) (hl : l.length ≤ 100000) (hr : Hid (Ris l)) (hO : Sl w Ao (o.pairs.flatMap Pr.cells)) (_hp : o.pairs.length ≤ 100000) (hk : o.kind = 11) (K U : Nat) (hK : Hid (bel l o.key = K)) (hU : Hid (upk l o.to = U)) (hKU : K < U) (X : List Pr) (hX : Hid (l.take K ++ l.drop U = X)) (hm : most < (X.length : Nat)) :
    Calls Try.prog 30 #[.int .i64 most, .slice A l.length c, .agg #[.int .u8 o.kind, .int .i64 o.key, .int .i64 o.val, .int .i64 o.to, .int .i64 o.n, .slice Ao o.pairs.length co]] w (GivesTurn (turnL most l o) (turnN most l o) (turnE most l o) B w) := by
  have hmx : max K U = U := by omega
  have hE : turnE most l o = 9 := by simp [turnE, hk, leftL, hK.out, hU.out, hmx, hX.out, hm]
  have hL : turnL most l o = [] := by unfold turnL; rw [hE]; rfl
  have hN : turnN most l o = 0 := by unfold turnN; rw [hE]; rfl
  rw [hE, hL, hN]
  clear hE hL hN
  have hb0 : Below w.heap.size w (w.alloc (.cells #[.int .u8 11, .int .i64 o.key, .int .i64 o.val, .int .i64 o.to, .int .i64 o.n, .slice Ao o.pairs.length co] 28)) := (Below.refl _ _).alloc (Nat.le_refl _) _
  have bO0 : Blk (w.alloc (.cells #[.int .u8 11, .int .i64 o.key, .int .i64 o.val, .int .i64 o.to, .int .i64 o.n, .slice Ao o.pairs.length co] 28)) w.heap.size 28 #[.int .u8 11, .int .i64 o.key, .int .i64 o.val, .int .i64 o.to, .int .i64 o.n, .slice Ao o.pairs.length co] := Blk.new _ _ _
  have hA := hf.sl
  have hlc := hf.1
  obtain ⟨i0, hi, hz0, hz1, hz2⟩ := info_parts pr_info0
  go_enter Try.func30, Try.ntmps30
  have hKl := bel_le l o.key
  rw [hK.out] at hKl
  have hUl := upk_le l o.to
  rw [hU.out] at hUl
  clear hmx
  go_wp2_with fail
  refine (rank_any A l c o.key _ (hA.below hb0) (by omega) hr).mono ?_
  rw [hK.out]; rintro e w1 ⟨rfl, hb1⟩
  have hb01 := bext hb0 hb1
  have bO := bO0.below hb1 bO0.lt
  have cO0 : w1.cell? ⟨w.heap.size, 0, none⟩ = some (.int .u8 11) := bO.cell 0
  have cO1 : w1.cell? ⟨w.heap.size, 1, none⟩ = some (.int .i64 o.key) := bO.cell 1
  have cO2 : w1.cell? ⟨w.heap.size, 2, none⟩ = some (.int .i64 o.val) := bO.cell 2
  have cO3 : w1.cell? ⟨w.heap.size, 3, none⟩ = some (.int .i64 o.to) := bO.cell 3
  have cO5 : w1.cell? ⟨w.heap.size, 5, none⟩ = some (.slice Ao o.pairs.length co) := bO.cell 5
  clear bO0 hb1 hb0
  go_wp2_with fail
  refine (up_any A l c o.to _ (hA.below hb01) (by omega) hr).mono ?_
  rw [hU.out]
  rintro e w2 ⟨rfl, hb2⟩
  have hb02 := bext hb01 hb2
  have hKUi : ((K : Nat) : Int) < (U : Nat) := by omega
  go_wp2_with fail
  have hAk : Hid (A = none → K = 0) := Lib.hid (fun h => by have h2 := hA.none_nil h; rw [h2] at hKl; simpa using hKl)
  have hSk : Hid (Sl (World.drew w2) A ((l.take (K)).flatMap Pr.cells)) := Lib.hid ((hA.below (bdrew1 hb02)).take _)
  have hSd : Hid (Sl (World.drew w2) (partA A (U) c) ((l.drop (U)).flatMap Pr.cells)) := Lib.hid ((hA.below (bdrew1 hb02)).drop (U) c hlc)
  have hFk : Hid (Fr (World.drew w2) B 23 A (K) (l.take (K))) := Lib.hid ((hf.below (bdrew1 hb02)).take _ hKl hAk.out)
  have hBw : B ≤ (World.drew w2).heap.size := (by have := hb02.size; omega : B ≤ w2.heap.size)
  have hKc : ((K : Nat) : Int) ≤ (c : Nat) := by omega
  have hK0 : (0 : Int) ≤ ((K : Nat) : Int) := by omega
  have hw1 : IntKind.i64.wrap (((U : Nat) : Int) - ((K : Nat) : Int)) = ((U : Nat) : Int) - ((K : Nat) : Int) := by rw [IntKind.wrap_i64]; omega
  have hK1 : (0 : Int) ≤ ((U : Nat) : Int) := by omega
  have hK2 : ((U : Nat) : Int) ≤ (l.length : Nat) := by omega
  go_region_law (refine step_append_full _ rfl (.tmp 56) (.tmp 59) 24 rfl 23 i0 _ 2 16 Try.underlying24 hi hz0 hz1 hz2 rfl (by omega) A (K) ((l.take (K)).flatMap Pr.cells) hAk.out (by simp [Act.eval, Act.put]) hSk.out (by rw [prs_length]; simp; omega) (partA A (U) c) (l.length - (U)) (c - (U)) ((l.drop (U)).flatMap Pr.cells) (by simp [Act.eval, Act.put, partA]) hSd.out (by rw [prs_length]; simp) (one_prs _) (by unfold maxLen; omega) (by omega) ?_; intro v2 w3 ho1 ho2 hg2; obtain ⟨A2, c2, rfl, hf2⟩ := Fr.appendX (w := World.drew w2) (n := K) (m := l.length - (U)) hFk.out (by simp; omega) rfl (by simp) hBw hX.out ho1 ho2; have hb9 := (bdrew1 hb02).grown hg2 (by have := hb02.size; simpa using this) (fun k hk => by cases hk); clear ho1 ho2 hg2)
  all_goals
    go_wp2_with fail
    all_goals
      go_ret3
      exact ⟨none, 0, rfl, Fr.nil, hb9⟩

set_option maxHeartbeats 1600000 in
theorem turn11bu (most : Int) (A : Option Addr) (l : List Pr) (c B : Nat) (o : Opn) (Ao : Option Addr) (co : Nat) (w : World) (hf : Fr w B 23 A c l) (hB : B ≤ w.heap.size) (hl : l.length ≤ 100000) (hr : Hid (Ris l)) (_hO : Sl w Ao (o.pairs.flatMap Pr.cells)) (_hp : o.pairs.length ≤ 100000) (hk : o.kind = 11) (K U : Nat) (hK : Hid (bel l o.key = K)) (hU : Hid (upk l o.to = U)) (hKU : K < U) (X : List Pr) (hX : Hid (l.take K ++ l.drop U = X)) (hm : ¬ most < (X.length : Nat)) :
    Calls Try.prog 30 #[.int .i64 most, .slice A l.length c, .agg #[.int .u8 o.kind, .int .i64 o.key, .int .i64 o.val, .int .i64 o.to, .int .i64 o.n, .slice Ao o.pairs.length co]] w (GivesTurn (turnL most l o) (turnN most l o) (turnE most l o) B w) := by
  have hmx : max K U = U := by omega
  have hE : turnE most l o = 0 := by simp [turnE, hk, leftL, hK.out, hU.out, hmx, hX.out, hm]
  have hL : turnL most l o = X := by unfold turnL; rw [hE]; rw [if_pos rfl]; simp [leftL, hk, hK.out, hU.out, hmx, hX.out]
  have hN : turnN most l o = ((U : Nat) : Int) - ((K : Nat) : Int) := by unfold turnN; rw [hE]; rw [if_pos rfl]; simp [leftL, hk, hK.out, hU.out, hmx, hX.out]
  rw [hE, hL, hN]
  clear hE hL hN
  have hb0 : Below w.heap.size w (w.alloc (.cells #[.int .u8 11, .int .i64 o.key, .int .i64 o.val, .int .i64 o.to, .int .i64 o.n, .slice Ao o.pairs.length co] 28)) := (Below.refl _ _).alloc (Nat.le_refl _) _
  have bO0 : Blk (w.alloc (.cells #[.int .u8 11, .int .i64 o.key, .int .i64 o.val, .int .i64 o.to, .int .i64 o.n, .slice Ao o.pairs.length co] 28)) w.heap.size 28 #[.int .u8 11, .int .i64 o.key, .int .i64 o.val, .int .i64 o.to, .int .i64 o.n, .slice Ao o.pairs.length co] := Blk.new _ _ _
  have hA := hf.sl
  have hlc := hf.1
  obtain ⟨i0, hi, hz0, hz1, hz2⟩ := info_parts pr_info0
  go_enter Try.func30, Try.ntmps30
  have hKl := bel_le l o.key
  rw [hK.out] at hKl
  have hUl := upk_le l o.to
  rw [hU.out] at hUl
  clear hmx
  go_wp2_with fail
  refine (rank_any A l c o.key _ (hA.below hb0) (by omega) hr).mono ?_
  rw [hK.out]; rintro e w1 ⟨rfl, hb1⟩
  have hb01 := bext hb0 hb1
  have bO := bO0.below hb1 bO0.lt
  have cO0 : w1.cell? ⟨w.heap.size, 0, none⟩ = some (.int .u8 11) := bO.cell 0
  have cO1 : w1.cell? ⟨w.heap.size, 1, none⟩ = some (.int .i64 o.key) := bO.cell 1
  have cO2 : w1.cell? ⟨w.heap.size, 2, none⟩ = some (.int .i64 o.val) := bO.cell 2
  have cO3 : w1.cell? ⟨w.heap.size, 3, none⟩ = some (.int .i64 o.to) := bO.cell 3
  have cO5 : w1.cell? ⟨w.heap.size, 5, none⟩ = some (.slice Ao o.pairs.length co) := bO.cell 5
  clear bO0 hb1 hb0
  go_wp2_with fail
  refine (up_any A l c o.to _ (hA.below hb01) (by omega) hr).mono ?_
  rw [hU.out]
  rintro e w2 ⟨rfl, hb2⟩
  have hb02 := bext hb01 hb2
  have hKUi : ((K : Nat) : Int) < (U : Nat) := by omega
  go_wp2_with fail
  have hAk : Hid (A = none → K = 0) := Lib.hid (fun h => by have h2 := hA.none_nil h; rw [h2] at hKl; simpa using hKl)
  have hSk : Hid (Sl (World.drew w2) A ((l.take (K)).flatMap Pr.cells)) := Lib.hid ((hA.below (bdrew1 hb02)).take _)
  have hSd : Hid (Sl (World.drew w2) (partA A (U) c) ((l.drop (U)).flatMap Pr.cells)) := Lib.hid ((hA.below (bdrew1 hb02)).drop (U) c hlc)
  have hFk : Hid (Fr (World.drew w2) B 23 A (K) (l.take (K))) := Lib.hid ((hf.below (bdrew1 hb02)).take _ hKl hAk.out)
  have hBw : B ≤ (World.drew w2).heap.size := (by have := hb02.size; omega : B ≤ w2.heap.size)
  have hKc : ((K : Nat) : Int) ≤ (c : Nat) := by omega
  have hK0 : (0 : Int) ≤ ((K : Nat) : Int) := by omega
  have hw1 : IntKind.i64.wrap (((U : Nat) : Int) - ((K : Nat) : Int)) = ((U : Nat) : Int) - ((K : Nat) : Int) := by rw [IntKind.wrap_i64]; omega
  have hK1 : (0 : Int) ≤ ((U : Nat) : Int) := by omega
  have hK2 : ((U : Nat) : Int) ≤ (l.length : Nat) := by omega
  go_region_law (refine step_append_full _ rfl (.tmp 56) (.tmp 59) 24 rfl 23 i0 _ 2 16 Try.underlying24 hi hz0 hz1 hz2 rfl (by omega) A (K) ((l.take (K)).flatMap Pr.cells) hAk.out (by simp [Act.eval, Act.put]) hSk.out (by rw [prs_length]; simp; omega) (partA A (U) c) (l.length - (U)) (c - (U)) ((l.drop (U)).flatMap Pr.cells) (by simp [Act.eval, Act.put, partA]) hSd.out (by rw [prs_length]; simp) (one_prs _) (by unfold maxLen; omega) (by omega) ?_; intro v2 w3 ho1 ho2 hg2; obtain ⟨A2, c2, rfl, hf2⟩ := Fr.appendX (w := World.drew w2) (n := K) (m := l.length - (U)) hFk.out (by simp; omega) rfl (by simp) hBw hX.out ho1 ho2; have hb9 := (bdrew1 hb02).grown hg2 (by have := hb02.size; simpa using this) (fun k hk => by cases hk); clear ho1 ho2 hg2)
  all_goals
    go_wp2_with fail
    all_goals
      go_ret3
      exact ⟨A2, c2, by first | rfl | simp, hf2, hb9⟩

set_option maxHeartbeats 1600000 in
theorem turn11ak (most : Int) (A : Option Addr) (l : List Pr) (c B : Nat) (o : Opn) (Ao : Option Addr) (co : Nat) (w : World) (hf : Fr w B 23 A c l) (hB : B ≤ w.heap.size) (hl : l.length ≤ 100000) (hr : Hid (Ris l)) (_hO : Sl w Ao (o.pairs.flatMap Pr.cells)) (_hp : o.pairs.length ≤ 100000) (hk : o.kind = 11) (K U : Nat) (hK : Hid (bel l o.key = K)) (hU : Hid (upk l o.to = U)) (hKU : U ≤ K) (X : List Pr) (hX : Hid (l.take K ++ l.drop K = X)) (hm : most < (X.length : Nat)) :
    Calls Try.prog 30 #[.int .i64 most, .slice A l.length c, .agg #[.int .u8 o.kind, .int .i64 o.key, .int .i64 o.val, .int .i64 o.to, .int .i64 o.n, .slice Ao o.pairs.length co]] w (GivesTurn (turnL most l o) (turnN most l o) (turnE most l o) B w) := by
  have hmx : max K U = K := by omega
  have hE : turnE most l o = 9 := by simp [turnE, hk, leftL, hK.out, hU.out, hmx, hX.out, hm]
  have hL : turnL most l o = [] := by unfold turnL; rw [hE]; rfl
  have hN : turnN most l o = 0 := by unfold turnN; rw [hE]; rfl
  rw [hE, hL, hN]
  clear hE hL hN
  have hb0 : Below w.heap.size w (w.alloc (.cells #[.int .u8 11, .int .i64 o.key, .int .i64 o.val, .int .i64 o.to, .int .i64 o.n, .slice Ao o.pairs.length co] 28)) := (Below.refl _ _).alloc (Nat.le_refl _) _
  have bO0 : Blk (w.alloc (.cells #[.int .u8 11, .int .i64 o.key, .int .i64 o.val, .int .i64 o.to, .int .i64 o.n, .slice Ao o.pairs.length co] 28)) w.heap.size 28 #[.int .u8 11, .int .i64 o.key, .int .i64 o.val, .int .i64 o.to, .int .i64 o.n, .slice Ao o.pairs.length co] := Blk.new _ _ _
  have hA := hf.sl
  have hlc := hf.1
  obtain ⟨i0, hi, hz0, hz1, hz2⟩ := info_parts pr_info0
  go_enter Try.func30, Try.ntmps30
  have hKl := bel_le l o.key
  rw [hK.out] at hKl
  have hUl := upk_le l o.to
  rw [hU.out] at hUl
  clear hmx
  go_wp2_with fail
  refine (rank_any A l c o.key _ (hA.below hb0) (by omega) hr).mono ?_
  rw [hK.out]; rintro e w1 ⟨rfl, hb1⟩
  have hb01 := bext hb0 hb1
  have bO := bO0.below hb1 bO0.lt
  have cO0 : w1.cell? ⟨w.heap.size, 0, none⟩ = some (.int .u8 11) := bO.cell 0
  have cO1 : w1.cell? ⟨w.heap.size, 1, none⟩ = some (.int .i64 o.key) := bO.cell 1
  have cO2 : w1.cell? ⟨w.heap.size, 2, none⟩ = some (.int .i64 o.val) := bO.cell 2
  have cO3 : w1.cell? ⟨w.heap.size, 3, none⟩ = some (.int .i64 o.to) := bO.cell 3
  have cO5 : w1.cell? ⟨w.heap.size, 5, none⟩ = some (.slice Ao o.pairs.length co) := bO.cell 5
  clear bO0 hb1 hb0
  go_wp2_with fail
  refine (up_any A l c o.to _ (hA.below hb01) (by omega) hr).mono ?_
  rw [hU.out]
  rintro e w2 ⟨rfl, hb2⟩
  have hb02 := bext hb01 hb2
  have hKUi : ((U : Nat) : Int) ≤ (K : Nat) := by omega
  go_wp2_with fail
  have hAk : Hid (A = none → K = 0) := Lib.hid (fun h => by have h2 := hA.none_nil h; rw [h2] at hKl; simpa using hKl)
  have hSk : Hid (Sl (World.drew w2) A ((l.take (K)).flatMap Pr.cells)) := Lib.hid ((hA.below (bdrew1 hb02)).take _)
  have hSd : Hid (Sl (World.drew w2) (partA A (K) c) ((l.drop (K)).flatMap Pr.cells)) := Lib.hid ((hA.below (bdrew1 hb02)).drop (K) c hlc)
  have hFk : Hid (Fr (World.drew w2) B 23 A (K) (l.take (K))) := Lib.hid ((hf.below (bdrew1 hb02)).take _ hKl hAk.out)
  have hBw : B ≤ (World.drew w2).heap.size := (by have := hb02.size; omega : B ≤ w2.heap.size)
  have hKc : ((K : Nat) : Int) ≤ (c : Nat) := by omega
  have hK0 : (0 : Int) ≤ ((K : Nat) : Int) := by omega
  have hw1 : IntKind.i64.wrap (((K : Nat) : Int) - ((K : Nat) : Int)) = ((K : Nat) : Int) - ((K : Nat) : Int) := by rw [IntKind.wrap_i64]; omega
  have hK1 : (0 : Int) ≤ ((K : Nat) : Int) := by omega
  have hK2 : ((K : Nat) : Int) ≤ (l.length : Nat) := by omega
  go_region_law (refine step_append_full _ rfl (.tmp 56) (.tmp 59) 24 rfl 23 i0 _ 2 16 Try.underlying24 hi hz0 hz1 hz2 rfl (by omega) A (K) ((l.take (K)).flatMap Pr.cells) hAk.out (by simp [Act.eval, Act.put]) hSk.out (by rw [prs_length]; simp; omega) (partA A (K) c) (l.length - (K)) (c - (K)) ((l.drop (K)).flatMap Pr.cells) (by simp [Act.eval, Act.put, partA]) hSd.out (by rw [prs_length]; simp) (one_prs _) (by unfold maxLen; omega) (by omega) ?_; intro v2 w3 ho1 ho2 hg2; obtain ⟨A2, c2, rfl, hf2⟩ := Fr.appendX (w := World.drew w2) (n := K) (m := l.length - (K)) hFk.out (by simp; omega) rfl (by simp) hBw hX.out ho1 ho2; have hb9 := (bdrew1 hb02).grown hg2 (by have := hb02.size; simpa using this) (fun k hk => by cases hk); clear ho1 ho2 hg2)
  all_goals
    go_wp2_with fail
    all_goals
      go_ret3
      exact ⟨none, 0, rfl, Fr.nil, hb9⟩

set_option maxHeartbeats 1600000 in
theorem turn11bk (most : Int) (A : Option Addr) (l : List Pr) (c B : Nat) (o : Opn) (Ao : Option Addr) (co : Nat) (w : World) (hf : Fr w B 23 A c l) (hB : B ≤ w.heap.size) (hl : l.length ≤ 100000) (hr : Hid (Ris l)) (_hO : Sl w Ao (o.pairs.flatMap Pr.cells)) (_hp : o.pairs.length ≤ 100000) (hk : o.kind = 11) (K U : Nat) (hK : Hid (bel l o.key = K)) (hU : Hid (upk l o.to = U)) (hKU : U ≤ K) (X : List Pr) (hX : Hid (l.take K ++ l.drop K = X)) (hm : ¬ most < (X.length : Nat)) :
    Calls Try.prog 30 #[.int .i64 most, .slice A l.length c, .agg #[.int .u8 o.kind, .int .i64 o.key, .int .i64 o.val, .int .i64 o.to, .int .i64 o.n, .slice Ao o.pairs.length co]] w (GivesTurn (turnL most l o) (turnN most l o) (turnE most l o) B w) := by
  have hmx : max K U = K := by omega
  have hE : turnE most l o = 0 := by simp [turnE, hk, leftL, hK.out, hU.out, hmx, hX.out, hm]
  have hL : turnL most l o = X := by unfold turnL; rw [hE]; rw [if_pos rfl]; simp [leftL, hk, hK.out, hU.out, hmx, hX.out]
  have hN : turnN most l o = ((K : Nat) : Int) - ((K : Nat) : Int) := by unfold turnN; rw [hE]; rw [if_pos rfl]; simp [leftL, hk, hK.out, hU.out, hmx, hX.out]
  rw [hE, hL, hN]
  clear hE hL hN
  have hb0 : Below w.heap.size w (w.alloc (.cells #[.int .u8 11, .int .i64 o.key, .int .i64 o.val, .int .i64 o.to, .int .i64 o.n, .slice Ao o.pairs.length co] 28)) := (Below.refl _ _).alloc (Nat.le_refl _) _
  have bO0 : Blk (w.alloc (.cells #[.int .u8 11, .int .i64 o.key, .int .i64 o.val, .int .i64 o.to, .int .i64 o.n, .slice Ao o.pairs.length co] 28)) w.heap.size 28 #[.int .u8 11, .int .i64 o.key, .int .i64 o.val, .int .i64 o.to, .int .i64 o.n, .slice Ao o.pairs.length co] := Blk.new _ _ _
  have hA := hf.sl
  have hlc := hf.1
  obtain ⟨i0, hi, hz0, hz1, hz2⟩ := info_parts pr_info0
  go_enter Try.func30, Try.ntmps30
  have hKl := bel_le l o.key
  rw [hK.out] at hKl
  have hUl := upk_le l o.to
  rw [hU.out] at hUl
  clear hmx
  go_wp2_with fail
  refine (rank_any A l c o.key _ (hA.below hb0) (by omega) hr).mono ?_
  rw [hK.out]; rintro e w1 ⟨rfl, hb1⟩
  have hb01 := bext hb0 hb1
  have bO := bO0.below hb1 bO0.lt
  have cO0 : w1.cell? ⟨w.heap.size, 0, none⟩ = some (.int .u8 11) := bO.cell 0
  have cO1 : w1.cell? ⟨w.heap.size, 1, none⟩ = some (.int .i64 o.key) := bO.cell 1
  have cO2 : w1.cell? ⟨w.heap.size, 2, none⟩ = some (.int .i64 o.val) := bO.cell 2
  have cO3 : w1.cell? ⟨w.heap.size, 3, none⟩ = some (.int .i64 o.to) := bO.cell 3
  have cO5 : w1.cell? ⟨w.heap.size, 5, none⟩ = some (.slice Ao o.pairs.length co) := bO.cell 5
  clear bO0 hb1 hb0
  go_wp2_with fail
  refine (up_any A l c o.to _ (hA.below hb01) (by omega) hr).mono ?_
  rw [hU.out]
  rintro e w2 ⟨rfl, hb2⟩
  have hb02 := bext hb01 hb2
  have hKUi : ((U : Nat) : Int) ≤ (K : Nat) := by omega
  go_wp2_with fail
  have hAk : Hid (A = none → K = 0) := Lib.hid (fun h => by have h2 := hA.none_nil h; rw [h2] at hKl; simpa using hKl)
  have hSk : Hid (Sl (World.drew w2) A ((l.take (K)).flatMap Pr.cells)) := Lib.hid ((hA.below (bdrew1 hb02)).take _)
  have hSd : Hid (Sl (World.drew w2) (partA A (K) c) ((l.drop (K)).flatMap Pr.cells)) := Lib.hid ((hA.below (bdrew1 hb02)).drop (K) c hlc)
  have hFk : Hid (Fr (World.drew w2) B 23 A (K) (l.take (K))) := Lib.hid ((hf.below (bdrew1 hb02)).take _ hKl hAk.out)
  have hBw : B ≤ (World.drew w2).heap.size := (by have := hb02.size; omega : B ≤ w2.heap.size)
  have hKc : ((K : Nat) : Int) ≤ (c : Nat) := by omega
  have hK0 : (0 : Int) ≤ ((K : Nat) : Int) := by omega
  have hw1 : IntKind.i64.wrap (((K : Nat) : Int) - ((K : Nat) : Int)) = ((K : Nat) : Int) - ((K : Nat) : Int) := by rw [IntKind.wrap_i64]; omega
  have hK1 : (0 : Int) ≤ ((K : Nat) : Int) := by omega
  have hK2 : ((K : Nat) : Int) ≤ (l.length : Nat) := by omega
  go_region_law (refine step_append_full _ rfl (.tmp 56) (.tmp 59) 24 rfl 23 i0 _ 2 16 Try.underlying24 hi hz0 hz1 hz2 rfl (by omega) A (K) ((l.take (K)).flatMap Pr.cells) hAk.out (by simp [Act.eval, Act.put]) hSk.out (by rw [prs_length]; simp; omega) (partA A (K) c) (l.length - (K)) (c - (K)) ((l.drop (K)).flatMap Pr.cells) (by simp [Act.eval, Act.put, partA]) hSd.out (by rw [prs_length]; simp) (one_prs _) (by unfold maxLen; omega) (by omega) ?_; intro v2 w3 ho1 ho2 hg2; obtain ⟨A2, c2, rfl, hf2⟩ := Fr.appendX (w := World.drew w2) (n := K) (m := l.length - (K)) hFk.out (by simp; omega) rfl (by simp) hBw hX.out ho1 ho2; have hb9 := (bdrew1 hb02).grown hg2 (by have := hb02.size; simpa using this) (fun k hk => by cases hk); clear ho1 ho2 hg2)
  all_goals
    go_wp2_with fail
    all_goals
      go_ret3
      exact ⟨A2, c2, by first | rfl | simp, hf2, hb9⟩
end Go.Proofs.Ytibgpghlnfcilaa
