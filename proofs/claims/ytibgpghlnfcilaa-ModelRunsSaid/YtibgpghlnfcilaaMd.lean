/- Contract: an operation. -/
import Derived.Test.YtibgpghlnfcilaaMc
import Derived.Test.YtibgpghlnfcilaaMu
namespace Go.Proofs.Ytibgpghlnfcilaa
open Go Go.RowKit
set_option maxRecDepth 100000

/-- hands back pairs, an answer and an error -/
def GivesDo (m : List Pr) (a : Answ) (e : Int) (w : World) (r : Ending) (w' : World) : Prop :=
  ∃ A c A2 c2, r = .returned (.tuple #[.slice A m.length c, .agg #[.int .i64 a.pair.key, .int .i64 a.pair.val, .int .i64 a.n, .slice A2 a.pairs.length c2], .int .i64 e]) ∧
    Fr w' w.heap.size 23 A c m ∧ Fr w' w.heap.size 23 A2 c2 a.pairs ∧ Below w.heap.size w w'

theorem fourO {w : World} {B b : Nat} {A : Option Addr} {c : Nat} {l : List Pr} {x0 x1 x2 x3 : Value} (h : Fr w B 23 A c l) (hb : Blk w b 30 #[x0, x1, x2, x3]) (y0 y1 y2 y3 : Value) :
    Fr ((((w.setCell ⟨b, 0, none⟩ y0).setCell ⟨b, 1, none⟩ y1).setCell ⟨b, 2, none⟩ y2).setCell ⟨b, 3, none⟩ y3) B 23 A c l := by
  refine ⟨h.1, h.2.1, ?_⟩
  rcases h.2.2 with h1 | ⟨g, cur, h1, h2, hg, h3⟩
  · exact .inl h1
  · have hne : g ≠ b := by
      rintro rfl
      have := hg.symm.trans hb
      simp at this
    exact .inr ⟨g, cur, h1, h2, (((hg.far (p := ⟨b, 0, none⟩) hne y0).far (p := ⟨b, 1, none⟩) hne y1).far (p := ⟨b, 2, none⟩) hne y2).far (p := ⟨b, 3, none⟩) hne y3, h3⟩

set_option maxHeartbeats 1600000 in
theorem do_bad (most : Int) (A : Option Addr) (l : List Pr) (c : Nat) (o : Opn) (Ao : Option Addr) (co : Nat) (w : World) (hA : Sl w A (l.flatMap Pr.cells)) (hlc : l.length ≤ c) (hl : l.length ≤ 100000) (hO : Sl w Ao (o.pairs.flatMap Pr.cells)) (hp : o.pairs.length ≤ 100000) (E : Int) (hC : checkE most l = E) (hE0 : ¬ E = 0) :
    Calls Try.prog 15 #[.int .i64 most, .slice A l.length c, .agg #[.int .u8 o.kind, .int .i64 o.key, .int .i64 o.val, .int .i64 o.to, .int .i64 o.n, .slice Ao o.pairs.length co]] w (GivesDo (doL most l o) (doA most l o) (doE most l o) w) := by
  have hE : doE most l o = E := by simp [doE, hC, hE0]
  have hL : doL most l o = [] := by simp [doL, hE, hE0]
  have hN : doA most l o = noAns := by simp [doA, hE, hE0]
  rw [hL, hN, hE]
  clear hE hL hN
  have hb0 : Below w.heap.size w ((w.alloc (.cells #[.int .u8 o.kind, .int .i64 o.key, .int .i64 o.val, .int .i64 o.to, .int .i64 o.n, .slice Ao o.pairs.length co] 28)).alloc (.cells #[.int .i64 0, .int .i64 0, .int .i64 0, .slice none 0 0] 30)) := ((Below.refl _ _).alloc (Nat.le_refl _) _).alloc (by simp) _
  have bO0 : Blk ((w.alloc (.cells #[.int .u8 o.kind, .int .i64 o.key, .int .i64 o.val, .int .i64 o.to, .int .i64 o.n, .slice Ao o.pairs.length co] 28)).alloc (.cells #[.int .i64 0, .int .i64 0, .int .i64 0, .slice none 0 0] 30)) w.heap.size 28 #[.int .u8 o.kind, .int .i64 o.key, .int .i64 o.val, .int .i64 o.to, .int .i64 o.n, .slice Ao o.pairs.length co] := (Blk.new w _ _).alloc _
  have bA0 : Blk ((w.alloc (.cells #[.int .u8 o.kind, .int .i64 o.key, .int .i64 o.val, .int .i64 o.to, .int .i64 o.n, .slice Ao o.pairs.length co] 28)).alloc (.cells #[.int .i64 0, .int .i64 0, .int .i64 0, .slice none 0 0] 30)) (w.heap.size + 1) 30 #[.int .i64 0, .int .i64 0, .int .i64 0, .slice none 0 0] := by
    have := Blk.new (w.alloc (.cells #[.int .u8 o.kind, .int .i64 o.key, .int .i64 o.val, .int .i64 o.to, .int .i64 o.n, .slice Ao o.pairs.length co] 28)) 30 #[.int .i64 0, .int .i64 0, .int .i64 0, .slice none 0 0]
    rwa [World.size_alloc] at this
  go_enter Try.func15, Try.ntmps15
  go_wp2_with fail
  refine (check_any most A l c _ (hA.below hb0) (by omega)).mono ?_
  rw [hC]
  rintro e w1 ⟨rfl, hb1⟩
  have hb01 := bext hb0 hb1
  have bO := bO0.below hb1 bO0.lt
  have bA := bA0.below hb1 bA0.lt
  have cO0 : w1.cell? ⟨w.heap.size, 0, none⟩ = some (.int .u8 o.kind) := bO.cell 0
  have cO1 : w1.cell? ⟨w.heap.size, 1, none⟩ = some (.int .i64 o.key) := bO.cell 1
  have cO2 : w1.cell? ⟨w.heap.size, 2, none⟩ = some (.int .i64 o.val) := bO.cell 2
  have cO3 : w1.cell? ⟨w.heap.size, 3, none⟩ = some (.int .i64 o.to) := bO.cell 3
  have cO4 : w1.cell? ⟨w.heap.size, 4, none⟩ = some (.int .i64 o.n) := bO.cell 4
  have cO5 : w1.cell? ⟨w.heap.size, 5, none⟩ = some (.slice Ao o.pairs.length co) := bO.cell 5
  have gA0 : w1.cell? ⟨w.heap.size + 1, 0, none⟩ = some (.int .i64 0) := bA.cell 0
  have fA0 : w1.frozen? ⟨w.heap.size + 1, 0, none⟩ = false := bA.frozen 0
  have gA1 : w1.cell? ⟨w.heap.size + 1, 1, none⟩ = some (.int .i64 0) := bA.cell 1
  have fA1 : w1.frozen? ⟨w.heap.size + 1, 1, none⟩ = false := bA.frozen 1
  have gA2 : w1.cell? ⟨w.heap.size + 1, 2, none⟩ = some (.int .i64 0) := bA.cell 2
  have fA2 : w1.frozen? ⟨w.heap.size + 1, 2, none⟩ = false := bA.frozen 2
  have gA3 : w1.cell? ⟨w.heap.size + 1, 3, none⟩ = some (.slice none 0 0) := bA.cell 3
  have fA3 : w1.frozen? ⟨w.heap.size + 1, 3, none⟩ = false := bA.frozen 3
  clear bO0 bA0 hb0 hb1
  go_wp2_with fail
  have e4 := four bA (.int .i64 0) (.int .i64 0) (.int .i64 0) (.slice none 0 0)
  have h0 := e4.cell 0
  have h1 := e4.cell 1
  have h2 := e4.cell 2
  have h3 := e4.cell 3
  have hb4 := fourB hb01 (show w.heap.size ≤ w.heap.size + 1 by omega) (.int .i64 0) (.int .i64 0) (.int .i64 0) (.slice none 0 0)
  refine bodyPost_ret (v := .tuple #[.slice none 0 0, .agg #[.int .i64 0, .int .i64 0, .int .i64 0, .slice none 0 0], .int .i64 (E)]) (by simp [results, Try.results15, go_sem, h0, h1, h2, h3]) rfl ?_
  exact ⟨none, 0, none, 0, rfl, Fr.nil, Fr.nil, hb4⟩

set_option maxHeartbeats 1600000 in
theorem do_none (most : Int) (A : Option Addr) (l : List Pr) (c : Nat) (o : Opn) (Ao : Option Addr) (co : Nat) (w : World) (hA : Sl w A (l.flatMap Pr.cells)) (hlc : l.length ≤ c) (hl : l.length ≤ 100000) (hO : Sl w Ao (o.pairs.flatMap Pr.cells)) (hp : o.pairs.length ≤ 100000) (E : Int) (a : Answ) (hC : checkE most l = 0) (hAE : askE l o = E) (hAA : askA l o = a) (hE0 : ¬ E = 0) (hK : known o = true) :
    Calls Try.prog 15 #[.int .i64 most, .slice A l.length c, .agg #[.int .u8 o.kind, .int .i64 o.key, .int .i64 o.val, .int .i64 o.to, .int .i64 o.n, .slice Ao o.pairs.length co]] w (GivesDo (doL most l o) (doA most l o) (doE most l o) w) := by
  have hr : Hid (Ris l) := Lib.hid (check_ok hC).2.2.2
  have hE : doE most l o = E := by simp [doE, hC, hK, hAE]
  have hL : doL most l o = [] := by simp [doL, hE, hE0]
  have hN : doA most l o = noAns := by simp [doA, hE, hE0]
  rw [hL, hN, hE]
  clear hE hL hN
  have hb0 : Below w.heap.size w ((w.alloc (.cells #[.int .u8 o.kind, .int .i64 o.key, .int .i64 o.val, .int .i64 o.to, .int .i64 o.n, .slice Ao o.pairs.length co] 28)).alloc (.cells #[.int .i64 0, .int .i64 0, .int .i64 0, .slice none 0 0] 30)) := ((Below.refl _ _).alloc (Nat.le_refl _) _).alloc (by simp) _
  have bO0 : Blk ((w.alloc (.cells #[.int .u8 o.kind, .int .i64 o.key, .int .i64 o.val, .int .i64 o.to, .int .i64 o.n, .slice Ao o.pairs.length co] 28)).alloc (.cells #[.int .i64 0, .int .i64 0, .int .i64 0, .slice none 0 0] 30)) w.heap.size 28 #[.int .u8 o.kind, .int .i64 o.key, .int .i64 o.val, .int .i64 o.to, .int .i64 o.n, .slice Ao o.pairs.length co] := (Blk.new w _ _).alloc _
  have bA0 : Blk ((w.alloc (.cells #[.int .u8 o.kind, .int .i64 o.key, .int .i64 o.val, .int .i64 o.to, .int .i64 o.n, .slice Ao o.pairs.length co] 28)).alloc (.cells #[.int .i64 0, .int .i64 0, .int .i64 0, .slice none 0 0] 30)) (w.heap.size + 1) 30 #[.int .i64 0, .int .i64 0, .int .i64 0, .slice none 0 0] := by
    have := Blk.new (w.alloc (.cells #[.int .u8 o.kind, .int .i64 o.key, .int .i64 o.val, .int .i64 o.to, .int .i64 o.n, .slice Ao o.pairs.length co] 28)) 30 #[.int .i64 0, .int .i64 0, .int .i64 0, .slice none 0 0]
    rwa [World.size_alloc] at this
  go_enter Try.func15, Try.ntmps15
  go_wp2_with fail
  refine (check_any most A l c _ (hA.below hb0) (by omega)).mono ?_
  rw [hC]
  rintro e w1 ⟨rfl, hb1⟩
  have hb01 := bext hb0 hb1
  have bO := bO0.below hb1 bO0.lt
  have bA := bA0.below hb1 bA0.lt
  have cO0 : w1.cell? ⟨w.heap.size, 0, none⟩ = some (.int .u8 o.kind) := bO.cell 0
  have cO1 : w1.cell? ⟨w.heap.size, 1, none⟩ = some (.int .i64 o.key) := bO.cell 1
  have cO2 : w1.cell? ⟨w.heap.size, 2, none⟩ = some (.int .i64 o.val) := bO.cell 2
  have cO3 : w1.cell? ⟨w.heap.size, 3, none⟩ = some (.int .i64 o.to) := bO.cell 3
  have cO4 : w1.cell? ⟨w.heap.size, 4, none⟩ = some (.int .i64 o.n) := bO.cell 4
  have cO5 : w1.cell? ⟨w.heap.size, 5, none⟩ = some (.slice Ao o.pairs.length co) := bO.cell 5
  have gA0 : w1.cell? ⟨w.heap.size + 1, 0, none⟩ = some (.int .i64 0) := bA.cell 0
  have fA0 : w1.frozen? ⟨w.heap.size + 1, 0, none⟩ = false := bA.frozen 0
  have gA1 : w1.cell? ⟨w.heap.size + 1, 1, none⟩ = some (.int .i64 0) := bA.cell 1
  have fA1 : w1.frozen? ⟨w.heap.size + 1, 1, none⟩ = false := bA.frozen 1
  have gA2 : w1.cell? ⟨w.heap.size + 1, 2, none⟩ = some (.int .i64 0) := bA.cell 2
  have fA2 : w1.frozen? ⟨w.heap.size + 1, 2, none⟩ = false := bA.frozen 2
  have gA3 : w1.cell? ⟨w.heap.size + 1, 3, none⟩ = some (.slice none 0 0) := bA.cell 3
  have fA3 : w1.frozen? ⟨w.heap.size + 1, 3, none⟩ = false := bA.frozen 3
  clear bO0 bA0 hb0 hb1
  go_wp2_with fail
  refine (ask_any A l c o Ao co _ (hA.below hb01) (by omega) hlc hr).mono ?_
  rw [hAE, hK, hAA]
  rintro e w2 ⟨A2, c2, rfl, hf2, hb2⟩
  have hb02 := bext hb01 hb2
  have bO0 := bO
  have bA0 := bA
  clear bO bA cO0 cO1 cO2 cO3 cO4 cO5 gA0 gA1 gA2 gA3 fA0 fA1 fA2 fA3
  have bO := bO0.below hb2 bO0.lt
  have bA := bA0.below hb2 bA0.lt
  have cO0 : w2.cell? ⟨w.heap.size, 0, none⟩ = some (.int .u8 o.kind) := bO.cell 0
  have cO1 : w2.cell? ⟨w.heap.size, 1, none⟩ = some (.int .i64 o.key) := bO.cell 1
  have cO2 : w2.cell? ⟨w.heap.size, 2, none⟩ = some (.int .i64 o.val) := bO.cell 2
  have cO3 : w2.cell? ⟨w.heap.size, 3, none⟩ = some (.int .i64 o.to) := bO.cell 3
  have cO4 : w2.cell? ⟨w.heap.size, 4, none⟩ = some (.int .i64 o.n) := bO.cell 4
  have cO5 : w2.cell? ⟨w.heap.size, 5, none⟩ = some (.slice Ao o.pairs.length co) := bO.cell 5
  have gA0 : w2.cell? ⟨w.heap.size + 1, 0, none⟩ = some (.int .i64 0) := bA.cell 0
  have fA0 : w2.frozen? ⟨w.heap.size + 1, 0, none⟩ = false := bA.frozen 0
  have gA1 : w2.cell? ⟨w.heap.size + 1, 1, none⟩ = some (.int .i64 0) := bA.cell 1
  have fA1 : w2.frozen? ⟨w.heap.size + 1, 1, none⟩ = false := bA.frozen 1
  have gA2 : w2.cell? ⟨w.heap.size + 1, 2, none⟩ = some (.int .i64 0) := bA.cell 2
  have fA2 : w2.frozen? ⟨w.heap.size + 1, 2, none⟩ = false := bA.frozen 2
  have gA3 : w2.cell? ⟨w.heap.size + 1, 3, none⟩ = some (.slice none 0 0) := bA.cell 3
  have fA3 : w2.frozen? ⟨w.heap.size + 1, 3, none⟩ = false := bA.frozen 3
  have bA4 : Blk (w2.alloc (.cells #[.int .i64 a.pair.key, .int .i64 a.pair.val, .int .i64 a.n, .slice A2 a.pairs.length c2] 30)) (w.heap.size + 1) 30 #[.int .i64 0, .int .i64 0, .int .i64 0, .slice none 0 0] := bA.alloc _
  have bO4 : Blk (w2.alloc (.cells #[.int .i64 a.pair.key, .int .i64 a.pair.val, .int .i64 a.n, .slice A2 a.pairs.length c2] 30)) w.heap.size 28 #[.int .u8 o.kind, .int .i64 o.key, .int .i64 o.val, .int .i64 o.to, .int .i64 o.n, .slice Ao o.pairs.length co] := bO.alloc _
  have bL4 : Blk (w2.alloc (.cells #[.int .i64 a.pair.key, .int .i64 a.pair.val, .int .i64 a.n, .slice A2 a.pairs.length c2] 30)) w2.heap.size 30 #[.int .i64 a.pair.key, .int .i64 a.pair.val, .int .i64 a.n, .slice A2 a.pairs.length c2] := Blk.new _ _ _
  have hb04 : Below w.heap.size w (w2.alloc (.cells #[.int .i64 a.pair.key, .int .i64 a.pair.val, .int .i64 a.n, .slice A2 a.pairs.length c2] 30)) := hb02.alloc hb02.size _
  have hwz : w.heap.size < w2.heap.size := bO.lt
  have hwz1 : w.heap.size + 1 < w2.heap.size := bA.lt
  go_wp2_with fail
  have e4 := (four bA (.int .i64 0) (.int .i64 0) (.int .i64 0) (.slice none 0 0)).alloc (.cells #[.int .i64 a.pair.key, .int .i64 a.pair.val, .int .i64 a.n, .slice A2 a.pairs.length c2] 30)
  have h0 := e4.cell 0
  have h1 := e4.cell 1
  have h2 := e4.cell 2
  have h3 := e4.cell 3
  have hb4 := (fourB hb02 (show w.heap.size ≤ w.heap.size + 1 by omega) (.int .i64 0) (.int .i64 0) (.int .i64 0) (.slice none 0 0)).alloc (by simp; omega) (.cells #[.int .i64 a.pair.key, .int .i64 a.pair.val, .int .i64 a.n, .slice A2 a.pairs.length c2] 30)
  refine bodyPost_ret (v := .tuple #[.slice none 0 0, .agg #[.int .i64 0, .int .i64 0, .int .i64 0, .slice none 0 0], .int .i64 E]) (by simp [results, Try.results15, go_sem, h0, h1, h2, h3]) rfl ?_
  exact ⟨none, 0, none, 0, rfl, Fr.nil, Fr.nil, hb4⟩

set_option maxHeartbeats 1600000 in
theorem do_ask (most : Int) (A : Option Addr) (l : List Pr) (c : Nat) (o : Opn) (Ao : Option Addr) (co : Nat) (w : World) (hA : Sl w A (l.flatMap Pr.cells)) (hlc : l.length ≤ c) (hl : l.length ≤ 100000) (hO : Sl w Ao (o.pairs.flatMap Pr.cells)) (hp : o.pairs.length ≤ 100000) (a : Answ) (hC : checkE most l = 0) (hAE : askE l o = 0) (hAA : askA l o = a) (hK : known o = true) :
    Calls Try.prog 15 #[.int .i64 most, .slice A l.length c, .agg #[.int .u8 o.kind, .int .i64 o.key, .int .i64 o.val, .int .i64 o.to, .int .i64 o.n, .slice Ao o.pairs.length co]] w (GivesDo (doL most l o) (doA most l o) (doE most l o) w) := by
  have hr : Hid (Ris l) := Lib.hid (check_ok hC).2.2.2
  have hE : doE most l o = 0 := by simp [doE, hC, hK, hAE]
  have hL : doL most l o = l := by simp [doL, hE, hK]
  have hN : doA most l o = a := by simp [doA, hE, hK, hAA]
  rw [hL, hN, hE]
  clear hE hL hN
  have hb0 : Below w.heap.size w ((w.alloc (.cells #[.int .u8 o.kind, .int .i64 o.key, .int .i64 o.val, .int .i64 o.to, .int .i64 o.n, .slice Ao o.pairs.length co] 28)).alloc (.cells #[.int .i64 0, .int .i64 0, .int .i64 0, .slice none 0 0] 30)) := ((Below.refl _ _).alloc (Nat.le_refl _) _).alloc (by simp) _
  have bO0 : Blk ((w.alloc (.cells #[.int .u8 o.kind, .int .i64 o.key, .int .i64 o.val, .int .i64 o.to, .int .i64 o.n, .slice Ao o.pairs.length co] 28)).alloc (.cells #[.int .i64 0, .int .i64 0, .int .i64 0, .slice none 0 0] 30)) w.heap.size 28 #[.int .u8 o.kind, .int .i64 o.key, .int .i64 o.val, .int .i64 o.to, .int .i64 o.n, .slice Ao o.pairs.length co] := (Blk.new w _ _).alloc _
  have bA0 : Blk ((w.alloc (.cells #[.int .u8 o.kind, .int .i64 o.key, .int .i64 o.val, .int .i64 o.to, .int .i64 o.n, .slice Ao o.pairs.length co] 28)).alloc (.cells #[.int .i64 0, .int .i64 0, .int .i64 0, .slice none 0 0] 30)) (w.heap.size + 1) 30 #[.int .i64 0, .int .i64 0, .int .i64 0, .slice none 0 0] := by
    have := Blk.new (w.alloc (.cells #[.int .u8 o.kind, .int .i64 o.key, .int .i64 o.val, .int .i64 o.to, .int .i64 o.n, .slice Ao o.pairs.length co] 28)) 30 #[.int .i64 0, .int .i64 0, .int .i64 0, .slice none 0 0]
    rwa [World.size_alloc] at this
  go_enter Try.func15, Try.ntmps15
  go_wp2_with fail
  refine (check_any most A l c _ (hA.below hb0) (by omega)).mono ?_
  rw [hC]
  rintro e w1 ⟨rfl, hb1⟩
  have hb01 := bext hb0 hb1
  have bO := bO0.below hb1 bO0.lt
  have bA := bA0.below hb1 bA0.lt
  have cO0 : w1.cell? ⟨w.heap.size, 0, none⟩ = some (.int .u8 o.kind) := bO.cell 0
  have cO1 : w1.cell? ⟨w.heap.size, 1, none⟩ = some (.int .i64 o.key) := bO.cell 1
  have cO2 : w1.cell? ⟨w.heap.size, 2, none⟩ = some (.int .i64 o.val) := bO.cell 2
  have cO3 : w1.cell? ⟨w.heap.size, 3, none⟩ = some (.int .i64 o.to) := bO.cell 3
  have cO4 : w1.cell? ⟨w.heap.size, 4, none⟩ = some (.int .i64 o.n) := bO.cell 4
  have cO5 : w1.cell? ⟨w.heap.size, 5, none⟩ = some (.slice Ao o.pairs.length co) := bO.cell 5
  have gA0 : w1.cell? ⟨w.heap.size + 1, 0, none⟩ = some (.int .i64 0) := bA.cell 0
  have fA0 : w1.frozen? ⟨w.heap.size + 1, 0, none⟩ = false := bA.frozen 0
  have gA1 : w1.cell? ⟨w.heap.size + 1, 1, none⟩ = some (.int .i64 0) := bA.cell 1
  have fA1 : w1.frozen? ⟨w.heap.size + 1, 1, none⟩ = false := bA.frozen 1
  have gA2 : w1.cell? ⟨w.heap.size + 1, 2, none⟩ = some (.int .i64 0) := bA.cell 2
  have fA2 : w1.frozen? ⟨w.heap.size + 1, 2, none⟩ = false := bA.frozen 2
  have gA3 : w1.cell? ⟨w.heap.size + 1, 3, none⟩ = some (.slice none 0 0) := bA.cell 3
  have fA3 : w1.frozen? ⟨w.heap.size + 1, 3, none⟩ = false := bA.frozen 3
  clear bO0 bA0 hb0 hb1
  have hw11 := bA.lt
  go_wp2_with fail
  refine (ask_any A l c o Ao co _ (hA.below hb01) (by omega) hlc hr).mono ?_
  rw [hAE, hK, hAA]
  rintro e w2 ⟨A2, c2, rfl, hf2, hb2⟩
  have hb02 := bext hb01 hb2
  have bO0 := bO
  have bA0 := bA
  clear bO bA cO0 cO1 cO2 cO3 cO4 cO5 gA0 gA1 gA2 gA3 fA0 fA1 fA2 fA3
  have bO := bO0.below hb2 bO0.lt
  have bA := bA0.below hb2 bA0.lt
  have cO0 : w2.cell? ⟨w.heap.size, 0, none⟩ = some (.int .u8 o.kind) := bO.cell 0
  have cO1 : w2.cell? ⟨w.heap.size, 1, none⟩ = some (.int .i64 o.key) := bO.cell 1
  have cO2 : w2.cell? ⟨w.heap.size, 2, none⟩ = some (.int .i64 o.val) := bO.cell 2
  have cO3 : w2.cell? ⟨w.heap.size, 3, none⟩ = some (.int .i64 o.to) := bO.cell 3
  have cO4 : w2.cell? ⟨w.heap.size, 4, none⟩ = some (.int .i64 o.n) := bO.cell 4
  have cO5 : w2.cell? ⟨w.heap.size, 5, none⟩ = some (.slice Ao o.pairs.length co) := bO.cell 5
  have gA0 : w2.cell? ⟨w.heap.size + 1, 0, none⟩ = some (.int .i64 0) := bA.cell 0
  have fA0 : w2.frozen? ⟨w.heap.size + 1, 0, none⟩ = false := bA.frozen 0
  have gA1 : w2.cell? ⟨w.heap.size + 1, 1, none⟩ = some (.int .i64 0) := bA.cell 1
  have fA1 : w2.frozen? ⟨w.heap.size + 1, 1, none⟩ = false := bA.frozen 1
  have gA2 : w2.cell? ⟨w.heap.size + 1, 2, none⟩ = some (.int .i64 0) := bA.cell 2
  have fA2 : w2.frozen? ⟨w.heap.size + 1, 2, none⟩ = false := bA.frozen 2
  have gA3 : w2.cell? ⟨w.heap.size + 1, 3, none⟩ = some (.slice none 0 0) := bA.cell 3
  have fA3 : w2.frozen? ⟨w.heap.size + 1, 3, none⟩ = false := bA.frozen 3
  have bA4 : Blk (w2.alloc (.cells #[.int .i64 a.pair.key, .int .i64 a.pair.val, .int .i64 a.n, .slice A2 a.pairs.length c2] 30)) (w.heap.size + 1) 30 #[.int .i64 0, .int .i64 0, .int .i64 0, .slice none 0 0] := bA.alloc _
  have bO4 : Blk (w2.alloc (.cells #[.int .i64 a.pair.key, .int .i64 a.pair.val, .int .i64 a.n, .slice A2 a.pairs.length c2] 30)) w.heap.size 28 #[.int .u8 o.kind, .int .i64 o.key, .int .i64 o.val, .int .i64 o.to, .int .i64 o.n, .slice Ao o.pairs.length co] := bO.alloc _
  have bL4 : Blk (w2.alloc (.cells #[.int .i64 a.pair.key, .int .i64 a.pair.val, .int .i64 a.n, .slice A2 a.pairs.length c2] 30)) w2.heap.size 30 #[.int .i64 a.pair.key, .int .i64 a.pair.val, .int .i64 a.n, .slice A2 a.pairs.length c2] := Blk.new _ _ _
  have hb04 : Below w.heap.size w (w2.alloc (.cells #[.int .i64 a.pair.key, .int .i64 a.pair.val, .int .i64 a.n, .slice A2 a.pairs.length c2] 30)) := hb02.alloc hb02.size _
  have hwz : w.heap.size < w2.heap.size := bO.lt
  have hwz1 : w.heap.size + 1 < w2.heap.size := bA.lt
  go_wp2_with fail
  go_region_with (go_at_call 29; refine (clone_any A l c _ (hA.below (bdrew1 hb04)) (by omega)).mono ?_; rintro e w3 ⟨A3, c3, rfl, hf3, hb3⟩; have bA3 : Blk w3 (w.heap.size + 1) 30 #[.int .i64 0, .int .i64 0, .int .i64 0, .slice none 0 0] := (Blk.drewN bA4 1).below (w' := w3) hb3 bA4.lt; have bO3 : Blk w3 w.heap.size 28 #[.int .u8 o.kind, .int .i64 o.key, .int .i64 o.val, .int .i64 o.to, .int .i64 o.n, .slice Ao o.pairs.length co] := (Blk.drewN bO4 1).below (w' := w3) hb3 bO4.lt; have bL3 : Blk w3 w2.heap.size 30 #[.int .i64 a.pair.key, .int .i64 a.pair.val, .int .i64 a.n, .slice A2 a.pairs.length c2] := (Blk.drewN bL4 1).below (w' := w3) hb3 bL4.lt; have gAz0 : w3.cell? ⟨w.heap.size + 1, 0, none⟩ = some (.int .i64 0) := bA3.cell 0; have fAz0 : w3.frozen? ⟨w.heap.size + 1, 0, none⟩ = false := bA3.frozen 0; have gAz1 : w3.cell? ⟨w.heap.size + 1, 1, none⟩ = some (.int .i64 0) := bA3.cell 1; have fAz1 : w3.frozen? ⟨w.heap.size + 1, 1, none⟩ = false := bA3.frozen 1; have gAz2 : w3.cell? ⟨w.heap.size + 1, 2, none⟩ = some (.int .i64 0) := bA3.cell 2; have fAz2 : w3.frozen? ⟨w.heap.size + 1, 2, none⟩ = false := bA3.frozen 2; have gAz3 : w3.cell? ⟨w.heap.size + 1, 3, none⟩ = some (.slice none 0 0) := bA3.cell 3; have fAz3 : w3.frozen? ⟨w.heap.size + 1, 3, none⟩ = false := bA3.frozen 3; have gLz0 : w3.cell? ⟨w2.heap.size, 0, none⟩ = some (.int .i64 a.pair.key) := bL3.cell 0; have gLz1 : w3.cell? ⟨w2.heap.size, 1, none⟩ = some (.int .i64 a.pair.val) := bL3.cell 1; have gLz2 : w3.cell? ⟨w2.heap.size, 2, none⟩ = some (.int .i64 a.n) := bL3.cell 2; have gLz3 : w3.cell? ⟨w2.heap.size, 3, none⟩ = some (.slice A2 a.pairs.length c2) := bL3.cell 3)
  all_goals
    go_wp2_with fail
    have hb03 : Below w.heap.size w w3 := bext (bdrew1 hb04) hb3
    have hf23 : Fr w3 w1.heap.size 23 A2 c2 a.pairs := (hf2.below (w' := World.drew (w2.alloc (.cells #[.int .i64 a.pair.key, .int .i64 a.pair.val, .int .i64 a.n, .slice A2 a.pairs.length c2] 30))) (bdrew1 ((Below.refl _ _).alloc (Nat.le_refl _) _))).below hb3
    have e4 := four bA3 (.int .i64 a.pair.key) (.int .i64 a.pair.val) (.int .i64 a.n) (.slice A2 a.pairs.length c2)
    have h0 := e4.cell 0
    have h1 := e4.cell 1
    have h2 := e4.cell 2
    have h3 := e4.cell 3
    have hb4 := fourB hb03 (show w.heap.size ≤ w.heap.size + 1 by omega) (.int .i64 a.pair.key) (.int .i64 a.pair.val) (.int .i64 a.n) (.slice A2 a.pairs.length c2)
    refine bodyPost_ret (v := .tuple #[.slice A3 l.length c3, .agg #[.int .i64 a.pair.key, .int .i64 a.pair.val, .int .i64 a.n, .slice A2 a.pairs.length c2], .int .i64 (0)]) (by simp [results, Try.results15, go_sem, h0, h1, h2, h3]) rfl ?_
    exact ⟨A3, c3, A2, c2, rfl, (hf3.four (by simp; omega) _ _ _ _).mono (by simp; omega), (hf23.four hw11 _ _ _ _).mono hb01.size, hb4⟩

set_option maxHeartbeats 1600000 in
theorem do_tno (most : Int) (A : Option Addr) (l : List Pr) (c : Nat) (o : Opn) (Ao : Option Addr) (co : Nat) (w : World) (hA : Sl w A (l.flatMap Pr.cells)) (hlc : l.length ≤ c) (hl : l.length ≤ 100000) (hO : Sl w Ao (o.pairs.flatMap Pr.cells)) (hp : o.pairs.length ≤ 100000) (E T : Int) (a : Answ) (hC : checkE most l = 0) (hAE : askE l o = E) (hE0 : ¬ E = 0) (hAA : askA l o = a) (hK : known o = false) (hT : turnE most l o = T) (hT0 : ¬ T = 0) :
    Calls Try.prog 15 #[.int .i64 most, .slice A l.length c, .agg #[.int .u8 o.kind, .int .i64 o.key, .int .i64 o.val, .int .i64 o.to, .int .i64 o.n, .slice Ao o.pairs.length co]] w (GivesDo (doL most l o) (doA most l o) (doE most l o) w) := by
  have hr : Hid (Ris l) := Lib.hid (check_ok hC).2.2.2
  have hTL : turnL most l o = [] := by simp [turnL, hT, hT0]
  have hTN : turnN most l o = 0 := by simp [turnN, hT, hT0]
  have hE : doE most l o = T := by simp [doE, hC, hK, hT]
  have hL : doL most l o = [] := by simp [doL, hE, hT0]
  have hN : doA most l o = noAns := by simp [doA, hE, hT0]
  rw [hL, hN, hE]
  clear hE hL hN
  have hb0 : Below w.heap.size w ((w.alloc (.cells #[.int .u8 o.kind, .int .i64 o.key, .int .i64 o.val, .int .i64 o.to, .int .i64 o.n, .slice Ao o.pairs.length co] 28)).alloc (.cells #[.int .i64 0, .int .i64 0, .int .i64 0, .slice none 0 0] 30)) := ((Below.refl _ _).alloc (Nat.le_refl _) _).alloc (by simp) _
  have bO0 : Blk ((w.alloc (.cells #[.int .u8 o.kind, .int .i64 o.key, .int .i64 o.val, .int .i64 o.to, .int .i64 o.n, .slice Ao o.pairs.length co] 28)).alloc (.cells #[.int .i64 0, .int .i64 0, .int .i64 0, .slice none 0 0] 30)) w.heap.size 28 #[.int .u8 o.kind, .int .i64 o.key, .int .i64 o.val, .int .i64 o.to, .int .i64 o.n, .slice Ao o.pairs.length co] := (Blk.new w _ _).alloc _
  have bA0 : Blk ((w.alloc (.cells #[.int .u8 o.kind, .int .i64 o.key, .int .i64 o.val, .int .i64 o.to, .int .i64 o.n, .slice Ao o.pairs.length co] 28)).alloc (.cells #[.int .i64 0, .int .i64 0, .int .i64 0, .slice none 0 0] 30)) (w.heap.size + 1) 30 #[.int .i64 0, .int .i64 0, .int .i64 0, .slice none 0 0] := by
    have := Blk.new (w.alloc (.cells #[.int .u8 o.kind, .int .i64 o.key, .int .i64 o.val, .int .i64 o.to, .int .i64 o.n, .slice Ao o.pairs.length co] 28)) 30 #[.int .i64 0, .int .i64 0, .int .i64 0, .slice none 0 0]
    rwa [World.size_alloc] at this
  go_enter Try.func15, Try.ntmps15
  go_wp2_with fail
  refine (check_any most A l c _ (hA.below hb0) (by omega)).mono ?_
  rw [hC]
  rintro e w1 ⟨rfl, hb1⟩
  have hb01 := bext hb0 hb1
  have bO := bO0.below hb1 bO0.lt
  have bA := bA0.below hb1 bA0.lt
  have cO0 : w1.cell? ⟨w.heap.size, 0, none⟩ = some (.int .u8 o.kind) := bO.cell 0
  have cO1 : w1.cell? ⟨w.heap.size, 1, none⟩ = some (.int .i64 o.key) := bO.cell 1
  have cO2 : w1.cell? ⟨w.heap.size, 2, none⟩ = some (.int .i64 o.val) := bO.cell 2
  have cO3 : w1.cell? ⟨w.heap.size, 3, none⟩ = some (.int .i64 o.to) := bO.cell 3
  have cO4 : w1.cell? ⟨w.heap.size, 4, none⟩ = some (.int .i64 o.n) := bO.cell 4
  have cO5 : w1.cell? ⟨w.heap.size, 5, none⟩ = some (.slice Ao o.pairs.length co) := bO.cell 5
  have gA0 : w1.cell? ⟨w.heap.size + 1, 0, none⟩ = some (.int .i64 0) := bA.cell 0
  have fA0 : w1.frozen? ⟨w.heap.size + 1, 0, none⟩ = false := bA.frozen 0
  have gA1 : w1.cell? ⟨w.heap.size + 1, 1, none⟩ = some (.int .i64 0) := bA.cell 1
  have fA1 : w1.frozen? ⟨w.heap.size + 1, 1, none⟩ = false := bA.frozen 1
  have gA2 : w1.cell? ⟨w.heap.size + 1, 2, none⟩ = some (.int .i64 0) := bA.cell 2
  have fA2 : w1.frozen? ⟨w.heap.size + 1, 2, none⟩ = false := bA.frozen 2
  have gA3 : w1.cell? ⟨w.heap.size + 1, 3, none⟩ = some (.slice none 0 0) := bA.cell 3
  have fA3 : w1.frozen? ⟨w.heap.size + 1, 3, none⟩ = false := bA.frozen 3
  clear bO0 bA0 hb0 hb1
  have hw11 := bA.lt
  go_wp2_with fail
  refine (ask_any A l c o Ao co _ (hA.below hb01) (by omega) hlc hr).mono ?_
  rw [hAE, hK, hAA]
  rintro e w2 ⟨A2, c2, rfl, hf2, hb2⟩
  have hb02 := bext hb01 hb2
  have bO0 := bO
  have bA0 := bA
  clear bO bA cO0 cO1 cO2 cO3 cO4 cO5 gA0 gA1 gA2 gA3 fA0 fA1 fA2 fA3
  have bO := bO0.below hb2 bO0.lt
  have bA := bA0.below hb2 bA0.lt
  have cO0 : w2.cell? ⟨w.heap.size, 0, none⟩ = some (.int .u8 o.kind) := bO.cell 0
  have cO1 : w2.cell? ⟨w.heap.size, 1, none⟩ = some (.int .i64 o.key) := bO.cell 1
  have cO2 : w2.cell? ⟨w.heap.size, 2, none⟩ = some (.int .i64 o.val) := bO.cell 2
  have cO3 : w2.cell? ⟨w.heap.size, 3, none⟩ = some (.int .i64 o.to) := bO.cell 3
  have cO4 : w2.cell? ⟨w.heap.size, 4, none⟩ = some (.int .i64 o.n) := bO.cell 4
  have cO5 : w2.cell? ⟨w.heap.size, 5, none⟩ = some (.slice Ao o.pairs.length co) := bO.cell 5
  have gA0 : w2.cell? ⟨w.heap.size + 1, 0, none⟩ = some (.int .i64 0) := bA.cell 0
  have fA0 : w2.frozen? ⟨w.heap.size + 1, 0, none⟩ = false := bA.frozen 0
  have gA1 : w2.cell? ⟨w.heap.size + 1, 1, none⟩ = some (.int .i64 0) := bA.cell 1
  have fA1 : w2.frozen? ⟨w.heap.size + 1, 1, none⟩ = false := bA.frozen 1
  have gA2 : w2.cell? ⟨w.heap.size + 1, 2, none⟩ = some (.int .i64 0) := bA.cell 2
  have fA2 : w2.frozen? ⟨w.heap.size + 1, 2, none⟩ = false := bA.frozen 2
  have gA3 : w2.cell? ⟨w.heap.size + 1, 3, none⟩ = some (.slice none 0 0) := bA.cell 3
  have fA3 : w2.frozen? ⟨w.heap.size + 1, 3, none⟩ = false := bA.frozen 3
  have bA4 : Blk (w2.alloc (.cells #[.int .i64 a.pair.key, .int .i64 a.pair.val, .int .i64 a.n, .slice A2 a.pairs.length c2] 30)) (w.heap.size + 1) 30 #[.int .i64 0, .int .i64 0, .int .i64 0, .slice none 0 0] := bA.alloc _
  have bO4 : Blk (w2.alloc (.cells #[.int .i64 a.pair.key, .int .i64 a.pair.val, .int .i64 a.n, .slice A2 a.pairs.length c2] 30)) w.heap.size 28 #[.int .u8 o.kind, .int .i64 o.key, .int .i64 o.val, .int .i64 o.to, .int .i64 o.n, .slice Ao o.pairs.length co] := bO.alloc _
  have bL4 : Blk (w2.alloc (.cells #[.int .i64 a.pair.key, .int .i64 a.pair.val, .int .i64 a.n, .slice A2 a.pairs.length c2] 30)) w2.heap.size 30 #[.int .i64 a.pair.key, .int .i64 a.pair.val, .int .i64 a.n, .slice A2 a.pairs.length c2] := Blk.new _ _ _
  have hb04 : Below w.heap.size w (w2.alloc (.cells #[.int .i64 a.pair.key, .int .i64 a.pair.val, .int .i64 a.n, .slice A2 a.pairs.length c2] 30)) := hb02.alloc hb02.size _
  have hwz : w.heap.size < w2.heap.size := bO.lt
  have hwz1 : w.heap.size + 1 < w2.heap.size := bA.lt
  go_wp2_with fail
  go_region_with (first
    | (go_at_call 29; refine (clone_any A l c _ (hA.below (bdrew1 hb04)) (by omega)).mono ?_; rintro e w3 ⟨A3, c3, rfl, hf3, hb3⟩; have bA3 : Blk w3 (w.heap.size + 1) 30 #[.int .i64 0, .int .i64 0, .int .i64 0, .slice none 0 0] := (Blk.drewN bA4 1).below (w' := w3) hb3 bA4.lt; have bO3 : Blk w3 w.heap.size 28 #[.int .u8 o.kind, .int .i64 o.key, .int .i64 o.val, .int .i64 o.to, .int .i64 o.n, .slice Ao o.pairs.length co] := (Blk.drewN bO4 1).below (w' := w3) hb3 bO4.lt; have bL3 : Blk w3 w2.heap.size 30 #[.int .i64 a.pair.key, .int .i64 a.pair.val, .int .i64 a.n, .slice A2 a.pairs.length c2] := (Blk.drewN bL4 1).below (w' := w3) hb3 bL4.lt; have cOz0 : w3.cell? ⟨w.heap.size, 0, none⟩ = some (.int .u8 o.kind) := bO3.cell 0; have cOz1 : w3.cell? ⟨w.heap.size, 1, none⟩ = some (.int .i64 o.key) := bO3.cell 1; have cOz2 : w3.cell? ⟨w.heap.size, 2, none⟩ = some (.int .i64 o.val) := bO3.cell 2; have cOz3 : w3.cell? ⟨w.heap.size, 3, none⟩ = some (.int .i64 o.to) := bO3.cell 3; have cOz4 : w3.cell? ⟨w.heap.size, 4, none⟩ = some (.int .i64 o.n) := bO3.cell 4; have cOz5 : w3.cell? ⟨w.heap.size, 5, none⟩ = some (.slice Ao o.pairs.length co) := bO3.cell 5; have gAz0 : w3.cell? ⟨w.heap.size + 1, 0, none⟩ = some (.int .i64 0) := bA3.cell 0; have fAz0 : w3.frozen? ⟨w.heap.size + 1, 0, none⟩ = false := bA3.frozen 0; have gAz1 : w3.cell? ⟨w.heap.size + 1, 1, none⟩ = some (.int .i64 0) := bA3.cell 1; have fAz1 : w3.frozen? ⟨w.heap.size + 1, 1, none⟩ = false := bA3.frozen 1; have gAz2 : w3.cell? ⟨w.heap.size + 1, 2, none⟩ = some (.int .i64 0) := bA3.cell 2; have fAz2 : w3.frozen? ⟨w.heap.size + 1, 2, none⟩ = false := bA3.frozen 2; have gAz3 : w3.cell? ⟨w.heap.size + 1, 3, none⟩ = some (.slice none 0 0) := bA3.cell 3; have fAz3 : w3.frozen? ⟨w.heap.size + 1, 3, none⟩ = false := bA3.frozen 3; have hb03 : Below w.heap.size w w3 := bext (bdrew1 hb04) hb3; have hf33 : Fr w3 w.heap.size 23 A3 c3 l := hf3.mono (by simp; omega))
    | (go_at_call 30; refine (turn_any most A3 l c3 w.heap.size o Ao co _ hf33 hb03.size (by omega) hr (hO.below hb03) hp).mono ?_; rw [hTL, hTN, hT]; rintro e w5 ⟨A5, c5, rfl, hf5, hb5⟩; have bA5 : Blk w5 (w.heap.size + 1) 30 #[.int .i64 0, .int .i64 0, .int .i64 0, .slice none 0 0] := bA3.below (w' := w5) hb5 bA3.lt; have gAy0 : w5.cell? ⟨w.heap.size + 1, 0, none⟩ = some (.int .i64 0) := bA5.cell 0; have fAy0 : w5.frozen? ⟨w.heap.size + 1, 0, none⟩ = false := bA5.frozen 0; have gAy1 : w5.cell? ⟨w.heap.size + 1, 1, none⟩ = some (.int .i64 0) := bA5.cell 1; have fAy1 : w5.frozen? ⟨w.heap.size + 1, 1, none⟩ = false := bA5.frozen 1; have gAy2 : w5.cell? ⟨w.heap.size + 1, 2, none⟩ = some (.int .i64 0) := bA5.cell 2; have fAy2 : w5.frozen? ⟨w.heap.size + 1, 2, none⟩ = false := bA5.frozen 2; have gAy3 : w5.cell? ⟨w.heap.size + 1, 3, none⟩ = some (.slice none 0 0) := bA5.cell 3; have fAy3 : w5.frozen? ⟨w.heap.size + 1, 3, none⟩ = false := bA5.frozen 3; have hb05 : Below w.heap.size w w5 := bext hb03 hb5))
  all_goals
    go_wp2_with fail
    have e4 := four bA5 (.int .i64 0) (.int .i64 0) (.int .i64 0) (.slice none 0 0)
    have h0 := e4.cell 0
    have h1 := e4.cell 1
    have h2 := e4.cell 2
    have h3 := e4.cell 3
    have hb4 := fourB hb05 (show w.heap.size ≤ w.heap.size + 1 by omega) (.int .i64 0) (.int .i64 0) (.int .i64 0) (.slice none 0 0)
    refine bodyPost_ret (v := .tuple #[.slice none 0 0, .agg #[.int .i64 0, .int .i64 0, .int .i64 0, .slice none 0 0], .int .i64 (T)]) (by simp [results, Try.results15, go_sem, h0, h1, h2, h3]) rfl ?_
    exact ⟨none, 0, none, 0, rfl, Fr.nil, Fr.nil, hb4⟩

set_option maxHeartbeats 1600000 in
theorem do_turn (most : Int) (A : Option Addr) (l : List Pr) (c : Nat) (o : Opn) (Ao : Option Addr) (co : Nat) (w : World) (hA : Sl w A (l.flatMap Pr.cells)) (hlc : l.length ≤ c) (hl : l.length ≤ 100000) (hO : Sl w Ao (o.pairs.flatMap Pr.cells)) (hp : o.pairs.length ≤ 100000) (E N : Int) (a : Answ) (X : List Pr) (hC : checkE most l = 0) (hAE : askE l o = E) (hE0 : ¬ E = 0) (hAA : askA l o = a) (hK : known o = false) (hT : turnE most l o = 0) (hTL : turnL most l o = X) (hTN : turnN most l o = N) :
    Calls Try.prog 15 #[.int .i64 most, .slice A l.length c, .agg #[.int .u8 o.kind, .int .i64 o.key, .int .i64 o.val, .int .i64 o.to, .int .i64 o.n, .slice Ao o.pairs.length co]] w (GivesDo (doL most l o) (doA most l o) (doE most l o) w) := by
  have hr : Hid (Ris l) := Lib.hid (check_ok hC).2.2.2
  have hE : doE most l o = 0 := by simp [doE, hC, hK, hT]
  have hL : doL most l o = X := by simp [doL, hE, hK, hTL]
  have hN : doA most l o = ⟨⟨0, 0⟩, N, []⟩ := by simp [doA, hE, hK, hTN]
  rw [hL, hN, hE]
  clear hE hL hN
  have hb0 : Below w.heap.size w ((w.alloc (.cells #[.int .u8 o.kind, .int .i64 o.key, .int .i64 o.val, .int .i64 o.to, .int .i64 o.n, .slice Ao o.pairs.length co] 28)).alloc (.cells #[.int .i64 0, .int .i64 0, .int .i64 0, .slice none 0 0] 30)) := ((Below.refl _ _).alloc (Nat.le_refl _) _).alloc (by simp) _
  have bO0 : Blk ((w.alloc (.cells #[.int .u8 o.kind, .int .i64 o.key, .int .i64 o.val, .int .i64 o.to, .int .i64 o.n, .slice Ao o.pairs.length co] 28)).alloc (.cells #[.int .i64 0, .int .i64 0, .int .i64 0, .slice none 0 0] 30)) w.heap.size 28 #[.int .u8 o.kind, .int .i64 o.key, .int .i64 o.val, .int .i64 o.to, .int .i64 o.n, .slice Ao o.pairs.length co] := (Blk.new w _ _).alloc _
  have bA0 : Blk ((w.alloc (.cells #[.int .u8 o.kind, .int .i64 o.key, .int .i64 o.val, .int .i64 o.to, .int .i64 o.n, .slice Ao o.pairs.length co] 28)).alloc (.cells #[.int .i64 0, .int .i64 0, .int .i64 0, .slice none 0 0] 30)) (w.heap.size + 1) 30 #[.int .i64 0, .int .i64 0, .int .i64 0, .slice none 0 0] := by
    have := Blk.new (w.alloc (.cells #[.int .u8 o.kind, .int .i64 o.key, .int .i64 o.val, .int .i64 o.to, .int .i64 o.n, .slice Ao o.pairs.length co] 28)) 30 #[.int .i64 0, .int .i64 0, .int .i64 0, .slice none 0 0]
    rwa [World.size_alloc] at this
  go_enter Try.func15, Try.ntmps15
  go_wp2_with fail
  refine (check_any most A l c _ (hA.below hb0) (by omega)).mono ?_
  rw [hC]
  rintro e w1 ⟨rfl, hb1⟩
  have hb01 := bext hb0 hb1
  have bO := bO0.below hb1 bO0.lt
  have bA := bA0.below hb1 bA0.lt
  have cO0 : w1.cell? ⟨w.heap.size, 0, none⟩ = some (.int .u8 o.kind) := bO.cell 0
  have cO1 : w1.cell? ⟨w.heap.size, 1, none⟩ = some (.int .i64 o.key) := bO.cell 1
  have cO2 : w1.cell? ⟨w.heap.size, 2, none⟩ = some (.int .i64 o.val) := bO.cell 2
  have cO3 : w1.cell? ⟨w.heap.size, 3, none⟩ = some (.int .i64 o.to) := bO.cell 3
  have cO4 : w1.cell? ⟨w.heap.size, 4, none⟩ = some (.int .i64 o.n) := bO.cell 4
  have cO5 : w1.cell? ⟨w.heap.size, 5, none⟩ = some (.slice Ao o.pairs.length co) := bO.cell 5
  have gA0 : w1.cell? ⟨w.heap.size + 1, 0, none⟩ = some (.int .i64 0) := bA.cell 0
  have fA0 : w1.frozen? ⟨w.heap.size + 1, 0, none⟩ = false := bA.frozen 0
  have gA1 : w1.cell? ⟨w.heap.size + 1, 1, none⟩ = some (.int .i64 0) := bA.cell 1
  have fA1 : w1.frozen? ⟨w.heap.size + 1, 1, none⟩ = false := bA.frozen 1
  have gA2 : w1.cell? ⟨w.heap.size + 1, 2, none⟩ = some (.int .i64 0) := bA.cell 2
  have fA2 : w1.frozen? ⟨w.heap.size + 1, 2, none⟩ = false := bA.frozen 2
  have gA3 : w1.cell? ⟨w.heap.size + 1, 3, none⟩ = some (.slice none 0 0) := bA.cell 3
  have fA3 : w1.frozen? ⟨w.heap.size + 1, 3, none⟩ = false := bA.frozen 3
  clear bO0 bA0 hb0 hb1
  have hw11 := bA.lt
  go_wp2_with fail
  refine (ask_any A l c o Ao co _ (hA.below hb01) (by omega) hlc hr).mono ?_
  rw [hAE, hK, hAA]
  rintro e w2 ⟨A2, c2, rfl, hf2, hb2⟩
  have hb02 := bext hb01 hb2
  have bO0 := bO
  have bA0 := bA
  clear bO bA cO0 cO1 cO2 cO3 cO4 cO5 gA0 gA1 gA2 gA3 fA0 fA1 fA2 fA3
  have bO := bO0.below hb2 bO0.lt
  have bA := bA0.below hb2 bA0.lt
  have cO0 : w2.cell? ⟨w.heap.size, 0, none⟩ = some (.int .u8 o.kind) := bO.cell 0
  have cO1 : w2.cell? ⟨w.heap.size, 1, none⟩ = some (.int .i64 o.key) := bO.cell 1
  have cO2 : w2.cell? ⟨w.heap.size, 2, none⟩ = some (.int .i64 o.val) := bO.cell 2
  have cO3 : w2.cell? ⟨w.heap.size, 3, none⟩ = some (.int .i64 o.to) := bO.cell 3
  have cO4 : w2.cell? ⟨w.heap.size, 4, none⟩ = some (.int .i64 o.n) := bO.cell 4
  have cO5 : w2.cell? ⟨w.heap.size, 5, none⟩ = some (.slice Ao o.pairs.length co) := bO.cell 5
  have gA0 : w2.cell? ⟨w.heap.size + 1, 0, none⟩ = some (.int .i64 0) := bA.cell 0
  have fA0 : w2.frozen? ⟨w.heap.size + 1, 0, none⟩ = false := bA.frozen 0
  have gA1 : w2.cell? ⟨w.heap.size + 1, 1, none⟩ = some (.int .i64 0) := bA.cell 1
  have fA1 : w2.frozen? ⟨w.heap.size + 1, 1, none⟩ = false := bA.frozen 1
  have gA2 : w2.cell? ⟨w.heap.size + 1, 2, none⟩ = some (.int .i64 0) := bA.cell 2
  have fA2 : w2.frozen? ⟨w.heap.size + 1, 2, none⟩ = false := bA.frozen 2
  have gA3 : w2.cell? ⟨w.heap.size + 1, 3, none⟩ = some (.slice none 0 0) := bA.cell 3
  have fA3 : w2.frozen? ⟨w.heap.size + 1, 3, none⟩ = false := bA.frozen 3
  have bA4 : Blk (w2.alloc (.cells #[.int .i64 a.pair.key, .int .i64 a.pair.val, .int .i64 a.n, .slice A2 a.pairs.length c2] 30)) (w.heap.size + 1) 30 #[.int .i64 0, .int .i64 0, .int .i64 0, .slice none 0 0] := bA.alloc _
  have bO4 : Blk (w2.alloc (.cells #[.int .i64 a.pair.key, .int .i64 a.pair.val, .int .i64 a.n, .slice A2 a.pairs.length c2] 30)) w.heap.size 28 #[.int .u8 o.kind, .int .i64 o.key, .int .i64 o.val, .int .i64 o.to, .int .i64 o.n, .slice Ao o.pairs.length co] := bO.alloc _
  have bL4 : Blk (w2.alloc (.cells #[.int .i64 a.pair.key, .int .i64 a.pair.val, .int .i64 a.n, .slice A2 a.pairs.length c2] 30)) w2.heap.size 30 #[.int .i64 a.pair.key, .int .i64 a.pair.val, .int .i64 a.n, .slice A2 a.pairs.length c2] := Blk.new _ _ _
  have hb04 : Below w.heap.size w (w2.alloc (.cells #[.int .i64 a.pair.key, .int .i64 a.pair.val, .int .i64 a.n, .slice A2 a.pairs.length c2] 30)) := hb02.alloc hb02.size _
  have hwz : w.heap.size < w2.heap.size := bO.lt
  have hwz1 : w.heap.size + 1 < w2.heap.size := bA.lt
  go_wp2_with fail
  go_region_with (first
    | (go_at_call 29; refine (clone_any A l c _ (hA.below (bdrew1 hb04)) (by omega)).mono ?_; rintro e w3 ⟨A3, c3, rfl, hf3, hb3⟩; have bA3 : Blk w3 (w.heap.size + 1) 30 #[.int .i64 0, .int .i64 0, .int .i64 0, .slice none 0 0] := (Blk.drewN bA4 1).below (w' := w3) hb3 bA4.lt; have bO3 : Blk w3 w.heap.size 28 #[.int .u8 o.kind, .int .i64 o.key, .int .i64 o.val, .int .i64 o.to, .int .i64 o.n, .slice Ao o.pairs.length co] := (Blk.drewN bO4 1).below (w' := w3) hb3 bO4.lt; have bL3 : Blk w3 w2.heap.size 30 #[.int .i64 a.pair.key, .int .i64 a.pair.val, .int .i64 a.n, .slice A2 a.pairs.length c2] := (Blk.drewN bL4 1).below (w' := w3) hb3 bL4.lt; have cOz0 : w3.cell? ⟨w.heap.size, 0, none⟩ = some (.int .u8 o.kind) := bO3.cell 0; have cOz1 : w3.cell? ⟨w.heap.size, 1, none⟩ = some (.int .i64 o.key) := bO3.cell 1; have cOz2 : w3.cell? ⟨w.heap.size, 2, none⟩ = some (.int .i64 o.val) := bO3.cell 2; have cOz3 : w3.cell? ⟨w.heap.size, 3, none⟩ = some (.int .i64 o.to) := bO3.cell 3; have cOz4 : w3.cell? ⟨w.heap.size, 4, none⟩ = some (.int .i64 o.n) := bO3.cell 4; have cOz5 : w3.cell? ⟨w.heap.size, 5, none⟩ = some (.slice Ao o.pairs.length co) := bO3.cell 5; have gAz0 : w3.cell? ⟨w.heap.size + 1, 0, none⟩ = some (.int .i64 0) := bA3.cell 0; have fAz0 : w3.frozen? ⟨w.heap.size + 1, 0, none⟩ = false := bA3.frozen 0; have gAz1 : w3.cell? ⟨w.heap.size + 1, 1, none⟩ = some (.int .i64 0) := bA3.cell 1; have fAz1 : w3.frozen? ⟨w.heap.size + 1, 1, none⟩ = false := bA3.frozen 1; have gAz2 : w3.cell? ⟨w.heap.size + 1, 2, none⟩ = some (.int .i64 0) := bA3.cell 2; have fAz2 : w3.frozen? ⟨w.heap.size + 1, 2, none⟩ = false := bA3.frozen 2; have gAz3 : w3.cell? ⟨w.heap.size + 1, 3, none⟩ = some (.slice none 0 0) := bA3.cell 3; have fAz3 : w3.frozen? ⟨w.heap.size + 1, 3, none⟩ = false := bA3.frozen 3; have hb03 : Below w.heap.size w w3 := bext (bdrew1 hb04) hb3; have hf33 : Fr w3 w.heap.size 23 A3 c3 l := hf3.mono (by simp; omega))
    | (go_at_call 30; refine (turn_any most A3 l c3 w.heap.size o Ao co _ hf33 hb03.size (by omega) hr (hO.below hb03) hp).mono ?_; rw [hTL, hTN, hT]; rintro e w5 ⟨A5, c5, rfl, hf5, hb5⟩; have bA5 : Blk w5 (w.heap.size + 1) 30 #[.int .i64 0, .int .i64 0, .int .i64 0, .slice none 0 0] := bA3.below (w' := w5) hb5 bA3.lt; have gAy0 : w5.cell? ⟨w.heap.size + 1, 0, none⟩ = some (.int .i64 0) := bA5.cell 0; have fAy0 : w5.frozen? ⟨w.heap.size + 1, 0, none⟩ = false := bA5.frozen 0; have gAy1 : w5.cell? ⟨w.heap.size + 1, 1, none⟩ = some (.int .i64 0) := bA5.cell 1; have fAy1 : w5.frozen? ⟨w.heap.size + 1, 1, none⟩ = false := bA5.frozen 1; have gAy2 : w5.cell? ⟨w.heap.size + 1, 2, none⟩ = some (.int .i64 0) := bA5.cell 2; have fAy2 : w5.frozen? ⟨w.heap.size + 1, 2, none⟩ = false := bA5.frozen 2; have gAy3 : w5.cell? ⟨w.heap.size + 1, 3, none⟩ = some (.slice none 0 0) := bA5.cell 3; have fAy3 : w5.frozen? ⟨w.heap.size + 1, 3, none⟩ = false := bA5.frozen 3; have hb05 : Below w.heap.size w w5 := bext hb03 hb5))
  all_goals
    go_wp2_with fail
    have e4 := four bA5 (.int .i64 0) (.int .i64 0) (.int .i64 N) (.slice none 0 0)
    have h0 := e4.cell 0
    have h1 := e4.cell 1
    have h2 := e4.cell 2
    have h3 := e4.cell 3
    have hb4 := fourB hb05 (show w.heap.size ≤ w.heap.size + 1 by omega) (.int .i64 0) (.int .i64 0) (.int .i64 N) (.slice none 0 0)
    refine bodyPost_ret (v := .tuple #[.slice A5 X.length c5, .agg #[.int .i64 0, .int .i64 0, .int .i64 N, .slice none 0 0], .int .i64 (0)]) (by simp [results, Try.results15, go_sem, h0, h1, h2, h3]) rfl ?_
    exact ⟨A5, c5, none, 0, rfl, fourO hf5 bA5 _ _ _ _, Fr.nil, hb4⟩

theorem unknown_err (l : List Pr) (o : Opn) (hK : known o = false) : ¬ askE l o = 0 := fun h => by rw [known_of_ok l o h] at hK; cases hK
theorem do_any (most : Int) (A : Option Addr) (l : List Pr) (c : Nat) (o : Opn) (Ao : Option Addr) (co : Nat) (w : World) (hA : Sl w A (l.flatMap Pr.cells)) (hlc : l.length ≤ c) (hl : l.length ≤ 100000) (hO : Sl w Ao (o.pairs.flatMap Pr.cells)) (hp : o.pairs.length ≤ 100000) :
    Calls Try.prog 15 #[.int .i64 most, .slice A l.length c, .agg #[.int .u8 o.kind, .int .i64 o.key, .int .i64 o.val, .int .i64 o.to, .int .i64 o.n, .slice Ao o.pairs.length co]] w (GivesDo (doL most l o) (doA most l o) (doE most l o) w) := by
  by_cases hC : checkE most l = 0
  · cases hK : known o
    · by_cases hT : turnE most l o = 0
      · exact do_turn most A l c o Ao co w hA hlc hl hO hp _ _ _ _ hC rfl (unknown_err l o hK) rfl hK hT rfl rfl
      · exact do_tno most A l c o Ao co w hA hlc hl hO hp _ _ _ hC rfl (unknown_err l o hK) rfl hK rfl hT
    · by_cases hE : askE l o = 0
      · exact do_ask most A l c o Ao co w hA hlc hl hO hp _ hC hE rfl hK
      · exact do_none most A l c o Ao co w hA hlc hl hO hp _ _ hC rfl rfl hE hK
  · exact do_bad most A l c o Ao co w hA hlc hl hO hp _ rfl hC
end Go.Proofs.Ytibgpghlnfcilaa
