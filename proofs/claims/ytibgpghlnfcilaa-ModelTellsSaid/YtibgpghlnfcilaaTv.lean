/- Contract: the reference's Do. -/
import Derived.Test.YtibgpghlnfcilaaTe
namespace Go.Proofs.Ytibgpghlnfcilaa
open Go Go.RowKit
set_option maxRecDepth 100000


set_option maxHeartbeats 2000000 in
theorem refdo_bad (most : Int) (A : Option Addr) (l : List Pr) (c : Nat) (o : Opn) (Ao : Option Addr) (co : Nat) (w : World) (hA : Sl w A (l.flatMap Pr.cells)) (hO : Sl w Ao (o.pairs.flatMap Pr.cells)) (hl : l.length ≤ 400000) (hp : o.pairs.length ≤ 400000) (hlc : l.length ≤ c) (hpc : o.pairs.length ≤ co) (E : Int) (hC : checkE most l = E) (h0 : ¬ E = 0) :
    Calls Try.prog 16 #[.int .i64 most, .slice A l.length c, .agg #[.int .u8 o.kind, .int .i64 o.key, .int .i64 o.val, .int .i64 o.to, .int .i64 o.n, .slice Ao o.pairs.length co]] w (GivesDo ([]) (noAns) (E) w) := by
  have HC := Lib.hid hC
  clear hC
  have hb0 : Below w.heap.size w ((w.alloc (.cells #[.int .u8 o.kind, .int .i64 o.key, .int .i64 o.val, .int .i64 o.to, .int .i64 o.n, .slice Ao o.pairs.length co] 28)).alloc (.cells #[.int .i64 0, .int .i64 0, .int .i64 0, .slice none 0 0] 30)) := ((Below.refl _ _).alloc (Nat.le_refl _) _).alloc (by simp) _
  have bO0 : Blk ((w.alloc (.cells #[.int .u8 o.kind, .int .i64 o.key, .int .i64 o.val, .int .i64 o.to, .int .i64 o.n, .slice Ao o.pairs.length co] 28)).alloc (.cells #[.int .i64 0, .int .i64 0, .int .i64 0, .slice none 0 0] 30)) w.heap.size 28 #[.int .u8 o.kind, .int .i64 o.key, .int .i64 o.val, .int .i64 o.to, .int .i64 o.n, .slice Ao o.pairs.length co] := (Blk.new w _ _).alloc _
  have bA0 : Blk ((w.alloc (.cells #[.int .u8 o.kind, .int .i64 o.key, .int .i64 o.val, .int .i64 o.to, .int .i64 o.n, .slice Ao o.pairs.length co] 28)).alloc (.cells #[.int .i64 0, .int .i64 0, .int .i64 0, .slice none 0 0] 30)) (w.heap.size + 1) 30 #[.int .i64 0, .int .i64 0, .int .i64 0, .slice none 0 0] := by
    have := Blk.new (w.alloc (.cells #[.int .u8 o.kind, .int .i64 o.key, .int .i64 o.val, .int .i64 o.to, .int .i64 o.n, .slice Ao o.pairs.length co] 28)) 30 #[.int .i64 0, .int .i64 0, .int .i64 0, .slice none 0 0]
    rwa [World.size_alloc] at this
  have hA' := Lib.hid hA
  have hO' := Lib.hid hO
  clear hA hO
  go_enter Try.func16, Try.ntmps16
  go_wp2_with fail
  refine (refCheck_any most A l c _ (hA'.out.below hb0) (by omega)).mono ?_
  rw [HC.out]
  rintro e w1 ⟨rfl, hb1⟩
  have hb01 := bext hb0 hb1
  have bA := bA0.below hb1 bA0.lt
  clear bA0 bO0 hb1
  have gA0 : w1.cell? ⟨w.heap.size + 1, 0, none⟩ = some (.int .i64 0) := bA.cell 0
  have fA0 : w1.frozen? ⟨w.heap.size + 1, 0, none⟩ = false := bA.frozen 0
  have gA1 : w1.cell? ⟨w.heap.size + 1, 1, none⟩ = some (.int .i64 0) := bA.cell 1
  have fA1 : w1.frozen? ⟨w.heap.size + 1, 1, none⟩ = false := bA.frozen 1
  have gA2 : w1.cell? ⟨w.heap.size + 1, 2, none⟩ = some (.int .i64 0) := bA.cell 2
  have fA2 : w1.frozen? ⟨w.heap.size + 1, 2, none⟩ = false := bA.frozen 2
  have gA3 : w1.cell? ⟨w.heap.size + 1, 3, none⟩ = some (.slice none 0 0) := bA.cell 3
  have fA3 : w1.frozen? ⟨w.heap.size + 1, 3, none⟩ = false := bA.frozen 3
  go_wp2_with fail
  have e4 := four bA (.int .i64 0) (.int .i64 0) (.int .i64 0) (.slice none 0 0)
  have h0 := e4.cell 0
  have h1 := e4.cell 1
  have h2 := e4.cell 2
  have h3 := e4.cell 3
  have hb4 := fourB hb01 (show w.heap.size ≤ w.heap.size + 1 by omega) (.int .i64 0) (.int .i64 0) (.int .i64 0) (.slice none 0 0)
  refine bodyPost_ret (v := .tuple #[.slice none 0 0, .agg #[.int .i64 0, .int .i64 0, .int .i64 0, .slice none 0 0], .int .i64 (E)]) (by simp [results, Try.results16, go_sem, h0, h1, h2, h3]) rfl ?_
  exact ⟨none, 0, none, 0, rfl, Fr.nil, Fr.nil, hb4⟩


set_option maxHeartbeats 2000000 in
theorem refdo_ok (most : Int) (A : Option Addr) (l : List Pr) (c : Nat) (o : Opn) (Ao : Option Addr) (co : Nat) (w : World) (hA : Sl w A (l.flatMap Pr.cells)) (hO : Sl w Ao (o.pairs.flatMap Pr.cells)) (hl : l.length ≤ 400000) (hp : o.pairs.length ≤ 400000) (hlc : l.length ≤ c) (hpc : o.pairs.length ≤ co) (hb : ∀ q ∈ l, -9223372036854775808 ≤ q.key ∧ q.key ≤ 9223372036854775807) (hC : checkE most l = 0) (m : List Pr) (a : Answ) (e : Int) (hm : doL most l o = m) (ha : doA most l o = a) (he : doE most l o = e) :
    Calls Try.prog 16 #[.int .i64 most, .slice A l.length c, .agg #[.int .u8 o.kind, .int .i64 o.key, .int .i64 o.val, .int .i64 o.to, .int .i64 o.n, .slice Ao o.pairs.length co]] w (GivesDo (m) (a) (e) w) := by
  have HC := Lib.hid hC
  have HM := Lib.hid hm
  have HA := Lib.hid ha
  have HE := Lib.hid he
  clear hC hm ha he
  have hb0 : Below w.heap.size w ((w.alloc (.cells #[.int .u8 o.kind, .int .i64 o.key, .int .i64 o.val, .int .i64 o.to, .int .i64 o.n, .slice Ao o.pairs.length co] 28)).alloc (.cells #[.int .i64 0, .int .i64 0, .int .i64 0, .slice none 0 0] 30)) := ((Below.refl _ _).alloc (Nat.le_refl _) _).alloc (by simp) _
  have bO0 : Blk ((w.alloc (.cells #[.int .u8 o.kind, .int .i64 o.key, .int .i64 o.val, .int .i64 o.to, .int .i64 o.n, .slice Ao o.pairs.length co] 28)).alloc (.cells #[.int .i64 0, .int .i64 0, .int .i64 0, .slice none 0 0] 30)) w.heap.size 28 #[.int .u8 o.kind, .int .i64 o.key, .int .i64 o.val, .int .i64 o.to, .int .i64 o.n, .slice Ao o.pairs.length co] := (Blk.new w _ _).alloc _
  have bA0 : Blk ((w.alloc (.cells #[.int .u8 o.kind, .int .i64 o.key, .int .i64 o.val, .int .i64 o.to, .int .i64 o.n, .slice Ao o.pairs.length co] 28)).alloc (.cells #[.int .i64 0, .int .i64 0, .int .i64 0, .slice none 0 0] 30)) (w.heap.size + 1) 30 #[.int .i64 0, .int .i64 0, .int .i64 0, .slice none 0 0] := by
    have := Blk.new (w.alloc (.cells #[.int .u8 o.kind, .int .i64 o.key, .int .i64 o.val, .int .i64 o.to, .int .i64 o.n, .slice Ao o.pairs.length co] 28)) 30 #[.int .i64 0, .int .i64 0, .int .i64 0, .slice none 0 0]
    rwa [World.size_alloc] at this
  have hA' := Lib.hid hA
  have hO' := Lib.hid hO
  clear hA hO
  go_enter Try.func16, Try.ntmps16
  go_wp2_with fail
  refine (refCheck_any most A l c _ (hA'.out.below hb0) (by omega)).mono ?_
  rw [HC.out]
  rintro e w1 ⟨rfl, hb1⟩
  have hb01 := bext hb0 hb1
  have bO := bO0.below hb1 bO0.lt
  have bA := bA0.below hb1 bA0.lt
  clear bO0 bA0
  have cO0 : w1.cell? ⟨w.heap.size, 0, none⟩ = some (.int .u8 o.kind) := bO.cell 0
  have cO1 : w1.cell? ⟨w.heap.size, 1, none⟩ = some (.int .i64 o.key) := bO.cell 1
  have cO2 : w1.cell? ⟨w.heap.size, 2, none⟩ = some (.int .i64 o.val) := bO.cell 2
  have cO3 : w1.cell? ⟨w.heap.size, 3, none⟩ = some (.int .i64 o.to) := bO.cell 3
  have cO4 : w1.cell? ⟨w.heap.size, 4, none⟩ = some (.int .i64 o.n) := bO.cell 4
  have cO5 : w1.cell? ⟨w.heap.size, 5, none⟩ = some (.slice Ao o.pairs.length co) := bO.cell 5
  have gA0 : w1.cell? ⟨w.heap.size + 1, 0, none⟩ = some (.int .i64 0) := bA.cell 0
  have fA0 : w1.frozen? ⟨w.heap.size + 1, 0, none⟩ = false := bA.frozen 0
  have gA1 : w1.cell? ⟨w.heap.size + 1, 1, none⟩ = some (.int .i64 0) := bA.cell 1
  have fA1 : w1.frozen? ⟨w.heap.size + 1, 1, none⟩ = false := bA.frozen 1
  have gA2 : w1.cell? ⟨w.heap.size + 1, 2, none⟩ = some (.int .i64 0) := bA.cell 2
  have fA2 : w1.frozen? ⟨w.heap.size + 1, 2, none⟩ = false := bA.frozen 2
  have gA3 : w1.cell? ⟨w.heap.size + 1, 3, none⟩ = some (.slice none 0 0) := bA.cell 3
  have fA3 : w1.frozen? ⟨w.heap.size + 1, 3, none⟩ = false := bA.frozen 3
  clear hb1
  go_wp2_with fail
  refine (done_any most A l c o Ao co _ (hA'.out.below hb01) (hO'.out.below hb01) hl hp hlc hpc HC.out hb).mono ?_
  rw [HM.out, HA.out, HE.out]
  rintro e5 w5 ⟨A5, c5, A2, c2, rfl, hf5, hf2, hb5⟩
  have hb05 := bext hb01 hb5
  have bA5 := bA.below hb5 bA.lt
  have hf5 := hf5.mono hb01.size
  have hf2 := hf2.mono hb01.size
  clear cO0 cO1 cO2 cO3 cO4 cO5 gA0 gA1 gA2 gA3 fA0 fA1 fA2 fA3
  have gA0 : w5.cell? ⟨w.heap.size + 1, 0, none⟩ = some (.int .i64 0) := bA5.cell 0
  have fA0 : w5.frozen? ⟨w.heap.size + 1, 0, none⟩ = false := bA5.frozen 0
  have gA1 : w5.cell? ⟨w.heap.size + 1, 1, none⟩ = some (.int .i64 0) := bA5.cell 1
  have fA1 : w5.frozen? ⟨w.heap.size + 1, 1, none⟩ = false := bA5.frozen 1
  have gA2 : w5.cell? ⟨w.heap.size + 1, 2, none⟩ = some (.int .i64 0) := bA5.cell 2
  have fA2 : w5.frozen? ⟨w.heap.size + 1, 2, none⟩ = false := bA5.frozen 2
  have gA3 : w5.cell? ⟨w.heap.size + 1, 3, none⟩ = some (.slice none 0 0) := bA5.cell 3
  have fA3 : w5.frozen? ⟨w.heap.size + 1, 3, none⟩ = false := bA5.frozen 3
  go_wp2_with fail
  have e4 := four bA5 (.int .i64 a.pair.key) (.int .i64 a.pair.val) (.int .i64 a.n) (.slice A2 a.pairs.length c2)
  have h0 := e4.cell 0
  have h1 := e4.cell 1
  have h2 := e4.cell 2
  have h3 := e4.cell 3
  have hb4 := fourB hb05 (show w.heap.size ≤ w.heap.size + 1 by omega) (.int .i64 a.pair.key) (.int .i64 a.pair.val) (.int .i64 a.n) (.slice A2 a.pairs.length c2)
  refine bodyPost_ret (v := .tuple #[.slice A5 m.length c5, .agg #[.int .i64 a.pair.key, .int .i64 a.pair.val, .int .i64 a.n, .slice A2 a.pairs.length c2], .int .i64 (e)]) (by simp [results, Try.results16, go_sem, h0, h1, h2, h3]) rfl ?_
  exact ⟨A5, c5, A2, c2, rfl, fourO hf5 bA5 _ _ _ _, fourO hf2 bA5 _ _ _ _, hb4⟩


theorem refdo_any (most : Int) (A : Option Addr) (l : List Pr) (c : Nat) (o : Opn) (Ao : Option Addr) (co : Nat) (w : World) (hA : Sl w A (l.flatMap Pr.cells)) (hO : Sl w Ao (o.pairs.flatMap Pr.cells)) (hl : l.length ≤ 400000) (hp : o.pairs.length ≤ 400000) (hlc : l.length ≤ c) (hpc : o.pairs.length ≤ co) (hb : ∀ q ∈ l, -9223372036854775808 ≤ q.key ∧ q.key ≤ 9223372036854775807) :
    Calls Try.prog 16 #[.int .i64 most, .slice A l.length c, .agg #[.int .u8 o.kind, .int .i64 o.key, .int .i64 o.val, .int .i64 o.to, .int .i64 o.n, .slice Ao o.pairs.length co]] w (GivesDo (doL most l o) (doA most l o) (doE most l o) w) := by
  by_cases hC : checkE most l = 0
  · exact refdo_ok most A l c o Ao co w hA hO hl hp hlc hpc hb hC _ _ _ rfl rfl rfl
  · have e0 : doE most l o = checkE most l := by simp [doE, hC]
    have hE0 : doE most l o ≠ 0 := by rw [e0]; exact hC
    have e1 : doL most l o = [] := by simp [doL, hE0]
    have e2 : doA most l o = noAns := by simp [doA, hE0]
    rw [e1, e2, e0]
    exact refdo_bad most A l c o Ao co w hA hO hl hp hlc hpc _ rfl hC

end Go.Proofs.Ytibgpghlnfcilaa