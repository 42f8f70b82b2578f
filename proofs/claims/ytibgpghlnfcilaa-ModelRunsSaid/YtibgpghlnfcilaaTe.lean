/- Contract: what the reference says an operation does. -/
import Derived.Test.YtibgpghlnfcilaaTo
import Derived.Test.YtibgpghlnfcilaaTu
import Derived.Test.YtibgpghlnfcilaaMd
import Derived.Deep.RegionLaw
namespace Go.Proofs.Ytibgpghlnfcilaa
open Go Go.RowKit
set_option maxRecDepth 100000

theorem known_ne {l : List Pr} {o : Opn} (h : known o = true) : ¬ askE l o = 291 := by
  intro he
  unfold askE at he
  unfold known at h
  have ho : ∀ k, oneE l k ≠ 291 := by intro k; unfold oneE; split <;> decide
  repeat' split at he
  all_goals first | exact ho _ he | (simp_all; done) | (exact absurd he (by decide))
theorem unknown_ask {l : List Pr} {o : Opn} (h : known o = false) : askE l o = 291 ∧ askA l o = noAns := by
  simp [known] at h
  obtain ⟨⟨⟨⟨⟨⟨⟨⟨⟨h1, h5⟩, h4⟩, h6⟩, h7⟩, h8⟩, h9⟩, h10⟩, h15⟩, h14⟩ := h
  exact ⟨by simp [askE, *], by simp [askA, *]⟩
theorem ask_none {l : List Pr} {o : Opn} (h : ¬ askE l o = 0) : askA l o = noAns := by
  unfold askE at h
  unfold askA
  have ho : ∀ k, ¬ oneE l k = 0 → oneA l k = noAns := by intro k hk; unfold oneE at hk; split at hk; exact absurd rfl hk; exact oneA_out (by assumption)
  repeat' split at h
  all_goals first | (simp_all; done) | skip


set_option maxHeartbeats 2000000 in
theorem done_err (most : Int) (A : Option Addr) (l : List Pr) (c : Nat) (o : Opn) (Ao : Option Addr) (co : Nat) (w : World) (hA : Sl w A (l.flatMap Pr.cells)) (hO : Sl w Ao (o.pairs.flatMap Pr.cells)) (hl : l.length ≤ 400000) (hp : o.pairs.length ≤ 400000) (hlc : l.length ≤ c) (hpc : o.pairs.length ≤ co) (hr : Hid (Ris l)) (hb : ∀ q ∈ l, -9223372036854775808 ≤ q.key ∧ q.key ≤ 9223372036854775807) (E : Int) (hx : askE l o = E) (h0 : ¬ E = 0) (h1 : ¬ E = 291) :
    Calls Try.prog 31 #[.int .i64 most, .slice A l.length c, .agg #[.int .u8 o.kind, .int .i64 o.key, .int .i64 o.val, .int .i64 o.to, .int .i64 o.n, .slice Ao o.pairs.length co]] w (GivesDo ([]) (noAns) (E) w) := by
  obtain ⟨a, ha⟩ : ∃ a, askA l o = a := ⟨_, rfl⟩
  have HA := Lib.hid ha
  clear ha
  have hb0 : Below w.heap.size w ((w.alloc (.cells #[.int .u8 o.kind, .int .i64 o.key, .int .i64 o.val, .int .i64 o.to, .int .i64 o.n, .slice Ao o.pairs.length co] 28)).alloc (.cells #[.int .i64 0, .int .i64 0, .int .i64 0, .slice none 0 0] 30)) := ((Below.refl _ _).alloc (Nat.le_refl _) _).alloc (by simp) _
  have bO0 : Blk ((w.alloc (.cells #[.int .u8 o.kind, .int .i64 o.key, .int .i64 o.val, .int .i64 o.to, .int .i64 o.n, .slice Ao o.pairs.length co] 28)).alloc (.cells #[.int .i64 0, .int .i64 0, .int .i64 0, .slice none 0 0] 30)) w.heap.size 28 #[.int .u8 o.kind, .int .i64 o.key, .int .i64 o.val, .int .i64 o.to, .int .i64 o.n, .slice Ao o.pairs.length co] := (Blk.new w _ _).alloc _
  have bA0 : Blk ((w.alloc (.cells #[.int .u8 o.kind, .int .i64 o.key, .int .i64 o.val, .int .i64 o.to, .int .i64 o.n, .slice Ao o.pairs.length co] 28)).alloc (.cells #[.int .i64 0, .int .i64 0, .int .i64 0, .slice none 0 0] 30)) (w.heap.size + 1) 30 #[.int .i64 0, .int .i64 0, .int .i64 0, .slice none 0 0] := by
    have := Blk.new (w.alloc (.cells #[.int .u8 o.kind, .int .i64 o.key, .int .i64 o.val, .int .i64 o.to, .int .i64 o.n, .slice Ao o.pairs.length co] 28)) 30 #[.int .i64 0, .int .i64 0, .int .i64 0, .slice none 0 0]
    rwa [World.size_alloc] at this
  have hA' := Lib.hid hA
  have hO' := Lib.hid hO
  clear hA hO
  go_enter Try.func31, Try.ntmps31
  go_wp2_with fail
  refine (told_any A l c o Ao co _ (hA'.out.below hb0) (by omega) hr hb).mono ?_
  rw [hx, HA.out]
  rintro e w1 ⟨A2, c2, rfl, hf1, hb1⟩
  have hb01 := bext hb0 hb1
  have hf1 := hf1.mono hb0.size
  have bO := bO0.below hb1 bO0.lt
  have bA := bA0.below hb1 bA0.lt
  clear bO0 bA0
  have cO0 : w1.cell? ⟨w.heap.size, 0, none⟩ = some (.int .u8 o.kind) := bO.cell 0
  have cO1 : w1.cell? ⟨w.heap.size, 1, none⟩ = some (.int .i64 o.key) := bO.cell 1
  have cO2 : w1.cell? ⟨w.heap.size, 2, none⟩ = some (.int .i64 o.val) := bO.cell 2
  have cO3 : w1.cell? ⟨w.heap.size, 3, none⟩ = some (.int .i64 o.to) := bO.cell 3
  have cO4 : w1.cell? ⟨w.heap.size, 4, none⟩ = some (.int .i64 o.n) := bO.cell 4
  have cO5 : w1.cell? ⟨w.heap.size, 5, none⟩ = some (.slice Ao o.pairs.length co) := bO.cell 5
  have gA0 : w1.cell? ⟨w.heap.size + 1, 0, none⟩ = some (.int .i64 0) := bA.cell 0
  have fA0 : w1.frozen? ⟨w.heap.size + 1, 0, none⟩ = false := bA.frozen 0
  have gA1 : w1.cell? ⟨w.heap.size + 1, 1, none⟩ = some (.int .i64 0) := bA.cell 1
  have fA1 : w1.frozen? ⟨w.heap.size + 1, 1, none⟩ = false := bA.frozen 1
  have gA2 : w1.cell? ⟨w.heap.size + 1, 2, none⟩ = some (.int .i64 0) := bA.cell 2
  have fA2 : w1.frozen? ⟨w.heap.size + 1, 2, none⟩ = false := bA.frozen 2
  have gA3 : w1.cell? ⟨w.heap.size + 1, 3, none⟩ = some (.slice none 0 0) := bA.cell 3
  have fA3 : w1.frozen? ⟨w.heap.size + 1, 3, none⟩ = false := bA.frozen 3
  have bA4 : Blk (w1.alloc (.cells #[.int .i64 a.pair.key, .int .i64 a.pair.val, .int .i64 a.n, .slice A2 a.pairs.length c2] 30)) (w.heap.size + 1) 30 #[.int .i64 0, .int .i64 0, .int .i64 0, .slice none 0 0] := bA.alloc _
  have bO4 : Blk (w1.alloc (.cells #[.int .i64 a.pair.key, .int .i64 a.pair.val, .int .i64 a.n, .slice A2 a.pairs.length c2] 30)) w.heap.size 28 #[.int .u8 o.kind, .int .i64 o.key, .int .i64 o.val, .int .i64 o.to, .int .i64 o.n, .slice Ao o.pairs.length co] := bO.alloc _
  have bL4 : Blk (w1.alloc (.cells #[.int .i64 a.pair.key, .int .i64 a.pair.val, .int .i64 a.n, .slice A2 a.pairs.length c2] 30)) w1.heap.size 30 #[.int .i64 a.pair.key, .int .i64 a.pair.val, .int .i64 a.n, .slice A2 a.pairs.length c2] := Blk.new _ _ _
  have hb04 : Below w.heap.size w (w1.alloc (.cells #[.int .i64 a.pair.key, .int .i64 a.pair.val, .int .i64 a.n, .slice A2 a.pairs.length c2] 30)) := hb01.alloc hb01.size _
  have hf4 : Fr (w1.alloc (.cells #[.int .i64 a.pair.key, .int .i64 a.pair.val, .int .i64 a.n, .slice A2 a.pairs.length c2] 30)) w.heap.size 23 A2 c2 a.pairs := hf1.below ((Below.refl _ _).alloc (Nat.le_refl _) _)
  have hwz1 : w.heap.size + 1 < w1.heap.size := bA.lt
  clear hb1
  clear cO0 cO1 cO2 cO3 cO4 cO5 gA0 gA1 gA2 gA3 fA0 fA1 fA2 fA3
  go_upto_region 4 with fail
  obtain ⟨W, hW⟩ : ∃ W, w1.alloc (.cells #[.int .i64 a.pair.key, .int .i64 a.pair.val, .int .i64 a.n, .slice A2 a.pairs.length c2] 30) = W := ⟨_, rfl⟩
  obtain ⟨g, hg⟩ : ∃ g, w1.heap.size = g := ⟨_, rfl⟩
  clear bL4
  rw [hW] at bA4 bO4 hb04 hf4
  try rw [hW]
  try rw [hg]
  rw [hg] at hwz1
  clear hW hg hf1 hb01
  have gA0 : W.cell? ⟨w.heap.size + 1, 0, none⟩ = some (.int .i64 0) := bA4.cell 0
  have fA0 : W.frozen? ⟨w.heap.size + 1, 0, none⟩ = false := bA4.frozen 0
  have gA1 : W.cell? ⟨w.heap.size + 1, 1, none⟩ = some (.int .i64 0) := bA4.cell 1
  have fA1 : W.frozen? ⟨w.heap.size + 1, 1, none⟩ = false := bA4.frozen 1
  have gA2 : W.cell? ⟨w.heap.size + 1, 2, none⟩ = some (.int .i64 0) := bA4.cell 2
  have fA2 : W.frozen? ⟨w.heap.size + 1, 2, none⟩ = false := bA4.frozen 2
  have gA3 : W.cell? ⟨w.heap.size + 1, 3, none⟩ = some (.slice none 0 0) := bA4.cell 3
  have fA3 : W.frozen? ⟨w.heap.size + 1, 3, none⟩ = false := bA4.frozen 3
  go_wp2_with fail
  have e4 := four bA4 (.int .i64 0) (.int .i64 0) (.int .i64 0) (.slice none 0 0)
  have h0 := e4.cell 0
  have h1 := e4.cell 1
  have h2 := e4.cell 2
  have h3 := e4.cell 3
  have hb4 := fourB hb04 (show w.heap.size ≤ w.heap.size + 1 by omega) (.int .i64 0) (.int .i64 0) (.int .i64 0) (.slice none 0 0)
  refine bodyPost_ret (v := .tuple #[.slice none 0 0, .agg #[.int .i64 0, .int .i64 0, .int .i64 0, .slice none 0 0], .int .i64 (E)]) (by simp [results, Try.results31, go_sem, h0, h1, h2, h3]) rfl ?_
  exact ⟨none, 0, none, 0, rfl, Fr.nil, Fr.nil, hb4⟩


set_option maxHeartbeats 2000000 in
theorem done_ask (most : Int) (A : Option Addr) (l : List Pr) (c : Nat) (o : Opn) (Ao : Option Addr) (co : Nat) (w : World) (hA : Sl w A (l.flatMap Pr.cells)) (hO : Sl w Ao (o.pairs.flatMap Pr.cells)) (hl : l.length ≤ 400000) (hp : o.pairs.length ≤ 400000) (hlc : l.length ≤ c) (hpc : o.pairs.length ≤ co) (hr : Hid (Ris l)) (hb : ∀ q ∈ l, -9223372036854775808 ≤ q.key ∧ q.key ≤ 9223372036854775807) (hx : askE l o = 0) :
    Calls Try.prog 31 #[.int .i64 most, .slice A l.length c, .agg #[.int .u8 o.kind, .int .i64 o.key, .int .i64 o.val, .int .i64 o.to, .int .i64 o.n, .slice Ao o.pairs.length co]] w (GivesDo (l) (askA l o) (0) w) := by
  obtain ⟨a, ha⟩ : ∃ a, askA l o = a := ⟨_, rfl⟩
  have HA := Lib.hid ha
  rw [ha]
  clear ha
  have hb0 : Below w.heap.size w ((w.alloc (.cells #[.int .u8 o.kind, .int .i64 o.key, .int .i64 o.val, .int .i64 o.to, .int .i64 o.n, .slice Ao o.pairs.length co] 28)).alloc (.cells #[.int .i64 0, .int .i64 0, .int .i64 0, .slice none 0 0] 30)) := ((Below.refl _ _).alloc (Nat.le_refl _) _).alloc (by simp) _
  have bO0 : Blk ((w.alloc (.cells #[.int .u8 o.kind, .int .i64 o.key, .int .i64 o.val, .int .i64 o.to, .int .i64 o.n, .slice Ao o.pairs.length co] 28)).alloc (.cells #[.int .i64 0, .int .i64 0, .int .i64 0, .slice none 0 0] 30)) w.heap.size 28 #[.int .u8 o.kind, .int .i64 o.key, .int .i64 o.val, .int .i64 o.to, .int .i64 o.n, .slice Ao o.pairs.length co] := (Blk.new w _ _).alloc _
  have bA0 : Blk ((w.alloc (.cells #[.int .u8 o.kind, .int .i64 o.key, .int .i64 o.val, .int .i64 o.to, .int .i64 o.n, .slice Ao o.pairs.length co] 28)).alloc (.cells #[.int .i64 0, .int .i64 0, .int .i64 0, .slice none 0 0] 30)) (w.heap.size + 1) 30 #[.int .i64 0, .int .i64 0, .int .i64 0, .slice none 0 0] := by
    have := Blk.new (w.alloc (.cells #[.int .u8 o.kind, .int .i64 o.key, .int .i64 o.val, .int .i64 o.to, .int .i64 o.n, .slice Ao o.pairs.length co] 28)) 30 #[.int .i64 0, .int .i64 0, .int .i64 0, .slice none 0 0]
    rwa [World.size_alloc] at this
  have hA' := Lib.hid hA
  have hO' := Lib.hid hO
  clear hA hO
  go_enter Try.func31, Try.ntmps31
  obtain ⟨ti0, hi, hz0, hz1, hz2⟩ := info_parts pr_info0
  have HI := Lib.hid (And.intro hi (And.intro hz0 (And.intro hz1 hz2)))
  clear hi hz0 hz1 hz2
  go_wp2_with fail
  refine (told_any A l c o Ao co _ (hA'.out.below hb0) (by omega) hr hb).mono ?_
  rw [hx, HA.out]
  rintro e w1 ⟨A2, c2, rfl, hf1, hb1⟩
  have hb01 := bext hb0 hb1
  have hf1 := hf1.mono hb0.size
  have bO := bO0.below hb1 bO0.lt
  have bA := bA0.below hb1 bA0.lt
  clear bO0 bA0
  have cO0 : w1.cell? ⟨w.heap.size, 0, none⟩ = some (.int .u8 o.kind) := bO.cell 0
  have cO1 : w1.cell? ⟨w.heap.size, 1, none⟩ = some (.int .i64 o.key) := bO.cell 1
  have cO2 : w1.cell? ⟨w.heap.size, 2, none⟩ = some (.int .i64 o.val) := bO.cell 2
  have cO3 : w1.cell? ⟨w.heap.size, 3, none⟩ = some (.int .i64 o.to) := bO.cell 3
  have cO4 : w1.cell? ⟨w.heap.size, 4, none⟩ = some (.int .i64 o.n) := bO.cell 4
  have cO5 : w1.cell? ⟨w.heap.size, 5, none⟩ = some (.slice Ao o.pairs.length co) := bO.cell 5
  have gA0 : w1.cell? ⟨w.heap.size + 1, 0, none⟩ = some (.int .i64 0) := bA.cell 0
  have fA0 : w1.frozen? ⟨w.heap.size + 1, 0, none⟩ = false := bA.frozen 0
  have gA1 : w1.cell? ⟨w.heap.size + 1, 1, none⟩ = some (.int .i64 0) := bA.cell 1
  have fA1 : w1.frozen? ⟨w.heap.size + 1, 1, none⟩ = false := bA.frozen 1
  have gA2 : w1.cell? ⟨w.heap.size + 1, 2, none⟩ = some (.int .i64 0) := bA.cell 2
  have fA2 : w1.frozen? ⟨w.heap.size + 1, 2, none⟩ = false := bA.frozen 2
  have gA3 : w1.cell? ⟨w.heap.size + 1, 3, none⟩ = some (.slice none 0 0) := bA.cell 3
  have fA3 : w1.frozen? ⟨w.heap.size + 1, 3, none⟩ = false := bA.frozen 3
  have bA4 : Blk (w1.alloc (.cells #[.int .i64 a.pair.key, .int .i64 a.pair.val, .int .i64 a.n, .slice A2 a.pairs.length c2] 30)) (w.heap.size + 1) 30 #[.int .i64 0, .int .i64 0, .int .i64 0, .slice none 0 0] := bA.alloc _
  have bO4 : Blk (w1.alloc (.cells #[.int .i64 a.pair.key, .int .i64 a.pair.val, .int .i64 a.n, .slice A2 a.pairs.length c2] 30)) w.heap.size 28 #[.int .u8 o.kind, .int .i64 o.key, .int .i64 o.val, .int .i64 o.to, .int .i64 o.n, .slice Ao o.pairs.length co] := bO.alloc _
  have bL4 : Blk (w1.alloc (.cells #[.int .i64 a.pair.key, .int .i64 a.pair.val, .int .i64 a.n, .slice A2 a.pairs.length c2] 30)) w1.heap.size 30 #[.int .i64 a.pair.key, .int .i64 a.pair.val, .int .i64 a.n, .slice A2 a.pairs.length c2] := Blk.new _ _ _
  have hb04 : Below w.heap.size w (w1.alloc (.cells #[.int .i64 a.pair.key, .int .i64 a.pair.val, .int .i64 a.n, .slice A2 a.pairs.length c2] 30)) := hb01.alloc hb01.size _
  have hf4 : Fr (w1.alloc (.cells #[.int .i64 a.pair.key, .int .i64 a.pair.val, .int .i64 a.n, .slice A2 a.pairs.length c2] 30)) w.heap.size 23 A2 c2 a.pairs := hf1.below ((Below.refl _ _).alloc (Nat.le_refl _) _)
  have hwz1 : w.heap.size + 1 < w1.heap.size := bA.lt
  clear hb1
  clear cO0 cO1 cO2 cO3 cO4 cO5 gA0 gA1 gA2 gA3 fA0 fA1 fA2 fA3
  go_upto_region 3 with fail
  obtain ⟨W, hW⟩ : ∃ W, w1.alloc (.cells #[.int .i64 a.pair.key, .int .i64 a.pair.val, .int .i64 a.n, .slice A2 a.pairs.length c2] 30) = W := ⟨_, rfl⟩
  obtain ⟨g, hg⟩ : ∃ g, w1.heap.size = g := ⟨_, rfl⟩
  rw [hW, hg] at bL4
  rw [hW] at bA4 bO4 hb04 hf4
  try rw [hW]
  try rw [hg]
  rw [hg] at hwz1
  clear hW hg hf1 hb01
  have gA0 : W.cell? ⟨w.heap.size + 1, 0, none⟩ = some (.int .i64 0) := bA4.cell 0
  have fA0 : W.frozen? ⟨w.heap.size + 1, 0, none⟩ = false := bA4.frozen 0
  have gA1 : W.cell? ⟨w.heap.size + 1, 1, none⟩ = some (.int .i64 0) := bA4.cell 1
  have fA1 : W.frozen? ⟨w.heap.size + 1, 1, none⟩ = false := bA4.frozen 1
  have gA2 : W.cell? ⟨w.heap.size + 1, 2, none⟩ = some (.int .i64 0) := bA4.cell 2
  have fA2 : W.frozen? ⟨w.heap.size + 1, 2, none⟩ = false := bA4.frozen 2
  have gA3 : W.cell? ⟨w.heap.size + 1, 3, none⟩ = some (.slice none 0 0) := bA4.cell 3
  have fA3 : W.frozen? ⟨w.heap.size + 1, 3, none⟩ = false := bA4.frozen 3
  have gL0 : W.cell? ⟨g, 0, none⟩ = some (.int .i64 a.pair.key) := bL4.cell 0
  have fL0 : W.frozen? ⟨g, 0, none⟩ = false := bL4.frozen 0
  have gL1 : W.cell? ⟨g, 1, none⟩ = some (.int .i64 a.pair.val) := bL4.cell 1
  have fL1 : W.frozen? ⟨g, 1, none⟩ = false := bL4.frozen 1
  have gL2 : W.cell? ⟨g, 2, none⟩ = some (.int .i64 a.n) := bL4.cell 2
  have fL2 : W.frozen? ⟨g, 2, none⟩ = false := bL4.frozen 2
  have gL3 : W.cell? ⟨g, 3, none⟩ = some (.slice A2 a.pairs.length c2) := bL4.cell 3
  have fL3 : W.frozen? ⟨g, 3, none⟩ = false := bL4.frozen 3
  have hWA : w.heap.size + 1 < W.heap.size := bA4.lt
  have hWL : g < W.heap.size := bL4.lt
  have hal : ∀ x : Obj, Blk (W.alloc x) g 30 #[.int .i64 a.pair.key, .int .i64 a.pair.val, .int .i64 a.n, .slice A2 a.pairs.length c2] := fun x => bL4.alloc x
  have hal0 : ∀ x : Obj, (W.alloc x).cell? ⟨g, 0, none⟩ = some (.int .i64 a.pair.key) := fun x => (hal x).cell 0
  have hal1 : ∀ x : Obj, (W.alloc x).cell? ⟨g, 1, none⟩ = some (.int .i64 a.pair.val) := fun x => (hal x).cell 1
  have hal2 : ∀ x : Obj, (W.alloc x).cell? ⟨g, 2, none⟩ = some (.int .i64 a.n) := fun x => (hal x).cell 2
  have hal3 : ∀ x : Obj, (W.alloc x).cell? ⟨g, 3, none⟩ = some (.slice A2 a.pairs.length c2) := fun x => (hal x).cell 3
  have own0 : (W.alloc (.cells #[] 23)).drew.ownsRow W.heap.size 23 2 (.slice (some ⟨W.heap.size, 0, none⟩) 0 0) 0 [] := own_zero (by exact Blk.new W _ _) (Nat.le_refl _)
  go_region_law (refine step_append_sl _ (by rfl) (.tmp 22) (.tmp 23) _ (by rfl) W.heap.size 23 ti0 _ 2 16 Try.underlying24 HI.out.1 HI.out.2.1 HI.out.2.2.1 HI.out.2.2.2 rfl (by omega) (.slice (some ⟨W.heap.size, 0, none⟩) 0 0) 0 [] (by rfl) own0 A l.length c (l.flatMap Pr.cells) (by rfl) (hA'.out.below (bdrew1 (hb04.alloc hb04.size _))) (prs_length _) (one_prs _) (by unfold maxLen; omega) (by omega) (by simp) ?_; intro v5 w5 hown5 hg5; simp only [Nat.zero_add, List.nil_append] at hown5; obtain ⟨A5, q5, rfl, hle5, hmx5⟩ := own_form hown5; have bL5 : Blk w5 g 30 #[.int .i64 a.pair.key, .int .i64 a.pair.val, .int .i64 a.n, .slice A2 a.pairs.length c2] := Blk.of (by exact hal (.cells #[] 23)) (hg5.block _ (by simp; omega) (by simp [Value.ownBlock]; omega)); have bA5 : Blk w5 (w.heap.size + 1) 30 #[.int .i64 0, .int .i64 0, .int .i64 0, .slice none 0 0] := Blk.of (by exact bA4.alloc (.cells #[] 23)) (hg5.block _ (by simp; omega) (by simp [Value.ownBlock]; omega)); have gM0 := bL5.cell 0; have gM1 := bL5.cell 1; have gM2 := bL5.cell 2; have gM3 := bL5.cell 3; have gB0 := bA5.cell 0; have gB1 := bA5.cell 1; have gB2 := bA5.cell 2; have gB3 := bA5.cell 3; have fB0 := bA5.frozen 0; have fB1 := bA5.frozen 1; have fB2 := bA5.frozen 2; have fB3 := bA5.frozen 3)
  all_goals
    go_wp2_with fail
    have hW5 : Below W.heap.size W w5 := (bdrew1 ((Below.refl W.heap.size W).alloc (Nat.le_refl _) (.cells #[] 23))).grown hg5 (by simp) (fun k hk => (own0.lt k hk).1)
    have hb05 : Below w.heap.size w w5 := bext hb04 hW5
    have hf5 := hf4.below hW5
    have hfl : Fr w5 W.heap.size 23 A5 q5 l := Fr.of_own hown5 rfl
    have e4 := four bA5 (.int .i64 a.pair.key) (.int .i64 a.pair.val) (.int .i64 a.n) (.slice A2 a.pairs.length c2)
    have h0 := e4.cell 0
    have h1 := e4.cell 1
    have h2 := e4.cell 2
    have h3 := e4.cell 3
    have hb4 := fourB hb05 (show w.heap.size ≤ w.heap.size + 1 by omega) (.int .i64 a.pair.key) (.int .i64 a.pair.val) (.int .i64 a.n) (.slice A2 a.pairs.length c2)
    refine bodyPost_ret (v := .tuple #[.slice A5 l.length q5, .agg #[.int .i64 a.pair.key, .int .i64 a.pair.val, .int .i64 a.n, .slice A2 a.pairs.length c2], .int .i64 (0)]) (by simp [results, Try.results31, go_sem, h0, h1, h2, h3]) rfl ?_
    exact ⟨A5, q5, A2, c2, rfl, (fourO hfl bA5 _ _ _ _).mono hb04.size, fourO hf5 bA5 _ _ _ _, hb4⟩


set_option maxHeartbeats 2000000 in
theorem done_tno (most : Int) (A : Option Addr) (l : List Pr) (c : Nat) (o : Opn) (Ao : Option Addr) (co : Nat) (w : World) (hA : Sl w A (l.flatMap Pr.cells)) (hO : Sl w Ao (o.pairs.flatMap Pr.cells)) (hl : l.length ≤ 400000) (hp : o.pairs.length ≤ 400000) (hlc : l.length ≤ c) (hpc : o.pairs.length ≤ co) (hr : Hid (Ris l)) (hb : ∀ q ∈ l, -9223372036854775808 ≤ q.key ∧ q.key ≤ 9223372036854775807) (hm : (l.length : Int) ≤ most) (hx : askE l o = 291) (ht : ¬ turnE most l o = 0) :
    Calls Try.prog 31 #[.int .i64 most, .slice A l.length c, .agg #[.int .u8 o.kind, .int .i64 o.key, .int .i64 o.val, .int .i64 o.to, .int .i64 o.n, .slice Ao o.pairs.length co]] w (GivesDo ([]) (noAns) (turnE most l o) w) := by
  obtain ⟨a, ha⟩ : ∃ a, askA l o = a := ⟨_, rfl⟩
  have HA := Lib.hid ha
  clear ha
  obtain ⟨T, hT⟩ : ∃ T, turnE most l o = T := ⟨_, rfl⟩
  have HT := Lib.hid hT
  try rw [hT] at ht
  try rw [hT]
  clear hT
  have hb0 : Below w.heap.size w ((w.alloc (.cells #[.int .u8 o.kind, .int .i64 o.key, .int .i64 o.val, .int .i64 o.to, .int .i64 o.n, .slice Ao o.pairs.length co] 28)).alloc (.cells #[.int .i64 0, .int .i64 0, .int .i64 0, .slice none 0 0] 30)) := ((Below.refl _ _).alloc (Nat.le_refl _) _).alloc (by simp) _
  have bO0 : Blk ((w.alloc (.cells #[.int .u8 o.kind, .int .i64 o.key, .int .i64 o.val, .int .i64 o.to, .int .i64 o.n, .slice Ao o.pairs.length co] 28)).alloc (.cells #[.int .i64 0, .int .i64 0, .int .i64 0, .slice none 0 0] 30)) w.heap.size 28 #[.int .u8 o.kind, .int .i64 o.key, .int .i64 o.val, .int .i64 o.to, .int .i64 o.n, .slice Ao o.pairs.length co] := (Blk.new w _ _).alloc _
  have bA0 : Blk ((w.alloc (.cells #[.int .u8 o.kind, .int .i64 o.key, .int .i64 o.val, .int .i64 o.to, .int .i64 o.n, .slice Ao o.pairs.length co] 28)).alloc (.cells #[.int .i64 0, .int .i64 0, .int .i64 0, .slice none 0 0] 30)) (w.heap.size + 1) 30 #[.int .i64 0, .int .i64 0, .int .i64 0, .slice none 0 0] := by
    have := Blk.new (w.alloc (.cells #[.int .u8 o.kind, .int .i64 o.key, .int .i64 o.val, .int .i64 o.to, .int .i64 o.n, .slice Ao o.pairs.length co] 28)) 30 #[.int .i64 0, .int .i64 0, .int .i64 0, .slice none 0 0]
    rwa [World.size_alloc] at this
  have hA' := Lib.hid hA
  have hO' := Lib.hid hO
  clear hA hO
  go_enter Try.func31, Try.ntmps31
  go_wp2_with fail
  refine (told_any A l c o Ao co _ (hA'.out.below hb0) (by omega) hr hb).mono ?_
  rw [hx, HA.out]
  rintro e w1 ⟨A2, c2, rfl, hf1, hb1⟩
  have hb01 := bext hb0 hb1
  have hf1 := hf1.mono hb0.size
  have bO := bO0.below hb1 bO0.lt
  have bA := bA0.below hb1 bA0.lt
  clear bO0 bA0
  have cO0 : w1.cell? ⟨w.heap.size, 0, none⟩ = some (.int .u8 o.kind) := bO.cell 0
  have cO1 : w1.cell? ⟨w.heap.size, 1, none⟩ = some (.int .i64 o.key) := bO.cell 1
  have cO2 : w1.cell? ⟨w.heap.size, 2, none⟩ = some (.int .i64 o.val) := bO.cell 2
  have cO3 : w1.cell? ⟨w.heap.size, 3, none⟩ = some (.int .i64 o.to) := bO.cell 3
  have cO4 : w1.cell? ⟨w.heap.size, 4, none⟩ = some (.int .i64 o.n) := bO.cell 4
  have cO5 : w1.cell? ⟨w.heap.size, 5, none⟩ = some (.slice Ao o.pairs.length co) := bO.cell 5
  have gA0 : w1.cell? ⟨w.heap.size + 1, 0, none⟩ = some (.int .i64 0) := bA.cell 0
  have fA0 : w1.frozen? ⟨w.heap.size + 1, 0, none⟩ = false := bA.frozen 0
  have gA1 : w1.cell? ⟨w.heap.size + 1, 1, none⟩ = some (.int .i64 0) := bA.cell 1
  have fA1 : w1.frozen? ⟨w.heap.size + 1, 1, none⟩ = false := bA.frozen 1
  have gA2 : w1.cell? ⟨w.heap.size + 1, 2, none⟩ = some (.int .i64 0) := bA.cell 2
  have fA2 : w1.frozen? ⟨w.heap.size + 1, 2, none⟩ = false := bA.frozen 2
  have gA3 : w1.cell? ⟨w.heap.size + 1, 3, none⟩ = some (.slice none 0 0) := bA.cell 3
  have fA3 : w1.frozen? ⟨w.heap.size + 1, 3, none⟩ = false := bA.frozen 3
  have bA4 : Blk (w1.alloc (.cells #[.int .i64 a.pair.key, .int .i64 a.pair.val, .int .i64 a.n, .slice A2 a.pairs.length c2] 30)) (w.heap.size + 1) 30 #[.int .i64 0, .int .i64 0, .int .i64 0, .slice none 0 0] := bA.alloc _
  have bO4 : Blk (w1.alloc (.cells #[.int .i64 a.pair.key, .int .i64 a.pair.val, .int .i64 a.n, .slice A2 a.pairs.length c2] 30)) w.heap.size 28 #[.int .u8 o.kind, .int .i64 o.key, .int .i64 o.val, .int .i64 o.to, .int .i64 o.n, .slice Ao o.pairs.length co] := bO.alloc _
  have bL4 : Blk (w1.alloc (.cells #[.int .i64 a.pair.key, .int .i64 a.pair.val, .int .i64 a.n, .slice A2 a.pairs.length c2] 30)) w1.heap.size 30 #[.int .i64 a.pair.key, .int .i64 a.pair.val, .int .i64 a.n, .slice A2 a.pairs.length c2] := Blk.new _ _ _
  have hb04 : Below w.heap.size w (w1.alloc (.cells #[.int .i64 a.pair.key, .int .i64 a.pair.val, .int .i64 a.n, .slice A2 a.pairs.length c2] 30)) := hb01.alloc hb01.size _
  have hf4 : Fr (w1.alloc (.cells #[.int .i64 a.pair.key, .int .i64 a.pair.val, .int .i64 a.n, .slice A2 a.pairs.length c2] 30)) w.heap.size 23 A2 c2 a.pairs := hf1.below ((Below.refl _ _).alloc (Nat.le_refl _) _)
  have hwz1 : w.heap.size + 1 < w1.heap.size := bA.lt
  clear hb1
  clear cO0 cO1 cO2 cO3 cO4 cO5 gA0 gA1 gA2 gA3 fA0 fA1 fA2 fA3
  go_upto_region 6 with fail
  obtain ⟨W, hW⟩ : ∃ W, w1.alloc (.cells #[.int .i64 a.pair.key, .int .i64 a.pair.val, .int .i64 a.n, .slice A2 a.pairs.length c2] 30) = W := ⟨_, rfl⟩
  obtain ⟨g, hg⟩ : ∃ g, w1.heap.size = g := ⟨_, rfl⟩
  clear bL4
  rw [hW] at bA4 bO4 hb04 hf4
  try rw [hW]
  try rw [hg]
  rw [hg] at hwz1
  clear hW hg hf1 hb01
  have bO := bO4
  have bA := bA4
  clear bO4 bA4
  have cO0 : W.cell? ⟨w.heap.size, 0, none⟩ = some (.int .u8 o.kind) := bO.cell 0
  have cO1 : W.cell? ⟨w.heap.size, 1, none⟩ = some (.int .i64 o.key) := bO.cell 1
  have cO2 : W.cell? ⟨w.heap.size, 2, none⟩ = some (.int .i64 o.val) := bO.cell 2
  have cO3 : W.cell? ⟨w.heap.size, 3, none⟩ = some (.int .i64 o.to) := bO.cell 3
  have cO4 : W.cell? ⟨w.heap.size, 4, none⟩ = some (.int .i64 o.n) := bO.cell 4
  have cO5 : W.cell? ⟨w.heap.size, 5, none⟩ = some (.slice Ao o.pairs.length co) := bO.cell 5
  go_wp2_with fail
  refine (turned_any most A l c o Ao co _ (hA'.out.below hb04) (hO'.out.below hb04) hl hp hlc hpc hr.out hm).mono ?_
  rw [HT.out]
  rintro e w5 ⟨A5, c5, m', n', rfl, hf5, hb5, hz5⟩
  have hb05 := bext hb04 hb5
  have bA5 := bA.below hb5 bA.lt
  have hf5 := hf5.mono hb04.size
  clear cO0 cO1 cO2 cO3 cO4 cO5
  have gA0 : w5.cell? ⟨w.heap.size + 1, 0, none⟩ = some (.int .i64 0) := bA5.cell 0
  have fA0 : w5.frozen? ⟨w.heap.size + 1, 0, none⟩ = false := bA5.frozen 0
  have gA1 : w5.cell? ⟨w.heap.size + 1, 1, none⟩ = some (.int .i64 0) := bA5.cell 1
  have fA1 : w5.frozen? ⟨w.heap.size + 1, 1, none⟩ = false := bA5.frozen 1
  have gA2 : w5.cell? ⟨w.heap.size + 1, 2, none⟩ = some (.int .i64 0) := bA5.cell 2
  have fA2 : w5.frozen? ⟨w.heap.size + 1, 2, none⟩ = false := bA5.frozen 2
  have gA3 : w5.cell? ⟨w.heap.size + 1, 3, none⟩ = some (.slice none 0 0) := bA5.cell 3
  have fA3 : w5.frozen? ⟨w.heap.size + 1, 3, none⟩ = false := bA5.frozen 3
  go_wp2_with fail
  have e4 := four bA5 (.int .i64 0) (.int .i64 0) (.int .i64 0) (.slice none 0 0)
  have h0 := e4.cell 0
  have h1 := e4.cell 1
  have h2 := e4.cell 2
  have h3 := e4.cell 3
  have hb4 := fourB hb05 (show w.heap.size ≤ w.heap.size + 1 by omega) (.int .i64 0) (.int .i64 0) (.int .i64 0) (.slice none 0 0)
  refine bodyPost_ret (v := .tuple #[.slice none 0 0, .agg #[.int .i64 0, .int .i64 0, .int .i64 0, .slice none 0 0], .int .i64 (T)]) (by simp [results, Try.results31, go_sem, h0, h1, h2, h3]) rfl ?_
  exact ⟨none, 0, none, 0, rfl, Fr.nil, Fr.nil, hb4⟩


set_option maxHeartbeats 2000000 in
theorem done_turn (most : Int) (A : Option Addr) (l : List Pr) (c : Nat) (o : Opn) (Ao : Option Addr) (co : Nat) (w : World) (hA : Sl w A (l.flatMap Pr.cells)) (hO : Sl w Ao (o.pairs.flatMap Pr.cells)) (hl : l.length ≤ 400000) (hp : o.pairs.length ≤ 400000) (hlc : l.length ≤ c) (hpc : o.pairs.length ≤ co) (hr : Hid (Ris l)) (hb : ∀ q ∈ l, -9223372036854775808 ≤ q.key ∧ q.key ≤ 9223372036854775807) (hm : (l.length : Int) ≤ most) (hx : askE l o = 291) (ht : turnE most l o = 0) :
    Calls Try.prog 31 #[.int .i64 most, .slice A l.length c, .agg #[.int .u8 o.kind, .int .i64 o.key, .int .i64 o.val, .int .i64 o.to, .int .i64 o.n, .slice Ao o.pairs.length co]] w (GivesDo (turnL most l o) (⟨⟨0, 0⟩, turnN most l o, []⟩) (0) w) := by
  obtain ⟨a, ha⟩ : ∃ a, askA l o = a := ⟨_, rfl⟩
  have HA := Lib.hid ha
  clear ha
  obtain ⟨T, hT⟩ : ∃ T, turnE most l o = T := ⟨_, rfl⟩
  have HT := Lib.hid hT
  try rw [hT] at ht
  try rw [hT]
  clear hT
  have hb0 : Below w.heap.size w ((w.alloc (.cells #[.int .u8 o.kind, .int .i64 o.key, .int .i64 o.val, .int .i64 o.to, .int .i64 o.n, .slice Ao o.pairs.length co] 28)).alloc (.cells #[.int .i64 0, .int .i64 0, .int .i64 0, .slice none 0 0] 30)) := ((Below.refl _ _).alloc (Nat.le_refl _) _).alloc (by simp) _
  have bO0 : Blk ((w.alloc (.cells #[.int .u8 o.kind, .int .i64 o.key, .int .i64 o.val, .int .i64 o.to, .int .i64 o.n, .slice Ao o.pairs.length co] 28)).alloc (.cells #[.int .i64 0, .int .i64 0, .int .i64 0, .slice none 0 0] 30)) w.heap.size 28 #[.int .u8 o.kind, .int .i64 o.key, .int .i64 o.val, .int .i64 o.to, .int .i64 o.n, .slice Ao o.pairs.length co] := (Blk.new w _ _).alloc _
  have bA0 : Blk ((w.alloc (.cells #[.int .u8 o.kind, .int .i64 o.key, .int .i64 o.val, .int .i64 o.to, .int .i64 o.n, .slice Ao o.pairs.length co] 28)).alloc (.cells #[.int .i64 0, .int .i64 0, .int .i64 0, .slice none 0 0] 30)) (w.heap.size + 1) 30 #[.int .i64 0, .int .i64 0, .int .i64 0, .slice none 0 0] := by
    have := Blk.new (w.alloc (.cells #[.int .u8 o.kind, .int .i64 o.key, .int .i64 o.val, .int .i64 o.to, .int .i64 o.n, .slice Ao o.pairs.length co] 28)) 30 #[.int .i64 0, .int .i64 0, .int .i64 0, .slice none 0 0]
    rwa [World.size_alloc] at this
  have hA' := Lib.hid hA
  have hO' := Lib.hid hO
  clear hA hO
  go_enter Try.func31, Try.ntmps31
  go_wp2_with fail
  refine (told_any A l c o Ao co _ (hA'.out.below hb0) (by omega) hr hb).mono ?_
  rw [hx, HA.out]
  rintro e w1 ⟨A2, c2, rfl, hf1, hb1⟩
  have hb01 := bext hb0 hb1
  have hf1 := hf1.mono hb0.size
  have bO := bO0.below hb1 bO0.lt
  have bA := bA0.below hb1 bA0.lt
  clear bO0 bA0
  have cO0 : w1.cell? ⟨w.heap.size, 0, none⟩ = some (.int .u8 o.kind) := bO.cell 0
  have cO1 : w1.cell? ⟨w.heap.size, 1, none⟩ = some (.int .i64 o.key) := bO.cell 1
  have cO2 : w1.cell? ⟨w.heap.size, 2, none⟩ = some (.int .i64 o.val) := bO.cell 2
  have cO3 : w1.cell? ⟨w.heap.size, 3, none⟩ = some (.int .i64 o.to) := bO.cell 3
  have cO4 : w1.cell? ⟨w.heap.size, 4, none⟩ = some (.int .i64 o.n) := bO.cell 4
  have cO5 : w1.cell? ⟨w.heap.size, 5, none⟩ = some (.slice Ao o.pairs.length co) := bO.cell 5
  have gA0 : w1.cell? ⟨w.heap.size + 1, 0, none⟩ = some (.int .i64 0) := bA.cell 0
  have fA0 : w1.frozen? ⟨w.heap.size + 1, 0, none⟩ = false := bA.frozen 0
  have gA1 : w1.cell? ⟨w.heap.size + 1, 1, none⟩ = some (.int .i64 0) := bA.cell 1
  have fA1 : w1.frozen? ⟨w.heap.size + 1, 1, none⟩ = false := bA.frozen 1
  have gA2 : w1.cell? ⟨w.heap.size + 1, 2, none⟩ = some (.int .i64 0) := bA.cell 2
  have fA2 : w1.frozen? ⟨w.heap.size + 1, 2, none⟩ = false := bA.frozen 2
  have gA3 : w1.cell? ⟨w.heap.size + 1, 3, none⟩ = some (.slice none 0 0) := bA.cell 3
  have fA3 : w1.frozen? ⟨w.heap.size + 1, 3, none⟩ = false := bA.frozen 3
  have bA4 : Blk (w1.alloc (.cells #[.int .i64 a.pair.key, .int .i64 a.pair.val, .int .i64 a.n, .slice A2 a.pairs.length c2] 30)) (w.heap.size + 1) 30 #[.int .i64 0, .int .i64 0, .int .i64 0, .slice none 0 0] := bA.alloc _
  have bO4 : Blk (w1.alloc (.cells #[.int .i64 a.pair.key, .int .i64 a.pair.val, .int .i64 a.n, .slice A2 a.pairs.length c2] 30)) w.heap.size 28 #[.int .u8 o.kind, .int .i64 o.key, .int .i64 o.val, .int .i64 o.to, .int .i64 o.n, .slice Ao o.pairs.length co] := bO.alloc _
  have bL4 : Blk (w1.alloc (.cells #[.int .i64 a.pair.key, .int .i64 a.pair.val, .int .i64 a.n, .slice A2 a.pairs.length c2] 30)) w1.heap.size 30 #[.int .i64 a.pair.key, .int .i64 a.pair.val, .int .i64 a.n, .slice A2 a.pairs.length c2] := Blk.new _ _ _
  have hb04 : Below w.heap.size w (w1.alloc (.cells #[.int .i64 a.pair.key, .int .i64 a.pair.val, .int .i64 a.n, .slice A2 a.pairs.length c2] 30)) := hb01.alloc hb01.size _
  have hf4 : Fr (w1.alloc (.cells #[.int .i64 a.pair.key, .int .i64 a.pair.val, .int .i64 a.n, .slice A2 a.pairs.length c2] 30)) w.heap.size 23 A2 c2 a.pairs := hf1.below ((Below.refl _ _).alloc (Nat.le_refl _) _)
  have hwz1 : w.heap.size + 1 < w1.heap.size := bA.lt
  clear hb1
  clear cO0 cO1 cO2 cO3 cO4 cO5 gA0 gA1 gA2 gA3 fA0 fA1 fA2 fA3
  go_upto_region 6 with fail
  obtain ⟨W, hW⟩ : ∃ W, w1.alloc (.cells #[.int .i64 a.pair.key, .int .i64 a.pair.val, .int .i64 a.n, .slice A2 a.pairs.length c2] 30) = W := ⟨_, rfl⟩
  obtain ⟨g, hg⟩ : ∃ g, w1.heap.size = g := ⟨_, rfl⟩
  clear bL4
  rw [hW] at bA4 bO4 hb04 hf4
  try rw [hW]
  try rw [hg]
  rw [hg] at hwz1
  clear hW hg hf1 hb01
  have bO := bO4
  have bA := bA4
  clear bO4 bA4
  have cO0 : W.cell? ⟨w.heap.size, 0, none⟩ = some (.int .u8 o.kind) := bO.cell 0
  have cO1 : W.cell? ⟨w.heap.size, 1, none⟩ = some (.int .i64 o.key) := bO.cell 1
  have cO2 : W.cell? ⟨w.heap.size, 2, none⟩ = some (.int .i64 o.val) := bO.cell 2
  have cO3 : W.cell? ⟨w.heap.size, 3, none⟩ = some (.int .i64 o.to) := bO.cell 3
  have cO4 : W.cell? ⟨w.heap.size, 4, none⟩ = some (.int .i64 o.n) := bO.cell 4
  have cO5 : W.cell? ⟨w.heap.size, 5, none⟩ = some (.slice Ao o.pairs.length co) := bO.cell 5
  go_wp2_with fail
  refine (turned_any most A l c o Ao co _ (hA'.out.below hb04) (hO'.out.below hb04) hl hp hlc hpc hr.out hm).mono ?_
  rw [HT.out]
  rintro e w5 ⟨A5, c5, m', n', rfl, hf5, hb5, hz5⟩
  have hb05 := bext hb04 hb5
  have bA5 := bA.below hb5 bA.lt
  have hf5 := hf5.mono hb04.size
  clear cO0 cO1 cO2 cO3 cO4 cO5
  have gA0 : w5.cell? ⟨w.heap.size + 1, 0, none⟩ = some (.int .i64 0) := bA5.cell 0
  have fA0 : w5.frozen? ⟨w.heap.size + 1, 0, none⟩ = false := bA5.frozen 0
  have gA1 : w5.cell? ⟨w.heap.size + 1, 1, none⟩ = some (.int .i64 0) := bA5.cell 1
  have fA1 : w5.frozen? ⟨w.heap.size + 1, 1, none⟩ = false := bA5.frozen 1
  have gA2 : w5.cell? ⟨w.heap.size + 1, 2, none⟩ = some (.int .i64 0) := bA5.cell 2
  have fA2 : w5.frozen? ⟨w.heap.size + 1, 2, none⟩ = false := bA5.frozen 2
  have gA3 : w5.cell? ⟨w.heap.size + 1, 3, none⟩ = some (.slice none 0 0) := bA5.cell 3
  have fA3 : w5.frozen? ⟨w.heap.size + 1, 3, none⟩ = false := bA5.frozen 3
  subst ht
  obtain ⟨q1, q2⟩ := hz5 rfl
  have HM := Lib.hid q1
  have HN := Lib.hid q2
  clear q1 q2 hz5
  go_wp2_with fail
  have e4 := four bA5 (.int .i64 0) (.int .i64 0) (.int .i64 n') (.slice none 0 0)
  have h0 := e4.cell 0
  have h1 := e4.cell 1
  have h2 := e4.cell 2
  have h3 := e4.cell 3
  have hb4 := fourB hb05 (show w.heap.size ≤ w.heap.size + 1 by omega) (.int .i64 0) (.int .i64 0) (.int .i64 n') (.slice none 0 0)
  refine bodyPost_ret (v := .tuple #[.slice A5 m'.length c5, .agg #[.int .i64 0, .int .i64 0, .int .i64 n', .slice none 0 0], .int .i64 (0)]) (by simp [results, Try.results31, go_sem, h0, h1, h2, h3]) rfl ?_
  exact ⟨A5, c5, none, 0, by rw [← HM.out, ← HN.out]; rfl, by rw [← HM.out]; exact fourO hf5 bA5 _ _ _ _, Fr.nil, hb4⟩

theorem done_any (most : Int) (A : Option Addr) (l : List Pr) (c : Nat) (o : Opn) (Ao : Option Addr) (co : Nat) (w : World) (hA : Sl w A (l.flatMap Pr.cells)) (hO : Sl w Ao (o.pairs.flatMap Pr.cells)) (hl : l.length ≤ 400000) (hp : o.pairs.length ≤ 400000) (hlc : l.length ≤ c) (hpc : o.pairs.length ≤ co) (hC : checkE most l = 0) (hb : ∀ q ∈ l, -9223372036854775808 ≤ q.key ∧ q.key ≤ 9223372036854775807) :
    Calls Try.prog 31 #[.int .i64 most, .slice A l.length c, .agg #[.int .u8 o.kind, .int .i64 o.key, .int .i64 o.val, .int .i64 o.to, .int .i64 o.n, .slice Ao o.pairs.length co]] w (GivesDo (doL most l o) (doA most l o) (doE most l o) w) := by
  obtain ⟨_, _, hm, hr⟩ := check_ok hC
  have hr := Lib.hid hr
  cases hK : known o
  · have hx := (unknown_ask (l := l) hK).1
    have hE : doE most l o = turnE most l o := by simp [doE, hC, hK]
    by_cases ht : turnE most l o = 0
    · have hE0 : doE most l o = 0 := by rw [hE, ht]
      have e1 : doL most l o = turnL most l o := by simp [doL, hE0, hK]
      have e2 : doA most l o = ⟨⟨0, 0⟩, turnN most l o, []⟩ := by simp [doA, hE0, hK]
      rw [e1, e2, hE0]
      exact done_turn most A l c o Ao co w hA hO hl hp hlc hpc hr hb hm hx ht
    · have hE0 : doE most l o ≠ 0 := by rw [hE]; exact ht
      have e1 : doL most l o = [] := by simp [doL, hE0]
      have e2 : doA most l o = noAns := by simp [doA, hE0]
      rw [e1, e2, hE]
      exact done_tno most A l c o Ao co w hA hO hl hp hlc hpc hr hb hm hx ht
  · have hE : doE most l o = askE l o := by simp [doE, hC, hK]
    by_cases hx : askE l o = 0
    · have hE0 : doE most l o = 0 := by rw [hE, hx]
      have e1 : doL most l o = l := by simp [doL, hE0, hK]
      have e2 : doA most l o = askA l o := by simp [doA, hE0, hK]
      rw [e1, e2, hE0]
      exact done_ask most A l c o Ao co w hA hO hl hp hlc hpc hr hb hx
    · have hE0 : doE most l o ≠ 0 := by rw [hE]; exact hx
      have e1 : doL most l o = [] := by simp [doL, hE0]
      have e2 : doA most l o = noAns := by simp [doA, hE0]
      rw [e1, e2, hE]
      exact done_err most A l c o Ao co w hA hO hl hp hlc hpc hr hb _ rfl hx (known_ne hK)

end Go.Proofs.Ytibgpghlnfcilaa