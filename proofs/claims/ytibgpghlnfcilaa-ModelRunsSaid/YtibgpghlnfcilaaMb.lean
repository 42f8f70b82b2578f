/- Contracts: what an operation that turns nothing answers (the rest). -/
import Derived.Test.YtibgpghlnfcilaaMa
import Derived.Deep.RegionWith
namespace Go.Proofs.Ytibgpghlnfcilaa
open Go Go.RowKit
set_option maxRecDepth 100000

set_option maxHeartbeats 1600000 in
theorem ask9a (A : Option Addr) (l : List Pr) (c : Nat) (o : Opn) (Ao : Option Addr) (co : Nat) (w : World) (hA : Sl w A (l.flatMap Pr.cells)) (hl : l.length ≤ 1000000) (_hlc : l.length ≤ c) (hr : Hid (Ris l)) (hk : o.kind = 9) (hin : oneE l o.n = 0) :
    Calls Try.prog 28 #[.slice A l.length c, .agg #[.int .u8 o.kind, .int .i64 o.key, .int .i64 o.val, .int .i64 o.to, .int .i64 o.n, .slice Ao o.pairs.length co]] w (GivesAsk (askA l o) (askE l o) (known o) w) := by
  have hmf : ∀ (fn : Fn) (first cap : Array Value) (w : World), (Instr.makeFunc fn first cap).run Try.prog w = .ok (.func fn first cap) w := fun _ _ _ _ => rfl
  have hb0 : Below w.heap.size w (((w.alloc (.cells #[.slice A l.length c] 24)).alloc (.cells #[.int .u8 9, .int .i64 o.key, .int .i64 o.val, .int .i64 o.to, .int .i64 o.n, .slice Ao o.pairs.length co] 28)).alloc (.cells #[.int .i64 0, .int .i64 0, .int .i64 0, .slice none 0 0] 30)) := (((Below.refl _ _).alloc (Nat.le_refl _) _).alloc (by simp) _).alloc (by simp; omega) _
  have bL0 : Blk (((w.alloc (.cells #[.slice A l.length c] 24)).alloc (.cells #[.int .u8 9, .int .i64 o.key, .int .i64 o.val, .int .i64 o.to, .int .i64 o.n, .slice Ao o.pairs.length co] 28)).alloc (.cells #[.int .i64 0, .int .i64 0, .int .i64 0, .slice none 0 0] 30)) w.heap.size 24 #[.slice A l.length c] := ((Blk.new w _ _).alloc _).alloc _
  have bO0 : Blk (((w.alloc (.cells #[.slice A l.length c] 24)).alloc (.cells #[.int .u8 9, .int .i64 o.key, .int .i64 o.val, .int .i64 o.to, .int .i64 o.n, .slice Ao o.pairs.length co] 28)).alloc (.cells #[.int .i64 0, .int .i64 0, .int .i64 0, .slice none 0 0] 30)) (w.heap.size + 1) 28 #[.int .u8 9, .int .i64 o.key, .int .i64 o.val, .int .i64 o.to, .int .i64 o.n, .slice Ao o.pairs.length co] := by
    have := (Blk.new (w.alloc (.cells #[.slice A l.length c] 24)) 28 #[.int .u8 9, .int .i64 o.key, .int .i64 o.val, .int .i64 o.to, .int .i64 o.n, .slice Ao o.pairs.length co]).alloc (.cells #[.int .i64 0, .int .i64 0, .int .i64 0, .slice none 0 0] 30)
    rwa [World.size_alloc] at this
  have bA0 : Blk (((w.alloc (.cells #[.slice A l.length c] 24)).alloc (.cells #[.int .u8 9, .int .i64 o.key, .int .i64 o.val, .int .i64 o.to, .int .i64 o.n, .slice Ao o.pairs.length co] 28)).alloc (.cells #[.int .i64 0, .int .i64 0, .int .i64 0, .slice none 0 0] 30)) (w.heap.size + 1 + 1) 30 #[.int .i64 0, .int .i64 0, .int .i64 0, .slice none 0 0] := by
    have := Blk.new ((w.alloc (.cells #[.slice A l.length c] 24)).alloc (.cells #[.int .u8 9, .int .i64 o.key, .int .i64 o.val, .int .i64 o.to, .int .i64 o.n, .slice Ao o.pairs.length co] 28)) 30 #[.int .i64 0, .int .i64 0, .int .i64 0, .slice none 0 0]
    rwa [World.size_alloc, World.size_alloc] at this
  go_enter Try.func28, Try.ntmps28
  go_wp2_with fail
  refine (rank_any A l c o.key _ (hA.below hb0) (by omega) hr).mono ?_
  rintro e w1 ⟨rfl, hb1⟩
  have hb01 := bext hb0 hb1
  have bL := bL0.below hb1 bL0.lt
  have bO := bO0.below hb1 bO0.lt
  have bA := bA0.below hb1 bA0.lt
  have cL : w1.cell? ⟨w.heap.size, 0, none⟩ = some (.slice A l.length c) := bL.cell 0
  have cO0 : w1.cell? ⟨w.heap.size + 1, 0, none⟩ = some (.int .u8 9) := bO.cell 0
  have cO1 : w1.cell? ⟨w.heap.size + 1, 1, none⟩ = some (.int .i64 o.key) := bO.cell 1
  have cO3 : w1.cell? ⟨w.heap.size + 1, 3, none⟩ = some (.int .i64 o.to) := bO.cell 3
  have cO4 : w1.cell? ⟨w.heap.size + 1, 4, none⟩ = some (.int .i64 o.n) := bO.cell 4
  clear bL0 bO0 bA0 hb1 hb0
  go_wp2_with fail
  refine (one_any A l c w.heap.size (o.n) _ (hA.below hb01) hl bL).mono ?_
  rw [hin]; rintro e w9 ⟨rfl, hb9⟩
  have hb09 := bext hb01 hb9
  have bA9 := bA.below hb9 bA.lt
  have f0 := bA9.frozen 0
  have f1 := bA9.frozen 1
  have f2 := bA9.frozen 2
  have f3 := bA9.frozen 3
  have g0 : w9.cell? ⟨w.heap.size + 1 + 1, 0, none⟩ = some (.int .i64 0) := bA9.cell 0
  have g1 : w9.cell? ⟨w.heap.size + 1 + 1, 1, none⟩ = some (.int .i64 0) := bA9.cell 1
  have g2 : w9.cell? ⟨w.heap.size + 1 + 1, 2, none⟩ = some (.int .i64 0) := bA9.cell 2
  have g3 : w9.cell? ⟨w.heap.size + 1 + 1, 3, none⟩ = some (.slice none 0 0) := bA9.cell 3
  go_wp2_with fail
  have e4 := four bA9 (.int .i64 (oneA l o.n).pair.key) (.int .i64 (oneA l o.n).pair.val) (.int .i64 (oneA l o.n).n) (.slice none 0 0)
  have e5 := four e4 (.int .i64 (oneA l o.n).pair.key) (.int .i64 (oneA l o.n).pair.val) (.int .i64 (oneA l o.n).n) (.slice none 0 0)
  have h0 := e5.cell 0
  have h1 := e5.cell 1
  have h2 := e5.cell 2
  have h3 := e5.cell 3
  have hb4 := fourB (fourB hb09 (show w.heap.size ≤ w.heap.size + 1 + 1 by omega) (.int .i64 (oneA l o.n).pair.key) (.int .i64 (oneA l o.n).pair.val) (.int .i64 (oneA l o.n).n) (.slice none 0 0)) (show w.heap.size ≤ w.heap.size + 1 + 1 by omega) (.int .i64 (oneA l o.n).pair.key) (.int .i64 (oneA l o.n).pair.val) (.int .i64 (oneA l o.n).n) (.slice none 0 0)
  refine bodyPost_ret (v := .tuple #[.agg #[.int .i64 (oneA l o.n).pair.key, .int .i64 (oneA l o.n).pair.val, .int .i64 (oneA l o.n).n, .slice none 0 0], .int .i64 (0), .bool true]) (by simp [results, Try.results28, go_sem, h0, h1, h2, h3]) rfl ?_
  exact give_one o.n hb4 (by simp [askA, hk]) (by simp [askE, hk, hin]) (by simp [known, hk])

set_option maxHeartbeats 1600000 in
theorem ask9b (A : Option Addr) (l : List Pr) (c : Nat) (o : Opn) (Ao : Option Addr) (co : Nat) (w : World) (hA : Sl w A (l.flatMap Pr.cells)) (hl : l.length ≤ 1000000) (_hlc : l.length ≤ c) (hr : Hid (Ris l)) (hk : o.kind = 9) (hin : oneE l o.n = 6) :
    Calls Try.prog 28 #[.slice A l.length c, .agg #[.int .u8 o.kind, .int .i64 o.key, .int .i64 o.val, .int .i64 o.to, .int .i64 o.n, .slice Ao o.pairs.length co]] w (GivesAsk (askA l o) (askE l o) (known o) w) := by
  have hmf : ∀ (fn : Fn) (first cap : Array Value) (w : World), (Instr.makeFunc fn first cap).run Try.prog w = .ok (.func fn first cap) w := fun _ _ _ _ => rfl
  have hb0 : Below w.heap.size w (((w.alloc (.cells #[.slice A l.length c] 24)).alloc (.cells #[.int .u8 9, .int .i64 o.key, .int .i64 o.val, .int .i64 o.to, .int .i64 o.n, .slice Ao o.pairs.length co] 28)).alloc (.cells #[.int .i64 0, .int .i64 0, .int .i64 0, .slice none 0 0] 30)) := (((Below.refl _ _).alloc (Nat.le_refl _) _).alloc (by simp) _).alloc (by simp; omega) _
  have bL0 : Blk (((w.alloc (.cells #[.slice A l.length c] 24)).alloc (.cells #[.int .u8 9, .int .i64 o.key, .int .i64 o.val, .int .i64 o.to, .int .i64 o.n, .slice Ao o.pairs.length co] 28)).alloc (.cells #[.int .i64 0, .int .i64 0, .int .i64 0, .slice none 0 0] 30)) w.heap.size 24 #[.slice A l.length c] := ((Blk.new w _ _).alloc _).alloc _
  have bO0 : Blk (((w.alloc (.cells #[.slice A l.length c] 24)).alloc (.cells #[.int .u8 9, .int .i64 o.key, .int .i64 o.val, .int .i64 o.to, .int .i64 o.n, .slice Ao o.pairs.length co] 28)).alloc (.cells #[.int .i64 0, .int .i64 0, .int .i64 0, .slice none 0 0] 30)) (w.heap.size + 1) 28 #[.int .u8 9, .int .i64 o.key, .int .i64 o.val, .int .i64 o.to, .int .i64 o.n, .slice Ao o.pairs.length co] := by
    have := (Blk.new (w.alloc (.cells #[.slice A l.length c] 24)) 28 #[.int .u8 9, .int .i64 o.key, .int .i64 o.val, .int .i64 o.to, .int .i64 o.n, .slice Ao o.pairs.length co]).alloc (.cells #[.int .i64 0, .int .i64 0, .int .i64 0, .slice none 0 0] 30)
    rwa [World.size_alloc] at this
  have bA0 : Blk (((w.alloc (.cells #[.slice A l.length c] 24)).alloc (.cells #[.int .u8 9, .int .i64 o.key, .int .i64 o.val, .int .i64 o.to, .int .i64 o.n, .slice Ao o.pairs.length co] 28)).alloc (.cells #[.int .i64 0, .int .i64 0, .int .i64 0, .slice none 0 0] 30)) (w.heap.size + 1 + 1) 30 #[.int .i64 0, .int .i64 0, .int .i64 0, .slice none 0 0] := by
    have := Blk.new ((w.alloc (.cells #[.slice A l.length c] 24)).alloc (.cells #[.int .u8 9, .int .i64 o.key, .int .i64 o.val, .int .i64 o.to, .int .i64 o.n, .slice Ao o.pairs.length co] 28)) 30 #[.int .i64 0, .int .i64 0, .int .i64 0, .slice none 0 0]
    rwa [World.size_alloc, World.size_alloc] at this
  go_enter Try.func28, Try.ntmps28
  go_wp2_with fail
  refine (rank_any A l c o.key _ (hA.below hb0) (by omega) hr).mono ?_
  rintro e w1 ⟨rfl, hb1⟩
  have hb01 := bext hb0 hb1
  have bL := bL0.below hb1 bL0.lt
  have bO := bO0.below hb1 bO0.lt
  have bA := bA0.below hb1 bA0.lt
  have cL : w1.cell? ⟨w.heap.size, 0, none⟩ = some (.slice A l.length c) := bL.cell 0
  have cO0 : w1.cell? ⟨w.heap.size + 1, 0, none⟩ = some (.int .u8 9) := bO.cell 0
  have cO1 : w1.cell? ⟨w.heap.size + 1, 1, none⟩ = some (.int .i64 o.key) := bO.cell 1
  have cO3 : w1.cell? ⟨w.heap.size + 1, 3, none⟩ = some (.int .i64 o.to) := bO.cell 3
  have cO4 : w1.cell? ⟨w.heap.size + 1, 4, none⟩ = some (.int .i64 o.n) := bO.cell 4
  clear bL0 bO0 bA0 hb1 hb0
  go_wp2_with fail
  refine (one_any A l c w.heap.size (o.n) _ (hA.below hb01) hl bL).mono ?_
  rw [hin]; rintro e w9 ⟨rfl, hb9⟩
  have hb09 := bext hb01 hb9
  have bA9 := bA.below hb9 bA.lt
  have f0 := bA9.frozen 0
  have f1 := bA9.frozen 1
  have f2 := bA9.frozen 2
  have f3 := bA9.frozen 3
  have g0 : w9.cell? ⟨w.heap.size + 1 + 1, 0, none⟩ = some (.int .i64 0) := bA9.cell 0
  have g1 : w9.cell? ⟨w.heap.size + 1 + 1, 1, none⟩ = some (.int .i64 0) := bA9.cell 1
  have g2 : w9.cell? ⟨w.heap.size + 1 + 1, 2, none⟩ = some (.int .i64 0) := bA9.cell 2
  have g3 : w9.cell? ⟨w.heap.size + 1 + 1, 3, none⟩ = some (.slice none 0 0) := bA9.cell 3
  go_wp2_with fail
  have e4 := four bA9 (.int .i64 (oneA l o.n).pair.key) (.int .i64 (oneA l o.n).pair.val) (.int .i64 (oneA l o.n).n) (.slice none 0 0)
  have e5 := four e4 (.int .i64 (oneA l o.n).pair.key) (.int .i64 (oneA l o.n).pair.val) (.int .i64 (oneA l o.n).n) (.slice none 0 0)
  have h0 := e5.cell 0
  have h1 := e5.cell 1
  have h2 := e5.cell 2
  have h3 := e5.cell 3
  have hb4 := fourB (fourB hb09 (show w.heap.size ≤ w.heap.size + 1 + 1 by omega) (.int .i64 (oneA l o.n).pair.key) (.int .i64 (oneA l o.n).pair.val) (.int .i64 (oneA l o.n).n) (.slice none 0 0)) (show w.heap.size ≤ w.heap.size + 1 + 1 by omega) (.int .i64 (oneA l o.n).pair.key) (.int .i64 (oneA l o.n).pair.val) (.int .i64 (oneA l o.n).n) (.slice none 0 0)
  refine bodyPost_ret (v := .tuple #[.agg #[.int .i64 (oneA l o.n).pair.key, .int .i64 (oneA l o.n).pair.val, .int .i64 (oneA l o.n).n, .slice none 0 0], .int .i64 (290), .bool true]) (by simp [results, Try.results28, go_sem, h0, h1, h2, h3]) rfl ?_
  exact give_one o.n hb4 (by simp [askA, hk]) (by simp [askE, hk, hin]) (by simp [known, hk])

set_option maxHeartbeats 1600000 in
theorem ask14 (A : Option Addr) (l : List Pr) (c : Nat) (o : Opn) (Ao : Option Addr) (co : Nat) (w : World) (hA : Sl w A (l.flatMap Pr.cells)) (hl : l.length ≤ 1000000) (_hlc : l.length ≤ c) (hr : Hid (Ris l)) (hk : o.kind = 14) :
    Calls Try.prog 28 #[.slice A l.length c, .agg #[.int .u8 o.kind, .int .i64 o.key, .int .i64 o.val, .int .i64 o.to, .int .i64 o.n, .slice Ao o.pairs.length co]] w (GivesAsk (askA l o) (askE l o) (known o) w) := by
  have hmf : ∀ (fn : Fn) (first cap : Array Value) (w : World), (Instr.makeFunc fn first cap).run Try.prog w = .ok (.func fn first cap) w := fun _ _ _ _ => rfl
  have hb0 : Below w.heap.size w (((w.alloc (.cells #[.slice A l.length c] 24)).alloc (.cells #[.int .u8 14, .int .i64 o.key, .int .i64 o.val, .int .i64 o.to, .int .i64 o.n, .slice Ao o.pairs.length co] 28)).alloc (.cells #[.int .i64 0, .int .i64 0, .int .i64 0, .slice none 0 0] 30)) := (((Below.refl _ _).alloc (Nat.le_refl _) _).alloc (by simp) _).alloc (by simp; omega) _
  have bL0 : Blk (((w.alloc (.cells #[.slice A l.length c] 24)).alloc (.cells #[.int .u8 14, .int .i64 o.key, .int .i64 o.val, .int .i64 o.to, .int .i64 o.n, .slice Ao o.pairs.length co] 28)).alloc (.cells #[.int .i64 0, .int .i64 0, .int .i64 0, .slice none 0 0] 30)) w.heap.size 24 #[.slice A l.length c] := ((Blk.new w _ _).alloc _).alloc _
  have bO0 : Blk (((w.alloc (.cells #[.slice A l.length c] 24)).alloc (.cells #[.int .u8 14, .int .i64 o.key, .int .i64 o.val, .int .i64 o.to, .int .i64 o.n, .slice Ao o.pairs.length co] 28)).alloc (.cells #[.int .i64 0, .int .i64 0, .int .i64 0, .slice none 0 0] 30)) (w.heap.size + 1) 28 #[.int .u8 14, .int .i64 o.key, .int .i64 o.val, .int .i64 o.to, .int .i64 o.n, .slice Ao o.pairs.length co] := by
    have := (Blk.new (w.alloc (.cells #[.slice A l.length c] 24)) 28 #[.int .u8 14, .int .i64 o.key, .int .i64 o.val, .int .i64 o.to, .int .i64 o.n, .slice Ao o.pairs.length co]).alloc (.cells #[.int .i64 0, .int .i64 0, .int .i64 0, .slice none 0 0] 30)
    rwa [World.size_alloc] at this
  have bA0 : Blk (((w.alloc (.cells #[.slice A l.length c] 24)).alloc (.cells #[.int .u8 14, .int .i64 o.key, .int .i64 o.val, .int .i64 o.to, .int .i64 o.n, .slice Ao o.pairs.length co] 28)).alloc (.cells #[.int .i64 0, .int .i64 0, .int .i64 0, .slice none 0 0] 30)) (w.heap.size + 1 + 1) 30 #[.int .i64 0, .int .i64 0, .int .i64 0, .slice none 0 0] := by
    have := Blk.new ((w.alloc (.cells #[.slice A l.length c] 24)).alloc (.cells #[.int .u8 14, .int .i64 o.key, .int .i64 o.val, .int .i64 o.to, .int .i64 o.n, .slice Ao o.pairs.length co] 28)) 30 #[.int .i64 0, .int .i64 0, .int .i64 0, .slice none 0 0]
    rwa [World.size_alloc, World.size_alloc] at this
  go_enter Try.func28, Try.ntmps28
  go_wp2_with fail
  refine (rank_any A l c o.key _ (hA.below hb0) (by omega) hr).mono ?_
  rintro e w1 ⟨rfl, hb1⟩
  have hb01 := bext hb0 hb1
  have bL := bL0.below hb1 bL0.lt
  have bO := bO0.below hb1 bO0.lt
  have bA := bA0.below hb1 bA0.lt
  have cL : w1.cell? ⟨w.heap.size, 0, none⟩ = some (.slice A l.length c) := bL.cell 0
  have cO0 : w1.cell? ⟨w.heap.size + 1, 0, none⟩ = some (.int .u8 14) := bO.cell 0
  have cO1 : w1.cell? ⟨w.heap.size + 1, 1, none⟩ = some (.int .i64 o.key) := bO.cell 1
  have cO3 : w1.cell? ⟨w.heap.size + 1, 3, none⟩ = some (.int .i64 o.to) := bO.cell 3
  have cO4 : w1.cell? ⟨w.heap.size + 1, 4, none⟩ = some (.int .i64 o.n) := bO.cell 4
  clear bL0 bO0 bA0 hb1 hb0
  have f0 := bA.frozen 0
  have f1 := bA.frozen 1
  have f2 := bA.frozen 2
  have f3 := bA.frozen 3
  have g0 : w1.cell? ⟨w.heap.size + 1 + 1, 0, none⟩ = some (.int .i64 0) := bA.cell 0
  have g1 : w1.cell? ⟨w.heap.size + 1 + 1, 1, none⟩ = some (.int .i64 0) := bA.cell 1
  have g2 : w1.cell? ⟨w.heap.size + 1 + 1, 2, none⟩ = some (.int .i64 0) := bA.cell 2
  have g3 : w1.cell? ⟨w.heap.size + 1 + 1, 3, none⟩ = some (.slice none 0 0) := bA.cell 3
  go_wp2_with fail
  have e4 := four bA (.int .i64 0) (.int .i64 0) (.int .i64 0) (.slice none 0 0)
  have h0 := e4.cell 0
  have h1 := e4.cell 1
  have h2 := e4.cell 2
  have h3 := e4.cell 3
  have hb4 := fourB hb01 (show w.heap.size ≤ w.heap.size + 1 + 1 by omega) (.int .i64 0) (.int .i64 0) (.int .i64 0) (.slice none 0 0)
  refine bodyPost_ret (v := .tuple #[.agg #[.int .i64 0, .int .i64 0, .int .i64 0, .slice none 0 0], .int .i64 (0), .bool true]) (by simp [results, Try.results28, go_sem, h0, h1, h2, h3]) rfl ?_
  exact ⟨none, 0, by simp [askA, askE, known, noAns, hk], by simp [askA, noAns, hk]; exact Fr.nil, hb4⟩

set_option maxHeartbeats 1600000 in
theorem ask15 (A : Option Addr) (l : List Pr) (c : Nat) (o : Opn) (Ao : Option Addr) (co : Nat) (w : World) (hA : Sl w A (l.flatMap Pr.cells)) (hl : l.length ≤ 1000000) (_hlc : l.length ≤ c) (hr : Hid (Ris l)) (hk : o.kind = 15) :
    Calls Try.prog 28 #[.slice A l.length c, .agg #[.int .u8 o.kind, .int .i64 o.key, .int .i64 o.val, .int .i64 o.to, .int .i64 o.n, .slice Ao o.pairs.length co]] w (GivesAsk (askA l o) (askE l o) (known o) w) := by
  have hmf : ∀ (fn : Fn) (first cap : Array Value) (w : World), (Instr.makeFunc fn first cap).run Try.prog w = .ok (.func fn first cap) w := fun _ _ _ _ => rfl
  have hb0 : Below w.heap.size w (((w.alloc (.cells #[.slice A l.length c] 24)).alloc (.cells #[.int .u8 15, .int .i64 o.key, .int .i64 o.val, .int .i64 o.to, .int .i64 o.n, .slice Ao o.pairs.length co] 28)).alloc (.cells #[.int .i64 0, .int .i64 0, .int .i64 0, .slice none 0 0] 30)) := (((Below.refl _ _).alloc (Nat.le_refl _) _).alloc (by simp) _).alloc (by simp; omega) _
  have bL0 : Blk (((w.alloc (.cells #[.slice A l.length c] 24)).alloc (.cells #[.int .u8 15, .int .i64 o.key, .int .i64 o.val, .int .i64 o.to, .int .i64 o.n, .slice Ao o.pairs.length co] 28)).alloc (.cells #[.int .i64 0, .int .i64 0, .int .i64 0, .slice none 0 0] 30)) w.heap.size 24 #[.slice A l.length c] := ((Blk.new w _ _).alloc _).alloc _
  have bO0 : Blk (((w.alloc (.cells #[.slice A l.length c] 24)).alloc (.cells #[.int .u8 15, .int .i64 o.key, .int .i64 o.val, .int .i64 o.to, .int .i64 o.n, .slice Ao o.pairs.length co] 28)).alloc (.cells #[.int .i64 0, .int .i64 0, .int .i64 0, .slice none 0 0] 30)) (w.heap.size + 1) 28 #[.int .u8 15, .int .i64 o.key, .int .i64 o.val, .int .i64 o.to, .int .i64 o.n, .slice Ao o.pairs.length co] := by
    have := (Blk.new (w.alloc (.cells #[.slice A l.length c] 24)) 28 #[.int .u8 15, .int .i64 o.key, .int .i64 o.val, .int .i64 o.to, .int .i64 o.n, .slice Ao o.pairs.length co]).alloc (.cells #[.int .i64 0, .int .i64 0, .int .i64 0, .slice none 0 0] 30)
    rwa [World.size_alloc] at this
  have bA0 : Blk (((w.alloc (.cells #[.slice A l.length c] 24)).alloc (.cells #[.int .u8 15, .int .i64 o.key, .int .i64 o.val, .int .i64 o.to, .int .i64 o.n, .slice Ao o.pairs.length co] 28)).alloc (.cells #[.int .i64 0, .int .i64 0, .int .i64 0, .slice none 0 0] 30)) (w.heap.size + 1 + 1) 30 #[.int .i64 0, .int .i64 0, .int .i64 0, .slice none 0 0] := by
    have := Blk.new ((w.alloc (.cells #[.slice A l.length c] 24)).alloc (.cells #[.int .u8 15, .int .i64 o.key, .int .i64 o.val, .int .i64 o.to, .int .i64 o.n, .slice Ao o.pairs.length co] 28)) 30 #[.int .i64 0, .int .i64 0, .int .i64 0, .slice none 0 0]
    rwa [World.size_alloc, World.size_alloc] at this
  go_enter Try.func28, Try.ntmps28
  go_wp2_with fail
  refine (rank_any A l c o.key _ (hA.below hb0) (by omega) hr).mono ?_
  rintro e w1 ⟨rfl, hb1⟩
  have hb01 := bext hb0 hb1
  have bL := bL0.below hb1 bL0.lt
  have bO := bO0.below hb1 bO0.lt
  have bA := bA0.below hb1 bA0.lt
  have cL : w1.cell? ⟨w.heap.size, 0, none⟩ = some (.slice A l.length c) := bL.cell 0
  have cO0 : w1.cell? ⟨w.heap.size + 1, 0, none⟩ = some (.int .u8 15) := bO.cell 0
  have cO1 : w1.cell? ⟨w.heap.size + 1, 1, none⟩ = some (.int .i64 o.key) := bO.cell 1
  have cO3 : w1.cell? ⟨w.heap.size + 1, 3, none⟩ = some (.int .i64 o.to) := bO.cell 3
  have cO4 : w1.cell? ⟨w.heap.size + 1, 4, none⟩ = some (.int .i64 o.n) := bO.cell 4
  clear bL0 bO0 bA0 hb1 hb0
  have f0 := bA.frozen 0
  have f1 := bA.frozen 1
  have f2 := bA.frozen 2
  have f3 := bA.frozen 3
  have g0 : w1.cell? ⟨w.heap.size + 1 + 1, 0, none⟩ = some (.int .i64 0) := bA.cell 0
  have g1 : w1.cell? ⟨w.heap.size + 1 + 1, 1, none⟩ = some (.int .i64 0) := bA.cell 1
  have g2 : w1.cell? ⟨w.heap.size + 1 + 1, 2, none⟩ = some (.int .i64 0) := bA.cell 2
  have g3 : w1.cell? ⟨w.heap.size + 1 + 1, 3, none⟩ = some (.slice none 0 0) := bA.cell 3
  go_wp2_with fail
  have bA2 : Blk (w1.setCell ⟨w.heap.size + 1 + 1, 2, none⟩ (.int .i64 (l.length : Nat))) (w.heap.size + 1 + 1) 30 #[.int .i64 0, .int .i64 0, .int .i64 (l.length : Nat), .slice none 0 0] := by
    have := bA.set_ 2 (.int .i64 (l.length : Nat))
    simpa using this
  have hb2 := hb01.setCell (p := ⟨w.heap.size + 1 + 1, 2, none⟩) (show w.heap.size ≤ w.heap.size + 1 + 1 by omega) (.int .i64 (l.length : Nat))
  have e4 := four bA2 (.int .i64 0) (.int .i64 0) (.int .i64 (l.length : Nat)) (.slice none 0 0)
  have h0 := e4.cell 0
  have h1 := e4.cell 1
  have h2 := e4.cell 2
  have h3 := e4.cell 3
  have hb4 := fourB hb2 (show w.heap.size ≤ w.heap.size + 1 + 1 by omega) (.int .i64 0) (.int .i64 0) (.int .i64 (l.length : Nat)) (.slice none 0 0)
  refine bodyPost_ret (v := .tuple #[.agg #[.int .i64 0, .int .i64 0, .int .i64 (l.length : Nat), .slice none 0 0], .int .i64 (0), .bool true]) (by simp [results, Try.results28, go_sem, h0, h1, h2, h3]) rfl ?_
  exact ⟨none, 0, by simp [askA, askE, known, hk], by simp [askA, hk]; exact Fr.nil, hb4⟩
end Go.Proofs.Ytibgpghlnfcilaa
