/- Contracts: what an operation that turns nothing answers. -/
import Derived.Test.YtibgpghlnfcilaaMp
namespace Go.Proofs.Ytibgpghlnfcilaa
open Go Go.RowKit
set_option maxRecDepth 100000

theorem oneA_in {l : List Pr} {k : Nat} (h : k < l.length) : oneA l (k : Int) = ⟨l[k]'h, 0, []⟩ := by
  unfold oneA
  rw [if_pos (by omega)]
  simp [h]
theorem oneE_in {l : List Pr} {k : Nat} (h : k < l.length) : oneE l (k : Int) = 0 := by
  unfold oneE
  rw [if_pos (by omega)]
theorem oneA_out {l : List Pr} {k : Int} (h : ¬ (0 ≤ k ∧ k < l.length)) : oneA l k = noAns := by unfold oneA; rw [if_neg h]
theorem oneE_out {l : List Pr} {k : Int} (h : ¬ (0 ≤ k ∧ k < l.length)) : oneE l k = 6 := by unfold oneE; rw [if_neg h]

set_option maxHeartbeats 1600000 in
theorem one_any (A : Option Addr) (l : List Pr) (c b : Nat) (k : Int) (w : World) (hA : Sl w A (l.flatMap Pr.cells)) (_hl : l.length ≤ 1000000) (hb : Blk w b 24 #[.slice A l.length c]) :
    Calls Try.prog 34 #[.int .i64 k, .pointer (some ⟨b, 0, none⟩)] w fun r w' => r = .returned (.tuple #[.agg #[.int .i64 (oneA l k).pair.key, .int .i64 (oneA l k).pair.val, .int .i64 (oneA l k).n, .slice none 0 0], .int .i64 (oneE l k), .bool true]) ∧ Below w.heap.size w w' := by
  have hb0 : Below w.heap.size w (w.alloc (.cells #[.int .i64 0, .int .i64 0, .int .i64 0, .slice none 0 0] 30)) := (Below.refl _ _).alloc (Nat.le_refl _) _
  have hx0 : Blk (w.alloc (.cells #[.int .i64 0, .int .i64 0, .int .i64 0, .slice none 0 0] 30)) w.heap.size 30 #[.int .i64 0, .int .i64 0, .int .i64 0, .slice none 0 0] := Blk.new _ _ _
  have cL : (w.alloc (.cells #[.int .i64 0, .int .i64 0, .int .i64 0, .slice none 0 0] 30)).cell? ⟨b, 0, none⟩ = some (.slice A l.length c) := (hb.alloc _).cell 0
  by_cases h : 0 ≤ k ∧ k < l.length
  · obtain ⟨n, rfl⟩ : ∃ n : Nat, k = n := ⟨k.toNat, by omega⟩
    have hn : n < l.length := by omega
    obtain ⟨b', off, rfl, hbl, c1, c2⟩ := hA.prB hb0 n hn
    have f0 := hx0.frozen 0
    have f1 := hx0.frozen 1
    have f2 := hx0.frozen 2
    have f3 := hx0.frozen 3
    have g0 := hx0.cell 0
    have g1 := hx0.cell 1
    have g2 := hx0.cell 2
    have g3 := hx0.cell 3
    have hi1 : (0 : Int) ≤ (n : Int) := by omega
    have hi2 : (n : Int) < (l.length : Int) := by omega
    obtain ⟨p, hp⟩ : ∃ p, l[n]'hn = p := ⟨_, rfl⟩
    rw [hp] at c1 c2
    have hO := Lib.hid (oneA_in hn)
    have hE := Lib.hid (oneE_in hn)
    rw [hp] at hO
    clear h hp
    go_enter Try.func34, Try.ntmps34
    go_wp2_with fail
    rw [hO.out, hE.out]
    exact bodyPost_ret (v := .tuple #[.agg #[.int .i64 p.key, .int .i64 p.val, .int .i64 0, .slice none 0 0], .int .i64 0, .bool true]) (by simp [results, Try.results34, go_sem]) rfl ⟨rfl, (Below.refl _ _).alloc (Nat.le_refl _) _⟩
  · have hO := Lib.hid (oneA_out h)
    have hE := Lib.hid (oneE_out h)
    by_cases h0 : k < 0
    · clear h
      go_enter Try.func34, Try.ntmps34
      go_wp2_with fail
      rw [hO.out, hE.out]
      exact bodyPost_ret (v := .tuple #[.agg #[.int .i64 0, .int .i64 0, .int .i64 0, .slice none 0 0], .int .i64 6, .bool true]) (by simp [results, Try.results34, go_sem]) rfl ⟨rfl, (Below.refl _ _).alloc (Nat.le_refl _) _⟩
    · have h1 : ((l.length : Nat) : Int) ≤ k := by omega
      clear h
      go_enter Try.func34, Try.ntmps34
      go_wp2_with fail
      rw [hO.out, hE.out]
      exact bodyPost_ret (v := .tuple #[.agg #[.int .i64 0, .int .i64 0, .int .i64 0, .slice none 0 0], .int .i64 6, .bool true]) (by simp [results, Try.results34, go_sem]) rfl ⟨rfl, (Below.refl _ _).alloc (Nat.le_refl _) _⟩

/-- hands back an answer, an error, and whether the operation was such a one -/
def GivesAsk (a : Answ) (e : Int) (b : Bool) (w : World) (r : Ending) (w' : World) : Prop :=
  ∃ A c, r = .returned (.tuple #[.agg #[.int .i64 a.pair.key, .int .i64 a.pair.val, .int .i64 a.n, .slice A a.pairs.length c], .int .i64 e, .bool b]) ∧ Fr w' w.heap.size 23 A c a.pairs ∧ Below w.heap.size w w'


theorem four {w : World} {b : Nat} {t : TypeId} {x0 x1 x2 x3 : Value} (h : Blk w b t #[x0, x1, x2, x3]) (y0 y1 y2 y3 : Value) :
    Blk ((((w.setCell ⟨b, 0, none⟩ y0).setCell ⟨b, 1, none⟩ y1).setCell ⟨b, 2, none⟩ y2).setCell ⟨b, 3, none⟩ y3) b t #[y0, y1, y2, y3] := by
  have := (((h.set_ 0 y0).set_ 1 y1).set_ 2 y2).set_ 3 y3
  simpa using this
theorem fourB {w w' : World} {B b : Nat} (h : Below B w w') (hb : B ≤ b) (y0 y1 y2 y3 : Value) :
    Below B w ((((w'.setCell ⟨b, 0, none⟩ y0).setCell ⟨b, 1, none⟩ y1).setCell ⟨b, 2, none⟩ y2).setCell ⟨b, 3, none⟩ y3) :=
  (((h.setCell (p := ⟨b, 0, none⟩) hb _).setCell (p := ⟨b, 1, none⟩) hb _).setCell (p := ⟨b, 2, none⟩) hb _).setCell (p := ⟨b, 3, none⟩) hb _
theorem oneA_pairs (l : List Pr) (k : Int) : (oneA l k).pairs = [] := by unfold oneA; split <;> rfl
theorem give_one {a : Answ} {l : List Pr} {w w' : World} {e e' : Int} {b b' : Bool} (k : Int) (h : Below w.heap.size w w') (ha : a = oneA l k) (he : e = e') (hk : b = b') :
    GivesAsk a e b w (.returned (.tuple #[.agg #[.int .i64 (oneA l k).pair.key, .int .i64 (oneA l k).pair.val, .int .i64 (oneA l k).n, .slice none 0 0], .int .i64 e', .bool b'])) w' := by
  subst ha he hk
  refine ⟨none, 0, ?_, ?_, h⟩
  · rw [oneA_pairs]; rfl
  · rw [oneA_pairs]; exact Fr.nil

set_option maxHeartbeats 1600000 in
theorem ask6 (A : Option Addr) (l : List Pr) (c : Nat) (o : Opn) (Ao : Option Addr) (co : Nat) (w : World) (hA : Sl w A (l.flatMap Pr.cells)) (hl : l.length ≤ 1000000) (_hlc : l.length ≤ c) (hr : Hid (Ris l)) (hk : o.kind = 6) :
    Calls Try.prog 28 #[.slice A l.length c, .agg #[.int .u8 o.kind, .int .i64 o.key, .int .i64 o.val, .int .i64 o.to, .int .i64 o.n, .slice Ao o.pairs.length co]] w (GivesAsk (askA l o) (askE l o) (known o) w) := by
  have hmf : ∀ (fn : Fn) (first cap : Array Value) (w : World), (Instr.makeFunc fn first cap).run Try.prog w = .ok (.func fn first cap) w := fun _ _ _ _ => rfl
  have hb0 : Below w.heap.size w (((w.alloc (.cells #[.slice A l.length c] 24)).alloc (.cells #[.int .u8 6, .int .i64 o.key, .int .i64 o.val, .int .i64 o.to, .int .i64 o.n, .slice Ao o.pairs.length co] 28)).alloc (.cells #[.int .i64 0, .int .i64 0, .int .i64 0, .slice none 0 0] 30)) := (((Below.refl _ _).alloc (Nat.le_refl _) _).alloc (by simp) _).alloc (by simp; omega) _
  have bL0 : Blk (((w.alloc (.cells #[.slice A l.length c] 24)).alloc (.cells #[.int .u8 6, .int .i64 o.key, .int .i64 o.val, .int .i64 o.to, .int .i64 o.n, .slice Ao o.pairs.length co] 28)).alloc (.cells #[.int .i64 0, .int .i64 0, .int .i64 0, .slice none 0 0] 30)) w.heap.size 24 #[.slice A l.length c] := ((Blk.new w _ _).alloc _).alloc _
  have bO0 : Blk (((w.alloc (.cells #[.slice A l.length c] 24)).alloc (.cells #[.int .u8 6, .int .i64 o.key, .int .i64 o.val, .int .i64 o.to, .int .i64 o.n, .slice Ao o.pairs.length co] 28)).alloc (.cells #[.int .i64 0, .int .i64 0, .int .i64 0, .slice none 0 0] 30)) (w.heap.size + 1) 28 #[.int .u8 6, .int .i64 o.key, .int .i64 o.val, .int .i64 o.to, .int .i64 o.n, .slice Ao o.pairs.length co] := by
    have := (Blk.new (w.alloc (.cells #[.slice A l.length c] 24)) 28 #[.int .u8 6, .int .i64 o.key, .int .i64 o.val, .int .i64 o.to, .int .i64 o.n, .slice Ao o.pairs.length co]).alloc (.cells #[.int .i64 0, .int .i64 0, .int .i64 0, .slice none 0 0] 30)
    rwa [World.size_alloc] at this
  have bA0 : Blk (((w.alloc (.cells #[.slice A l.length c] 24)).alloc (.cells #[.int .u8 6, .int .i64 o.key, .int .i64 o.val, .int .i64 o.to, .int .i64 o.n, .slice Ao o.pairs.length co] 28)).alloc (.cells #[.int .i64 0, .int .i64 0, .int .i64 0, .slice none 0 0] 30)) (w.heap.size + 1 + 1) 30 #[.int .i64 0, .int .i64 0, .int .i64 0, .slice none 0 0] := by
    have := Blk.new ((w.alloc (.cells #[.slice A l.length c] 24)).alloc (.cells #[.int .u8 6, .int .i64 o.key, .int .i64 o.val, .int .i64 o.to, .int .i64 o.n, .slice Ao o.pairs.length co] 28)) 30 #[.int .i64 0, .int .i64 0, .int .i64 0, .slice none 0 0]
    rwa [World.size_alloc, World.size_alloc] at this
  go_enter Try.func28, Try.ntmps28
  go_wp2_with fail
  refine (rank_any A l c o.key _ (hA.below hb0) (by omega) hr).mono ?_
  rintro e w1 ⟨rfl, hb1⟩
  have hb01 := bext hb0 hb1
  have bL := bL0.below hb1 bL0.lt
  have bO := bO0.below hb1 bO0.lt
  have bA := bA0.below hb1 bA0.lt
  have cL : w1.cell? ⟨w.heap.size, 0, none⟩ = some (.slice A l.length c) := bL.cell 0
  have cO0 : w1.cell? ⟨w.heap.size + 1, 0, none⟩ = some (.int .u8 6) := bO.cell 0
  have cO1 : w1.cell? ⟨w.heap.size + 1, 1, none⟩ = some (.int .i64 o.key) := bO.cell 1
  have cO3 : w1.cell? ⟨w.heap.size + 1, 3, none⟩ = some (.int .i64 o.to) := bO.cell 3
  have cO4 : w1.cell? ⟨w.heap.size + 1, 4, none⟩ = some (.int .i64 o.n) := bO.cell 4
  clear bL0 bO0 bA0 hb1 hb0
  go_wp2_with fail
  refine (one_any A l c w.heap.size (0) _ (hA.below hb01) hl bL).mono ?_
  rintro e w9 ⟨rfl, hb9⟩
  have hb09 := bext hb01 hb9
  have bA9 := bA.below hb9 bA.lt
  have f0 := bA9.frozen 0
  have f1 := bA9.frozen 1
  have f2 := bA9.frozen 2
  have f3 := bA9.frozen 3
  have g0 : w9.cell? ⟨w.heap.size + 1 + 1, 0, none⟩ = some (.int .i64 0) := bA9.cell 0
  have g1 : w9.cell? ⟨w.heap.size + 1 + 1, 1, none⟩ = some (.int .i64 0) := bA9.cell 1
  have g2 : w9.cell? ⟨w.heap.size + 1 + 1, 2, none⟩ = some (.int .i64 0) := bA9.cell 2
  have g3 : w9.cell? ⟨w.heap.size + 1 + 1, 3, none⟩ = some (.slice none 0 0) := bA9.cell 3
  go_wp2_with fail
  have e4 := four bA9 (.int .i64 (oneA l (0)).pair.key) (.int .i64 (oneA l (0)).pair.val) (.int .i64 (oneA l (0)).n) (.slice none 0 0)
  have h0 := e4.cell 0
  have h1 := e4.cell 1
  have h2 := e4.cell 2
  have h3 := e4.cell 3
  have hb4 := fourB hb09 (show w.heap.size ≤ w.heap.size + 1 + 1 by omega) (.int .i64 (oneA l (0)).pair.key) (.int .i64 (oneA l (0)).pair.val) (.int .i64 (oneA l (0)).n) (.slice none 0 0)
  refine bodyPost_ret (v := .tuple #[.agg #[.int .i64 (oneA l (0)).pair.key, .int .i64 (oneA l (0)).pair.val, .int .i64 (oneA l (0)).n, .slice none 0 0], .int .i64 (oneE l (0)), .bool true]) (by simp [results, Try.results28, go_sem, h0, h1, h2, h3]) rfl ?_
  exact give_one (0) hb4 (by simp [askA, hk]) (by simp [askE, hk]) (by simp [known, hk])

set_option maxHeartbeats 1600000 in
theorem ask7 (A : Option Addr) (l : List Pr) (c : Nat) (o : Opn) (Ao : Option Addr) (co : Nat) (w : World) (hA : Sl w A (l.flatMap Pr.cells)) (hl : l.length ≤ 1000000) (_hlc : l.length ≤ c) (hr : Hid (Ris l)) (hk : o.kind = 7) :
    Calls Try.prog 28 #[.slice A l.length c, .agg #[.int .u8 o.kind, .int .i64 o.key, .int .i64 o.val, .int .i64 o.to, .int .i64 o.n, .slice Ao o.pairs.length co]] w (GivesAsk (askA l o) (askE l o) (known o) w) := by
  have hmf : ∀ (fn : Fn) (first cap : Array Value) (w : World), (Instr.makeFunc fn first cap).run Try.prog w = .ok (.func fn first cap) w := fun _ _ _ _ => rfl
  have hb0 : Below w.heap.size w (((w.alloc (.cells #[.slice A l.length c] 24)).alloc (.cells #[.int .u8 7, .int .i64 o.key, .int .i64 o.val, .int .i64 o.to, .int .i64 o.n, .slice Ao o.pairs.length co] 28)).alloc (.cells #[.int .i64 0, .int .i64 0, .int .i64 0, .slice none 0 0] 30)) := (((Below.refl _ _).alloc (Nat.le_refl _) _).alloc (by simp) _).alloc (by simp; omega) _
  have bL0 : Blk (((w.alloc (.cells #[.slice A l.length c] 24)).alloc (.cells #[.int .u8 7, .int .i64 o.key, .int .i64 o.val, .int .i64 o.to, .int .i64 o.n, .slice Ao o.pairs.length co] 28)).alloc (.cells #[.int .i64 0, .int .i64 0, .int .i64 0, .slice none 0 0] 30)) w.heap.size 24 #[.slice A l.length c] := ((Blk.new w _ _).alloc _).alloc _
  have bO0 : Blk (((w.alloc (.cells #[.slice A l.length c] 24)).alloc (.cells #[.int .u8 7, .int .i64 o.key, .int .i64 o.val, .int .i64 o.to, .int .i64 o.n, .slice Ao o.pairs.length co] 28)).alloc (.cells #[.int .i64 0, .int .i64 0, .int .i64 0, .slice none 0 0] 30)) (w.heap.size + 1) 28 #[.int .u8 7, .int .i64 o.key, .int .i64 o.val, .int .i64 o.to, .int .i64 o.n, .slice Ao o.pairs.length co] := by
    have := (Blk.new (w.alloc (.cells #[.slice A l.length c] 24)) 28 #[.int .u8 7, .int .i64 o.key, .int .i64 o.val, .int .i64 o.to, .int .i64 o.n, .slice Ao o.pairs.length co]).alloc (.cells #[.int .i64 0, .int .i64 0, .int .i64 0, .slice none 0 0] 30)
    rwa [World.size_alloc] at this
  have bA0 : Blk (((w.alloc (.cells #[.slice A l.length c] 24)).alloc (.cells #[.int .u8 7, .int .i64 o.key, .int .i64 o.val, .int .i64 o.to, .int .i64 o.n, .slice Ao o.pairs.length co] 28)).alloc (.cells #[.int .i64 0, .int .i64 0, .int .i64 0, .slice none 0 0] 30)) (w.heap.size + 1 + 1) 30 #[.int .i64 0, .int .i64 0, .int .i64 0, .slice none 0 0] := by
    have := Blk.new ((w.alloc (.cells #[.slice A l.length c] 24)).alloc (.cells #[.int .u8 7, .int .i64 o.key, .int .i64 o.val, .int .i64 o.to, .int .i64 o.n, .slice Ao o.pairs.length co] 28)) 30 #[.int .i64 0, .int .i64 0, .int .i64 0, .slice none 0 0]
    rwa [World.size_alloc, World.size_alloc] at this
  go_enter Try.func28, Try.ntmps28
  go_wp2_with fail
  refine (rank_any A l c o.key _ (hA.below hb0) (by omega) hr).mono ?_
  rintro e w1 ⟨rfl, hb1⟩
  have hb01 := bext hb0 hb1
  have bL := bL0.below hb1 bL0.lt
  have bO := bO0.below hb1 bO0.lt
  have bA := bA0.below hb1 bA0.lt
  have cL : w1.cell? ⟨w.heap.size, 0, none⟩ = some (.slice A l.length c) := bL.cell 0
  have cO0 : w1.cell? ⟨w.heap.size + 1, 0, none⟩ = some (.int .u8 7) := bO.cell 0
  have cO1 : w1.cell? ⟨w.heap.size + 1, 1, none⟩ = some (.int .i64 o.key) := bO.cell 1
  have cO3 : w1.cell? ⟨w.heap.size + 1, 3, none⟩ = some (.int .i64 o.to) := bO.cell 3
  have cO4 : w1.cell? ⟨w.heap.size + 1, 4, none⟩ = some (.int .i64 o.n) := bO.cell 4
  clear bL0 bO0 bA0 hb1 hb0
  go_wp2_with fail
  refine (one_any A l c w.heap.size ((l.length : Int) - 1) _ (hA.below hb01) hl bL).mono ?_
  rintro e w9 ⟨rfl, hb9⟩
  have hb09 := bext hb01 hb9
  have bA9 := bA.below hb9 bA.lt
  have f0 := bA9.frozen 0
  have f1 := bA9.frozen 1
  have f2 := bA9.frozen 2
  have f3 := bA9.frozen 3
  have g0 : w9.cell? ⟨w.heap.size + 1 + 1, 0, none⟩ = some (.int .i64 0) := bA9.cell 0
  have g1 : w9.cell? ⟨w.heap.size + 1 + 1, 1, none⟩ = some (.int .i64 0) := bA9.cell 1
  have g2 : w9.cell? ⟨w.heap.size + 1 + 1, 2, none⟩ = some (.int .i64 0) := bA9.cell 2
  have g3 : w9.cell? ⟨w.heap.size + 1 + 1, 3, none⟩ = some (.slice none 0 0) := bA9.cell 3
  go_wp2_with fail
  have e4 := four bA9 (.int .i64 (oneA l ((l.length : Int) - 1)).pair.key) (.int .i64 (oneA l ((l.length : Int) - 1)).pair.val) (.int .i64 (oneA l ((l.length : Int) - 1)).n) (.slice none 0 0)
  have h0 := e4.cell 0
  have h1 := e4.cell 1
  have h2 := e4.cell 2
  have h3 := e4.cell 3
  have hb4 := fourB hb09 (show w.heap.size ≤ w.heap.size + 1 + 1 by omega) (.int .i64 (oneA l ((l.length : Int) - 1)).pair.key) (.int .i64 (oneA l ((l.length : Int) - 1)).pair.val) (.int .i64 (oneA l ((l.length : Int) - 1)).n) (.slice none 0 0)
  refine bodyPost_ret (v := .tuple #[.agg #[.int .i64 (oneA l ((l.length : Int) - 1)).pair.key, .int .i64 (oneA l ((l.length : Int) - 1)).pair.val, .int .i64 (oneA l ((l.length : Int) - 1)).n, .slice none 0 0], .int .i64 (oneE l ((l.length : Int) - 1)), .bool true]) (by simp [results, Try.results28, go_sem, h0, h1, h2, h3]) rfl ?_
  exact give_one ((l.length : Int) - 1) hb4 (by simp [askA, hk]) (by simp [askE, hk]) (by simp [known, hk])

set_option maxHeartbeats 1600000 in
theorem ask5 (A : Option Addr) (l : List Pr) (c : Nat) (o : Opn) (Ao : Option Addr) (co : Nat) (w : World) (hA : Sl w A (l.flatMap Pr.cells)) (hl : l.length ≤ 1000000) (_hlc : l.length ≤ c) (hr : Hid (Ris l)) (hk : o.kind = 5) :
    Calls Try.prog 28 #[.slice A l.length c, .agg #[.int .u8 o.kind, .int .i64 o.key, .int .i64 o.val, .int .i64 o.to, .int .i64 o.n, .slice Ao o.pairs.length co]] w (GivesAsk (askA l o) (askE l o) (known o) w) := by
  have hmf : ∀ (fn : Fn) (first cap : Array Value) (w : World), (Instr.makeFunc fn first cap).run Try.prog w = .ok (.func fn first cap) w := fun _ _ _ _ => rfl
  have hb0 : Below w.heap.size w (((w.alloc (.cells #[.slice A l.length c] 24)).alloc (.cells #[.int .u8 5, .int .i64 o.key, .int .i64 o.val, .int .i64 o.to, .int .i64 o.n, .slice Ao o.pairs.length co] 28)).alloc (.cells #[.int .i64 0, .int .i64 0, .int .i64 0, .slice none 0 0] 30)) := (((Below.refl _ _).alloc (Nat.le_refl _) _).alloc (by simp) _).alloc (by simp; omega) _
  have bL0 : Blk (((w.alloc (.cells #[.slice A l.length c] 24)).alloc (.cells #[.int .u8 5, .int .i64 o.key, .int .i64 o.val, .int .i64 o.to, .int .i64 o.n, .slice Ao o.pairs.length co] 28)).alloc (.cells #[.int .i64 0, .int .i64 0, .int .i64 0, .slice none 0 0] 30)) w.heap.size 24 #[.slice A l.length c] := ((Blk.new w _ _).alloc _).alloc _
  have bO0 : Blk (((w.alloc (.cells #[.slice A l.length c] 24)).alloc (.cells #[.int .u8 5, .int .i64 o.key, .int .i64 o.val, .int .i64 o.to, .int .i64 o.n, .slice Ao o.pairs.length co] 28)).alloc (.cells #[.int .i64 0, .int .i64 0, .int .i64 0, .slice none 0 0] 30)) (w.heap.size + 1) 28 #[.int .u8 5, .int .i64 o.key, .int .i64 o.val, .int .i64 o.to, .int .i64 o.n, .slice Ao o.pairs.length co] := by
    have := (Blk.new (w.alloc (.cells #[.slice A l.length c] 24)) 28 #[.int .u8 5, .int .i64 o.key, .int .i64 o.val, .int .i64 o.to, .int .i64 o.n, .slice Ao o.pairs.length co]).alloc (.cells #[.int .i64 0, .int .i64 0, .int .i64 0, .slice none 0 0] 30)
    rwa [World.size_alloc] at this
  have bA0 : Blk (((w.alloc (.cells #[.slice A l.length c] 24)).alloc (.cells #[.int .u8 5, .int .i64 o.key, .int .i64 o.val, .int .i64 o.to, .int .i64 o.n, .slice Ao o.pairs.length co] 28)).alloc (.cells #[.int .i64 0, .int .i64 0, .int .i64 0, .slice none 0 0] 30)) (w.heap.size + 1 + 1) 30 #[.int .i64 0, .int .i64 0, .int .i64 0, .slice none 0 0] := by
    have := Blk.new ((w.alloc (.cells #[.slice A l.length c] 24)).alloc (.cells #[.int .u8 5, .int .i64 o.key, .int .i64 o.val, .int .i64 o.to, .int .i64 o.n, .slice Ao o.pairs.length co] 28)) 30 #[.int .i64 0, .int .i64 0, .int .i64 0, .slice none 0 0]
    rwa [World.size_alloc, World.size_alloc] at this
  go_enter Try.func28, Try.ntmps28
  go_wp2_with fail
  refine (rank_any A l c o.key _ (hA.below hb0) (by omega) hr).mono ?_
  rintro e w1 ⟨rfl, hb1⟩
  have hb01 := bext hb0 hb1
  have bL := bL0.below hb1 bL0.lt
  have bO := bO0.below hb1 bO0.lt
  have bA := bA0.below hb1 bA0.lt
  have cL : w1.cell? ⟨w.heap.size, 0, none⟩ = some (.slice A l.length c) := bL.cell 0
  have cO0 : w1.cell? ⟨w.heap.size + 1, 0, none⟩ = some (.int .u8 5) := bO.cell 0
  have cO1 : w1.cell? ⟨w.heap.size + 1, 1, none⟩ = some (.int .i64 o.key) := bO.cell 1
  have cO3 : w1.cell? ⟨w.heap.size + 1, 3, none⟩ = some (.int .i64 o.to) := bO.cell 3
  have cO4 : w1.cell? ⟨w.heap.size + 1, 4, none⟩ = some (.int .i64 o.n) := bO.cell 4
  clear bL0 bO0 bA0 hb1 hb0
  go_wp2_with fail
  refine (one_any A l c w.heap.size ((bel l o.key : Nat)) _ (hA.below hb01) hl bL).mono ?_
  rintro e w9 ⟨rfl, hb9⟩
  have hb09 := bext hb01 hb9
  have bA9 := bA.below hb9 bA.lt
  have f0 := bA9.frozen 0
  have f1 := bA9.frozen 1
  have f2 := bA9.frozen 2
  have f3 := bA9.frozen 3
  have g0 : w9.cell? ⟨w.heap.size + 1 + 1, 0, none⟩ = some (.int .i64 0) := bA9.cell 0
  have g1 : w9.cell? ⟨w.heap.size + 1 + 1, 1, none⟩ = some (.int .i64 0) := bA9.cell 1
  have g2 : w9.cell? ⟨w.heap.size + 1 + 1, 2, none⟩ = some (.int .i64 0) := bA9.cell 2
  have g3 : w9.cell? ⟨w.heap.size + 1 + 1, 3, none⟩ = some (.slice none 0 0) := bA9.cell 3
  go_wp2_with fail
  have e4 := four bA9 (.int .i64 (oneA l ((bel l o.key : Nat))).pair.key) (.int .i64 (oneA l ((bel l o.key : Nat))).pair.val) (.int .i64 (oneA l ((bel l o.key : Nat))).n) (.slice none 0 0)
  have h0 := e4.cell 0
  have h1 := e4.cell 1
  have h2 := e4.cell 2
  have h3 := e4.cell 3
  have hb4 := fourB hb09 (show w.heap.size ≤ w.heap.size + 1 + 1 by omega) (.int .i64 (oneA l ((bel l o.key : Nat))).pair.key) (.int .i64 (oneA l ((bel l o.key : Nat))).pair.val) (.int .i64 (oneA l ((bel l o.key : Nat))).n) (.slice none 0 0)
  refine bodyPost_ret (v := .tuple #[.agg #[.int .i64 (oneA l ((bel l o.key : Nat))).pair.key, .int .i64 (oneA l ((bel l o.key : Nat))).pair.val, .int .i64 (oneA l ((bel l o.key : Nat))).n, .slice none 0 0], .int .i64 (oneE l ((bel l o.key : Nat))), .bool true]) (by simp [results, Try.results28, go_sem, h0, h1, h2, h3]) rfl ?_
  exact give_one ((bel l o.key : Nat)) hb4 (by simp [askA, hk]) (by simp [askE, hk]) (by simp [known, hk])

set_option maxHeartbeats 1600000 in
theorem ask1a (A : Option Addr) (l : List Pr) (c : Nat) (o : Opn) (Ao : Option Addr) (co : Nat) (w : World) (hA : Sl w A (l.flatMap Pr.cells)) (hl : l.length ≤ 1000000) (_hlc : l.length ≤ c) (hr : Hid (Ris l)) (hk : o.kind = 1) (hh : has l o.key = true) :
    Calls Try.prog 28 #[.slice A l.length c, .agg #[.int .u8 o.kind, .int .i64 o.key, .int .i64 o.val, .int .i64 o.to, .int .i64 o.n, .slice Ao o.pairs.length co]] w (GivesAsk (askA l o) (askE l o) (known o) w) := by
  have hmf : ∀ (fn : Fn) (first cap : Array Value) (w : World), (Instr.makeFunc fn first cap).run Try.prog w = .ok (.func fn first cap) w := fun _ _ _ _ => rfl
  have hb0 : Below w.heap.size w (((w.alloc (.cells #[.slice A l.length c] 24)).alloc (.cells #[.int .u8 1, .int .i64 o.key, .int .i64 o.val, .int .i64 o.to, .int .i64 o.n, .slice Ao o.pairs.length co] 28)).alloc (.cells #[.int .i64 0, .int .i64 0, .int .i64 0, .slice none 0 0] 30)) := (((Below.refl _ _).alloc (Nat.le_refl _) _).alloc (by simp) _).alloc (by simp; omega) _
  have bL0 : Blk (((w.alloc (.cells #[.slice A l.length c] 24)).alloc (.cells #[.int .u8 1, .int .i64 o.key, .int .i64 o.val, .int .i64 o.to, .int .i64 o.n, .slice Ao o.pairs.length co] 28)).alloc (.cells #[.int .i64 0, .int .i64 0, .int .i64 0, .slice none 0 0] 30)) w.heap.size 24 #[.slice A l.length c] := ((Blk.new w _ _).alloc _).alloc _
  have bO0 : Blk (((w.alloc (.cells #[.slice A l.length c] 24)).alloc (.cells #[.int .u8 1, .int .i64 o.key, .int .i64 o.val, .int .i64 o.to, .int .i64 o.n, .slice Ao o.pairs.length co] 28)).alloc (.cells #[.int .i64 0, .int .i64 0, .int .i64 0, .slice none 0 0] 30)) (w.heap.size + 1) 28 #[.int .u8 1, .int .i64 o.key, .int .i64 o.val, .int .i64 o.to, .int .i64 o.n, .slice Ao o.pairs.length co] := by
    have := (Blk.new (w.alloc (.cells #[.slice A l.length c] 24)) 28 #[.int .u8 1, .int .i64 o.key, .int .i64 o.val, .int .i64 o.to, .int .i64 o.n, .slice Ao o.pairs.length co]).alloc (.cells #[.int .i64 0, .int .i64 0, .int .i64 0, .slice none 0 0] 30)
    rwa [World.size_alloc] at this
  have bA0 : Blk (((w.alloc (.cells #[.slice A l.length c] 24)).alloc (.cells #[.int .u8 1, .int .i64 o.key, .int .i64 o.val, .int .i64 o.to, .int .i64 o.n, .slice Ao o.pairs.length co] 28)).alloc (.cells #[.int .i64 0, .int .i64 0, .int .i64 0, .slice none 0 0] 30)) (w.heap.size + 1 + 1) 30 #[.int .i64 0, .int .i64 0, .int .i64 0, .slice none 0 0] := by
    have := Blk.new ((w.alloc (.cells #[.slice A l.length c] 24)).alloc (.cells #[.int .u8 1, .int .i64 o.key, .int .i64 o.val, .int .i64 o.to, .int .i64 o.n, .slice Ao o.pairs.length co] 28)) 30 #[.int .i64 0, .int .i64 0, .int .i64 0, .slice none 0 0]
    rwa [World.size_alloc, World.size_alloc] at this
  go_enter Try.func28, Try.ntmps28
  go_wp2_with fail
  refine (rank_any A l c o.key _ (hA.below hb0) (by omega) hr).mono ?_
  rw [hh]; rintro e w1 ⟨rfl, hb1⟩
  have hb01 := bext hb0 hb1
  have bL := bL0.below hb1 bL0.lt
  have bO := bO0.below hb1 bO0.lt
  have bA := bA0.below hb1 bA0.lt
  have cL : w1.cell? ⟨w.heap.size, 0, none⟩ = some (.slice A l.length c) := bL.cell 0
  have cO0 : w1.cell? ⟨w.heap.size + 1, 0, none⟩ = some (.int .u8 1) := bO.cell 0
  have cO1 : w1.cell? ⟨w.heap.size + 1, 1, none⟩ = some (.int .i64 o.key) := bO.cell 1
  have cO3 : w1.cell? ⟨w.heap.size + 1, 3, none⟩ = some (.int .i64 o.to) := bO.cell 3
  have cO4 : w1.cell? ⟨w.heap.size + 1, 4, none⟩ = some (.int .i64 o.n) := bO.cell 4
  clear bL0 bO0 bA0 hb1 hb0
  go_wp2_with fail
  refine (one_any A l c w.heap.size ((bel l o.key : Nat)) _ (hA.below hb01) hl bL).mono ?_
  rintro e w9 ⟨rfl, hb9⟩
  have hb09 := bext hb01 hb9
  have bA9 := bA.below hb9 bA.lt
  have f0 := bA9.frozen 0
  have f1 := bA9.frozen 1
  have f2 := bA9.frozen 2
  have f3 := bA9.frozen 3
  have g0 : w9.cell? ⟨w.heap.size + 1 + 1, 0, none⟩ = some (.int .i64 0) := bA9.cell 0
  have g1 : w9.cell? ⟨w.heap.size + 1 + 1, 1, none⟩ = some (.int .i64 0) := bA9.cell 1
  have g2 : w9.cell? ⟨w.heap.size + 1 + 1, 2, none⟩ = some (.int .i64 0) := bA9.cell 2
  have g3 : w9.cell? ⟨w.heap.size + 1 + 1, 3, none⟩ = some (.slice none 0 0) := bA9.cell 3
  go_wp2_with fail
  have e4 := four bA9 (.int .i64 (oneA l ((bel l o.key : Nat))).pair.key) (.int .i64 (oneA l ((bel l o.key : Nat))).pair.val) (.int .i64 (oneA l ((bel l o.key : Nat))).n) (.slice none 0 0)
  have h0 := e4.cell 0
  have h1 := e4.cell 1
  have h2 := e4.cell 2
  have h3 := e4.cell 3
  have hb4 := fourB hb09 (show w.heap.size ≤ w.heap.size + 1 + 1 by omega) (.int .i64 (oneA l ((bel l o.key : Nat))).pair.key) (.int .i64 (oneA l ((bel l o.key : Nat))).pair.val) (.int .i64 (oneA l ((bel l o.key : Nat))).n) (.slice none 0 0)
  refine bodyPost_ret (v := .tuple #[.agg #[.int .i64 (oneA l ((bel l o.key : Nat))).pair.key, .int .i64 (oneA l ((bel l o.key : Nat))).pair.val, .int .i64 (oneA l ((bel l o.key : Nat))).n, .slice none 0 0], .int .i64 (oneE l (bel l o.key : Nat)), .bool true]) (by simp [results, Try.results28, go_sem, h0, h1, h2, h3]) rfl ?_
  exact give_one ((bel l o.key : Nat)) hb4 (by simp [askA, hk, hh]) (by simp [askE, hk, hh]) (by simp [known, hk])

set_option maxHeartbeats 1600000 in
theorem ask1b (A : Option Addr) (l : List Pr) (c : Nat) (o : Opn) (Ao : Option Addr) (co : Nat) (w : World) (hA : Sl w A (l.flatMap Pr.cells)) (hl : l.length ≤ 1000000) (_hlc : l.length ≤ c) (hr : Hid (Ris l)) (hk : o.kind = 1) (hh : has l o.key = false) :
    Calls Try.prog 28 #[.slice A l.length c, .agg #[.int .u8 o.kind, .int .i64 o.key, .int .i64 o.val, .int .i64 o.to, .int .i64 o.n, .slice Ao o.pairs.length co]] w (GivesAsk (askA l o) (askE l o) (known o) w) := by
  have hmf : ∀ (fn : Fn) (first cap : Array Value) (w : World), (Instr.makeFunc fn first cap).run Try.prog w = .ok (.func fn first cap) w := fun _ _ _ _ => rfl
  have hb0 : Below w.heap.size w (((w.alloc (.cells #[.slice A l.length c] 24)).alloc (.cells #[.int .u8 1, .int .i64 o.key, .int .i64 o.val, .int .i64 o.to, .int .i64 o.n, .slice Ao o.pairs.length co] 28)).alloc (.cells #[.int .i64 0, .int .i64 0, .int .i64 0, .slice none 0 0] 30)) := (((Below.refl _ _).alloc (Nat.le_refl _) _).alloc (by simp) _).alloc (by simp; omega) _
  have bL0 : Blk (((w.alloc (.cells #[.slice A l.length c] 24)).alloc (.cells #[.int .u8 1, .int .i64 o.key, .int .i64 o.val, .int .i64 o.to, .int .i64 o.n, .slice Ao o.pairs.length co] 28)).alloc (.cells #[.int .i64 0, .int .i64 0, .int .i64 0, .slice none 0 0] 30)) w.heap.size 24 #[.slice A l.length c] := ((Blk.new w _ _).alloc _).alloc _
  have bO0 : Blk (((w.alloc (.cells #[.slice A l.length c] 24)).alloc (.cells #[.int .u8 1, .int .i64 o.key, .int .i64 o.val, .int .i64 o.to, .int .i64 o.n, .slice Ao o.pairs.length co] 28)).alloc (.cells #[.int .i64 0, .int .i64 0, .int .i64 0, .slice none 0 0] 30)) (w.heap.size + 1) 28 #[.int .u8 1, .int .i64 o.key, .int .i64 o.val, .int .i64 o.to, .int .i64 o.n, .slice Ao o.pairs.length co] := by
    have := (Blk.new (w.alloc (.cells #[.slice A l.length c] 24)) 28 #[.int .u8 1, .int .i64 o.key, .int .i64 o.val, .int .i64 o.to, .int .i64 o.n, .slice Ao o.pairs.length co]).alloc (.cells #[.int .i64 0, .int .i64 0, .int .i64 0, .slice none 0 0] 30)
    rwa [World.size_alloc] at this
  have bA0 : Blk (((w.alloc (.cells #[.slice A l.length c] 24)).alloc (.cells #[.int .u8 1, .int .i64 o.key, .int .i64 o.val, .int .i64 o.to, .int .i64 o.n, .slice Ao o.pairs.length co] 28)).alloc (.cells #[.int .i64 0, .int .i64 0, .int .i64 0, .slice none 0 0] 30)) (w.heap.size + 1 + 1) 30 #[.int .i64 0, .int .i64 0, .int .i64 0, .slice none 0 0] := by
    have := Blk.new ((w.alloc (.cells #[.slice A l.length c] 24)).alloc (.cells #[.int .u8 1, .int .i64 o.key, .int .i64 o.val, .int .i64 o.to, .int .i64 o.n, .slice Ao o.pairs.length co] 28)) 30 #[.int .i64 0, .int .i64 0, .int .i64 0, .slice none 0 0]
    rwa [World.size_alloc, World.size_alloc] at this
  go_enter Try.func28, Try.ntmps28
  go_wp2_with fail
  refine (rank_any A l c o.key _ (hA.below hb0) (by omega) hr).mono ?_
  rw [hh]; rintro e w1 ⟨rfl, hb1⟩
  have hb01 := bext hb0 hb1
  have bL := bL0.below hb1 bL0.lt
  have bO := bO0.below hb1 bO0.lt
  have bA := bA0.below hb1 bA0.lt
  have cL : w1.cell? ⟨w.heap.size, 0, none⟩ = some (.slice A l.length c) := bL.cell 0
  have cO0 : w1.cell? ⟨w.heap.size + 1, 0, none⟩ = some (.int .u8 1) := bO.cell 0
  have cO1 : w1.cell? ⟨w.heap.size + 1, 1, none⟩ = some (.int .i64 o.key) := bO.cell 1
  have cO3 : w1.cell? ⟨w.heap.size + 1, 3, none⟩ = some (.int .i64 o.to) := bO.cell 3
  have cO4 : w1.cell? ⟨w.heap.size + 1, 4, none⟩ = some (.int .i64 o.n) := bO.cell 4
  clear bL0 bO0 bA0 hb1 hb0
  go_wp2_with fail
  refine (one_any A l c w.heap.size (-1) _ (hA.below hb01) hl bL).mono ?_
  rintro e w9 ⟨rfl, hb9⟩
  have hb09 := bext hb01 hb9
  have bA9 := bA.below hb9 bA.lt
  have f0 := bA9.frozen 0
  have f1 := bA9.frozen 1
  have f2 := bA9.frozen 2
  have f3 := bA9.frozen 3
  have g0 : w9.cell? ⟨w.heap.size + 1 + 1, 0, none⟩ = some (.int .i64 0) := bA9.cell 0
  have g1 : w9.cell? ⟨w.heap.size + 1 + 1, 1, none⟩ = some (.int .i64 0) := bA9.cell 1
  have g2 : w9.cell? ⟨w.heap.size + 1 + 1, 2, none⟩ = some (.int .i64 0) := bA9.cell 2
  have g3 : w9.cell? ⟨w.heap.size + 1 + 1, 3, none⟩ = some (.slice none 0 0) := bA9.cell 3
  go_wp2_with fail
  have e4 := four bA9 (.int .i64 (oneA l (-1)).pair.key) (.int .i64 (oneA l (-1)).pair.val) (.int .i64 (oneA l (-1)).n) (.slice none 0 0)
  have h0 := e4.cell 0
  have h1 := e4.cell 1
  have h2 := e4.cell 2
  have h3 := e4.cell 3
  have hb4 := fourB hb09 (show w.heap.size ≤ w.heap.size + 1 + 1 by omega) (.int .i64 (oneA l (-1)).pair.key) (.int .i64 (oneA l (-1)).pair.val) (.int .i64 (oneA l (-1)).n) (.slice none 0 0)
  refine bodyPost_ret (v := .tuple #[.agg #[.int .i64 (oneA l (-1)).pair.key, .int .i64 (oneA l (-1)).pair.val, .int .i64 (oneA l (-1)).n, .slice none 0 0], .int .i64 (oneE l (-1)), .bool true]) (by simp [results, Try.results28, go_sem, h0, h1, h2, h3]) rfl ?_
  exact give_one (-1) hb4 (by simp [askA, hk, hh]) (by simp [askE, hk, hh]) (by simp [known, hk])

set_option maxHeartbeats 1600000 in
theorem ask4 (A : Option Addr) (l : List Pr) (c : Nat) (o : Opn) (Ao : Option Addr) (co : Nat) (w : World) (hA : Sl w A (l.flatMap Pr.cells)) (hl : l.length ≤ 1000000) (_hlc : l.length ≤ c) (hr : Hid (Ris l)) (hk : o.kind = 4) :
    Calls Try.prog 28 #[.slice A l.length c, .agg #[.int .u8 o.kind, .int .i64 o.key, .int .i64 o.val, .int .i64 o.to, .int .i64 o.n, .slice Ao o.pairs.length co]] w (GivesAsk (askA l o) (askE l o) (known o) w) := by
  have hmf : ∀ (fn : Fn) (first cap : Array Value) (w : World), (Instr.makeFunc fn first cap).run Try.prog w = .ok (.func fn first cap) w := fun _ _ _ _ => rfl
  have hb0 : Below w.heap.size w (((w.alloc (.cells #[.slice A l.length c] 24)).alloc (.cells #[.int .u8 4, .int .i64 o.key, .int .i64 o.val, .int .i64 o.to, .int .i64 o.n, .slice Ao o.pairs.length co] 28)).alloc (.cells #[.int .i64 0, .int .i64 0, .int .i64 0, .slice none 0 0] 30)) := (((Below.refl _ _).alloc (Nat.le_refl _) _).alloc (by simp) _).alloc (by simp; omega) _
  have bL0 : Blk (((w.alloc (.cells #[.slice A l.length c] 24)).alloc (.cells #[.int .u8 4, .int .i64 o.key, .int .i64 o.val, .int .i64 o.to, .int .i64 o.n, .slice Ao o.pairs.length co] 28)).alloc (.cells #[.int .i64 0, .int .i64 0, .int .i64 0, .slice none 0 0] 30)) w.heap.size 24 #[.slice A l.length c] := ((Blk.new w _ _).alloc _).alloc _
  have bO0 : Blk (((w.alloc (.cells #[.slice A l.length c] 24)).alloc (.cells #[.int .u8 4, .int .i64 o.key, .int .i64 o.val, .int .i64 o.to, .int .i64 o.n, .slice Ao o.pairs.length co] 28)).alloc (.cells #[.int .i64 0, .int .i64 0, .int .i64 0, .slice none 0 0] 30)) (w.heap.size + 1) 28 #[.int .u8 4, .int .i64 o.key, .int .i64 o.val, .int .i64 o.to, .int .i64 o.n, .slice Ao o.pairs.length co] := by
    have := (Blk.new (w.alloc (.cells #[.slice A l.length c] 24)) 28 #[.int .u8 4, .int .i64 o.key, .int .i64 o.val, .int .i64 o.to, .int .i64 o.n, .slice Ao o.pairs.length co]).alloc (.cells #[.int .i64 0, .int .i64 0, .int .i64 0, .slice none 0 0] 30)
    rwa [World.size_alloc] at this
  have bA0 : Blk (((w.alloc (.cells #[.slice A l.length c] 24)).alloc (.cells #[.int .u8 4, .int .i64 o.key, .int .i64 o.val, .int .i64 o.to, .int .i64 o.n, .slice Ao o.pairs.length co] 28)).alloc (.cells #[.int .i64 0, .int .i64 0, .int .i64 0, .slice none 0 0] 30)) (w.heap.size + 1 + 1) 30 #[.int .i64 0, .int .i64 0, .int .i64 0, .slice none 0 0] := by
    have := Blk.new ((w.alloc (.cells #[.slice A l.length c] 24)).alloc (.cells #[.int .u8 4, .int .i64 o.key, .int .i64 o.val, .int .i64 o.to, .int .i64 o.n, .slice Ao o.pairs.length co] 28)) 30 #[.int .i64 0, .int .i64 0, .int .i64 0, .slice none 0 0]
    rwa [World.size_alloc, World.size_alloc] at this
  go_enter Try.func28, Try.ntmps28
  go_wp2_with fail
  refine (rank_any A l c o.key _ (hA.below hb0) (by omega) hr).mono ?_
  rintro e w1 ⟨rfl, hb1⟩
  have hb01 := bext hb0 hb1
  have bL := bL0.below hb1 bL0.lt
  have bO := bO0.below hb1 bO0.lt
  have bA := bA0.below hb1 bA0.lt
  have cL : w1.cell? ⟨w.heap.size, 0, none⟩ = some (.slice A l.length c) := bL.cell 0
  have cO0 : w1.cell? ⟨w.heap.size + 1, 0, none⟩ = some (.int .u8 4) := bO.cell 0
  have cO1 : w1.cell? ⟨w.heap.size + 1, 1, none⟩ = some (.int .i64 o.key) := bO.cell 1
  have cO3 : w1.cell? ⟨w.heap.size + 1, 3, none⟩ = some (.int .i64 o.to) := bO.cell 3
  have cO4 : w1.cell? ⟨w.heap.size + 1, 4, none⟩ = some (.int .i64 o.n) := bO.cell 4
  clear bL0 bO0 bA0 hb1 hb0
  go_wp2_with fail
  refine (up_any A l c o.key _ (hA.below hb01) (by omega) hr).mono ?_
  rintro e w2 ⟨rfl, hb2⟩
  have hb02 := bext hb01 hb2
  have bL0 := bL
  have bO0 := bO
  have bA0 := bA
  clear bL bO bA cL cO0 cO1 cO3 cO4
  have bL := bL0.below hb2 bL0.lt
  have bO := bO0.below hb2 bO0.lt
  have bA := bA0.below hb2 bA0.lt
  have cL : w2.cell? ⟨w.heap.size, 0, none⟩ = some (.slice A l.length c) := bL.cell 0
  have cO0 : w2.cell? ⟨w.heap.size + 1, 0, none⟩ = some (.int .u8 4) := bO.cell 0
  have cO1 : w2.cell? ⟨w.heap.size + 1, 1, none⟩ = some (.int .i64 o.key) := bO.cell 1
  have cO3 : w2.cell? ⟨w.heap.size + 1, 3, none⟩ = some (.int .i64 o.to) := bO.cell 3
  have cO4 : w2.cell? ⟨w.heap.size + 1, 4, none⟩ = some (.int .i64 o.n) := bO.cell 4
  have hup := upk_le l o.key
  go_wp2_with fail
  refine (one_any A l c w.heap.size ((upk l o.key : Int) - 1) _ (hA.below hb02) hl bL).mono ?_
  rintro e w9 ⟨rfl, hb9⟩
  have hb09 := bext hb02 hb9
  have bA9 := bA.below hb9 bA.lt
  have f0 := bA9.frozen 0
  have f1 := bA9.frozen 1
  have f2 := bA9.frozen 2
  have f3 := bA9.frozen 3
  have g0 : w9.cell? ⟨w.heap.size + 1 + 1, 0, none⟩ = some (.int .i64 0) := bA9.cell 0
  have g1 : w9.cell? ⟨w.heap.size + 1 + 1, 1, none⟩ = some (.int .i64 0) := bA9.cell 1
  have g2 : w9.cell? ⟨w.heap.size + 1 + 1, 2, none⟩ = some (.int .i64 0) := bA9.cell 2
  have g3 : w9.cell? ⟨w.heap.size + 1 + 1, 3, none⟩ = some (.slice none 0 0) := bA9.cell 3
  go_wp2_with fail
  have e4 := four bA9 (.int .i64 (oneA l ((upk l o.key : Int) - 1)).pair.key) (.int .i64 (oneA l ((upk l o.key : Int) - 1)).pair.val) (.int .i64 (oneA l ((upk l o.key : Int) - 1)).n) (.slice none 0 0)
  have h0 := e4.cell 0
  have h1 := e4.cell 1
  have h2 := e4.cell 2
  have h3 := e4.cell 3
  have hb4 := fourB hb09 (show w.heap.size ≤ w.heap.size + 1 + 1 by omega) (.int .i64 (oneA l ((upk l o.key : Int) - 1)).pair.key) (.int .i64 (oneA l ((upk l o.key : Int) - 1)).pair.val) (.int .i64 (oneA l ((upk l o.key : Int) - 1)).n) (.slice none 0 0)
  refine bodyPost_ret (v := .tuple #[.agg #[.int .i64 (oneA l ((upk l o.key : Int) - 1)).pair.key, .int .i64 (oneA l ((upk l o.key : Int) - 1)).pair.val, .int .i64 (oneA l ((upk l o.key : Int) - 1)).n, .slice none 0 0], .int .i64 (oneE l ((upk l o.key : Int) - 1)), .bool true]) (by simp [results, Try.results28, go_sem, h0, h1, h2, h3]) rfl ?_
  exact give_one ((upk l o.key : Int) - 1) hb4 (by simp [askA, hk]) (by simp [askE, hk]) (by simp [known, hk])

set_option maxHeartbeats 1600000 in
theorem ask8 (A : Option Addr) (l : List Pr) (c : Nat) (o : Opn) (Ao : Option Addr) (co : Nat) (w : World) (hA : Sl w A (l.flatMap Pr.cells)) (hl : l.length ≤ 1000000) (_hlc : l.length ≤ c) (hr : Hid (Ris l)) (hk : o.kind = 8) :
    Calls Try.prog 28 #[.slice A l.length c, .agg #[.int .u8 o.kind, .int .i64 o.key, .int .i64 o.val, .int .i64 o.to, .int .i64 o.n, .slice Ao o.pairs.length co]] w (GivesAsk (askA l o) (askE l o) (known o) w) := by
  have hmf : ∀ (fn : Fn) (first cap : Array Value) (w : World), (Instr.makeFunc fn first cap).run Try.prog w = .ok (.func fn first cap) w := fun _ _ _ _ => rfl
  have hb0 : Below w.heap.size w (((w.alloc (.cells #[.slice A l.length c] 24)).alloc (.cells #[.int .u8 8, .int .i64 o.key, .int .i64 o.val, .int .i64 o.to, .int .i64 o.n, .slice Ao o.pairs.length co] 28)).alloc (.cells #[.int .i64 0, .int .i64 0, .int .i64 0, .slice none 0 0] 30)) := (((Below.refl _ _).alloc (Nat.le_refl _) _).alloc (by simp) _).alloc (by simp; omega) _
  have bL0 : Blk (((w.alloc (.cells #[.slice A l.length c] 24)).alloc (.cells #[.int .u8 8, .int .i64 o.key, .int .i64 o.val, .int .i64 o.to, .int .i64 o.n, .slice Ao o.pairs.length co] 28)).alloc (.cells #[.int .i64 0, .int .i64 0, .int .i64 0, .slice none 0 0] 30)) w.heap.size 24 #[.slice A l.length c] := ((Blk.new w _ _).alloc _).alloc _
  have bO0 : Blk (((w.alloc (.cells #[.slice A l.length c] 24)).alloc (.cells #[.int .u8 8, .int .i64 o.key, .int .i64 o.val, .int .i64 o.to, .int .i64 o.n, .slice Ao o.pairs.length co] 28)).alloc (.cells #[.int .i64 0, .int .i64 0, .int .i64 0, .slice none 0 0] 30)) (w.heap.size + 1) 28 #[.int .u8 8, .int .i64 o.key, .int .i64 o.val, .int .i64 o.to, .int .i64 o.n, .slice Ao o.pairs.length co] := by
    have := (Blk.new (w.alloc (.cells #[.slice A l.length c] 24)) 28 #[.int .u8 8, .int .i64 o.key, .int .i64 o.val, .int .i64 o.to, .int .i64 o.n, .slice Ao o.pairs.length co]).alloc (.cells #[.int .i64 0, .int .i64 0, .int .i64 0, .slice none 0 0] 30)
    rwa [World.size_alloc] at this
  have bA0 : Blk (((w.alloc (.cells #[.slice A l.length c] 24)).alloc (.cells #[.int .u8 8, .int .i64 o.key, .int .i64 o.val, .int .i64 o.to, .int .i64 o.n, .slice Ao o.pairs.length co] 28)).alloc (.cells #[.int .i64 0, .int .i64 0, .int .i64 0, .slice none 0 0] 30)) (w.heap.size + 1 + 1) 30 #[.int .i64 0, .int .i64 0, .int .i64 0, .slice none 0 0] := by
    have := Blk.new ((w.alloc (.cells #[.slice A l.length c] 24)).alloc (.cells #[.int .u8 8, .int .i64 o.key, .int .i64 o.val, .int .i64 o.to, .int .i64 o.n, .slice Ao o.pairs.length co] 28)) 30 #[.int .i64 0, .int .i64 0, .int .i64 0, .slice none 0 0]
    rwa [World.size_alloc, World.size_alloc] at this
  go_enter Try.func28, Try.ntmps28
  go_wp2_with fail
  refine (rank_any A l c o.key _ (hA.below hb0) (by omega) hr).mono ?_
  rintro e w1 ⟨rfl, hb1⟩
  have hb01 := bext hb0 hb1
  have bL := bL0.below hb1 bL0.lt
  have bO := bO0.below hb1 bO0.lt
  have bA := bA0.below hb1 bA0.lt
  have cL : w1.cell? ⟨w.heap.size, 0, none⟩ = some (.slice A l.length c) := bL.cell 0
  have cO0 : w1.cell? ⟨w.heap.size + 1, 0, none⟩ = some (.int .u8 8) := bO.cell 0
  have cO1 : w1.cell? ⟨w.heap.size + 1, 1, none⟩ = some (.int .i64 o.key) := bO.cell 1
  have cO3 : w1.cell? ⟨w.heap.size + 1, 3, none⟩ = some (.int .i64 o.to) := bO.cell 3
  have cO4 : w1.cell? ⟨w.heap.size + 1, 4, none⟩ = some (.int .i64 o.n) := bO.cell 4
  clear bL0 bO0 bA0 hb1 hb0
  have f0 := bA.frozen 0
  have f1 := bA.frozen 1
  have f2 := bA.frozen 2
  have f3 := bA.frozen 3
  have g0 : w1.cell? ⟨w.heap.size + 1 + 1, 0, none⟩ = some (.int .i64 0) := bA.cell 0
  have g1 : w1.cell? ⟨w.heap.size + 1 + 1, 1, none⟩ = some (.int .i64 0) := bA.cell 1
  have g2 : w1.cell? ⟨w.heap.size + 1 + 1, 2, none⟩ = some (.int .i64 0) := bA.cell 2
  have g3 : w1.cell? ⟨w.heap.size + 1 + 1, 3, none⟩ = some (.slice none 0 0) := bA.cell 3
  go_wp2_with fail
  have e4 := four bA (.int .i64 0) (.int .i64 0) (.int .i64 (bel l o.key : Nat)) (.slice none 0 0)
  have h0 := e4.cell 0
  have h1 := e4.cell 1
  have h2 := e4.cell 2
  have h3 := e4.cell 3
  have hb4 := fourB hb01 (show w.heap.size ≤ w.heap.size + 1 + 1 by omega) (.int .i64 0) (.int .i64 0) (.int .i64 (bel l o.key : Nat)) (.slice none 0 0)
  refine bodyPost_ret (v := .tuple #[.agg #[.int .i64 0, .int .i64 0, .int .i64 (bel l o.key : Nat), .slice none 0 0], .int .i64 (0), .bool true]) (by simp [results, Try.results28, go_sem, h0, h1, h2, h3]) rfl ?_
  exact ⟨none, 0, by simp [askA, askE, known, hk], by simp [askA, hk]; exact Fr.nil, hb4⟩

set_option maxHeartbeats 1600000 in
theorem ask10a (A : Option Addr) (l : List Pr) (c : Nat) (o : Opn) (Ao : Option Addr) (co : Nat) (w : World) (hA : Sl w A (l.flatMap Pr.cells)) (hl : l.length ≤ 1000000) (_hlc : l.length ≤ c) (hr : Hid (Ris l)) (hk : o.kind = 10) (hn : o.n < 0) :
    Calls Try.prog 28 #[.slice A l.length c, .agg #[.int .u8 o.kind, .int .i64 o.key, .int .i64 o.val, .int .i64 o.to, .int .i64 o.n, .slice Ao o.pairs.length co]] w (GivesAsk (askA l o) (askE l o) (known o) w) := by
  have hmf : ∀ (fn : Fn) (first cap : Array Value) (w : World), (Instr.makeFunc fn first cap).run Try.prog w = .ok (.func fn first cap) w := fun _ _ _ _ => rfl
  have hb0 : Below w.heap.size w (((w.alloc (.cells #[.slice A l.length c] 24)).alloc (.cells #[.int .u8 10, .int .i64 o.key, .int .i64 o.val, .int .i64 o.to, .int .i64 o.n, .slice Ao o.pairs.length co] 28)).alloc (.cells #[.int .i64 0, .int .i64 0, .int .i64 0, .slice none 0 0] 30)) := (((Below.refl _ _).alloc (Nat.le_refl _) _).alloc (by simp) _).alloc (by simp; omega) _
  have bL0 : Blk (((w.alloc (.cells #[.slice A l.length c] 24)).alloc (.cells #[.int .u8 10, .int .i64 o.key, .int .i64 o.val, .int .i64 o.to, .int .i64 o.n, .slice Ao o.pairs.length co] 28)).alloc (.cells #[.int .i64 0, .int .i64 0, .int .i64 0, .slice none 0 0] 30)) w.heap.size 24 #[.slice A l.length c] := ((Blk.new w _ _).alloc _).alloc _
  have bO0 : Blk (((w.alloc (.cells #[.slice A l.length c] 24)).alloc (.cells #[.int .u8 10, .int .i64 o.key, .int .i64 o.val, .int .i64 o.to, .int .i64 o.n, .slice Ao o.pairs.length co] 28)).alloc (.cells #[.int .i64 0, .int .i64 0, .int .i64 0, .slice none 0 0] 30)) (w.heap.size + 1) 28 #[.int .u8 10, .int .i64 o.key, .int .i64 o.val, .int .i64 o.to, .int .i64 o.n, .slice Ao o.pairs.length co] := by
    have := (Blk.new (w.alloc (.cells #[.slice A l.length c] 24)) 28 #[.int .u8 10, .int .i64 o.key, .int .i64 o.val, .int .i64 o.to, .int .i64 o.n, .slice Ao o.pairs.length co]).alloc (.cells #[.int .i64 0, .int .i64 0, .int .i64 0, .slice none 0 0] 30)
    rwa [World.size_alloc] at this
  have bA0 : Blk (((w.alloc (.cells #[.slice A l.length c] 24)).alloc (.cells #[.int .u8 10, .int .i64 o.key, .int .i64 o.val, .int .i64 o.to, .int .i64 o.n, .slice Ao o.pairs.length co] 28)).alloc (.cells #[.int .i64 0, .int .i64 0, .int .i64 0, .slice none 0 0] 30)) (w.heap.size + 1 + 1) 30 #[.int .i64 0, .int .i64 0, .int .i64 0, .slice none 0 0] := by
    have := Blk.new ((w.alloc (.cells #[.slice A l.length c] 24)).alloc (.cells #[.int .u8 10, .int .i64 o.key, .int .i64 o.val, .int .i64 o.to, .int .i64 o.n, .slice Ao o.pairs.length co] 28)) 30 #[.int .i64 0, .int .i64 0, .int .i64 0, .slice none 0 0]
    rwa [World.size_alloc, World.size_alloc] at this
  go_enter Try.func28, Try.ntmps28
  go_wp2_with fail
  refine (rank_any A l c o.key _ (hA.below hb0) (by omega) hr).mono ?_
  rintro e w1 ⟨rfl, hb1⟩
  have hb01 := bext hb0 hb1
  have bL := bL0.below hb1 bL0.lt
  have bO := bO0.below hb1 bO0.lt
  have bA := bA0.below hb1 bA0.lt
  have cL : w1.cell? ⟨w.heap.size, 0, none⟩ = some (.slice A l.length c) := bL.cell 0
  have cO0 : w1.cell? ⟨w.heap.size + 1, 0, none⟩ = some (.int .u8 10) := bO.cell 0
  have cO1 : w1.cell? ⟨w.heap.size + 1, 1, none⟩ = some (.int .i64 o.key) := bO.cell 1
  have cO3 : w1.cell? ⟨w.heap.size + 1, 3, none⟩ = some (.int .i64 o.to) := bO.cell 3
  have cO4 : w1.cell? ⟨w.heap.size + 1, 4, none⟩ = some (.int .i64 o.n) := bO.cell 4
  clear bL0 bO0 bA0 hb1 hb0
  have f0 := bA.frozen 0
  have f1 := bA.frozen 1
  have f2 := bA.frozen 2
  have f3 := bA.frozen 3
  have g0 : w1.cell? ⟨w.heap.size + 1 + 1, 0, none⟩ = some (.int .i64 0) := bA.cell 0
  have g1 : w1.cell? ⟨w.heap.size + 1 + 1, 1, none⟩ = some (.int .i64 0) := bA.cell 1
  have g2 : w1.cell? ⟨w.heap.size + 1 + 1, 2, none⟩ = some (.int .i64 0) := bA.cell 2
  have g3 : w1.cell? ⟨w.heap.size + 1 + 1, 3, none⟩ = some (.slice none 0 0) := bA.cell 3
  go_wp2_with fail
  have e4 := four bA (.int .i64 0) (.int .i64 0) (.int .i64 0) (.slice none 0 0)
  have h0 := e4.cell 0
  have h1 := e4.cell 1
  have h2 := e4.cell 2
  have h3 := e4.cell 3
  have hb4 := fourB hb01 (show w.heap.size ≤ w.heap.size + 1 + 1 by omega) (.int .i64 0) (.int .i64 0) (.int .i64 0) (.slice none 0 0)
  refine bodyPost_ret (v := .tuple #[.agg #[.int .i64 0, .int .i64 0, .int .i64 0, .slice none 0 0], .int .i64 (2), .bool true]) (by simp [results, Try.results28, go_sem, h0, h1, h2, h3]) rfl ?_
  exact ⟨none, 0, by simp [askA, askE, known, hk, hn, noAns], by simp [askA, hk, hn, noAns]; exact Fr.nil, hb4⟩

set_option maxHeartbeats 1600000 in
theorem ask10b (A : Option Addr) (l : List Pr) (c : Nat) (o : Opn) (Ao : Option Addr) (co : Nat) (w : World) (hA : Sl w A (l.flatMap Pr.cells)) (hl : l.length ≤ 1000000) (_hlc : l.length ≤ c) (hr : Hid (Ris l)) (hk : o.kind = 10) (h0 : ¬ o.n < 0) (hn : 1000 < o.n) :
    Calls Try.prog 28 #[.slice A l.length c, .agg #[.int .u8 o.kind, .int .i64 o.key, .int .i64 o.val, .int .i64 o.to, .int .i64 o.n, .slice Ao o.pairs.length co]] w (GivesAsk (askA l o) (askE l o) (known o) w) := by
  have hmf : ∀ (fn : Fn) (first cap : Array Value) (w : World), (Instr.makeFunc fn first cap).run Try.prog w = .ok (.func fn first cap) w := fun _ _ _ _ => rfl
  have hb0 : Below w.heap.size w (((w.alloc (.cells #[.slice A l.length c] 24)).alloc (.cells #[.int .u8 10, .int .i64 o.key, .int .i64 o.val, .int .i64 o.to, .int .i64 o.n, .slice Ao o.pairs.length co] 28)).alloc (.cells #[.int .i64 0, .int .i64 0, .int .i64 0, .slice none 0 0] 30)) := (((Below.refl _ _).alloc (Nat.le_refl _) _).alloc (by simp) _).alloc (by simp; omega) _
  have bL0 : Blk (((w.alloc (.cells #[.slice A l.length c] 24)).alloc (.cells #[.int .u8 10, .int .i64 o.key, .int .i64 o.val, .int .i64 o.to, .int .i64 o.n, .slice Ao o.pairs.length co] 28)).alloc (.cells #[.int .i64 0, .int .i64 0, .int .i64 0, .slice none 0 0] 30)) w.heap.size 24 #[.slice A l.length c] := ((Blk.new w _ _).alloc _).alloc _
  have bO0 : Blk (((w.alloc (.cells #[.slice A l.length c] 24)).alloc (.cells #[.int .u8 10, .int .i64 o.key, .int .i64 o.val, .int .i64 o.to, .int .i64 o.n, .slice Ao o.pairs.length co] 28)).alloc (.cells #[.int .i64 0, .int .i64 0, .int .i64 0, .slice none 0 0] 30)) (w.heap.size + 1) 28 #[.int .u8 10, .int .i64 o.key, .int .i64 o.val, .int .i64 o.to, .int .i64 o.n, .slice Ao o.pairs.length co] := by
    have := (Blk.new (w.alloc (.cells #[.slice A l.length c] 24)) 28 #[.int .u8 10, .int .i64 o.key, .int .i64 o.val, .int .i64 o.to, .int .i64 o.n, .slice Ao o.pairs.length co]).alloc (.cells #[.int .i64 0, .int .i64 0, .int .i64 0, .slice none 0 0] 30)
    rwa [World.size_alloc] at this
  have bA0 : Blk (((w.alloc (.cells #[.slice A l.length c] 24)).alloc (.cells #[.int .u8 10, .int .i64 o.key, .int .i64 o.val, .int .i64 o.to, .int .i64 o.n, .slice Ao o.pairs.length co] 28)).alloc (.cells #[.int .i64 0, .int .i64 0, .int .i64 0, .slice none 0 0] 30)) (w.heap.size + 1 + 1) 30 #[.int .i64 0, .int .i64 0, .int .i64 0, .slice none 0 0] := by
    have := Blk.new ((w.alloc (.cells #[.slice A l.length c] 24)).alloc (.cells #[.int .u8 10, .int .i64 o.key, .int .i64 o.val, .int .i64 o.to, .int .i64 o.n, .slice Ao o.pairs.length co] 28)) 30 #[.int .i64 0, .int .i64 0, .int .i64 0, .slice none 0 0]
    rwa [World.size_alloc, World.size_alloc] at this
  go_enter Try.func28, Try.ntmps28
  go_wp2_with fail
  refine (rank_any A l c o.key _ (hA.below hb0) (by omega) hr).mono ?_
  rintro e w1 ⟨rfl, hb1⟩
  have hb01 := bext hb0 hb1
  have bL := bL0.below hb1 bL0.lt
  have bO := bO0.below hb1 bO0.lt
  have bA := bA0.below hb1 bA0.lt
  have cL : w1.cell? ⟨w.heap.size, 0, none⟩ = some (.slice A l.length c) := bL.cell 0
  have cO0 : w1.cell? ⟨w.heap.size + 1, 0, none⟩ = some (.int .u8 10) := bO.cell 0
  have cO1 : w1.cell? ⟨w.heap.size + 1, 1, none⟩ = some (.int .i64 o.key) := bO.cell 1
  have cO3 : w1.cell? ⟨w.heap.size + 1, 3, none⟩ = some (.int .i64 o.to) := bO.cell 3
  have cO4 : w1.cell? ⟨w.heap.size + 1, 4, none⟩ = some (.int .i64 o.n) := bO.cell 4
  clear bL0 bO0 bA0 hb1 hb0
  have f0 := bA.frozen 0
  have f1 := bA.frozen 1
  have f2 := bA.frozen 2
  have f3 := bA.frozen 3
  have g0 : w1.cell? ⟨w.heap.size + 1 + 1, 0, none⟩ = some (.int .i64 0) := bA.cell 0
  have g1 : w1.cell? ⟨w.heap.size + 1 + 1, 1, none⟩ = some (.int .i64 0) := bA.cell 1
  have g2 : w1.cell? ⟨w.heap.size + 1 + 1, 2, none⟩ = some (.int .i64 0) := bA.cell 2
  have g3 : w1.cell? ⟨w.heap.size + 1 + 1, 3, none⟩ = some (.slice none 0 0) := bA.cell 3
  go_wp2_with fail
  have e4 := four bA (.int .i64 0) (.int .i64 0) (.int .i64 0) (.slice none 0 0)
  have h0 := e4.cell 0
  have h1 := e4.cell 1
  have h2 := e4.cell 2
  have h3 := e4.cell 3
  have hb4 := fourB hb01 (show w.heap.size ≤ w.heap.size + 1 + 1 by omega) (.int .i64 0) (.int .i64 0) (.int .i64 0) (.slice none 0 0)
  refine bodyPost_ret (v := .tuple #[.agg #[.int .i64 0, .int .i64 0, .int .i64 0, .slice none 0 0], .int .i64 (2), .bool true]) (by simp [results, Try.results28, go_sem, h0, h1, h2, h3]) rfl ?_
  exact ⟨none, 0, by simp [askA, askE, known, hk, hn, noAns], by simp [askA, hk, hn, noAns]; exact Fr.nil, hb4⟩

set_option maxHeartbeats 1600000 in
theorem askno (A : Option Addr) (l : List Pr) (c : Nat) (o : Opn) (Ao : Option Addr) (co : Nat) (w : World) (hA : Sl w A (l.flatMap Pr.cells)) (hl : l.length ≤ 1000000) (_hlc : l.length ≤ c) (hr : Hid (Ris l)) (n1 : ¬ o.kind = 1) (n5 : ¬ o.kind = 5) (n4 : ¬ o.kind = 4) (n6 : ¬ o.kind = 6) (n7 : ¬ o.kind = 7) (n8 : ¬ o.kind = 8) (n9 : ¬ o.kind = 9) (n10 : ¬ o.kind = 10) (n15 : ¬ o.kind = 15) (n14 : ¬ o.kind = 14) :
    Calls Try.prog 28 #[.slice A l.length c, .agg #[.int .u8 o.kind, .int .i64 o.key, .int .i64 o.val, .int .i64 o.to, .int .i64 o.n, .slice Ao o.pairs.length co]] w (GivesAsk (askA l o) (askE l o) (known o) w) := by
  have hmf : ∀ (fn : Fn) (first cap : Array Value) (w : World), (Instr.makeFunc fn first cap).run Try.prog w = .ok (.func fn first cap) w := fun _ _ _ _ => rfl
  have hb0 : Below w.heap.size w (((w.alloc (.cells #[.slice A l.length c] 24)).alloc (.cells #[.int .u8 o.kind, .int .i64 o.key, .int .i64 o.val, .int .i64 o.to, .int .i64 o.n, .slice Ao o.pairs.length co] 28)).alloc (.cells #[.int .i64 0, .int .i64 0, .int .i64 0, .slice none 0 0] 30)) := (((Below.refl _ _).alloc (Nat.le_refl _) _).alloc (by simp) _).alloc (by simp; omega) _
  have bL0 : Blk (((w.alloc (.cells #[.slice A l.length c] 24)).alloc (.cells #[.int .u8 o.kind, .int .i64 o.key, .int .i64 o.val, .int .i64 o.to, .int .i64 o.n, .slice Ao o.pairs.length co] 28)).alloc (.cells #[.int .i64 0, .int .i64 0, .int .i64 0, .slice none 0 0] 30)) w.heap.size 24 #[.slice A l.length c] := ((Blk.new w _ _).alloc _).alloc _
  have bO0 : Blk (((w.alloc (.cells #[.slice A l.length c] 24)).alloc (.cells #[.int .u8 o.kind, .int .i64 o.key, .int .i64 o.val, .int .i64 o.to, .int .i64 o.n, .slice Ao o.pairs.length co] 28)).alloc (.cells #[.int .i64 0, .int .i64 0, .int .i64 0, .slice none 0 0] 30)) (w.heap.size + 1) 28 #[.int .u8 o.kind, .int .i64 o.key, .int .i64 o.val, .int .i64 o.to, .int .i64 o.n, .slice Ao o.pairs.length co] := by
    have := (Blk.new (w.alloc (.cells #[.slice A l.length c] 24)) 28 #[.int .u8 o.kind, .int .i64 o.key, .int .i64 o.val, .int .i64 o.to, .int .i64 o.n, .slice Ao o.pairs.length co]).alloc (.cells #[.int .i64 0, .int .i64 0, .int .i64 0, .slice none 0 0] 30)
    rwa [World.size_alloc] at this
  have bA0 : Blk (((w.alloc (.cells #[.slice A l.length c] 24)).alloc (.cells #[.int .u8 o.kind, .int .i64 o.key, .int .i64 o.val, .int .i64 o.to, .int .i64 o.n, .slice Ao o.pairs.length co] 28)).alloc (.cells #[.int .i64 0, .int .i64 0, .int .i64 0, .slice none 0 0] 30)) (w.heap.size + 1 + 1) 30 #[.int .i64 0, .int .i64 0, .int .i64 0, .slice none 0 0] := by
    have := Blk.new ((w.alloc (.cells #[.slice A l.length c] 24)).alloc (.cells #[.int .u8 o.kind, .int .i64 o.key, .int .i64 o.val, .int .i64 o.to, .int .i64 o.n, .slice Ao o.pairs.length co] 28)) 30 #[.int .i64 0, .int .i64 0, .int .i64 0, .slice none 0 0]
    rwa [World.size_alloc, World.size_alloc] at this
  go_enter Try.func28, Try.ntmps28
  go_wp2_with fail
  refine (rank_any A l c o.key _ (hA.below hb0) (by omega) hr).mono ?_
  rintro e w1 ⟨rfl, hb1⟩
  have hb01 := bext hb0 hb1
  have bL := bL0.below hb1 bL0.lt
  have bO := bO0.below hb1 bO0.lt
  have bA := bA0.below hb1 bA0.lt
  have cL : w1.cell? ⟨w.heap.size, 0, none⟩ = some (.slice A l.length c) := bL.cell 0
  have cO0 : w1.cell? ⟨w.heap.size + 1, 0, none⟩ = some (.int .u8 o.kind) := bO.cell 0
  have cO1 : w1.cell? ⟨w.heap.size + 1, 1, none⟩ = some (.int .i64 o.key) := bO.cell 1
  have cO3 : w1.cell? ⟨w.heap.size + 1, 3, none⟩ = some (.int .i64 o.to) := bO.cell 3
  have cO4 : w1.cell? ⟨w.heap.size + 1, 4, none⟩ = some (.int .i64 o.n) := bO.cell 4
  clear bL0 bO0 bA0 hb1 hb0
  have f0 := bA.frozen 0
  have f1 := bA.frozen 1
  have f2 := bA.frozen 2
  have f3 := bA.frozen 3
  have g0 : w1.cell? ⟨w.heap.size + 1 + 1, 0, none⟩ = some (.int .i64 0) := bA.cell 0
  have g1 : w1.cell? ⟨w.heap.size + 1 + 1, 1, none⟩ = some (.int .i64 0) := bA.cell 1
  have g2 : w1.cell? ⟨w.heap.size + 1 + 1, 2, none⟩ = some (.int .i64 0) := bA.cell 2
  have g3 : w1.cell? ⟨w.heap.size + 1 + 1, 3, none⟩ = some (.slice none 0 0) := bA.cell 3
  go_wp2_with fail
  have e4 := four bA (.int .i64 0) (.int .i64 0) (.int .i64 0) (.slice none 0 0)
  have h0 := e4.cell 0
  have h1 := e4.cell 1
  have h2 := e4.cell 2
  have h3 := e4.cell 3
  have hb4 := fourB hb01 (show w.heap.size ≤ w.heap.size + 1 + 1 by omega) (.int .i64 0) (.int .i64 0) (.int .i64 0) (.slice none 0 0)
  refine bodyPost_ret (v := .tuple #[.agg #[.int .i64 0, .int .i64 0, .int .i64 0, .slice none 0 0], .int .i64 (291), .bool false]) (by simp [results, Try.results28, go_sem, h0, h1, h2, h3]) rfl ?_
  exact ⟨none, 0, by simp [askA, askE, known, noAns, *], by simp [askA, noAns, *]; exact Fr.nil, hb4⟩
end Go.Proofs.Ytibgpghlnfcilaa
