/- Contract: what the reference says an operation answers that turns nothing. -/
import Derived.Test.YtibgpghlnfcilaaRf
import Derived.Test.YtibgpghlnfcilaaMa
import Derived.Test.YtibgpghlnfcilaaPo
import Derived.Test.YtibgpghlnfcilaaPs
import Derived.Test.YtibgpghlnfcilaaRg
import Derived.Deep.CutRange
namespace Go.Proofs.Ytibgpghlnfcilaa
open Go Go.RowKit
set_option maxRecDepth 100000

/-- hands back an answer and an error -/
def GivesTold (a : Answ) (e : Int) (w : World) (r : Ending) (w' : World) : Prop :=
  ∃ A c, r = .returned (.tuple #[.agg #[.int .i64 a.pair.key, .int .i64 a.pair.val, .int .i64 a.n, .slice A a.pairs.length c], .int .i64 e]) ∧ Fr w' w.heap.size 23 A c a.pairs ∧ Below w.heap.size w w'

theorem told_get {l : List Pr} {o : Opn} (hr : Ris l) (hk : o.kind = 1) : (ceilB l o.key = true → (ceilP l o.key).key = o.key → askA l o = ⟨ceilP l o.key, 0, []⟩ ∧ askE l o = 0) ∧ ((ceilB l o.key = false ∨ (ceilP l o.key).key ≠ o.key) → askA l o = noAns ∧ askE l o = 6) := by
  have hg := get_ceil hr o.key
  have ho := one_ceil l o.key
  constructor
  · intro h1 h2
    have hb : bel l o.key < l.length := by simpa [ceilB] using h1
    have hp : ceilP l o.key = l[bel l o.key]! := by unfold ceilP; rw [if_pos hb]
    have hh : has l o.key = true := by rw [hg, decide_eq_true hb, if_pos hb, ← hp, h2]; simp
    have e1 : askA l o = oneA l (bel l o.key) := by simp [askA, hk, hh]
    have e2 : askE l o = oneE l (bel l o.key) := by simp [askE, hk, hh]
    rw [e1, e2, ho.1, ho.2, if_pos hb, if_pos hb, hp]
    exact ⟨rfl, rfl⟩
  · intro h
    have hh : has l o.key = false := by
      rw [hg]
      by_cases hb : bel l o.key < l.length
      · have hp : ceilP l o.key = l[bel l o.key]! := by unfold ceilP; rw [if_pos hb]
        rcases h with h | h
        · simp [ceilB] at h; omega
        · rw [if_pos hb, ← hp]; simp [h]
      · simp [hb]
    have e1 : askA l o = oneA l (-1) := by simp [askA, hk, hh]
    have e2 : askE l o = oneE l (-1) := by simp [askE, hk, hh]
    rw [e1, e2, oneA_out (by omega), oneE_out (by omega)]
    exact ⟨rfl, rfl⟩
theorem told_ceil (l : List Pr) (key : Int) : (ceilB l key = true → oneA l (bel l key) = ⟨ceilP l key, 0, []⟩ ∧ oneE l (bel l key) = 0) ∧ (ceilB l key = false → oneA l (bel l key) = noAns ∧ oneE l (bel l key) = 6) := by
  have ho := one_ceil l key
  constructor
  · intro h
    have hb : bel l key < l.length := by simpa [ceilB] using h
    have hp : ceilP l key = l[bel l key]! := by unfold ceilP; rw [if_pos hb]
    rw [ho.1, ho.2, if_pos hb, if_pos hb, hp]; exact ⟨rfl, rfl⟩
  · intro h
    have hb : ¬ bel l key < l.length := by simpa [ceilB] using h
    rw [ho.1, ho.2, if_neg hb, if_neg hb]; exact ⟨rfl, rfl⟩
theorem told_floor (l : List Pr) (key : Int) : (floorB l key = true → oneA l ((upk l key : Int) - 1) = ⟨floorP l key, 0, []⟩ ∧ oneE l ((upk l key : Int) - 1) = 0) ∧ (floorB l key = false → oneA l ((upk l key : Int) - 1) = noAns ∧ oneE l ((upk l key : Int) - 1) = 6) := by
  have ho := one_floor l key
  constructor
  · intro h
    have hb : 0 < upk l key := by simpa [floorB] using h
    have hp : floorP l key = l[upk l key - 1]! := by unfold floorP; rw [if_pos hb]
    rw [ho.1, ho.2, if_pos hb, if_pos hb, hp]; exact ⟨rfl, rfl⟩
  · intro h
    have hb : ¬ 0 < upk l key := by simpa [floorB] using h
    rw [ho.1, ho.2, if_neg hb, if_neg hb]; exact ⟨rfl, rfl⟩


set_option maxHeartbeats 1600000 in
theorem told1t (A : Option Addr) (l : List Pr) (c : Nat) (o : Opn) (Ao : Option Addr) (co : Nat) (w : World) (hA : Sl w A (l.flatMap Pr.cells)) (hl : l.length ≤ 1000000) (hr : Hid (Ris l)) (hB : ceilB l o.key = true) (hx : (ceilP l o.key).key = o.key) :
    Calls Try.prog 38 #[.slice A l.length c, .agg #[.int .u8 1, .int .i64 o.key, .int .i64 o.val, .int .i64 o.to, .int .i64 o.n, .slice Ao o.pairs.length co]] w (GivesTold (⟨ceilP l o.key, 0, []⟩) (0) w) := by
  have hb0 : Below w.heap.size w (((w.alloc (.cells #[.int .u8 1, .int .i64 o.key, .int .i64 o.val, .int .i64 o.to, .int .i64 o.n, .slice Ao o.pairs.length co] 28)).alloc (.cells #[.int .i64 0, .int .i64 0, .int .i64 0, .slice none 0 0] 30)).alloc (.cells #[.int .i64 0, .int .i64 0] 23)) := (((Below.refl _ _).alloc (Nat.le_refl _) _).alloc (by simp) _).alloc (by simp; omega) _
  have bA0 : Blk (((w.alloc (.cells #[.int .u8 1, .int .i64 o.key, .int .i64 o.val, .int .i64 o.to, .int .i64 o.n, .slice Ao o.pairs.length co] 28)).alloc (.cells #[.int .i64 0, .int .i64 0, .int .i64 0, .slice none 0 0] 30)).alloc (.cells #[.int .i64 0, .int .i64 0] 23)) (w.heap.size + 1) 30 #[.int .i64 0, .int .i64 0, .int .i64 0, .slice none 0 0] := by
    have := (Blk.new (w.alloc (.cells #[.int .u8 1, .int .i64 o.key, .int .i64 o.val, .int .i64 o.to, .int .i64 o.n, .slice Ao o.pairs.length co] 28)) 30 #[.int .i64 0, .int .i64 0, .int .i64 0, .slice none 0 0]).alloc (.cells #[.int .i64 0, .int .i64 0] 23)
    rwa [World.size_alloc] at this
  have bO0 : Blk (((w.alloc (.cells #[.int .u8 1, .int .i64 o.key, .int .i64 o.val, .int .i64 o.to, .int .i64 o.n, .slice Ao o.pairs.length co] 28)).alloc (.cells #[.int .i64 0, .int .i64 0, .int .i64 0, .slice none 0 0] 30)).alloc (.cells #[.int .i64 0, .int .i64 0] 23)) w.heap.size 28 #[.int .u8 1, .int .i64 o.key, .int .i64 o.val, .int .i64 o.to, .int .i64 o.n, .slice Ao o.pairs.length co] := ((Blk.new w _ _).alloc _).alloc _
  have bP0 : Blk (((w.alloc (.cells #[.int .u8 1, .int .i64 o.key, .int .i64 o.val, .int .i64 o.to, .int .i64 o.n, .slice Ao o.pairs.length co] 28)).alloc (.cells #[.int .i64 0, .int .i64 0, .int .i64 0, .slice none 0 0] 30)).alloc (.cells #[.int .i64 0, .int .i64 0] 23)) (w.heap.size + 1 + 1) 23 #[.int .i64 0, .int .i64 0] := by
    have := Blk.new ((w.alloc (.cells #[.int .u8 1, .int .i64 o.key, .int .i64 o.val, .int .i64 o.to, .int .i64 o.n, .slice Ao o.pairs.length co] 28)).alloc (.cells #[.int .i64 0, .int .i64 0, .int .i64 0, .slice none 0 0] 30)) 23 #[.int .i64 0, .int .i64 0]
    rwa [World.size_alloc, World.size_alloc] at this
  obtain ⟨p, hp⟩ : ∃ p, ceilP l o.key = p := ⟨_, rfl⟩
  have HP := Lib.hid hp
  rw [hp] at hx
  have hq : (p.key == o.key) = true := by simpa using hx
  clear hx
  clear hp
  go_enter Try.func38, Try.ntmps38
  go_wp2_with fail
  refine (ceil_any A l c (o.key) _ (hA.below hb0) (by omega) hr).mono ?_
  rw [HP.out, hB]
  rintro e w1 ⟨rfl, hb1⟩
  have hb01 := bext hb0 hb1
  have bA := bA0.below hb1 bA0.lt
  have bO := bO0.below hb1 bO0.lt
  have bP := bP0.below hb1 bP0.lt
  have fa0 := bA.frozen 0
  have fa1 := bA.frozen 1
  have fa2 := bA.frozen 2
  have fa3 := bA.frozen 3
  have ga0 : w1.cell? ⟨w.heap.size + 1, 0, none⟩ = some (.int .i64 0) := bA.cell 0
  have ga1 : w1.cell? ⟨w.heap.size + 1, 1, none⟩ = some (.int .i64 0) := bA.cell 1
  have ga2 : w1.cell? ⟨w.heap.size + 1, 2, none⟩ = some (.int .i64 0) := bA.cell 2
  have ga3 : w1.cell? ⟨w.heap.size + 1, 3, none⟩ = some (.slice none 0 0) := bA.cell 3
  have fp0 := bP.frozen 0
  have fp1 := bP.frozen 1
  have gp0 : w1.cell? ⟨w.heap.size + 1 + 1, 0, none⟩ = some (.int .i64 0) := bP.cell 0
  have gp1 : w1.cell? ⟨w.heap.size + 1 + 1, 1, none⟩ = some (.int .i64 0) := bP.cell 1
  have cO1 : w1.cell? ⟨w.heap.size, 1, none⟩ = some (.int .i64 o.key) := bO.cell 1
  have cO3 : w1.cell? ⟨w.heap.size, 3, none⟩ = some (.int .i64 o.to) := bO.cell 3
  have cO4 : w1.cell? ⟨w.heap.size, 4, none⟩ = some (.int .i64 o.n) := bO.cell 4
  clear bO0 bA0 bP0 hb1 hb0
  go_wp2_with fail
  have e4 := four ((bA.far (p := ⟨w.heap.size + 1 + 1, 0, none⟩) (by simp) (.int .i64 p.key)).far (p := ⟨w.heap.size + 1 + 1, 1, none⟩) (by simp) (.int .i64 p.val)) (.int .i64 p.key) (.int .i64 p.val) (.int .i64 0) (.slice none 0 0)
  have h0 := e4.cell 0
  have h1 := e4.cell 1
  have h2 := e4.cell 2
  have h3 := e4.cell 3
  have hb4 := fourB ((hb01.setCell (p := ⟨w.heap.size + 1 + 1, 0, none⟩) (by simp; omega) (.int .i64 p.key)).setCell (p := ⟨w.heap.size + 1 + 1, 1, none⟩) (by simp; omega) (.int .i64 p.val)) (show w.heap.size ≤ w.heap.size + 1 by omega) (.int .i64 p.key) (.int .i64 p.val) (.int .i64 0) (.slice none 0 0)
  refine bodyPost_ret (v := .tuple #[.agg #[.int .i64 p.key, .int .i64 p.val, .int .i64 0, .slice none 0 0], .int .i64 (0)]) (by simp [results, Try.results38, go_sem, h0, h1, h2, h3]) rfl ?_
  exact ⟨none, 0, by rw [HP.out]; rfl, Fr.nil, hb4⟩


set_option maxHeartbeats 1600000 in
theorem told1f (A : Option Addr) (l : List Pr) (c : Nat) (o : Opn) (Ao : Option Addr) (co : Nat) (w : World) (hA : Sl w A (l.flatMap Pr.cells)) (hl : l.length ≤ 1000000) (hr : Hid (Ris l)) (hB : ceilB l o.key = false) :
    Calls Try.prog 38 #[.slice A l.length c, .agg #[.int .u8 1, .int .i64 o.key, .int .i64 o.val, .int .i64 o.to, .int .i64 o.n, .slice Ao o.pairs.length co]] w (GivesTold (noAns) (6) w) := by
  have hb0 : Below w.heap.size w (((w.alloc (.cells #[.int .u8 1, .int .i64 o.key, .int .i64 o.val, .int .i64 o.to, .int .i64 o.n, .slice Ao o.pairs.length co] 28)).alloc (.cells #[.int .i64 0, .int .i64 0, .int .i64 0, .slice none 0 0] 30)).alloc (.cells #[.int .i64 0, .int .i64 0] 23)) := (((Below.refl _ _).alloc (Nat.le_refl _) _).alloc (by simp) _).alloc (by simp; omega) _
  have bA0 : Blk (((w.alloc (.cells #[.int .u8 1, .int .i64 o.key, .int .i64 o.val, .int .i64 o.to, .int .i64 o.n, .slice Ao o.pairs.length co] 28)).alloc (.cells #[.int .i64 0, .int .i64 0, .int .i64 0, .slice none 0 0] 30)).alloc (.cells #[.int .i64 0, .int .i64 0] 23)) (w.heap.size + 1) 30 #[.int .i64 0, .int .i64 0, .int .i64 0, .slice none 0 0] := by
    have := (Blk.new (w.alloc (.cells #[.int .u8 1, .int .i64 o.key, .int .i64 o.val, .int .i64 o.to, .int .i64 o.n, .slice Ao o.pairs.length co] 28)) 30 #[.int .i64 0, .int .i64 0, .int .i64 0, .slice none 0 0]).alloc (.cells #[.int .i64 0, .int .i64 0] 23)
    rwa [World.size_alloc] at this
  have bO0 : Blk (((w.alloc (.cells #[.int .u8 1, .int .i64 o.key, .int .i64 o.val, .int .i64 o.to, .int .i64 o.n, .slice Ao o.pairs.length co] 28)).alloc (.cells #[.int .i64 0, .int .i64 0, .int .i64 0, .slice none 0 0] 30)).alloc (.cells #[.int .i64 0, .int .i64 0] 23)) w.heap.size 28 #[.int .u8 1, .int .i64 o.key, .int .i64 o.val, .int .i64 o.to, .int .i64 o.n, .slice Ao o.pairs.length co] := ((Blk.new w _ _).alloc _).alloc _
  have bP0 : Blk (((w.alloc (.cells #[.int .u8 1, .int .i64 o.key, .int .i64 o.val, .int .i64 o.to, .int .i64 o.n, .slice Ao o.pairs.length co] 28)).alloc (.cells #[.int .i64 0, .int .i64 0, .int .i64 0, .slice none 0 0] 30)).alloc (.cells #[.int .i64 0, .int .i64 0] 23)) (w.heap.size + 1 + 1) 23 #[.int .i64 0, .int .i64 0] := by
    have := Blk.new ((w.alloc (.cells #[.int .u8 1, .int .i64 o.key, .int .i64 o.val, .int .i64 o.to, .int .i64 o.n, .slice Ao o.pairs.length co] 28)).alloc (.cells #[.int .i64 0, .int .i64 0, .int .i64 0, .slice none 0 0] 30)) 23 #[.int .i64 0, .int .i64 0]
    rwa [World.size_alloc, World.size_alloc] at this
  obtain ⟨p, hp⟩ : ∃ p, ceilP l o.key = p := ⟨_, rfl⟩
  have HP := Lib.hid hp
  clear hp
  go_enter Try.func38, Try.ntmps38
  go_wp2_with fail
  refine (ceil_any A l c (o.key) _ (hA.below hb0) (by omega) hr).mono ?_
  rw [HP.out, hB]
  rintro e w1 ⟨rfl, hb1⟩
  have hb01 := bext hb0 hb1
  have bA := bA0.below hb1 bA0.lt
  have bO := bO0.below hb1 bO0.lt
  have bP := bP0.below hb1 bP0.lt
  have fa0 := bA.frozen 0
  have fa1 := bA.frozen 1
  have fa2 := bA.frozen 2
  have fa3 := bA.frozen 3
  have ga0 : w1.cell? ⟨w.heap.size + 1, 0, none⟩ = some (.int .i64 0) := bA.cell 0
  have ga1 : w1.cell? ⟨w.heap.size + 1, 1, none⟩ = some (.int .i64 0) := bA.cell 1
  have ga2 : w1.cell? ⟨w.heap.size + 1, 2, none⟩ = some (.int .i64 0) := bA.cell 2
  have ga3 : w1.cell? ⟨w.heap.size + 1, 3, none⟩ = some (.slice none 0 0) := bA.cell 3
  have fp0 := bP.frozen 0
  have fp1 := bP.frozen 1
  have gp0 : w1.cell? ⟨w.heap.size + 1 + 1, 0, none⟩ = some (.int .i64 0) := bP.cell 0
  have gp1 : w1.cell? ⟨w.heap.size + 1 + 1, 1, none⟩ = some (.int .i64 0) := bP.cell 1
  have cO1 : w1.cell? ⟨w.heap.size, 1, none⟩ = some (.int .i64 o.key) := bO.cell 1
  have cO3 : w1.cell? ⟨w.heap.size, 3, none⟩ = some (.int .i64 o.to) := bO.cell 3
  have cO4 : w1.cell? ⟨w.heap.size, 4, none⟩ = some (.int .i64 o.n) := bO.cell 4
  clear bO0 bA0 bP0 hb1 hb0
  go_wp2_with fail
  have e4 := four ((bA.far (p := ⟨w.heap.size + 1 + 1, 0, none⟩) (by simp) (.int .i64 p.key)).far (p := ⟨w.heap.size + 1 + 1, 1, none⟩) (by simp) (.int .i64 p.val)) (.int .i64 0) (.int .i64 0) (.int .i64 0) (.slice none 0 0)
  have h0 := e4.cell 0
  have h1 := e4.cell 1
  have h2 := e4.cell 2
  have h3 := e4.cell 3
  have hb4 := fourB ((hb01.setCell (p := ⟨w.heap.size + 1 + 1, 0, none⟩) (by simp; omega) (.int .i64 p.key)).setCell (p := ⟨w.heap.size + 1 + 1, 1, none⟩) (by simp; omega) (.int .i64 p.val)) (show w.heap.size ≤ w.heap.size + 1 by omega) (.int .i64 0) (.int .i64 0) (.int .i64 0) (.slice none 0 0)
  refine bodyPost_ret (v := .tuple #[.agg #[.int .i64 0, .int .i64 0, .int .i64 0, .slice none 0 0], .int .i64 (6)]) (by simp [results, Try.results38, go_sem, h0, h1, h2, h3]) rfl ?_
  exact ⟨none, 0, rfl, Fr.nil, hb4⟩


set_option maxHeartbeats 1600000 in
theorem told1g (A : Option Addr) (l : List Pr) (c : Nat) (o : Opn) (Ao : Option Addr) (co : Nat) (w : World) (hA : Sl w A (l.flatMap Pr.cells)) (hl : l.length ≤ 1000000) (hr : Hid (Ris l)) (hB : ceilB l o.key = true) (hx : ¬ (ceilP l o.key).key = o.key) :
    Calls Try.prog 38 #[.slice A l.length c, .agg #[.int .u8 1, .int .i64 o.key, .int .i64 o.val, .int .i64 o.to, .int .i64 o.n, .slice Ao o.pairs.length co]] w (GivesTold (noAns) (6) w) := by
  have hb0 : Below w.heap.size w (((w.alloc (.cells #[.int .u8 1, .int .i64 o.key, .int .i64 o.val, .int .i64 o.to, .int .i64 o.n, .slice Ao o.pairs.length co] 28)).alloc (.cells #[.int .i64 0, .int .i64 0, .int .i64 0, .slice none 0 0] 30)).alloc (.cells #[.int .i64 0, .int .i64 0] 23)) := (((Below.refl _ _).alloc (Nat.le_refl _) _).alloc (by simp) _).alloc (by simp; omega) _
  have bA0 : Blk (((w.alloc (.cells #[.int .u8 1, .int .i64 o.key, .int .i64 o.val, .int .i64 o.to, .int .i64 o.n, .slice Ao o.pairs.length co] 28)).alloc (.cells #[.int .i64 0, .int .i64 0, .int .i64 0, .slice none 0 0] 30)).alloc (.cells #[.int .i64 0, .int .i64 0] 23)) (w.heap.size + 1) 30 #[.int .i64 0, .int .i64 0, .int .i64 0, .slice none 0 0] := by
    have := (Blk.new (w.alloc (.cells #[.int .u8 1, .int .i64 o.key, .int .i64 o.val, .int .i64 o.to, .int .i64 o.n, .slice Ao o.pairs.length co] 28)) 30 #[.int .i64 0, .int .i64 0, .int .i64 0, .slice none 0 0]).alloc (.cells #[.int .i64 0, .int .i64 0] 23)
    rwa [World.size_alloc] at this
  have bO0 : Blk (((w.alloc (.cells #[.int .u8 1, .int .i64 o.key, .int .i64 o.val, .int .i64 o.to, .int .i64 o.n, .slice Ao o.pairs.length co] 28)).alloc (.cells #[.int .i64 0, .int .i64 0, .int .i64 0, .slice none 0 0] 30)).alloc (.cells #[.int .i64 0, .int .i64 0] 23)) w.heap.size 28 #[.int .u8 1, .int .i64 o.key, .int .i64 o.val, .int .i64 o.to, .int .i64 o.n, .slice Ao o.pairs.length co] := ((Blk.new w _ _).alloc _).alloc _
  have bP0 : Blk (((w.alloc (.cells #[.int .u8 1, .int .i64 o.key, .int .i64 o.val, .int .i64 o.to, .int .i64 o.n, .slice Ao o.pairs.length co] 28)).alloc (.cells #[.int .i64 0, .int .i64 0, .int .i64 0, .slice none 0 0] 30)).alloc (.cells #[.int .i64 0, .int .i64 0] 23)) (w.heap.size + 1 + 1) 23 #[.int .i64 0, .int .i64 0] := by
    have := Blk.new ((w.alloc (.cells #[.int .u8 1, .int .i64 o.key, .int .i64 o.val, .int .i64 o.to, .int .i64 o.n, .slice Ao o.pairs.length co] 28)).alloc (.cells #[.int .i64 0, .int .i64 0, .int .i64 0, .slice none 0 0] 30)) 23 #[.int .i64 0, .int .i64 0]
    rwa [World.size_alloc, World.size_alloc] at this
  obtain ⟨p, hp⟩ : ∃ p, ceilP l o.key = p := ⟨_, rfl⟩
  have HP := Lib.hid hp
  rw [hp] at hx
  have hq : (p.key == o.key) = false := by simpa using hx
  clear hx
  clear hp
  go_enter Try.func38, Try.ntmps38
  go_wp2_with fail
  refine (ceil_any A l c (o.key) _ (hA.below hb0) (by omega) hr).mono ?_
  rw [HP.out, hB]
  rintro e w1 ⟨rfl, hb1⟩
  have hb01 := bext hb0 hb1
  have bA := bA0.below hb1 bA0.lt
  have bO := bO0.below hb1 bO0.lt
  have bP := bP0.below hb1 bP0.lt
  have fa0 := bA.frozen 0
  have fa1 := bA.frozen 1
  have fa2 := bA.frozen 2
  have fa3 := bA.frozen 3
  have ga0 : w1.cell? ⟨w.heap.size + 1, 0, none⟩ = some (.int .i64 0) := bA.cell 0
  have ga1 : w1.cell? ⟨w.heap.size + 1, 1, none⟩ = some (.int .i64 0) := bA.cell 1
  have ga2 : w1.cell? ⟨w.heap.size + 1, 2, none⟩ = some (.int .i64 0) := bA.cell 2
  have ga3 : w1.cell? ⟨w.heap.size + 1, 3, none⟩ = some (.slice none 0 0) := bA.cell 3
  have fp0 := bP.frozen 0
  have fp1 := bP.frozen 1
  have gp0 : w1.cell? ⟨w.heap.size + 1 + 1, 0, none⟩ = some (.int .i64 0) := bP.cell 0
  have gp1 : w1.cell? ⟨w.heap.size + 1 + 1, 1, none⟩ = some (.int .i64 0) := bP.cell 1
  have cO1 : w1.cell? ⟨w.heap.size, 1, none⟩ = some (.int .i64 o.key) := bO.cell 1
  have cO3 : w1.cell? ⟨w.heap.size, 3, none⟩ = some (.int .i64 o.to) := bO.cell 3
  have cO4 : w1.cell? ⟨w.heap.size, 4, none⟩ = some (.int .i64 o.n) := bO.cell 4
  clear bO0 bA0 bP0 hb1 hb0
  go_wp2_with fail
  have e4 := four ((bA.far (p := ⟨w.heap.size + 1 + 1, 0, none⟩) (by simp) (.int .i64 p.key)).far (p := ⟨w.heap.size + 1 + 1, 1, none⟩) (by simp) (.int .i64 p.val)) (.int .i64 0) (.int .i64 0) (.int .i64 0) (.slice none 0 0)
  have h0 := e4.cell 0
  have h1 := e4.cell 1
  have h2 := e4.cell 2
  have h3 := e4.cell 3
  have hb4 := fourB ((hb01.setCell (p := ⟨w.heap.size + 1 + 1, 0, none⟩) (by simp; omega) (.int .i64 p.key)).setCell (p := ⟨w.heap.size + 1 + 1, 1, none⟩) (by simp; omega) (.int .i64 p.val)) (show w.heap.size ≤ w.heap.size + 1 by omega) (.int .i64 0) (.int .i64 0) (.int .i64 0) (.slice none 0 0)
  refine bodyPost_ret (v := .tuple #[.agg #[.int .i64 0, .int .i64 0, .int .i64 0, .slice none 0 0], .int .i64 (6)]) (by simp [results, Try.results38, go_sem, h0, h1, h2, h3]) rfl ?_
  exact ⟨none, 0, rfl, Fr.nil, hb4⟩


set_option maxHeartbeats 1600000 in
theorem told4t (A : Option Addr) (l : List Pr) (c : Nat) (o : Opn) (Ao : Option Addr) (co : Nat) (w : World) (hA : Sl w A (l.flatMap Pr.cells)) (hl : l.length ≤ 1000000) (hr : Hid (Ris l)) (hB : floorB l (o.key) = true) :
    Calls Try.prog 38 #[.slice A l.length c, .agg #[.int .u8 4, .int .i64 o.key, .int .i64 o.val, .int .i64 o.to, .int .i64 o.n, .slice Ao o.pairs.length co]] w (GivesTold (⟨floorP l (o.key), 0, []⟩) (0) w) := by
  have hb0 : Below w.heap.size w (((w.alloc (.cells #[.int .u8 4, .int .i64 o.key, .int .i64 o.val, .int .i64 o.to, .int .i64 o.n, .slice Ao o.pairs.length co] 28)).alloc (.cells #[.int .i64 0, .int .i64 0, .int .i64 0, .slice none 0 0] 30)).alloc (.cells #[.int .i64 0, .int .i64 0] 23)) := (((Below.refl _ _).alloc (Nat.le_refl _) _).alloc (by simp) _).alloc (by simp; omega) _
  have bA0 : Blk (((w.alloc (.cells #[.int .u8 4, .int .i64 o.key, .int .i64 o.val, .int .i64 o.to, .int .i64 o.n, .slice Ao o.pairs.length co] 28)).alloc (.cells #[.int .i64 0, .int .i64 0, .int .i64 0, .slice none 0 0] 30)).alloc (.cells #[.int .i64 0, .int .i64 0] 23)) (w.heap.size + 1) 30 #[.int .i64 0, .int .i64 0, .int .i64 0, .slice none 0 0] := by
    have := (Blk.new (w.alloc (.cells #[.int .u8 4, .int .i64 o.key, .int .i64 o.val, .int .i64 o.to, .int .i64 o.n, .slice Ao o.pairs.length co] 28)) 30 #[.int .i64 0, .int .i64 0, .int .i64 0, .slice none 0 0]).alloc (.cells #[.int .i64 0, .int .i64 0] 23)
    rwa [World.size_alloc] at this
  have bO0 : Blk (((w.alloc (.cells #[.int .u8 4, .int .i64 o.key, .int .i64 o.val, .int .i64 o.to, .int .i64 o.n, .slice Ao o.pairs.length co] 28)).alloc (.cells #[.int .i64 0, .int .i64 0, .int .i64 0, .slice none 0 0] 30)).alloc (.cells #[.int .i64 0, .int .i64 0] 23)) w.heap.size 28 #[.int .u8 4, .int .i64 o.key, .int .i64 o.val, .int .i64 o.to, .int .i64 o.n, .slice Ao o.pairs.length co] := ((Blk.new w _ _).alloc _).alloc _
  have bP0 : Blk (((w.alloc (.cells #[.int .u8 4, .int .i64 o.key, .int .i64 o.val, .int .i64 o.to, .int .i64 o.n, .slice Ao o.pairs.length co] 28)).alloc (.cells #[.int .i64 0, .int .i64 0, .int .i64 0, .slice none 0 0] 30)).alloc (.cells #[.int .i64 0, .int .i64 0] 23)) (w.heap.size + 1 + 1) 23 #[.int .i64 0, .int .i64 0] := by
    have := Blk.new ((w.alloc (.cells #[.int .u8 4, .int .i64 o.key, .int .i64 o.val, .int .i64 o.to, .int .i64 o.n, .slice Ao o.pairs.length co] 28)).alloc (.cells #[.int .i64 0, .int .i64 0, .int .i64 0, .slice none 0 0] 30)) 23 #[.int .i64 0, .int .i64 0]
    rwa [World.size_alloc, World.size_alloc] at this
  obtain ⟨p, hp⟩ : ∃ p, floorP l (o.key) = p := ⟨_, rfl⟩
  have HP := Lib.hid hp
  clear hp
  go_enter Try.func38, Try.ntmps38
  go_wp2_with fail
  refine (floor_any A l c (o.key) _ (hA.below hb0) (by omega) hr).mono ?_
  rw [HP.out, hB]
  rintro e w1 ⟨rfl, hb1⟩
  have hb01 := bext hb0 hb1
  have bA := bA0.below hb1 bA0.lt
  have bO := bO0.below hb1 bO0.lt
  have bP := bP0.below hb1 bP0.lt
  have fa0 := bA.frozen 0
  have fa1 := bA.frozen 1
  have fa2 := bA.frozen 2
  have fa3 := bA.frozen 3
  have ga0 : w1.cell? ⟨w.heap.size + 1, 0, none⟩ = some (.int .i64 0) := bA.cell 0
  have ga1 : w1.cell? ⟨w.heap.size + 1, 1, none⟩ = some (.int .i64 0) := bA.cell 1
  have ga2 : w1.cell? ⟨w.heap.size + 1, 2, none⟩ = some (.int .i64 0) := bA.cell 2
  have ga3 : w1.cell? ⟨w.heap.size + 1, 3, none⟩ = some (.slice none 0 0) := bA.cell 3
  have fp0 := bP.frozen 0
  have fp1 := bP.frozen 1
  have gp0 : w1.cell? ⟨w.heap.size + 1 + 1, 0, none⟩ = some (.int .i64 0) := bP.cell 0
  have gp1 : w1.cell? ⟨w.heap.size + 1 + 1, 1, none⟩ = some (.int .i64 0) := bP.cell 1
  have cO1 : w1.cell? ⟨w.heap.size, 1, none⟩ = some (.int .i64 o.key) := bO.cell 1
  have cO3 : w1.cell? ⟨w.heap.size, 3, none⟩ = some (.int .i64 o.to) := bO.cell 3
  have cO4 : w1.cell? ⟨w.heap.size, 4, none⟩ = some (.int .i64 o.n) := bO.cell 4
  clear bO0 bA0 bP0 hb1 hb0
  go_wp2_with fail
  have e4 := four ((bA.far (p := ⟨w.heap.size + 1 + 1, 0, none⟩) (by simp) (.int .i64 p.key)).far (p := ⟨w.heap.size + 1 + 1, 1, none⟩) (by simp) (.int .i64 p.val)) (.int .i64 p.key) (.int .i64 p.val) (.int .i64 0) (.slice none 0 0)
  have h0 := e4.cell 0
  have h1 := e4.cell 1
  have h2 := e4.cell 2
  have h3 := e4.cell 3
  have hb4 := fourB ((hb01.setCell (p := ⟨w.heap.size + 1 + 1, 0, none⟩) (by simp; omega) (.int .i64 p.key)).setCell (p := ⟨w.heap.size + 1 + 1, 1, none⟩) (by simp; omega) (.int .i64 p.val)) (show w.heap.size ≤ w.heap.size + 1 by omega) (.int .i64 p.key) (.int .i64 p.val) (.int .i64 0) (.slice none 0 0)
  refine bodyPost_ret (v := .tuple #[.agg #[.int .i64 p.key, .int .i64 p.val, .int .i64 0, .slice none 0 0], .int .i64 (0)]) (by simp [results, Try.results38, go_sem, h0, h1, h2, h3]) rfl ?_
  exact ⟨none, 0, by rw [HP.out]; rfl, Fr.nil, hb4⟩


set_option maxHeartbeats 1600000 in
theorem told4f (A : Option Addr) (l : List Pr) (c : Nat) (o : Opn) (Ao : Option Addr) (co : Nat) (w : World) (hA : Sl w A (l.flatMap Pr.cells)) (hl : l.length ≤ 1000000) (hr : Hid (Ris l)) (hB : floorB l (o.key) = false) :
    Calls Try.prog 38 #[.slice A l.length c, .agg #[.int .u8 4, .int .i64 o.key, .int .i64 o.val, .int .i64 o.to, .int .i64 o.n, .slice Ao o.pairs.length co]] w (GivesTold (noAns) (6) w) := by
  have hb0 : Below w.heap.size w (((w.alloc (.cells #[.int .u8 4, .int .i64 o.key, .int .i64 o.val, .int .i64 o.to, .int .i64 o.n, .slice Ao o.pairs.length co] 28)).alloc (.cells #[.int .i64 0, .int .i64 0, .int .i64 0, .slice none 0 0] 30)).alloc (.cells #[.int .i64 0, .int .i64 0] 23)) := (((Below.refl _ _).alloc (Nat.le_refl _) _).alloc (by simp) _).alloc (by simp; omega) _
  have bA0 : Blk (((w.alloc (.cells #[.int .u8 4, .int .i64 o.key, .int .i64 o.val, .int .i64 o.to, .int .i64 o.n, .slice Ao o.pairs.length co] 28)).alloc (.cells #[.int .i64 0, .int .i64 0, .int .i64 0, .slice none 0 0] 30)).alloc (.cells #[.int .i64 0, .int .i64 0] 23)) (w.heap.size + 1) 30 #[.int .i64 0, .int .i64 0, .int .i64 0, .slice none 0 0] := by
    have := (Blk.new (w.alloc (.cells #[.int .u8 4, .int .i64 o.key, .int .i64 o.val, .int .i64 o.to, .int .i64 o.n, .slice Ao o.pairs.length co] 28)) 30 #[.int .i64 0, .int .i64 0, .int .i64 0, .slice none 0 0]).alloc (.cells #[.int .i64 0, .int .i64 0] 23)
    rwa [World.size_alloc] at this
  have bO0 : Blk (((w.alloc (.cells #[.int .u8 4, .int .i64 o.key, .int .i64 o.val, .int .i64 o.to, .int .i64 o.n, .slice Ao o.pairs.length co] 28)).alloc (.cells #[.int .i64 0, .int .i64 0, .int .i64 0, .slice none 0 0] 30)).alloc (.cells #[.int .i64 0, .int .i64 0] 23)) w.heap.size 28 #[.int .u8 4, .int .i64 o.key, .int .i64 o.val, .int .i64 o.to, .int .i64 o.n, .slice Ao o.pairs.length co] := ((Blk.new w _ _).alloc _).alloc _
  have bP0 : Blk (((w.alloc (.cells #[.int .u8 4, .int .i64 o.key, .int .i64 o.val, .int .i64 o.to, .int .i64 o.n, .slice Ao o.pairs.length co] 28)).alloc (.cells #[.int .i64 0, .int .i64 0, .int .i64 0, .slice none 0 0] 30)).alloc (.cells #[.int .i64 0, .int .i64 0] 23)) (w.heap.size + 1 + 1) 23 #[.int .i64 0, .int .i64 0] := by
    have := Blk.new ((w.alloc (.cells #[.int .u8 4, .int .i64 o.key, .int .i64 o.val, .int .i64 o.to, .int .i64 o.n, .slice Ao o.pairs.length co] 28)).alloc (.cells #[.int .i64 0, .int .i64 0, .int .i64 0, .slice none 0 0] 30)) 23 #[.int .i64 0, .int .i64 0]
    rwa [World.size_alloc, World.size_alloc] at this
  obtain ⟨p, hp⟩ : ∃ p, floorP l (o.key) = p := ⟨_, rfl⟩
  have HP := Lib.hid hp
  clear hp
  go_enter Try.func38, Try.ntmps38
  go_wp2_with fail
  refine (floor_any A l c (o.key) _ (hA.below hb0) (by omega) hr).mono ?_
  rw [HP.out, hB]
  rintro e w1 ⟨rfl, hb1⟩
  have hb01 := bext hb0 hb1
  have bA := bA0.below hb1 bA0.lt
  have bO := bO0.below hb1 bO0.lt
  have bP := bP0.below hb1 bP0.lt
  have fa0 := bA.frozen 0
  have fa1 := bA.frozen 1
  have fa2 := bA.frozen 2
  have fa3 := bA.frozen 3
  have ga0 : w1.cell? ⟨w.heap.size + 1, 0, none⟩ = some (.int .i64 0) := bA.cell 0
  have ga1 : w1.cell? ⟨w.heap.size + 1, 1, none⟩ = some (.int .i64 0) := bA.cell 1
  have ga2 : w1.cell? ⟨w.heap.size + 1, 2, none⟩ = some (.int .i64 0) := bA.cell 2
  have ga3 : w1.cell? ⟨w.heap.size + 1, 3, none⟩ = some (.slice none 0 0) := bA.cell 3
  have fp0 := bP.frozen 0
  have fp1 := bP.frozen 1
  have gp0 : w1.cell? ⟨w.heap.size + 1 + 1, 0, none⟩ = some (.int .i64 0) := bP.cell 0
  have gp1 : w1.cell? ⟨w.heap.size + 1 + 1, 1, none⟩ = some (.int .i64 0) := bP.cell 1
  have cO1 : w1.cell? ⟨w.heap.size, 1, none⟩ = some (.int .i64 o.key) := bO.cell 1
  have cO3 : w1.cell? ⟨w.heap.size, 3, none⟩ = some (.int .i64 o.to) := bO.cell 3
  have cO4 : w1.cell? ⟨w.heap.size, 4, none⟩ = some (.int .i64 o.n) := bO.cell 4
  clear bO0 bA0 bP0 hb1 hb0
  go_wp2_with fail
  have e4 := four ((bA.far (p := ⟨w.heap.size + 1 + 1, 0, none⟩) (by simp) (.int .i64 p.key)).far (p := ⟨w.heap.size + 1 + 1, 1, none⟩) (by simp) (.int .i64 p.val)) (.int .i64 0) (.int .i64 0) (.int .i64 0) (.slice none 0 0)
  have h0 := e4.cell 0
  have h1 := e4.cell 1
  have h2 := e4.cell 2
  have h3 := e4.cell 3
  have hb4 := fourB ((hb01.setCell (p := ⟨w.heap.size + 1 + 1, 0, none⟩) (by simp; omega) (.int .i64 p.key)).setCell (p := ⟨w.heap.size + 1 + 1, 1, none⟩) (by simp; omega) (.int .i64 p.val)) (show w.heap.size ≤ w.heap.size + 1 by omega) (.int .i64 0) (.int .i64 0) (.int .i64 0) (.slice none 0 0)
  refine bodyPost_ret (v := .tuple #[.agg #[.int .i64 0, .int .i64 0, .int .i64 0, .slice none 0 0], .int .i64 (6)]) (by simp [results, Try.results38, go_sem, h0, h1, h2, h3]) rfl ?_
  exact ⟨none, 0, rfl, Fr.nil, hb4⟩


set_option maxHeartbeats 1600000 in
theorem told5t (A : Option Addr) (l : List Pr) (c : Nat) (o : Opn) (Ao : Option Addr) (co : Nat) (w : World) (hA : Sl w A (l.flatMap Pr.cells)) (hl : l.length ≤ 1000000) (hr : Hid (Ris l)) (hB : ceilB l (o.key) = true) :
    Calls Try.prog 38 #[.slice A l.length c, .agg #[.int .u8 5, .int .i64 o.key, .int .i64 o.val, .int .i64 o.to, .int .i64 o.n, .slice Ao o.pairs.length co]] w (GivesTold (⟨ceilP l (o.key), 0, []⟩) (0) w) := by
  have hb0 : Below w.heap.size w (((w.alloc (.cells #[.int .u8 5, .int .i64 o.key, .int .i64 o.val, .int .i64 o.to, .int .i64 o.n, .slice Ao o.pairs.length co] 28)).alloc (.cells #[.int .i64 0, .int .i64 0, .int .i64 0, .slice none 0 0] 30)).alloc (.cells #[.int .i64 0, .int .i64 0] 23)) := (((Below.refl _ _).alloc (Nat.le_refl _) _).alloc (by simp) _).alloc (by simp; omega) _
  have bA0 : Blk (((w.alloc (.cells #[.int .u8 5, .int .i64 o.key, .int .i64 o.val, .int .i64 o.to, .int .i64 o.n, .slice Ao o.pairs.length co] 28)).alloc (.cells #[.int .i64 0, .int .i64 0, .int .i64 0, .slice none 0 0] 30)).alloc (.cells #[.int .i64 0, .int .i64 0] 23)) (w.heap.size + 1) 30 #[.int .i64 0, .int .i64 0, .int .i64 0, .slice none 0 0] := by
    have := (Blk.new (w.alloc (.cells #[.int .u8 5, .int .i64 o.key, .int .i64 o.val, .int .i64 o.to, .int .i64 o.n, .slice Ao o.pairs.length co] 28)) 30 #[.int .i64 0, .int .i64 0, .int .i64 0, .slice none 0 0]).alloc (.cells #[.int .i64 0, .int .i64 0] 23)
    rwa [World.size_alloc] at this
  have bO0 : Blk (((w.alloc (.cells #[.int .u8 5, .int .i64 o.key, .int .i64 o.val, .int .i64 o.to, .int .i64 o.n, .slice Ao o.pairs.length co] 28)).alloc (.cells #[.int .i64 0, .int .i64 0, .int .i64 0, .slice none 0 0] 30)).alloc (.cells #[.int .i64 0, .int .i64 0] 23)) w.heap.size 28 #[.int .u8 5, .int .i64 o.key, .int .i64 o.val, .int .i64 o.to, .int .i64 o.n, .slice Ao o.pairs.length co] := ((Blk.new w _ _).alloc _).alloc _
  have bP0 : Blk (((w.alloc (.cells #[.int .u8 5, .int .i64 o.key, .int .i64 o.val, .int .i64 o.to, .int .i64 o.n, .slice Ao o.pairs.length co] 28)).alloc (.cells #[.int .i64 0, .int .i64 0, .int .i64 0, .slice none 0 0] 30)).alloc (.cells #[.int .i64 0, .int .i64 0] 23)) (w.heap.size + 1 + 1) 23 #[.int .i64 0, .int .i64 0] := by
    have := Blk.new ((w.alloc (.cells #[.int .u8 5, .int .i64 o.key, .int .i64 o.val, .int .i64 o.to, .int .i64 o.n, .slice Ao o.pairs.length co] 28)).alloc (.cells #[.int .i64 0, .int .i64 0, .int .i64 0, .slice none 0 0] 30)) 23 #[.int .i64 0, .int .i64 0]
    rwa [World.size_alloc, World.size_alloc] at this
  obtain ⟨p, hp⟩ : ∃ p, ceilP l (o.key) = p := ⟨_, rfl⟩
  have HP := Lib.hid hp
  clear hp
  go_enter Try.func38, Try.ntmps38
  go_wp2_with fail
  refine (ceil_any A l c (o.key) _ (hA.below hb0) (by omega) hr).mono ?_
  rw [HP.out, hB]
  rintro e w1 ⟨rfl, hb1⟩
  have hb01 := bext hb0 hb1
  have bA := bA0.below hb1 bA0.lt
  have bO := bO0.below hb1 bO0.lt
  have bP := bP0.below hb1 bP0.lt
  have fa0 := bA.frozen 0
  have fa1 := bA.frozen 1
  have fa2 := bA.frozen 2
  have fa3 := bA.frozen 3
  have ga0 : w1.cell? ⟨w.heap.size + 1, 0, none⟩ = some (.int .i64 0) := bA.cell 0
  have ga1 : w1.cell? ⟨w.heap.size + 1, 1, none⟩ = some (.int .i64 0) := bA.cell 1
  have ga2 : w1.cell? ⟨w.heap.size + 1, 2, none⟩ = some (.int .i64 0) := bA.cell 2
  have ga3 : w1.cell? ⟨w.heap.size + 1, 3, none⟩ = some (.slice none 0 0) := bA.cell 3
  have fp0 := bP.frozen 0
  have fp1 := bP.frozen 1
  have gp0 : w1.cell? ⟨w.heap.size + 1 + 1, 0, none⟩ = some (.int .i64 0) := bP.cell 0
  have gp1 : w1.cell? ⟨w.heap.size + 1 + 1, 1, none⟩ = some (.int .i64 0) := bP.cell 1
  have cO1 : w1.cell? ⟨w.heap.size, 1, none⟩ = some (.int .i64 o.key) := bO.cell 1
  have cO3 : w1.cell? ⟨w.heap.size, 3, none⟩ = some (.int .i64 o.to) := bO.cell 3
  have cO4 : w1.cell? ⟨w.heap.size, 4, none⟩ = some (.int .i64 o.n) := bO.cell 4
  clear bO0 bA0 bP0 hb1 hb0
  go_wp2_with fail
  have e4 := four ((bA.far (p := ⟨w.heap.size + 1 + 1, 0, none⟩) (by simp) (.int .i64 p.key)).far (p := ⟨w.heap.size + 1 + 1, 1, none⟩) (by simp) (.int .i64 p.val)) (.int .i64 p.key) (.int .i64 p.val) (.int .i64 0) (.slice none 0 0)
  have h0 := e4.cell 0
  have h1 := e4.cell 1
  have h2 := e4.cell 2
  have h3 := e4.cell 3
  have hb4 := fourB ((hb01.setCell (p := ⟨w.heap.size + 1 + 1, 0, none⟩) (by simp; omega) (.int .i64 p.key)).setCell (p := ⟨w.heap.size + 1 + 1, 1, none⟩) (by simp; omega) (.int .i64 p.val)) (show w.heap.size ≤ w.heap.size + 1 by omega) (.int .i64 p.key) (.int .i64 p.val) (.int .i64 0) (.slice none 0 0)
  refine bodyPost_ret (v := .tuple #[.agg #[.int .i64 p.key, .int .i64 p.val, .int .i64 0, .slice none 0 0], .int .i64 (0)]) (by simp [results, Try.results38, go_sem, h0, h1, h2, h3]) rfl ?_
  exact ⟨none, 0, by rw [HP.out]; rfl, Fr.nil, hb4⟩


set_option maxHeartbeats 1600000 in
theorem told5f (A : Option Addr) (l : List Pr) (c : Nat) (o : Opn) (Ao : Option Addr) (co : Nat) (w : World) (hA : Sl w A (l.flatMap Pr.cells)) (hl : l.length ≤ 1000000) (hr : Hid (Ris l)) (hB : ceilB l (o.key) = false) :
    Calls Try.prog 38 #[.slice A l.length c, .agg #[.int .u8 5, .int .i64 o.key, .int .i64 o.val, .int .i64 o.to, .int .i64 o.n, .slice Ao o.pairs.length co]] w (GivesTold (noAns) (6) w) := by
  have hb0 : Below w.heap.size w (((w.alloc (.cells #[.int .u8 5, .int .i64 o.key, .int .i64 o.val, .int .i64 o.to, .int .i64 o.n, .slice Ao o.pairs.length co] 28)).alloc (.cells #[.int .i64 0, .int .i64 0, .int .i64 0, .slice none 0 0] 30)).alloc (.cells #[.int .i64 0, .int .i64 0] 23)) := (((Below.refl _ _).alloc (Nat.le_refl _) _).alloc (by simp) _).alloc (by simp; omega) _
  have bA0 : Blk (((w.alloc (.cells #[.int .u8 5, .int .i64 o.key, .int .i64 o.val, .int .i64 o.to, .int .i64 o.n, .slice Ao o.pairs.length co] 28)).alloc (.cells #[.int .i64 0, .int .i64 0, .int .i64 0, .slice none 0 0] 30)).alloc (.cells #[.int .i64 0, .int .i64 0] 23)) (w.heap.size + 1) 30 #[.int .i64 0, .int .i64 0, .int .i64 0, .slice none 0 0] := by
    have := (Blk.new (w.alloc (.cells #[.int .u8 5, .int .i64 o.key, .int .i64 o.val, .int .i64 o.to, .int .i64 o.n, .slice Ao o.pairs.length co] 28)) 30 #[.int .i64 0, .int .i64 0, .int .i64 0, .slice none 0 0]).alloc (.cells #[.int .i64 0, .int .i64 0] 23)
    rwa [World.size_alloc] at this
  have bO0 : Blk (((w.alloc (.cells #[.int .u8 5, .int .i64 o.key, .int .i64 o.val, .int .i64 o.to, .int .i64 o.n, .slice Ao o.pairs.length co] 28)).alloc (.cells #[.int .i64 0, .int .i64 0, .int .i64 0, .slice none 0 0] 30)).alloc (.cells #[.int .i64 0, .int .i64 0] 23)) w.heap.size 28 #[.int .u8 5, .int .i64 o.key, .int .i64 o.val, .int .i64 o.to, .int .i64 o.n, .slice Ao o.pairs.length co] := ((Blk.new w _ _).alloc _).alloc _
  have bP0 : Blk (((w.alloc (.cells #[.int .u8 5, .int .i64 o.key, .int .i64 o.val, .int .i64 o.to, .int .i64 o.n, .slice Ao o.pairs.length co] 28)).alloc (.cells #[.int .i64 0, .int .i64 0, .int .i64 0, .slice none 0 0] 30)).alloc (.cells #[.int .i64 0, .int .i64 0] 23)) (w.heap.size + 1 + 1) 23 #[.int .i64 0, .int .i64 0] := by
    have := Blk.new ((w.alloc (.cells #[.int .u8 5, .int .i64 o.key, .int .i64 o.val, .int .i64 o.to, .int .i64 o.n, .slice Ao o.pairs.length co] 28)).alloc (.cells #[.int .i64 0, .int .i64 0, .int .i64 0, .slice none 0 0] 30)) 23 #[.int .i64 0, .int .i64 0]
    rwa [World.size_alloc, World.size_alloc] at this
  obtain ⟨p, hp⟩ : ∃ p, ceilP l (o.key) = p := ⟨_, rfl⟩
  have HP := Lib.hid hp
  clear hp
  go_enter Try.func38, Try.ntmps38
  go_wp2_with fail
  refine (ceil_any A l c (o.key) _ (hA.below hb0) (by omega) hr).mono ?_
  rw [HP.out, hB]
  rintro e w1 ⟨rfl, hb1⟩
  have hb01 := bext hb0 hb1
  have bA := bA0.below hb1 bA0.lt
  have bO := bO0.below hb1 bO0.lt
  have bP := bP0.below hb1 bP0.lt
  have fa0 := bA.frozen 0
  have fa1 := bA.frozen 1
  have fa2 := bA.frozen 2
  have fa3 := bA.frozen 3
  have ga0 : w1.cell? ⟨w.heap.size + 1, 0, none⟩ = some (.int .i64 0) := bA.cell 0
  have ga1 : w1.cell? ⟨w.heap.size + 1, 1, none⟩ = some (.int .i64 0) := bA.cell 1
  have ga2 : w1.cell? ⟨w.heap.size + 1, 2, none⟩ = some (.int .i64 0) := bA.cell 2
  have ga3 : w1.cell? ⟨w.heap.size + 1, 3, none⟩ = some (.slice none 0 0) := bA.cell 3
  have fp0 := bP.frozen 0
  have fp1 := bP.frozen 1
  have gp0 : w1.cell? ⟨w.heap.size + 1 + 1, 0, none⟩ = some (.int .i64 0) := bP.cell 0
  have gp1 : w1.cell? ⟨w.heap.size + 1 + 1, 1, none⟩ = some (.int .i64 0) := bP.cell 1
  have cO1 : w1.cell? ⟨w.heap.size, 1, none⟩ = some (.int .i64 o.key) := bO.cell 1
  have cO3 : w1.cell? ⟨w.heap.size, 3, none⟩ = some (.int .i64 o.to) := bO.cell 3
  have cO4 : w1.cell? ⟨w.heap.size, 4, none⟩ = some (.int .i64 o.n) := bO.cell 4
  clear bO0 bA0 bP0 hb1 hb0
  go_wp2_with fail
  have e4 := four ((bA.far (p := ⟨w.heap.size + 1 + 1, 0, none⟩) (by simp) (.int .i64 p.key)).far (p := ⟨w.heap.size + 1 + 1, 1, none⟩) (by simp) (.int .i64 p.val)) (.int .i64 0) (.int .i64 0) (.int .i64 0) (.slice none 0 0)
  have h0 := e4.cell 0
  have h1 := e4.cell 1
  have h2 := e4.cell 2
  have h3 := e4.cell 3
  have hb4 := fourB ((hb01.setCell (p := ⟨w.heap.size + 1 + 1, 0, none⟩) (by simp; omega) (.int .i64 p.key)).setCell (p := ⟨w.heap.size + 1 + 1, 1, none⟩) (by simp; omega) (.int .i64 p.val)) (show w.heap.size ≤ w.heap.size + 1 by omega) (.int .i64 0) (.int .i64 0) (.int .i64 0) (.slice none 0 0)
  refine bodyPost_ret (v := .tuple #[.agg #[.int .i64 0, .int .i64 0, .int .i64 0, .slice none 0 0], .int .i64 (6)]) (by simp [results, Try.results38, go_sem, h0, h1, h2, h3]) rfl ?_
  exact ⟨none, 0, rfl, Fr.nil, hb4⟩


set_option maxHeartbeats 1600000 in
theorem told6t (A : Option Addr) (l : List Pr) (c : Nat) (o : Opn) (Ao : Option Addr) (co : Nat) (w : World) (hA : Sl w A (l.flatMap Pr.cells)) (hl : l.length ≤ 1000000) (hr : Hid (Ris l)) (hB : ceilB l (-9223372036854775808) = true) :
    Calls Try.prog 38 #[.slice A l.length c, .agg #[.int .u8 6, .int .i64 o.key, .int .i64 o.val, .int .i64 o.to, .int .i64 o.n, .slice Ao o.pairs.length co]] w (GivesTold (⟨ceilP l (-9223372036854775808), 0, []⟩) (0) w) := by
  have hb0 : Below w.heap.size w (((w.alloc (.cells #[.int .u8 6, .int .i64 o.key, .int .i64 o.val, .int .i64 o.to, .int .i64 o.n, .slice Ao o.pairs.length co] 28)).alloc (.cells #[.int .i64 0, .int .i64 0, .int .i64 0, .slice none 0 0] 30)).alloc (.cells #[.int .i64 0, .int .i64 0] 23)) := (((Below.refl _ _).alloc (Nat.le_refl _) _).alloc (by simp) _).alloc (by simp; omega) _
  have bA0 : Blk (((w.alloc (.cells #[.int .u8 6, .int .i64 o.key, .int .i64 o.val, .int .i64 o.to, .int .i64 o.n, .slice Ao o.pairs.length co] 28)).alloc (.cells #[.int .i64 0, .int .i64 0, .int .i64 0, .slice none 0 0] 30)).alloc (.cells #[.int .i64 0, .int .i64 0] 23)) (w.heap.size + 1) 30 #[.int .i64 0, .int .i64 0, .int .i64 0, .slice none 0 0] := by
    have := (Blk.new (w.alloc (.cells #[.int .u8 6, .int .i64 o.key, .int .i64 o.val, .int .i64 o.to, .int .i64 o.n, .slice Ao o.pairs.length co] 28)) 30 #[.int .i64 0, .int .i64 0, .int .i64 0, .slice none 0 0]).alloc (.cells #[.int .i64 0, .int .i64 0] 23)
    rwa [World.size_alloc] at this
  have bO0 : Blk (((w.alloc (.cells #[.int .u8 6, .int .i64 o.key, .int .i64 o.val, .int .i64 o.to, .int .i64 o.n, .slice Ao o.pairs.length co] 28)).alloc (.cells #[.int .i64 0, .int .i64 0, .int .i64 0, .slice none 0 0] 30)).alloc (.cells #[.int .i64 0, .int .i64 0] 23)) w.heap.size 28 #[.int .u8 6, .int .i64 o.key, .int .i64 o.val, .int .i64 o.to, .int .i64 o.n, .slice Ao o.pairs.length co] := ((Blk.new w _ _).alloc _).alloc _
  have bP0 : Blk (((w.alloc (.cells #[.int .u8 6, .int .i64 o.key, .int .i64 o.val, .int .i64 o.to, .int .i64 o.n, .slice Ao o.pairs.length co] 28)).alloc (.cells #[.int .i64 0, .int .i64 0, .int .i64 0, .slice none 0 0] 30)).alloc (.cells #[.int .i64 0, .int .i64 0] 23)) (w.heap.size + 1 + 1) 23 #[.int .i64 0, .int .i64 0] := by
    have := Blk.new ((w.alloc (.cells #[.int .u8 6, .int .i64 o.key, .int .i64 o.val, .int .i64 o.to, .int .i64 o.n, .slice Ao o.pairs.length co] 28)).alloc (.cells #[.int .i64 0, .int .i64 0, .int .i64 0, .slice none 0 0] 30)) 23 #[.int .i64 0, .int .i64 0]
    rwa [World.size_alloc, World.size_alloc] at this
  obtain ⟨p, hp⟩ : ∃ p, ceilP l (-9223372036854775808) = p := ⟨_, rfl⟩
  have HP := Lib.hid hp
  clear hp
  go_enter Try.func38, Try.ntmps38
  go_wp2_with fail
  refine (ceil_any A l c (-9223372036854775808) _ (hA.below hb0) (by omega) hr).mono ?_
  rw [HP.out, hB]
  rintro e w1 ⟨rfl, hb1⟩
  have hb01 := bext hb0 hb1
  have bA := bA0.below hb1 bA0.lt
  have bO := bO0.below hb1 bO0.lt
  have bP := bP0.below hb1 bP0.lt
  have fa0 := bA.frozen 0
  have fa1 := bA.frozen 1
  have fa2 := bA.frozen 2
  have fa3 := bA.frozen 3
  have ga0 : w1.cell? ⟨w.heap.size + 1, 0, none⟩ = some (.int .i64 0) := bA.cell 0
  have ga1 : w1.cell? ⟨w.heap.size + 1, 1, none⟩ = some (.int .i64 0) := bA.cell 1
  have ga2 : w1.cell? ⟨w.heap.size + 1, 2, none⟩ = some (.int .i64 0) := bA.cell 2
  have ga3 : w1.cell? ⟨w.heap.size + 1, 3, none⟩ = some (.slice none 0 0) := bA.cell 3
  have fp0 := bP.frozen 0
  have fp1 := bP.frozen 1
  have gp0 : w1.cell? ⟨w.heap.size + 1 + 1, 0, none⟩ = some (.int .i64 0) := bP.cell 0
  have gp1 : w1.cell? ⟨w.heap.size + 1 + 1, 1, none⟩ = some (.int .i64 0) := bP.cell 1
  have cO1 : w1.cell? ⟨w.heap.size, 1, none⟩ = some (.int .i64 o.key) := bO.cell 1
  have cO3 : w1.cell? ⟨w.heap.size, 3, none⟩ = some (.int .i64 o.to) := bO.cell 3
  have cO4 : w1.cell? ⟨w.heap.size, 4, none⟩ = some (.int .i64 o.n) := bO.cell 4
  clear bO0 bA0 bP0 hb1 hb0
  go_wp2_with fail
  have e4 := four ((bA.far (p := ⟨w.heap.size + 1 + 1, 0, none⟩) (by simp) (.int .i64 p.key)).far (p := ⟨w.heap.size + 1 + 1, 1, none⟩) (by simp) (.int .i64 p.val)) (.int .i64 p.key) (.int .i64 p.val) (.int .i64 0) (.slice none 0 0)
  have h0 := e4.cell 0
  have h1 := e4.cell 1
  have h2 := e4.cell 2
  have h3 := e4.cell 3
  have hb4 := fourB ((hb01.setCell (p := ⟨w.heap.size + 1 + 1, 0, none⟩) (by simp; omega) (.int .i64 p.key)).setCell (p := ⟨w.heap.size + 1 + 1, 1, none⟩) (by simp; omega) (.int .i64 p.val)) (show w.heap.size ≤ w.heap.size + 1 by omega) (.int .i64 p.key) (.int .i64 p.val) (.int .i64 0) (.slice none 0 0)
  refine bodyPost_ret (v := .tuple #[.agg #[.int .i64 p.key, .int .i64 p.val, .int .i64 0, .slice none 0 0], .int .i64 (0)]) (by simp [results, Try.results38, go_sem, h0, h1, h2, h3]) rfl ?_
  exact ⟨none, 0, by rw [HP.out]; rfl, Fr.nil, hb4⟩


set_option maxHeartbeats 1600000 in
theorem told6f (A : Option Addr) (l : List Pr) (c : Nat) (o : Opn) (Ao : Option Addr) (co : Nat) (w : World) (hA : Sl w A (l.flatMap Pr.cells)) (hl : l.length ≤ 1000000) (hr : Hid (Ris l)) (hB : ceilB l (-9223372036854775808) = false) :
    Calls Try.prog 38 #[.slice A l.length c, .agg #[.int .u8 6, .int .i64 o.key, .int .i64 o.val, .int .i64 o.to, .int .i64 o.n, .slice Ao o.pairs.length co]] w (GivesTold (noAns) (6) w) := by
  have hb0 : Below w.heap.size w (((w.alloc (.cells #[.int .u8 6, .int .i64 o.key, .int .i64 o.val, .int .i64 o.to, .int .i64 o.n, .slice Ao o.pairs.length co] 28)).alloc (.cells #[.int .i64 0, .int .i64 0, .int .i64 0, .slice none 0 0] 30)).alloc (.cells #[.int .i64 0, .int .i64 0] 23)) := (((Below.refl _ _).alloc (Nat.le_refl _) _).alloc (by simp) _).alloc (by simp; omega) _
  have bA0 : Blk (((w.alloc (.cells #[.int .u8 6, .int .i64 o.key, .int .i64 o.val, .int .i64 o.to, .int .i64 o.n, .slice Ao o.pairs.length co] 28)).alloc (.cells #[.int .i64 0, .int .i64 0, .int .i64 0, .slice none 0 0] 30)).alloc (.cells #[.int .i64 0, .int .i64 0] 23)) (w.heap.size + 1) 30 #[.int .i64 0, .int .i64 0, .int .i64 0, .slice none 0 0] := by
    have := (Blk.new (w.alloc (.cells #[.int .u8 6, .int .i64 o.key, .int .i64 o.val, .int .i64 o.to, .int .i64 o.n, .slice Ao o.pairs.length co] 28)) 30 #[.int .i64 0, .int .i64 0, .int .i64 0, .slice none 0 0]).alloc (.cells #[.int .i64 0, .int .i64 0] 23)
    rwa [World.size_alloc] at this
  have bO0 : Blk (((w.alloc (.cells #[.int .u8 6, .int .i64 o.key, .int .i64 o.val, .int .i64 o.to, .int .i64 o.n, .slice Ao o.pairs.length co] 28)).alloc (.cells #[.int .i64 0, .int .i64 0, .int .i64 0, .slice none 0 0] 30)).alloc (.cells #[.int .i64 0, .int .i64 0] 23)) w.heap.size 28 #[.int .u8 6, .int .i64 o.key, .int .i64 o.val, .int .i64 o.to, .int .i64 o.n, .slice Ao o.pairs.length co] := ((Blk.new w _ _).alloc _).alloc _
  have bP0 : Blk (((w.alloc (.cells #[.int .u8 6, .int .i64 o.key, .int .i64 o.val, .int .i64 o.to, .int .i64 o.n, .slice Ao o.pairs.length co] 28)).alloc (.cells #[.int .i64 0, .int .i64 0, .int .i64 0, .slice none 0 0] 30)).alloc (.cells #[.int .i64 0, .int .i64 0] 23)) (w.heap.size + 1 + 1) 23 #[.int .i64 0, .int .i64 0] := by
    have := Blk.new ((w.alloc (.cells #[.int .u8 6, .int .i64 o.key, .int .i64 o.val, .int .i64 o.to, .int .i64 o.n, .slice Ao o.pairs.length co] 28)).alloc (.cells #[.int .i64 0, .int .i64 0, .int .i64 0, .slice none 0 0] 30)) 23 #[.int .i64 0, .int .i64 0]
    rwa [World.size_alloc, World.size_alloc] at this
  obtain ⟨p, hp⟩ : ∃ p, ceilP l (-9223372036854775808) = p := ⟨_, rfl⟩
  have HP := Lib.hid hp
  clear hp
  go_enter Try.func38, Try.ntmps38
  go_wp2_with fail
  refine (ceil_any A l c (-9223372036854775808) _ (hA.below hb0) (by omega) hr).mono ?_
  rw [HP.out, hB]
  rintro e w1 ⟨rfl, hb1⟩
  have hb01 := bext hb0 hb1
  have bA := bA0.below hb1 bA0.lt
  have bO := bO0.below hb1 bO0.lt
  have bP := bP0.below hb1 bP0.lt
  have fa0 := bA.frozen 0
  have fa1 := bA.frozen 1
  have fa2 := bA.frozen 2
  have fa3 := bA.frozen 3
  have ga0 : w1.cell? ⟨w.heap.size + 1, 0, none⟩ = some (.int .i64 0) := bA.cell 0
  have ga1 : w1.cell? ⟨w.heap.size + 1, 1, none⟩ = some (.int .i64 0) := bA.cell 1
  have ga2 : w1.cell? ⟨w.heap.size + 1, 2, none⟩ = some (.int .i64 0) := bA.cell 2
  have ga3 : w1.cell? ⟨w.heap.size + 1, 3, none⟩ = some (.slice none 0 0) := bA.cell 3
  have fp0 := bP.frozen 0
  have fp1 := bP.frozen 1
  have gp0 : w1.cell? ⟨w.heap.size + 1 + 1, 0, none⟩ = some (.int .i64 0) := bP.cell 0
  have gp1 : w1.cell? ⟨w.heap.size + 1 + 1, 1, none⟩ = some (.int .i64 0) := bP.cell 1
  have cO1 : w1.cell? ⟨w.heap.size, 1, none⟩ = some (.int .i64 o.key) := bO.cell 1
  have cO3 : w1.cell? ⟨w.heap.size, 3, none⟩ = some (.int .i64 o.to) := bO.cell 3
  have cO4 : w1.cell? ⟨w.heap.size, 4, none⟩ = some (.int .i64 o.n) := bO.cell 4
  clear bO0 bA0 bP0 hb1 hb0
  go_wp2_with fail
  have e4 := four ((bA.far (p := ⟨w.heap.size + 1 + 1, 0, none⟩) (by simp) (.int .i64 p.key)).far (p := ⟨w.heap.size + 1 + 1, 1, none⟩) (by simp) (.int .i64 p.val)) (.int .i64 0) (.int .i64 0) (.int .i64 0) (.slice none 0 0)
  have h0 := e4.cell 0
  have h1 := e4.cell 1
  have h2 := e4.cell 2
  have h3 := e4.cell 3
  have hb4 := fourB ((hb01.setCell (p := ⟨w.heap.size + 1 + 1, 0, none⟩) (by simp; omega) (.int .i64 p.key)).setCell (p := ⟨w.heap.size + 1 + 1, 1, none⟩) (by simp; omega) (.int .i64 p.val)) (show w.heap.size ≤ w.heap.size + 1 by omega) (.int .i64 0) (.int .i64 0) (.int .i64 0) (.slice none 0 0)
  refine bodyPost_ret (v := .tuple #[.agg #[.int .i64 0, .int .i64 0, .int .i64 0, .slice none 0 0], .int .i64 (6)]) (by simp [results, Try.results38, go_sem, h0, h1, h2, h3]) rfl ?_
  exact ⟨none, 0, rfl, Fr.nil, hb4⟩


set_option maxHeartbeats 1600000 in
theorem told7t (A : Option Addr) (l : List Pr) (c : Nat) (o : Opn) (Ao : Option Addr) (co : Nat) (w : World) (hA : Sl w A (l.flatMap Pr.cells)) (hl : l.length ≤ 1000000) (hr : Hid (Ris l)) (hB : floorB l (9223372036854775807) = true) :
    Calls Try.prog 38 #[.slice A l.length c, .agg #[.int .u8 7, .int .i64 o.key, .int .i64 o.val, .int .i64 o.to, .int .i64 o.n, .slice Ao o.pairs.length co]] w (GivesTold (⟨floorP l (9223372036854775807), 0, []⟩) (0) w) := by
  have hb0 : Below w.heap.size w (((w.alloc (.cells #[.int .u8 7, .int .i64 o.key, .int .i64 o.val, .int .i64 o.to, .int .i64 o.n, .slice Ao o.pairs.length co] 28)).alloc (.cells #[.int .i64 0, .int .i64 0, .int .i64 0, .slice none 0 0] 30)).alloc (.cells #[.int .i64 0, .int .i64 0] 23)) := (((Below.refl _ _).alloc (Nat.le_refl _) _).alloc (by simp) _).alloc (by simp; omega) _
  have bA0 : Blk (((w.alloc (.cells #[.int .u8 7, .int .i64 o.key, .int .i64 o.val, .int .i64 o.to, .int .i64 o.n, .slice Ao o.pairs.length co] 28)).alloc (.cells #[.int .i64 0, .int .i64 0, .int .i64 0, .slice none 0 0] 30)).alloc (.cells #[.int .i64 0, .int .i64 0] 23)) (w.heap.size + 1) 30 #[.int .i64 0, .int .i64 0, .int .i64 0, .slice none 0 0] := by
    have := (Blk.new (w.alloc (.cells #[.int .u8 7, .int .i64 o.key, .int .i64 o.val, .int .i64 o.to, .int .i64 o.n, .slice Ao o.pairs.length co] 28)) 30 #[.int .i64 0, .int .i64 0, .int .i64 0, .slice none 0 0]).alloc (.cells #[.int .i64 0, .int .i64 0] 23)
    rwa [World.size_alloc] at this
  have bO0 : Blk (((w.alloc (.cells #[.int .u8 7, .int .i64 o.key, .int .i64 o.val, .int .i64 o.to, .int .i64 o.n, .slice Ao o.pairs.length co] 28)).alloc (.cells #[.int .i64 0, .int .i64 0, .int .i64 0, .slice none 0 0] 30)).alloc (.cells #[.int .i64 0, .int .i64 0] 23)) w.heap.size 28 #[.int .u8 7, .int .i64 o.key, .int .i64 o.val, .int .i64 o.to, .int .i64 o.n, .slice Ao o.pairs.length co] := ((Blk.new w _ _).alloc _).alloc _
  have bP0 : Blk (((w.alloc (.cells #[.int .u8 7, .int .i64 o.key, .int .i64 o.val, .int .i64 o.to, .int .i64 o.n, .slice Ao o.pairs.length co] 28)).alloc (.cells #[.int .i64 0, .int .i64 0, .int .i64 0, .slice none 0 0] 30)).alloc (.cells #[.int .i64 0, .int .i64 0] 23)) (w.heap.size + 1 + 1) 23 #[.int .i64 0, .int .i64 0] := by
    have := Blk.new ((w.alloc (.cells #[.int .u8 7, .int .i64 o.key, .int .i64 o.val, .int .i64 o.to, .int .i64 o.n, .slice Ao o.pairs.length co] 28)).alloc (.cells #[.int .i64 0, .int .i64 0, .int .i64 0, .slice none 0 0] 30)) 23 #[.int .i64 0, .int .i64 0]
    rwa [World.size_alloc, World.size_alloc] at this
  obtain ⟨p, hp⟩ : ∃ p, floorP l (9223372036854775807) = p := ⟨_, rfl⟩
  have HP := Lib.hid hp
  clear hp
  go_enter Try.func38, Try.ntmps38
  go_wp2_with fail
  refine (floor_any A l c (9223372036854775807) _ (hA.below hb0) (by omega) hr).mono ?_
  rw [HP.out, hB]
  rintro e w1 ⟨rfl, hb1⟩
  have hb01 := bext hb0 hb1
  have bA := bA0.below hb1 bA0.lt
  have bO := bO0.below hb1 bO0.lt
  have bP := bP0.below hb1 bP0.lt
  have fa0 := bA.frozen 0
  have fa1 := bA.frozen 1
  have fa2 := bA.frozen 2
  have fa3 := bA.frozen 3
  have ga0 : w1.cell? ⟨w.heap.size + 1, 0, none⟩ = some (.int .i64 0) := bA.cell 0
  have ga1 : w1.cell? ⟨w.heap.size + 1, 1, none⟩ = some (.int .i64 0) := bA.cell 1
  have ga2 : w1.cell? ⟨w.heap.size + 1, 2, none⟩ = some (.int .i64 0) := bA.cell 2
  have ga3 : w1.cell? ⟨w.heap.size + 1, 3, none⟩ = some (.slice none 0 0) := bA.cell 3
  have fp0 := bP.frozen 0
  have fp1 := bP.frozen 1
  have gp0 : w1.cell? ⟨w.heap.size + 1 + 1, 0, none⟩ = some (.int .i64 0) := bP.cell 0
  have gp1 : w1.cell? ⟨w.heap.size + 1 + 1, 1, none⟩ = some (.int .i64 0) := bP.cell 1
  have cO1 : w1.cell? ⟨w.heap.size, 1, none⟩ = some (.int .i64 o.key) := bO.cell 1
  have cO3 : w1.cell? ⟨w.heap.size, 3, none⟩ = some (.int .i64 o.to) := bO.cell 3
  have cO4 : w1.cell? ⟨w.heap.size, 4, none⟩ = some (.int .i64 o.n) := bO.cell 4
  clear bO0 bA0 bP0 hb1 hb0
  go_wp2_with fail
  have e4 := four ((bA.far (p := ⟨w.heap.size + 1 + 1, 0, none⟩) (by simp) (.int .i64 p.key)).far (p := ⟨w.heap.size + 1 + 1, 1, none⟩) (by simp) (.int .i64 p.val)) (.int .i64 p.key) (.int .i64 p.val) (.int .i64 0) (.slice none 0 0)
  have h0 := e4.cell 0
  have h1 := e4.cell 1
  have h2 := e4.cell 2
  have h3 := e4.cell 3
  have hb4 := fourB ((hb01.setCell (p := ⟨w.heap.size + 1 + 1, 0, none⟩) (by simp; omega) (.int .i64 p.key)).setCell (p := ⟨w.heap.size + 1 + 1, 1, none⟩) (by simp; omega) (.int .i64 p.val)) (show w.heap.size ≤ w.heap.size + 1 by omega) (.int .i64 p.key) (.int .i64 p.val) (.int .i64 0) (.slice none 0 0)
  refine bodyPost_ret (v := .tuple #[.agg #[.int .i64 p.key, .int .i64 p.val, .int .i64 0, .slice none 0 0], .int .i64 (0)]) (by simp [results, Try.results38, go_sem, h0, h1, h2, h3]) rfl ?_
  exact ⟨none, 0, by rw [HP.out]; rfl, Fr.nil, hb4⟩


set_option maxHeartbeats 1600000 in
theorem told7f (A : Option Addr) (l : List Pr) (c : Nat) (o : Opn) (Ao : Option Addr) (co : Nat) (w : World) (hA : Sl w A (l.flatMap Pr.cells)) (hl : l.length ≤ 1000000) (hr : Hid (Ris l)) (hB : floorB l (9223372036854775807) = false) :
    Calls Try.prog 38 #[.slice A l.length c, .agg #[.int .u8 7, .int .i64 o.key, .int .i64 o.val, .int .i64 o.to, .int .i64 o.n, .slice Ao o.pairs.length co]] w (GivesTold (noAns) (6) w) := by
  have hb0 : Below w.heap.size w (((w.alloc (.cells #[.int .u8 7, .int .i64 o.key, .int .i64 o.val, .int .i64 o.to, .int .i64 o.n, .slice Ao o.pairs.length co] 28)).alloc (.cells #[.int .i64 0, .int .i64 0, .int .i64 0, .slice none 0 0] 30)).alloc (.cells #[.int .i64 0, .int .i64 0] 23)) := (((Below.refl _ _).alloc (Nat.le_refl _) _).alloc (by simp) _).alloc (by simp; omega) _
  have bA0 : Blk (((w.alloc (.cells #[.int .u8 7, .int .i64 o.key, .int .i64 o.val, .int .i64 o.to, .int .i64 o.n, .slice Ao o.pairs.length co] 28)).alloc (.cells #[.int .i64 0, .int .i64 0, .int .i64 0, .slice none 0 0] 30)).alloc (.cells #[.int .i64 0, .int .i64 0] 23)) (w.heap.size + 1) 30 #[.int .i64 0, .int .i64 0, .int .i64 0, .slice none 0 0] := by
    have := (Blk.new (w.alloc (.cells #[.int .u8 7, .int .i64 o.key, .int .i64 o.val, .int .i64 o.to, .int .i64 o.n, .slice Ao o.pairs.length co] 28)) 30 #[.int .i64 0, .int .i64 0, .int .i64 0, .slice none 0 0]).alloc (.cells #[.int .i64 0, .int .i64 0] 23)
    rwa [World.size_alloc] at this
  have bO0 : Blk (((w.alloc (.cells #[.int .u8 7, .int .i64 o.key, .int .i64 o.val, .int .i64 o.to, .int .i64 o.n, .slice Ao o.pairs.length co] 28)).alloc (.cells #[.int .i64 0, .int .i64 0, .int .i64 0, .slice none 0 0] 30)).alloc (.cells #[.int .i64 0, .int .i64 0] 23)) w.heap.size 28 #[.int .u8 7, .int .i64 o.key, .int .i64 o.val, .int .i64 o.to, .int .i64 o.n, .slice Ao o.pairs.length co] := ((Blk.new w _ _).alloc _).alloc _
  have bP0 : Blk (((w.alloc (.cells #[.int .u8 7, .int .i64 o.key, .int .i64 o.val, .int .i64 o.to, .int .i64 o.n, .slice Ao o.pairs.length co] 28)).alloc (.cells #[.int .i64 0, .int .i64 0, .int .i64 0, .slice none 0 0] 30)).alloc (.cells #[.int .i64 0, .int .i64 0] 23)) (w.heap.size + 1 + 1) 23 #[.int .i64 0, .int .i64 0] := by
    have := Blk.new ((w.alloc (.cells #[.int .u8 7, .int .i64 o.key, .int .i64 o.val, .int .i64 o.to, .int .i64 o.n, .slice Ao o.pairs.length co] 28)).alloc (.cells #[.int .i64 0, .int .i64 0, .int .i64 0, .slice none 0 0] 30)) 23 #[.int .i64 0, .int .i64 0]
    rwa [World.size_alloc, World.size_alloc] at this
  obtain ⟨p, hp⟩ : ∃ p, floorP l (9223372036854775807) = p := ⟨_, rfl⟩
  have HP := Lib.hid hp
  clear hp
  go_enter Try.func38, Try.ntmps38
  go_wp2_with fail
  refine (floor_any A l c (9223372036854775807) _ (hA.below hb0) (by omega) hr).mono ?_
  rw [HP.out, hB]
  rintro e w1 ⟨rfl, hb1⟩
  have hb01 := bext hb0 hb1
  have bA := bA0.below hb1 bA0.lt
  have bO := bO0.below hb1 bO0.lt
  have bP := bP0.below hb1 bP0.lt
  have fa0 := bA.frozen 0
  have fa1 := bA.frozen 1
  have fa2 := bA.frozen 2
  have fa3 := bA.frozen 3
  have ga0 : w1.cell? ⟨w.heap.size + 1, 0, none⟩ = some (.int .i64 0) := bA.cell 0
  have ga1 : w1.cell? ⟨w.heap.size + 1, 1, none⟩ = some (.int .i64 0) := bA.cell 1
  have ga2 : w1.cell? ⟨w.heap.size + 1, 2, none⟩ = some (.int .i64 0) := bA.cell 2
  have ga3 : w1.cell? ⟨w.heap.size + 1, 3, none⟩ = some (.slice none 0 0) := bA.cell 3
  have fp0 := bP.frozen 0
  have fp1 := bP.frozen 1
  have gp0 : w1.cell? ⟨w.heap.size + 1 + 1, 0, none⟩ = some (.int .i64 0) := bP.cell 0
  have gp1 : w1.cell? ⟨w.heap.size + 1 + 1, 1, none⟩ = some (.int .i64 0) := bP.cell 1
  have cO1 : w1.cell? ⟨w.heap.size, 1, none⟩ = some (.int .i64 o.key) := bO.cell 1
  have cO3 : w1.cell? ⟨w.heap.size, 3, none⟩ = some (.int .i64 o.to) := bO.cell 3
  have cO4 : w1.cell? ⟨w.heap.size, 4, none⟩ = some (.int .i64 o.n) := bO.cell 4
  clear bO0 bA0 bP0 hb1 hb0
  go_wp2_with fail
  have e4 := four ((bA.far (p := ⟨w.heap.size + 1 + 1, 0, none⟩) (by simp) (.int .i64 p.key)).far (p := ⟨w.heap.size + 1 + 1, 1, none⟩) (by simp) (.int .i64 p.val)) (.int .i64 0) (.int .i64 0) (.int .i64 0) (.slice none 0 0)
  have h0 := e4.cell 0
  have h1 := e4.cell 1
  have h2 := e4.cell 2
  have h3 := e4.cell 3
  have hb4 := fourB ((hb01.setCell (p := ⟨w.heap.size + 1 + 1, 0, none⟩) (by simp; omega) (.int .i64 p.key)).setCell (p := ⟨w.heap.size + 1 + 1, 1, none⟩) (by simp; omega) (.int .i64 p.val)) (show w.heap.size ≤ w.heap.size + 1 by omega) (.int .i64 0) (.int .i64 0) (.int .i64 0) (.slice none 0 0)
  refine bodyPost_ret (v := .tuple #[.agg #[.int .i64 0, .int .i64 0, .int .i64 0, .slice none 0 0], .int .i64 (6)]) (by simp [results, Try.results38, go_sem, h0, h1, h2, h3]) rfl ?_
  exact ⟨none, 0, rfl, Fr.nil, hb4⟩


set_option maxHeartbeats 1600000 in
theorem told8 (A : Option Addr) (l : List Pr) (c : Nat) (o : Opn) (Ao : Option Addr) (co : Nat) (w : World) (hA : Sl w A (l.flatMap Pr.cells)) (hl : l.length ≤ 1000000) (hr : Hid (Ris l)) (hk : o.kind = 8) :
    Calls Try.prog 38 #[.slice A l.length c, .agg #[.int .u8 8, .int .i64 o.key, .int .i64 o.val, .int .i64 o.to, .int .i64 o.n, .slice Ao o.pairs.length co]] w (GivesTold (askA l o) (0) w) := by
  have hb0 : Below w.heap.size w (((w.alloc (.cells #[.int .u8 8, .int .i64 o.key, .int .i64 o.val, .int .i64 o.to, .int .i64 o.n, .slice Ao o.pairs.length co] 28)).alloc (.cells #[.int .i64 0, .int .i64 0, .int .i64 0, .slice none 0 0] 30)).alloc (.cells #[.int .i64 0, .int .i64 0] 23)) := (((Below.refl _ _).alloc (Nat.le_refl _) _).alloc (by simp) _).alloc (by simp; omega) _
  have bA0 : Blk (((w.alloc (.cells #[.int .u8 8, .int .i64 o.key, .int .i64 o.val, .int .i64 o.to, .int .i64 o.n, .slice Ao o.pairs.length co] 28)).alloc (.cells #[.int .i64 0, .int .i64 0, .int .i64 0, .slice none 0 0] 30)).alloc (.cells #[.int .i64 0, .int .i64 0] 23)) (w.heap.size + 1) 30 #[.int .i64 0, .int .i64 0, .int .i64 0, .slice none 0 0] := by
    have := (Blk.new (w.alloc (.cells #[.int .u8 8, .int .i64 o.key, .int .i64 o.val, .int .i64 o.to, .int .i64 o.n, .slice Ao o.pairs.length co] 28)) 30 #[.int .i64 0, .int .i64 0, .int .i64 0, .slice none 0 0]).alloc (.cells #[.int .i64 0, .int .i64 0] 23)
    rwa [World.size_alloc] at this
  have bO0 : Blk (((w.alloc (.cells #[.int .u8 8, .int .i64 o.key, .int .i64 o.val, .int .i64 o.to, .int .i64 o.n, .slice Ao o.pairs.length co] 28)).alloc (.cells #[.int .i64 0, .int .i64 0, .int .i64 0, .slice none 0 0] 30)).alloc (.cells #[.int .i64 0, .int .i64 0] 23)) w.heap.size 28 #[.int .u8 8, .int .i64 o.key, .int .i64 o.val, .int .i64 o.to, .int .i64 o.n, .slice Ao o.pairs.length co] := ((Blk.new w _ _).alloc _).alloc _
  have bP0 : Blk (((w.alloc (.cells #[.int .u8 8, .int .i64 o.key, .int .i64 o.val, .int .i64 o.to, .int .i64 o.n, .slice Ao o.pairs.length co] 28)).alloc (.cells #[.int .i64 0, .int .i64 0, .int .i64 0, .slice none 0 0] 30)).alloc (.cells #[.int .i64 0, .int .i64 0] 23)) (w.heap.size + 1 + 1) 23 #[.int .i64 0, .int .i64 0] := by
    have := Blk.new ((w.alloc (.cells #[.int .u8 8, .int .i64 o.key, .int .i64 o.val, .int .i64 o.to, .int .i64 o.n, .slice Ao o.pairs.length co] 28)).alloc (.cells #[.int .i64 0, .int .i64 0, .int .i64 0, .slice none 0 0] 30)) 23 #[.int .i64 0, .int .i64 0]
    rwa [World.size_alloc, World.size_alloc] at this
  go_enter Try.func38, Try.ntmps38
  go_wp2_with fail
  refine (refBelow_any A l c (o.key) _ (hA.below hb0) (by omega)).mono ?_
  rintro e w1 ⟨rfl, hb1⟩
  have hb01 := bext hb0 hb1
  have bA := bA0.below hb1 bA0.lt
  have bO := bO0.below hb1 bO0.lt
  have bP := bP0.below hb1 bP0.lt
  have fa0 := bA.frozen 0
  have fa1 := bA.frozen 1
  have fa2 := bA.frozen 2
  have fa3 := bA.frozen 3
  have ga0 : w1.cell? ⟨w.heap.size + 1, 0, none⟩ = some (.int .i64 0) := bA.cell 0
  have ga1 : w1.cell? ⟨w.heap.size + 1, 1, none⟩ = some (.int .i64 0) := bA.cell 1
  have ga2 : w1.cell? ⟨w.heap.size + 1, 2, none⟩ = some (.int .i64 0) := bA.cell 2
  have ga3 : w1.cell? ⟨w.heap.size + 1, 3, none⟩ = some (.slice none 0 0) := bA.cell 3
  have fp0 := bP.frozen 0
  have fp1 := bP.frozen 1
  have gp0 : w1.cell? ⟨w.heap.size + 1 + 1, 0, none⟩ = some (.int .i64 0) := bP.cell 0
  have gp1 : w1.cell? ⟨w.heap.size + 1 + 1, 1, none⟩ = some (.int .i64 0) := bP.cell 1
  have cO1 : w1.cell? ⟨w.heap.size, 1, none⟩ = some (.int .i64 o.key) := bO.cell 1
  have cO3 : w1.cell? ⟨w.heap.size, 3, none⟩ = some (.int .i64 o.to) := bO.cell 3
  have cO4 : w1.cell? ⟨w.heap.size, 4, none⟩ = some (.int .i64 o.n) := bO.cell 4
  clear bO0 bA0 bP0 hb1 hb0
  go_wp2_with fail
  have e4 := four bA (.int .i64 0) (.int .i64 0) (.int .i64 (bel l o.key : Nat)) (.slice none 0 0)
  have h0 := e4.cell 0
  have h1 := e4.cell 1
  have h2 := e4.cell 2
  have h3 := e4.cell 3
  have hb4 := fourB hb01 (show w.heap.size ≤ w.heap.size + 1 by omega) (.int .i64 0) (.int .i64 0) (.int .i64 (bel l o.key : Nat)) (.slice none 0 0)
  refine bodyPost_ret (v := .tuple #[.agg #[.int .i64 0, .int .i64 0, .int .i64 (bel l o.key : Nat), .slice none 0 0], .int .i64 (0)]) (by simp [results, Try.results38, go_sem, h0, h1, h2, h3]) rfl ?_
  exact ⟨none, 0, by simp [askA, hk], by simp [askA, hk]; exact Fr.nil, hb4⟩


set_option maxHeartbeats 1600000 in
theorem told14 (A : Option Addr) (l : List Pr) (c : Nat) (o : Opn) (Ao : Option Addr) (co : Nat) (w : World) (hA : Sl w A (l.flatMap Pr.cells)) (hl : l.length ≤ 1000000) (hr : Hid (Ris l)) :
    Calls Try.prog 38 #[.slice A l.length c, .agg #[.int .u8 14, .int .i64 o.key, .int .i64 o.val, .int .i64 o.to, .int .i64 o.n, .slice Ao o.pairs.length co]] w (GivesTold (noAns) (0) w) := by
  have hb0 : Below w.heap.size w (((w.alloc (.cells #[.int .u8 14, .int .i64 o.key, .int .i64 o.val, .int .i64 o.to, .int .i64 o.n, .slice Ao o.pairs.length co] 28)).alloc (.cells #[.int .i64 0, .int .i64 0, .int .i64 0, .slice none 0 0] 30)).alloc (.cells #[.int .i64 0, .int .i64 0] 23)) := (((Below.refl _ _).alloc (Nat.le_refl _) _).alloc (by simp) _).alloc (by simp; omega) _
  have bA0 : Blk (((w.alloc (.cells #[.int .u8 14, .int .i64 o.key, .int .i64 o.val, .int .i64 o.to, .int .i64 o.n, .slice Ao o.pairs.length co] 28)).alloc (.cells #[.int .i64 0, .int .i64 0, .int .i64 0, .slice none 0 0] 30)).alloc (.cells #[.int .i64 0, .int .i64 0] 23)) (w.heap.size + 1) 30 #[.int .i64 0, .int .i64 0, .int .i64 0, .slice none 0 0] := by
    have := (Blk.new (w.alloc (.cells #[.int .u8 14, .int .i64 o.key, .int .i64 o.val, .int .i64 o.to, .int .i64 o.n, .slice Ao o.pairs.length co] 28)) 30 #[.int .i64 0, .int .i64 0, .int .i64 0, .slice none 0 0]).alloc (.cells #[.int .i64 0, .int .i64 0] 23)
    rwa [World.size_alloc] at this
  have bO0 : Blk (((w.alloc (.cells #[.int .u8 14, .int .i64 o.key, .int .i64 o.val, .int .i64 o.to, .int .i64 o.n, .slice Ao o.pairs.length co] 28)).alloc (.cells #[.int .i64 0, .int .i64 0, .int .i64 0, .slice none 0 0] 30)).alloc (.cells #[.int .i64 0, .int .i64 0] 23)) w.heap.size 28 #[.int .u8 14, .int .i64 o.key, .int .i64 o.val, .int .i64 o.to, .int .i64 o.n, .slice Ao o.pairs.length co] := ((Blk.new w _ _).alloc _).alloc _
  have bP0 : Blk (((w.alloc (.cells #[.int .u8 14, .int .i64 o.key, .int .i64 o.val, .int .i64 o.to, .int .i64 o.n, .slice Ao o.pairs.length co] 28)).alloc (.cells #[.int .i64 0, .int .i64 0, .int .i64 0, .slice none 0 0] 30)).alloc (.cells #[.int .i64 0, .int .i64 0] 23)) (w.heap.size + 1 + 1) 23 #[.int .i64 0, .int .i64 0] := by
    have := Blk.new ((w.alloc (.cells #[.int .u8 14, .int .i64 o.key, .int .i64 o.val, .int .i64 o.to, .int .i64 o.n, .slice Ao o.pairs.length co] 28)).alloc (.cells #[.int .i64 0, .int .i64 0, .int .i64 0, .slice none 0 0] 30)) 23 #[.int .i64 0, .int .i64 0]
    rwa [World.size_alloc, World.size_alloc] at this
  go_enter Try.func38, Try.ntmps38
  go_upto_region 3 with fail
  obtain ⟨W, hW⟩ : ∃ W, (((w.alloc (.cells #[.int .u8 14, .int .i64 o.key, .int .i64 o.val, .int .i64 o.to, .int .i64 o.n, .slice Ao o.pairs.length co] 28)).alloc (.cells #[.int .i64 0, .int .i64 0, .int .i64 0, .slice none 0 0] 30)).alloc (.cells #[.int .i64 0, .int .i64 0] 23)) = W := ⟨_, rfl⟩
  rw [hW] at hb0 bO0 bA0 bP0
  rw [hW]
  clear hW
  have hbW := Below.refl W.heap.size W
  have bA := bA0.below hbW bA0.lt
  have bO := bO0.below hbW bO0.lt
  have bP := bP0.below hbW bP0.lt
  have fa0 := bA.frozen 0
  have fa1 := bA.frozen 1
  have fa2 := bA.frozen 2
  have fa3 := bA.frozen 3
  have ga0 : W.cell? ⟨w.heap.size + 1, 0, none⟩ = some (.int .i64 0) := bA.cell 0
  have ga1 : W.cell? ⟨w.heap.size + 1, 1, none⟩ = some (.int .i64 0) := bA.cell 1
  have ga2 : W.cell? ⟨w.heap.size + 1, 2, none⟩ = some (.int .i64 0) := bA.cell 2
  have ga3 : W.cell? ⟨w.heap.size + 1, 3, none⟩ = some (.slice none 0 0) := bA.cell 3
  have fp0 := bP.frozen 0
  have fp1 := bP.frozen 1
  have gp0 : W.cell? ⟨w.heap.size + 1 + 1, 0, none⟩ = some (.int .i64 0) := bP.cell 0
  have gp1 : W.cell? ⟨w.heap.size + 1 + 1, 1, none⟩ = some (.int .i64 0) := bP.cell 1
  have cO1 : W.cell? ⟨w.heap.size, 1, none⟩ = some (.int .i64 o.key) := bO.cell 1
  have cO3 : W.cell? ⟨w.heap.size, 3, none⟩ = some (.int .i64 o.to) := bO.cell 3
  have cO4 : W.cell? ⟨w.heap.size, 4, none⟩ = some (.int .i64 o.n) := bO.cell 4
  have cO0 : W.cell? ⟨w.heap.size, 0, none⟩ = some (.int .u8 14) := bO.cell 0
  clear bO0 bA0 bP0 hbW
  go_wp2_with fail
  have e4 := four bA (.int .i64 0) (.int .i64 0) (.int .i64 0) (.slice none 0 0)
  have h0 := e4.cell 0
  have h1 := e4.cell 1
  have h2 := e4.cell 2
  have h3 := e4.cell 3
  have hb4 := fourB hb0 (show w.heap.size ≤ w.heap.size + 1 by omega) (.int .i64 0) (.int .i64 0) (.int .i64 0) (.slice none 0 0)
  refine bodyPost_ret (v := .tuple #[.agg #[.int .i64 0, .int .i64 0, .int .i64 0, .slice none 0 0], .int .i64 (0)]) (by simp [results, Try.results38, go_sem, h0, h1, h2, h3]) rfl ?_
  exact ⟨none, 0, rfl, Fr.nil, hb4⟩


set_option maxHeartbeats 1600000 in
theorem told15 (A : Option Addr) (l : List Pr) (c : Nat) (o : Opn) (Ao : Option Addr) (co : Nat) (w : World) (hA : Sl w A (l.flatMap Pr.cells)) (hl : l.length ≤ 1000000) (hr : Hid (Ris l)) :
    Calls Try.prog 38 #[.slice A l.length c, .agg #[.int .u8 15, .int .i64 o.key, .int .i64 o.val, .int .i64 o.to, .int .i64 o.n, .slice Ao o.pairs.length co]] w (GivesTold (⟨⟨0, 0⟩, l.length, []⟩) (0) w) := by
  have hb0 : Below w.heap.size w (((w.alloc (.cells #[.int .u8 15, .int .i64 o.key, .int .i64 o.val, .int .i64 o.to, .int .i64 o.n, .slice Ao o.pairs.length co] 28)).alloc (.cells #[.int .i64 0, .int .i64 0, .int .i64 0, .slice none 0 0] 30)).alloc (.cells #[.int .i64 0, .int .i64 0] 23)) := (((Below.refl _ _).alloc (Nat.le_refl _) _).alloc (by simp) _).alloc (by simp; omega) _
  have bA0 : Blk (((w.alloc (.cells #[.int .u8 15, .int .i64 o.key, .int .i64 o.val, .int .i64 o.to, .int .i64 o.n, .slice Ao o.pairs.length co] 28)).alloc (.cells #[.int .i64 0, .int .i64 0, .int .i64 0, .slice none 0 0] 30)).alloc (.cells #[.int .i64 0, .int .i64 0] 23)) (w.heap.size + 1) 30 #[.int .i64 0, .int .i64 0, .int .i64 0, .slice none 0 0] := by
    have := (Blk.new (w.alloc (.cells #[.int .u8 15, .int .i64 o.key, .int .i64 o.val, .int .i64 o.to, .int .i64 o.n, .slice Ao o.pairs.length co] 28)) 30 #[.int .i64 0, .int .i64 0, .int .i64 0, .slice none 0 0]).alloc (.cells #[.int .i64 0, .int .i64 0] 23)
    rwa [World.size_alloc] at this
  have bO0 : Blk (((w.alloc (.cells #[.int .u8 15, .int .i64 o.key, .int .i64 o.val, .int .i64 o.to, .int .i64 o.n, .slice Ao o.pairs.length co] 28)).alloc (.cells #[.int .i64 0, .int .i64 0, .int .i64 0, .slice none 0 0] 30)).alloc (.cells #[.int .i64 0, .int .i64 0] 23)) w.heap.size 28 #[.int .u8 15, .int .i64 o.key, .int .i64 o.val, .int .i64 o.to, .int .i64 o.n, .slice Ao o.pairs.length co] := ((Blk.new w _ _).alloc _).alloc _
  have bP0 : Blk (((w.alloc (.cells #[.int .u8 15, .int .i64 o.key, .int .i64 o.val, .int .i64 o.to, .int .i64 o.n, .slice Ao o.pairs.length co] 28)).alloc (.cells #[.int .i64 0, .int .i64 0, .int .i64 0, .slice none 0 0] 30)).alloc (.cells #[.int .i64 0, .int .i64 0] 23)) (w.heap.size + 1 + 1) 23 #[.int .i64 0, .int .i64 0] := by
    have := Blk.new ((w.alloc (.cells #[.int .u8 15, .int .i64 o.key, .int .i64 o.val, .int .i64 o.to, .int .i64 o.n, .slice Ao o.pairs.length co] 28)).alloc (.cells #[.int .i64 0, .int .i64 0, .int .i64 0, .slice none 0 0] 30)) 23 #[.int .i64 0, .int .i64 0]
    rwa [World.size_alloc, World.size_alloc] at this
  go_enter Try.func38, Try.ntmps38
  go_upto_region 3 with fail
  obtain ⟨W, hW⟩ : ∃ W, (((w.alloc (.cells #[.int .u8 15, .int .i64 o.key, .int .i64 o.val, .int .i64 o.to, .int .i64 o.n, .slice Ao o.pairs.length co] 28)).alloc (.cells #[.int .i64 0, .int .i64 0, .int .i64 0, .slice none 0 0] 30)).alloc (.cells #[.int .i64 0, .int .i64 0] 23)) = W := ⟨_, rfl⟩
  rw [hW] at hb0 bO0 bA0 bP0
  rw [hW]
  clear hW
  have hbW := Below.refl W.heap.size W
  have bA := bA0.below hbW bA0.lt
  have bO := bO0.below hbW bO0.lt
  have bP := bP0.below hbW bP0.lt
  have fa0 := bA.frozen 0
  have fa1 := bA.frozen 1
  have fa2 := bA.frozen 2
  have fa3 := bA.frozen 3
  have ga0 : W.cell? ⟨w.heap.size + 1, 0, none⟩ = some (.int .i64 0) := bA.cell 0
  have ga1 : W.cell? ⟨w.heap.size + 1, 1, none⟩ = some (.int .i64 0) := bA.cell 1
  have ga2 : W.cell? ⟨w.heap.size + 1, 2, none⟩ = some (.int .i64 0) := bA.cell 2
  have ga3 : W.cell? ⟨w.heap.size + 1, 3, none⟩ = some (.slice none 0 0) := bA.cell 3
  have fp0 := bP.frozen 0
  have fp1 := bP.frozen 1
  have gp0 : W.cell? ⟨w.heap.size + 1 + 1, 0, none⟩ = some (.int .i64 0) := bP.cell 0
  have gp1 : W.cell? ⟨w.heap.size + 1 + 1, 1, none⟩ = some (.int .i64 0) := bP.cell 1
  have cO1 : W.cell? ⟨w.heap.size, 1, none⟩ = some (.int .i64 o.key) := bO.cell 1
  have cO3 : W.cell? ⟨w.heap.size, 3, none⟩ = some (.int .i64 o.to) := bO.cell 3
  have cO4 : W.cell? ⟨w.heap.size, 4, none⟩ = some (.int .i64 o.n) := bO.cell 4
  have cO0 : W.cell? ⟨w.heap.size, 0, none⟩ = some (.int .u8 15) := bO.cell 0
  clear bO0 bA0 bP0 hbW
  go_wp2_with fail
  have e4 := four bA (.int .i64 0) (.int .i64 0) (.int .i64 l.length) (.slice none 0 0)
  have h0 := e4.cell 0
  have h1 := e4.cell 1
  have h2 := e4.cell 2
  have h3 := e4.cell 3
  have hb4 := fourB hb0 (show w.heap.size ≤ w.heap.size + 1 by omega) (.int .i64 0) (.int .i64 0) (.int .i64 l.length) (.slice none 0 0)
  refine bodyPost_ret (v := .tuple #[.agg #[.int .i64 0, .int .i64 0, .int .i64 l.length, .slice none 0 0], .int .i64 (0)]) (by simp [results, Try.results38, go_sem, h0, h1, h2, h3]) rfl ?_
  exact ⟨none, 0, rfl, Fr.nil, hb4⟩


set_option maxHeartbeats 1600000 in
theorem told9a (A : Option Addr) (l : List Pr) (c : Nat) (o : Opn) (Ao : Option Addr) (co : Nat) (w : World) (hA : Sl w A (l.flatMap Pr.cells)) (hl : l.length ≤ 1000000) (hr : Hid (Ris l)) (hn : o.n < 0) :
    Calls Try.prog 38 #[.slice A l.length c, .agg #[.int .u8 9, .int .i64 o.key, .int .i64 o.val, .int .i64 o.to, .int .i64 o.n, .slice Ao o.pairs.length co]] w (GivesTold (noAns) (290) w) := by
  have hb0 : Below w.heap.size w (((w.alloc (.cells #[.int .u8 9, .int .i64 o.key, .int .i64 o.val, .int .i64 o.to, .int .i64 o.n, .slice Ao o.pairs.length co] 28)).alloc (.cells #[.int .i64 0, .int .i64 0, .int .i64 0, .slice none 0 0] 30)).alloc (.cells #[.int .i64 0, .int .i64 0] 23)) := (((Below.refl _ _).alloc (Nat.le_refl _) _).alloc (by simp) _).alloc (by simp; omega) _
  have bA0 : Blk (((w.alloc (.cells #[.int .u8 9, .int .i64 o.key, .int .i64 o.val, .int .i64 o.to, .int .i64 o.n, .slice Ao o.pairs.length co] 28)).alloc (.cells #[.int .i64 0, .int .i64 0, .int .i64 0, .slice none 0 0] 30)).alloc (.cells #[.int .i64 0, .int .i64 0] 23)) (w.heap.size + 1) 30 #[.int .i64 0, .int .i64 0, .int .i64 0, .slice none 0 0] := by
    have := (Blk.new (w.alloc (.cells #[.int .u8 9, .int .i64 o.key, .int .i64 o.val, .int .i64 o.to, .int .i64 o.n, .slice Ao o.pairs.length co] 28)) 30 #[.int .i64 0, .int .i64 0, .int .i64 0, .slice none 0 0]).alloc (.cells #[.int .i64 0, .int .i64 0] 23)
    rwa [World.size_alloc] at this
  have bO0 : Blk (((w.alloc (.cells #[.int .u8 9, .int .i64 o.key, .int .i64 o.val, .int .i64 o.to, .int .i64 o.n, .slice Ao o.pairs.length co] 28)).alloc (.cells #[.int .i64 0, .int .i64 0, .int .i64 0, .slice none 0 0] 30)).alloc (.cells #[.int .i64 0, .int .i64 0] 23)) w.heap.size 28 #[.int .u8 9, .int .i64 o.key, .int .i64 o.val, .int .i64 o.to, .int .i64 o.n, .slice Ao o.pairs.length co] := ((Blk.new w _ _).alloc _).alloc _
  have bP0 : Blk (((w.alloc (.cells #[.int .u8 9, .int .i64 o.key, .int .i64 o.val, .int .i64 o.to, .int .i64 o.n, .slice Ao o.pairs.length co] 28)).alloc (.cells #[.int .i64 0, .int .i64 0, .int .i64 0, .slice none 0 0] 30)).alloc (.cells #[.int .i64 0, .int .i64 0] 23)) (w.heap.size + 1 + 1) 23 #[.int .i64 0, .int .i64 0] := by
    have := Blk.new ((w.alloc (.cells #[.int .u8 9, .int .i64 o.key, .int .i64 o.val, .int .i64 o.to, .int .i64 o.n, .slice Ao o.pairs.length co] 28)).alloc (.cells #[.int .i64 0, .int .i64 0, .int .i64 0, .slice none 0 0] 30)) 23 #[.int .i64 0, .int .i64 0]
    rwa [World.size_alloc, World.size_alloc] at this
  go_enter Try.func38, Try.ntmps38
  go_upto_region 3 with fail
  obtain ⟨W, hW⟩ : ∃ W, (((w.alloc (.cells #[.int .u8 9, .int .i64 o.key, .int .i64 o.val, .int .i64 o.to, .int .i64 o.n, .slice Ao o.pairs.length co] 28)).alloc (.cells #[.int .i64 0, .int .i64 0, .int .i64 0, .slice none 0 0] 30)).alloc (.cells #[.int .i64 0, .int .i64 0] 23)) = W := ⟨_, rfl⟩
  rw [hW] at hb0 bO0 bA0 bP0
  rw [hW]
  clear hW
  have hbW := Below.refl W.heap.size W
  have bA := bA0.below hbW bA0.lt
  have bO := bO0.below hbW bO0.lt
  have bP := bP0.below hbW bP0.lt
  have fa0 := bA.frozen 0
  have fa1 := bA.frozen 1
  have fa2 := bA.frozen 2
  have fa3 := bA.frozen 3
  have ga0 : W.cell? ⟨w.heap.size + 1, 0, none⟩ = some (.int .i64 0) := bA.cell 0
  have ga1 : W.cell? ⟨w.heap.size + 1, 1, none⟩ = some (.int .i64 0) := bA.cell 1
  have ga2 : W.cell? ⟨w.heap.size + 1, 2, none⟩ = some (.int .i64 0) := bA.cell 2
  have ga3 : W.cell? ⟨w.heap.size + 1, 3, none⟩ = some (.slice none 0 0) := bA.cell 3
  have fp0 := bP.frozen 0
  have fp1 := bP.frozen 1
  have gp0 : W.cell? ⟨w.heap.size + 1 + 1, 0, none⟩ = some (.int .i64 0) := bP.cell 0
  have gp1 : W.cell? ⟨w.heap.size + 1 + 1, 1, none⟩ = some (.int .i64 0) := bP.cell 1
  have cO1 : W.cell? ⟨w.heap.size, 1, none⟩ = some (.int .i64 o.key) := bO.cell 1
  have cO3 : W.cell? ⟨w.heap.size, 3, none⟩ = some (.int .i64 o.to) := bO.cell 3
  have cO4 : W.cell? ⟨w.heap.size, 4, none⟩ = some (.int .i64 o.n) := bO.cell 4
  have cO0 : W.cell? ⟨w.heap.size, 0, none⟩ = some (.int .u8 9) := bO.cell 0
  clear bO0 bA0 bP0 hbW
  go_wp2_with fail
  have e4 := four bA (.int .i64 0) (.int .i64 0) (.int .i64 0) (.slice none 0 0)
  have h0 := e4.cell 0
  have h1 := e4.cell 1
  have h2 := e4.cell 2
  have h3 := e4.cell 3
  have hb4 := fourB hb0 (show w.heap.size ≤ w.heap.size + 1 by omega) (.int .i64 0) (.int .i64 0) (.int .i64 0) (.slice none 0 0)
  refine bodyPost_ret (v := .tuple #[.agg #[.int .i64 0, .int .i64 0, .int .i64 0, .slice none 0 0], .int .i64 (290)]) (by simp [results, Try.results38, go_sem, h0, h1, h2, h3]) rfl ?_
  exact ⟨none, 0, rfl, Fr.nil, hb4⟩


set_option maxHeartbeats 1600000 in
theorem told9b (A : Option Addr) (l : List Pr) (c : Nat) (o : Opn) (Ao : Option Addr) (co : Nat) (w : World) (hA : Sl w A (l.flatMap Pr.cells)) (hl : l.length ≤ 1000000) (hr : Hid (Ris l)) (hm : ¬ o.n < 0) (hn : (l.length : Int) ≤ o.n) :
    Calls Try.prog 38 #[.slice A l.length c, .agg #[.int .u8 9, .int .i64 o.key, .int .i64 o.val, .int .i64 o.to, .int .i64 o.n, .slice Ao o.pairs.length co]] w (GivesTold (noAns) (290) w) := by
  have hb0 : Below w.heap.size w (((w.alloc (.cells #[.int .u8 9, .int .i64 o.key, .int .i64 o.val, .int .i64 o.to, .int .i64 o.n, .slice Ao o.pairs.length co] 28)).alloc (.cells #[.int .i64 0, .int .i64 0, .int .i64 0, .slice none 0 0] 30)).alloc (.cells #[.int .i64 0, .int .i64 0] 23)) := (((Below.refl _ _).alloc (Nat.le_refl _) _).alloc (by simp) _).alloc (by simp; omega) _
  have bA0 : Blk (((w.alloc (.cells #[.int .u8 9, .int .i64 o.key, .int .i64 o.val, .int .i64 o.to, .int .i64 o.n, .slice Ao o.pairs.length co] 28)).alloc (.cells #[.int .i64 0, .int .i64 0, .int .i64 0, .slice none 0 0] 30)).alloc (.cells #[.int .i64 0, .int .i64 0] 23)) (w.heap.size + 1) 30 #[.int .i64 0, .int .i64 0, .int .i64 0, .slice none 0 0] := by
    have := (Blk.new (w.alloc (.cells #[.int .u8 9, .int .i64 o.key, .int .i64 o.val, .int .i64 o.to, .int .i64 o.n, .slice Ao o.pairs.length co] 28)) 30 #[.int .i64 0, .int .i64 0, .int .i64 0, .slice none 0 0]).alloc (.cells #[.int .i64 0, .int .i64 0] 23)
    rwa [World.size_alloc] at this
  have bO0 : Blk (((w.alloc (.cells #[.int .u8 9, .int .i64 o.key, .int .i64 o.val, .int .i64 o.to, .int .i64 o.n, .slice Ao o.pairs.length co] 28)).alloc (.cells #[.int .i64 0, .int .i64 0, .int .i64 0, .slice none 0 0] 30)).alloc (.cells #[.int .i64 0, .int .i64 0] 23)) w.heap.size 28 #[.int .u8 9, .int .i64 o.key, .int .i64 o.val, .int .i64 o.to, .int .i64 o.n, .slice Ao o.pairs.length co] := ((Blk.new w _ _).alloc _).alloc _
  have bP0 : Blk (((w.alloc (.cells #[.int .u8 9, .int .i64 o.key, .int .i64 o.val, .int .i64 o.to, .int .i64 o.n, .slice Ao o.pairs.length co] 28)).alloc (.cells #[.int .i64 0, .int .i64 0, .int .i64 0, .slice none 0 0] 30)).alloc (.cells #[.int .i64 0, .int .i64 0] 23)) (w.heap.size + 1 + 1) 23 #[.int .i64 0, .int .i64 0] := by
    have := Blk.new ((w.alloc (.cells #[.int .u8 9, .int .i64 o.key, .int .i64 o.val, .int .i64 o.to, .int .i64 o.n, .slice Ao o.pairs.length co] 28)).alloc (.cells #[.int .i64 0, .int .i64 0, .int .i64 0, .slice none 0 0] 30)) 23 #[.int .i64 0, .int .i64 0]
    rwa [World.size_alloc, World.size_alloc] at this
  go_enter Try.func38, Try.ntmps38
  go_upto_region 3 with fail
  obtain ⟨W, hW⟩ : ∃ W, (((w.alloc (.cells #[.int .u8 9, .int .i64 o.key, .int .i64 o.val, .int .i64 o.to, .int .i64 o.n, .slice Ao o.pairs.length co] 28)).alloc (.cells #[.int .i64 0, .int .i64 0, .int .i64 0, .slice none 0 0] 30)).alloc (.cells #[.int .i64 0, .int .i64 0] 23)) = W := ⟨_, rfl⟩
  rw [hW] at hb0 bO0 bA0 bP0
  rw [hW]
  clear hW
  have hbW := Below.refl W.heap.size W
  have bA := bA0.below hbW bA0.lt
  have bO := bO0.below hbW bO0.lt
  have bP := bP0.below hbW bP0.lt
  have fa0 := bA.frozen 0
  have fa1 := bA.frozen 1
  have fa2 := bA.frozen 2
  have fa3 := bA.frozen 3
  have ga0 : W.cell? ⟨w.heap.size + 1, 0, none⟩ = some (.int .i64 0) := bA.cell 0
  have ga1 : W.cell? ⟨w.heap.size + 1, 1, none⟩ = some (.int .i64 0) := bA.cell 1
  have ga2 : W.cell? ⟨w.heap.size + 1, 2, none⟩ = some (.int .i64 0) := bA.cell 2
  have ga3 : W.cell? ⟨w.heap.size + 1, 3, none⟩ = some (.slice none 0 0) := bA.cell 3
  have fp0 := bP.frozen 0
  have fp1 := bP.frozen 1
  have gp0 : W.cell? ⟨w.heap.size + 1 + 1, 0, none⟩ = some (.int .i64 0) := bP.cell 0
  have gp1 : W.cell? ⟨w.heap.size + 1 + 1, 1, none⟩ = some (.int .i64 0) := bP.cell 1
  have cO1 : W.cell? ⟨w.heap.size, 1, none⟩ = some (.int .i64 o.key) := bO.cell 1
  have cO3 : W.cell? ⟨w.heap.size, 3, none⟩ = some (.int .i64 o.to) := bO.cell 3
  have cO4 : W.cell? ⟨w.heap.size, 4, none⟩ = some (.int .i64 o.n) := bO.cell 4
  have cO0 : W.cell? ⟨w.heap.size, 0, none⟩ = some (.int .u8 9) := bO.cell 0
  clear bO0 bA0 bP0 hbW
  go_wp2_with fail
  have e4 := four bA (.int .i64 0) (.int .i64 0) (.int .i64 0) (.slice none 0 0)
  have h0 := e4.cell 0
  have h1 := e4.cell 1
  have h2 := e4.cell 2
  have h3 := e4.cell 3
  have hb4 := fourB hb0 (show w.heap.size ≤ w.heap.size + 1 by omega) (.int .i64 0) (.int .i64 0) (.int .i64 0) (.slice none 0 0)
  refine bodyPost_ret (v := .tuple #[.agg #[.int .i64 0, .int .i64 0, .int .i64 0, .slice none 0 0], .int .i64 (290)]) (by simp [results, Try.results38, go_sem, h0, h1, h2, h3]) rfl ?_
  exact ⟨none, 0, rfl, Fr.nil, hb4⟩


set_option maxHeartbeats 1600000 in
theorem told9c (A : Option Addr) (l : List Pr) (c : Nat) (o : Opn) (Ao : Option Addr) (co : Nat) (w : World) (hA : Sl w A (l.flatMap Pr.cells)) (hl : l.length ≤ 1000000) (hr : Hid (Ris l)) (n : Nat) (hn : Hid (o.n = n)) (hlt : n < l.length) :
    Calls Try.prog 38 #[.slice A l.length c, .agg #[.int .u8 9, .int .i64 o.key, .int .i64 o.val, .int .i64 o.to, .int .i64 o.n, .slice Ao o.pairs.length co]] w (GivesTold (⟨l[n]'hlt, 0, []⟩) (0) w) := by
  have hb0 : Below w.heap.size w (((w.alloc (.cells #[.int .u8 9, .int .i64 o.key, .int .i64 o.val, .int .i64 o.to, .int .i64 o.n, .slice Ao o.pairs.length co] 28)).alloc (.cells #[.int .i64 0, .int .i64 0, .int .i64 0, .slice none 0 0] 30)).alloc (.cells #[.int .i64 0, .int .i64 0] 23)) := (((Below.refl _ _).alloc (Nat.le_refl _) _).alloc (by simp) _).alloc (by simp; omega) _
  have bA0 : Blk (((w.alloc (.cells #[.int .u8 9, .int .i64 o.key, .int .i64 o.val, .int .i64 o.to, .int .i64 o.n, .slice Ao o.pairs.length co] 28)).alloc (.cells #[.int .i64 0, .int .i64 0, .int .i64 0, .slice none 0 0] 30)).alloc (.cells #[.int .i64 0, .int .i64 0] 23)) (w.heap.size + 1) 30 #[.int .i64 0, .int .i64 0, .int .i64 0, .slice none 0 0] := by
    have := (Blk.new (w.alloc (.cells #[.int .u8 9, .int .i64 o.key, .int .i64 o.val, .int .i64 o.to, .int .i64 o.n, .slice Ao o.pairs.length co] 28)) 30 #[.int .i64 0, .int .i64 0, .int .i64 0, .slice none 0 0]).alloc (.cells #[.int .i64 0, .int .i64 0] 23)
    rwa [World.size_alloc] at this
  have bO0 : Blk (((w.alloc (.cells #[.int .u8 9, .int .i64 o.key, .int .i64 o.val, .int .i64 o.to, .int .i64 o.n, .slice Ao o.pairs.length co] 28)).alloc (.cells #[.int .i64 0, .int .i64 0, .int .i64 0, .slice none 0 0] 30)).alloc (.cells #[.int .i64 0, .int .i64 0] 23)) w.heap.size 28 #[.int .u8 9, .int .i64 o.key, .int .i64 o.val, .int .i64 o.to, .int .i64 o.n, .slice Ao o.pairs.length co] := ((Blk.new w _ _).alloc _).alloc _
  have bP0 : Blk (((w.alloc (.cells #[.int .u8 9, .int .i64 o.key, .int .i64 o.val, .int .i64 o.to, .int .i64 o.n, .slice Ao o.pairs.length co] 28)).alloc (.cells #[.int .i64 0, .int .i64 0, .int .i64 0, .slice none 0 0] 30)).alloc (.cells #[.int .i64 0, .int .i64 0] 23)) (w.heap.size + 1 + 1) 23 #[.int .i64 0, .int .i64 0] := by
    have := Blk.new ((w.alloc (.cells #[.int .u8 9, .int .i64 o.key, .int .i64 o.val, .int .i64 o.to, .int .i64 o.n, .slice Ao o.pairs.length co] 28)).alloc (.cells #[.int .i64 0, .int .i64 0, .int .i64 0, .slice none 0 0] 30)) 23 #[.int .i64 0, .int .i64 0]
    rwa [World.size_alloc, World.size_alloc] at this
  go_enter Try.func38, Try.ntmps38
  go_upto_region 3 with fail
  obtain ⟨W, hW⟩ : ∃ W, (((w.alloc (.cells #[.int .u8 9, .int .i64 o.key, .int .i64 o.val, .int .i64 o.to, .int .i64 o.n, .slice Ao o.pairs.length co] 28)).alloc (.cells #[.int .i64 0, .int .i64 0, .int .i64 0, .slice none 0 0] 30)).alloc (.cells #[.int .i64 0, .int .i64 0] 23)) = W := ⟨_, rfl⟩
  rw [hW] at hb0 bO0 bA0 bP0
  rw [hW]
  clear hW
  have hbW := Below.refl W.heap.size W
  have bA := bA0.below hbW bA0.lt
  have bO := bO0.below hbW bO0.lt
  have bP := bP0.below hbW bP0.lt
  have fa0 := bA.frozen 0
  have fa1 := bA.frozen 1
  have fa2 := bA.frozen 2
  have fa3 := bA.frozen 3
  have ga0 : W.cell? ⟨w.heap.size + 1, 0, none⟩ = some (.int .i64 0) := bA.cell 0
  have ga1 : W.cell? ⟨w.heap.size + 1, 1, none⟩ = some (.int .i64 0) := bA.cell 1
  have ga2 : W.cell? ⟨w.heap.size + 1, 2, none⟩ = some (.int .i64 0) := bA.cell 2
  have ga3 : W.cell? ⟨w.heap.size + 1, 3, none⟩ = some (.slice none 0 0) := bA.cell 3
  have fp0 := bP.frozen 0
  have fp1 := bP.frozen 1
  have gp0 : W.cell? ⟨w.heap.size + 1 + 1, 0, none⟩ = some (.int .i64 0) := bP.cell 0
  have gp1 : W.cell? ⟨w.heap.size + 1 + 1, 1, none⟩ = some (.int .i64 0) := bP.cell 1
  have cO1 : W.cell? ⟨w.heap.size, 1, none⟩ = some (.int .i64 o.key) := bO.cell 1
  have cO3 : W.cell? ⟨w.heap.size, 3, none⟩ = some (.int .i64 o.to) := bO.cell 3
  have cO4 : W.cell? ⟨w.heap.size, 4, none⟩ = some (.int .i64 o.n) := bO.cell 4
  have cO0 : W.cell? ⟨w.heap.size, 0, none⟩ = some (.int .u8 9) := bO.cell 0
  rw [hn.out] at cO4
  obtain ⟨b, off, rfl, hbl, c1, c2⟩ := hA.prB hb0 n hlt
  have hi0 : (0 : Int) ≤ (n : Int) := by omega
  have hi1 : (n : Int) < (l.length : Int) := by omega
  obtain ⟨p, hp⟩ : ∃ p, l[n]'hlt = p := ⟨_, rfl⟩
  rw [hp] at c1 c2
  have HP := Lib.hid hp
  clear bO0 bA0 bP0 hbW hp hA
  go_wp2_with fail
  have e4 := four ((bA.far (p := ⟨w.heap.size + 1 + 1, 0, none⟩) (by simp) (.int .i64 p.key)).far (p := ⟨w.heap.size + 1 + 1, 1, none⟩) (by simp) (.int .i64 p.val)) (.int .i64 p.key) (.int .i64 p.val) (.int .i64 0) (.slice none 0 0)
  have h0 := e4.cell 0
  have h1 := e4.cell 1
  have h2 := e4.cell 2
  have h3 := e4.cell 3
  have hb4 := fourB ((hb0.setCell (p := ⟨w.heap.size + 1 + 1, 0, none⟩) (by simp; omega) (.int .i64 p.key)).setCell (p := ⟨w.heap.size + 1 + 1, 1, none⟩) (by simp; omega) (.int .i64 p.val)) (show w.heap.size ≤ w.heap.size + 1 by omega) (.int .i64 p.key) (.int .i64 p.val) (.int .i64 0) (.slice none 0 0)
  refine bodyPost_ret (v := .tuple #[.agg #[.int .i64 p.key, .int .i64 p.val, .int .i64 0, .slice none 0 0], .int .i64 (0)]) (by simp [results, Try.results38, go_sem, h0, h1, h2, h3]) rfl ?_
  exact ⟨none, 0, by rw [HP.out]; rfl, Fr.nil, hb4⟩


set_option maxHeartbeats 1600000 in
theorem told10a (A : Option Addr) (l : List Pr) (c : Nat) (o : Opn) (Ao : Option Addr) (co : Nat) (w : World) (hA : Sl w A (l.flatMap Pr.cells)) (hl : l.length ≤ 1000000) (hr : Hid (Ris l)) (hf : decide (0 ≤ o.n ∧ o.n ≤ 1000) = false) :
    Calls Try.prog 38 #[.slice A l.length c, .agg #[.int .u8 10, .int .i64 o.key, .int .i64 o.val, .int .i64 o.to, .int .i64 o.n, .slice Ao o.pairs.length co]] w (GivesTold (noAns) (2) w) := by
  have hb0 : Below w.heap.size w (((w.alloc (.cells #[.int .u8 10, .int .i64 o.key, .int .i64 o.val, .int .i64 o.to, .int .i64 o.n, .slice Ao o.pairs.length co] 28)).alloc (.cells #[.int .i64 0, .int .i64 0, .int .i64 0, .slice none 0 0] 30)).alloc (.cells #[.int .i64 0, .int .i64 0] 23)) := (((Below.refl _ _).alloc (Nat.le_refl _) _).alloc (by simp) _).alloc (by simp; omega) _
  have bA0 : Blk (((w.alloc (.cells #[.int .u8 10, .int .i64 o.key, .int .i64 o.val, .int .i64 o.to, .int .i64 o.n, .slice Ao o.pairs.length co] 28)).alloc (.cells #[.int .i64 0, .int .i64 0, .int .i64 0, .slice none 0 0] 30)).alloc (.cells #[.int .i64 0, .int .i64 0] 23)) (w.heap.size + 1) 30 #[.int .i64 0, .int .i64 0, .int .i64 0, .slice none 0 0] := by
    have := (Blk.new (w.alloc (.cells #[.int .u8 10, .int .i64 o.key, .int .i64 o.val, .int .i64 o.to, .int .i64 o.n, .slice Ao o.pairs.length co] 28)) 30 #[.int .i64 0, .int .i64 0, .int .i64 0, .slice none 0 0]).alloc (.cells #[.int .i64 0, .int .i64 0] 23)
    rwa [World.size_alloc] at this
  have bO0 : Blk (((w.alloc (.cells #[.int .u8 10, .int .i64 o.key, .int .i64 o.val, .int .i64 o.to, .int .i64 o.n, .slice Ao o.pairs.length co] 28)).alloc (.cells #[.int .i64 0, .int .i64 0, .int .i64 0, .slice none 0 0] 30)).alloc (.cells #[.int .i64 0, .int .i64 0] 23)) w.heap.size 28 #[.int .u8 10, .int .i64 o.key, .int .i64 o.val, .int .i64 o.to, .int .i64 o.n, .slice Ao o.pairs.length co] := ((Blk.new w _ _).alloc _).alloc _
  have bP0 : Blk (((w.alloc (.cells #[.int .u8 10, .int .i64 o.key, .int .i64 o.val, .int .i64 o.to, .int .i64 o.n, .slice Ao o.pairs.length co] 28)).alloc (.cells #[.int .i64 0, .int .i64 0, .int .i64 0, .slice none 0 0] 30)).alloc (.cells #[.int .i64 0, .int .i64 0] 23)) (w.heap.size + 1 + 1) 23 #[.int .i64 0, .int .i64 0] := by
    have := Blk.new ((w.alloc (.cells #[.int .u8 10, .int .i64 o.key, .int .i64 o.val, .int .i64 o.to, .int .i64 o.n, .slice Ao o.pairs.length co] 28)).alloc (.cells #[.int .i64 0, .int .i64 0, .int .i64 0, .slice none 0 0] 30)) 23 #[.int .i64 0, .int .i64 0]
    rwa [World.size_alloc, World.size_alloc] at this
  go_enter Try.func38, Try.ntmps38
  go_wp2_with fail
  refine (fits_any o.n _).mono ?_
  rw [hf]
  rintro e w1 ⟨rfl, hb1⟩
  have hb01 := bext hb0 hb1
  have bA := bA0.below hb1 bA0.lt
  have bO := bO0.below hb1 bO0.lt
  have bP := bP0.below hb1 bP0.lt
  have fa0 := bA.frozen 0
  have fa1 := bA.frozen 1
  have fa2 := bA.frozen 2
  have fa3 := bA.frozen 3
  have ga0 : w1.cell? ⟨w.heap.size + 1, 0, none⟩ = some (.int .i64 0) := bA.cell 0
  have ga1 : w1.cell? ⟨w.heap.size + 1, 1, none⟩ = some (.int .i64 0) := bA.cell 1
  have ga2 : w1.cell? ⟨w.heap.size + 1, 2, none⟩ = some (.int .i64 0) := bA.cell 2
  have ga3 : w1.cell? ⟨w.heap.size + 1, 3, none⟩ = some (.slice none 0 0) := bA.cell 3
  have fp0 := bP.frozen 0
  have fp1 := bP.frozen 1
  have gp0 : w1.cell? ⟨w.heap.size + 1 + 1, 0, none⟩ = some (.int .i64 0) := bP.cell 0
  have gp1 : w1.cell? ⟨w.heap.size + 1 + 1, 1, none⟩ = some (.int .i64 0) := bP.cell 1
  have cO1 : w1.cell? ⟨w.heap.size, 1, none⟩ = some (.int .i64 o.key) := bO.cell 1
  have cO3 : w1.cell? ⟨w.heap.size, 3, none⟩ = some (.int .i64 o.to) := bO.cell 3
  have cO4 : w1.cell? ⟨w.heap.size, 4, none⟩ = some (.int .i64 o.n) := bO.cell 4
  clear bO0 bA0 bP0 hb1 hb0
  go_wp2_with fail
  have e4 := four bA (.int .i64 0) (.int .i64 0) (.int .i64 0) (.slice none 0 0)
  have h0 := e4.cell 0
  have h1 := e4.cell 1
  have h2 := e4.cell 2
  have h3 := e4.cell 3
  have hb4 := fourB hb01 (show w.heap.size ≤ w.heap.size + 1 by omega) (.int .i64 0) (.int .i64 0) (.int .i64 0) (.slice none 0 0)
  refine bodyPost_ret (v := .tuple #[.agg #[.int .i64 0, .int .i64 0, .int .i64 0, .slice none 0 0], .int .i64 (2)]) (by simp [results, Try.results38, go_sem, h0, h1, h2, h3]) rfl ?_
  exact ⟨none, 0, rfl, Fr.nil, hb4⟩


set_option maxHeartbeats 1600000 in
theorem told10b (A : Option Addr) (l : List Pr) (c : Nat) (o : Opn) (Ao : Option Addr) (co : Nat) (w : World) (hA : Sl w A (l.flatMap Pr.cells)) (hl : l.length ≤ 1000000) (hr : Hid (Ris l)) (n : Nat) (hn : Hid (o.n = n)) (hf : decide (0 ≤ o.n ∧ o.n ≤ 1000) = true) :
    Calls Try.prog 38 #[.slice A l.length c, .agg #[.int .u8 10, .int .i64 o.key, .int .i64 o.val, .int .i64 o.to, .int .i64 o.n, .slice Ao o.pairs.length co]] w (GivesTold (⟨⟨0, 0⟩, 0, runOfL l o.key o.to n⟩) (0) w) := by
  have hb0 : Below w.heap.size w (((w.alloc (.cells #[.int .u8 10, .int .i64 o.key, .int .i64 o.val, .int .i64 o.to, .int .i64 o.n, .slice Ao o.pairs.length co] 28)).alloc (.cells #[.int .i64 0, .int .i64 0, .int .i64 0, .slice none 0 0] 30)).alloc (.cells #[.int .i64 0, .int .i64 0] 23)) := (((Below.refl _ _).alloc (Nat.le_refl _) _).alloc (by simp) _).alloc (by simp; omega) _
  have bA0 : Blk (((w.alloc (.cells #[.int .u8 10, .int .i64 o.key, .int .i64 o.val, .int .i64 o.to, .int .i64 o.n, .slice Ao o.pairs.length co] 28)).alloc (.cells #[.int .i64 0, .int .i64 0, .int .i64 0, .slice none 0 0] 30)).alloc (.cells #[.int .i64 0, .int .i64 0] 23)) (w.heap.size + 1) 30 #[.int .i64 0, .int .i64 0, .int .i64 0, .slice none 0 0] := by
    have := (Blk.new (w.alloc (.cells #[.int .u8 10, .int .i64 o.key, .int .i64 o.val, .int .i64 o.to, .int .i64 o.n, .slice Ao o.pairs.length co] 28)) 30 #[.int .i64 0, .int .i64 0, .int .i64 0, .slice none 0 0]).alloc (.cells #[.int .i64 0, .int .i64 0] 23)
    rwa [World.size_alloc] at this
  have bO0 : Blk (((w.alloc (.cells #[.int .u8 10, .int .i64 o.key, .int .i64 o.val, .int .i64 o.to, .int .i64 o.n, .slice Ao o.pairs.length co] 28)).alloc (.cells #[.int .i64 0, .int .i64 0, .int .i64 0, .slice none 0 0] 30)).alloc (.cells #[.int .i64 0, .int .i64 0] 23)) w.heap.size 28 #[.int .u8 10, .int .i64 o.key, .int .i64 o.val, .int .i64 o.to, .int .i64 o.n, .slice Ao o.pairs.length co] := ((Blk.new w _ _).alloc _).alloc _
  have bP0 : Blk (((w.alloc (.cells #[.int .u8 10, .int .i64 o.key, .int .i64 o.val, .int .i64 o.to, .int .i64 o.n, .slice Ao o.pairs.length co] 28)).alloc (.cells #[.int .i64 0, .int .i64 0, .int .i64 0, .slice none 0 0] 30)).alloc (.cells #[.int .i64 0, .int .i64 0] 23)) (w.heap.size + 1 + 1) 23 #[.int .i64 0, .int .i64 0] := by
    have := Blk.new ((w.alloc (.cells #[.int .u8 10, .int .i64 o.key, .int .i64 o.val, .int .i64 o.to, .int .i64 o.n, .slice Ao o.pairs.length co] 28)).alloc (.cells #[.int .i64 0, .int .i64 0, .int .i64 0, .slice none 0 0] 30)) 23 #[.int .i64 0, .int .i64 0]
    rwa [World.size_alloc, World.size_alloc] at this
  go_enter Try.func38, Try.ntmps38
  go_wp2_with fail
  refine (fits_any o.n _).mono ?_
  rw [hf]
  rintro e w1 ⟨rfl, hb1⟩
  have hb01 := bext hb0 hb1
  have bA := bA0.below hb1 bA0.lt
  have bO := bO0.below hb1 bO0.lt
  have bP := bP0.below hb1 bP0.lt
  have fa0 := bA.frozen 0
  have fa1 := bA.frozen 1
  have fa2 := bA.frozen 2
  have fa3 := bA.frozen 3
  have ga0 : w1.cell? ⟨w.heap.size + 1, 0, none⟩ = some (.int .i64 0) := bA.cell 0
  have ga1 : w1.cell? ⟨w.heap.size + 1, 1, none⟩ = some (.int .i64 0) := bA.cell 1
  have ga2 : w1.cell? ⟨w.heap.size + 1, 2, none⟩ = some (.int .i64 0) := bA.cell 2
  have ga3 : w1.cell? ⟨w.heap.size + 1, 3, none⟩ = some (.slice none 0 0) := bA.cell 3
  have fp0 := bP.frozen 0
  have fp1 := bP.frozen 1
  have gp0 : w1.cell? ⟨w.heap.size + 1 + 1, 0, none⟩ = some (.int .i64 0) := bP.cell 0
  have gp1 : w1.cell? ⟨w.heap.size + 1 + 1, 1, none⟩ = some (.int .i64 0) := bP.cell 1
  have cO1 : w1.cell? ⟨w.heap.size, 1, none⟩ = some (.int .i64 o.key) := bO.cell 1
  have cO3 : w1.cell? ⟨w.heap.size, 3, none⟩ = some (.int .i64 o.to) := bO.cell 3
  have cO4 : w1.cell? ⟨w.heap.size, 4, none⟩ = some (.int .i64 o.n) := bO.cell 4
  clear bO0 bA0 bP0 hb1 hb0
  go_wp2_with fail
  rw [hn.out]
  refine (runOf_any A l c o.key o.to n _ (hA.below hb01) hl).mono ?_
  rintro e w2 ⟨A2, c2, rfl, hf2, hb2⟩
  have hb02 := bext hb01 hb2
  have bA0 := bA
  have bO0 := bO
  have bP0 := bP
  have bA := bA0.below hb2 bA0.lt
  have bO := bO0.below hb2 bO0.lt
  have bP := bP0.below hb2 bP0.lt
  have fa0 := bA.frozen 0
  have fa1 := bA.frozen 1
  have fa2 := bA.frozen 2
  have fa3 := bA.frozen 3
  have ga0 : w2.cell? ⟨w.heap.size + 1, 0, none⟩ = some (.int .i64 0) := bA.cell 0
  have ga1 : w2.cell? ⟨w.heap.size + 1, 1, none⟩ = some (.int .i64 0) := bA.cell 1
  have ga2 : w2.cell? ⟨w.heap.size + 1, 2, none⟩ = some (.int .i64 0) := bA.cell 2
  have ga3 : w2.cell? ⟨w.heap.size + 1, 3, none⟩ = some (.slice none 0 0) := bA.cell 3
  have fp0 := bP.frozen 0
  have fp1 := bP.frozen 1
  have gp0 : w2.cell? ⟨w.heap.size + 1 + 1, 0, none⟩ = some (.int .i64 0) := bP.cell 0
  have gp1 : w2.cell? ⟨w.heap.size + 1 + 1, 1, none⟩ = some (.int .i64 0) := bP.cell 1
  have cO1 : w2.cell? ⟨w.heap.size, 1, none⟩ = some (.int .i64 o.key) := bO.cell 1
  have cO3 : w2.cell? ⟨w.heap.size, 3, none⟩ = some (.int .i64 o.to) := bO.cell 3
  have cO4 : w2.cell? ⟨w.heap.size, 4, none⟩ = some (.int .i64 o.n) := bO.cell 4
  have hf3 := hf2.mono (show w.heap.size + 1 + 1 ≤ w1.heap.size by have := hb01.size; have := bP0.lt; omega)
  go_wp2_with fail
  have e4 := four bA (.int .i64 0) (.int .i64 0) (.int .i64 0) (.slice A2 (runOfL l o.key o.to n).length c2)
  have h0 := e4.cell 0
  have h1 := e4.cell 1
  have h2 := e4.cell 2
  have h3 := e4.cell 3
  have hb4 := fourB hb02 (show w.heap.size ≤ w.heap.size + 1 by omega) (.int .i64 0) (.int .i64 0) (.int .i64 0) (.slice A2 (runOfL l o.key o.to n).length c2)
  refine bodyPost_ret (v := .tuple #[.agg #[.int .i64 0, .int .i64 0, .int .i64 0, .slice A2 (runOfL l o.key o.to n).length c2], .int .i64 (0)]) (by simp [results, Try.results38, go_sem, h0, h1, h2, h3]) rfl ?_
  exact ⟨A2, c2, rfl, (Fr.setO (Fr.setO (Fr.setO (Fr.setO hf3 (p := ⟨w.heap.size + 1, 0, none⟩) (by simp) _) (p := ⟨w.heap.size + 1, 1, none⟩) (by simp) _) (p := ⟨w.heap.size + 1, 2, none⟩) (by simp) _) (p := ⟨w.heap.size + 1, 3, none⟩) (by simp) _).mono (by omega), hb4⟩


set_option maxHeartbeats 1600000 in
theorem told0 (A : Option Addr) (l : List Pr) (c : Nat) (o : Opn) (Ao : Option Addr) (co : Nat) (w : World) (hA : Sl w A (l.flatMap Pr.cells)) (hl : l.length ≤ 1000000) (hr : Hid (Ris l)) (n1 : (o.kind == 1) = false) (n4 : (o.kind == 4) = false) (n5 : (o.kind == 5) = false) (n6 : (o.kind == 6) = false) (n7 : (o.kind == 7) = false) (n8 : (o.kind == 8) = false) (n9 : (o.kind == 9) = false) (n10 : (o.kind == 10) = false) (n14 : (o.kind == 14) = false) (n15 : (o.kind == 15) = false) :
    Calls Try.prog 38 #[.slice A l.length c, .agg #[.int .u8 o.kind, .int .i64 o.key, .int .i64 o.val, .int .i64 o.to, .int .i64 o.n, .slice Ao o.pairs.length co]] w (GivesTold (noAns) (291) w) := by
  have hb0 : Below w.heap.size w (((w.alloc (.cells #[.int .u8 o.kind, .int .i64 o.key, .int .i64 o.val, .int .i64 o.to, .int .i64 o.n, .slice Ao o.pairs.length co] 28)).alloc (.cells #[.int .i64 0, .int .i64 0, .int .i64 0, .slice none 0 0] 30)).alloc (.cells #[.int .i64 0, .int .i64 0] 23)) := (((Below.refl _ _).alloc (Nat.le_refl _) _).alloc (by simp) _).alloc (by simp; omega) _
  have bA0 : Blk (((w.alloc (.cells #[.int .u8 o.kind, .int .i64 o.key, .int .i64 o.val, .int .i64 o.to, .int .i64 o.n, .slice Ao o.pairs.length co] 28)).alloc (.cells #[.int .i64 0, .int .i64 0, .int .i64 0, .slice none 0 0] 30)).alloc (.cells #[.int .i64 0, .int .i64 0] 23)) (w.heap.size + 1) 30 #[.int .i64 0, .int .i64 0, .int .i64 0, .slice none 0 0] := by
    have := (Blk.new (w.alloc (.cells #[.int .u8 o.kind, .int .i64 o.key, .int .i64 o.val, .int .i64 o.to, .int .i64 o.n, .slice Ao o.pairs.length co] 28)) 30 #[.int .i64 0, .int .i64 0, .int .i64 0, .slice none 0 0]).alloc (.cells #[.int .i64 0, .int .i64 0] 23)
    rwa [World.size_alloc] at this
  have bO0 : Blk (((w.alloc (.cells #[.int .u8 o.kind, .int .i64 o.key, .int .i64 o.val, .int .i64 o.to, .int .i64 o.n, .slice Ao o.pairs.length co] 28)).alloc (.cells #[.int .i64 0, .int .i64 0, .int .i64 0, .slice none 0 0] 30)).alloc (.cells #[.int .i64 0, .int .i64 0] 23)) w.heap.size 28 #[.int .u8 o.kind, .int .i64 o.key, .int .i64 o.val, .int .i64 o.to, .int .i64 o.n, .slice Ao o.pairs.length co] := ((Blk.new w _ _).alloc _).alloc _
  have bP0 : Blk (((w.alloc (.cells #[.int .u8 o.kind, .int .i64 o.key, .int .i64 o.val, .int .i64 o.to, .int .i64 o.n, .slice Ao o.pairs.length co] 28)).alloc (.cells #[.int .i64 0, .int .i64 0, .int .i64 0, .slice none 0 0] 30)).alloc (.cells #[.int .i64 0, .int .i64 0] 23)) (w.heap.size + 1 + 1) 23 #[.int .i64 0, .int .i64 0] := by
    have := Blk.new ((w.alloc (.cells #[.int .u8 o.kind, .int .i64 o.key, .int .i64 o.val, .int .i64 o.to, .int .i64 o.n, .slice Ao o.pairs.length co] 28)).alloc (.cells #[.int .i64 0, .int .i64 0, .int .i64 0, .slice none 0 0] 30)) 23 #[.int .i64 0, .int .i64 0]
    rwa [World.size_alloc, World.size_alloc] at this
  go_enter Try.func38, Try.ntmps38
  go_upto_region 3 with fail
  obtain ⟨W, hW⟩ : ∃ W, (((w.alloc (.cells #[.int .u8 o.kind, .int .i64 o.key, .int .i64 o.val, .int .i64 o.to, .int .i64 o.n, .slice Ao o.pairs.length co] 28)).alloc (.cells #[.int .i64 0, .int .i64 0, .int .i64 0, .slice none 0 0] 30)).alloc (.cells #[.int .i64 0, .int .i64 0] 23)) = W := ⟨_, rfl⟩
  rw [hW] at hb0 bO0 bA0 bP0
  rw [hW]
  clear hW
  have hbW := Below.refl W.heap.size W
  have bA := bA0.below hbW bA0.lt
  have bO := bO0.below hbW bO0.lt
  have bP := bP0.below hbW bP0.lt
  have fa0 := bA.frozen 0
  have fa1 := bA.frozen 1
  have fa2 := bA.frozen 2
  have fa3 := bA.frozen 3
  have ga0 : W.cell? ⟨w.heap.size + 1, 0, none⟩ = some (.int .i64 0) := bA.cell 0
  have ga1 : W.cell? ⟨w.heap.size + 1, 1, none⟩ = some (.int .i64 0) := bA.cell 1
  have ga2 : W.cell? ⟨w.heap.size + 1, 2, none⟩ = some (.int .i64 0) := bA.cell 2
  have ga3 : W.cell? ⟨w.heap.size + 1, 3, none⟩ = some (.slice none 0 0) := bA.cell 3
  have fp0 := bP.frozen 0
  have fp1 := bP.frozen 1
  have gp0 : W.cell? ⟨w.heap.size + 1 + 1, 0, none⟩ = some (.int .i64 0) := bP.cell 0
  have gp1 : W.cell? ⟨w.heap.size + 1 + 1, 1, none⟩ = some (.int .i64 0) := bP.cell 1
  have cO1 : W.cell? ⟨w.heap.size, 1, none⟩ = some (.int .i64 o.key) := bO.cell 1
  have cO3 : W.cell? ⟨w.heap.size, 3, none⟩ = some (.int .i64 o.to) := bO.cell 3
  have cO4 : W.cell? ⟨w.heap.size, 4, none⟩ = some (.int .i64 o.n) := bO.cell 4
  have cO0 : W.cell? ⟨w.heap.size, 0, none⟩ = some (.int .u8 o.kind) := bO.cell 0
  clear bO0 bA0 bP0 hbW
  go_wp2_with fail
  have e4 := four bA (.int .i64 0) (.int .i64 0) (.int .i64 0) (.slice none 0 0)
  have h0 := e4.cell 0
  have h1 := e4.cell 1
  have h2 := e4.cell 2
  have h3 := e4.cell 3
  have hb4 := fourB hb0 (show w.heap.size ≤ w.heap.size + 1 by omega) (.int .i64 0) (.int .i64 0) (.int .i64 0) (.slice none 0 0)
  refine bodyPost_ret (v := .tuple #[.agg #[.int .i64 0, .int .i64 0, .int .i64 0, .slice none 0 0], .int .i64 (291)]) (by simp [results, Try.results38, go_sem, h0, h1, h2, h3]) rfl ?_
  exact ⟨none, 0, rfl, Fr.nil, hb4⟩

theorem scan_run {l : List Pr} (h : Ris l) (a b : Int) (n : Nat) : runOfL l a b n = scanL l a b n := by
  unfold runOfL scanL
  rw [scan_filter h]
  simp

theorem told_any (A : Option Addr) (l : List Pr) (c : Nat) (o : Opn) (Ao : Option Addr) (co : Nat) (w : World) (hA : Sl w A (l.flatMap Pr.cells)) (hl : l.length ≤ 1000000) (hr : Hid (Ris l)) (hb : ∀ q ∈ l, -9223372036854775808 ≤ q.key ∧ q.key ≤ 9223372036854775807) :
    Calls Try.prog 38 #[.slice A l.length c, .agg #[.int .u8 o.kind, .int .i64 o.key, .int .i64 o.val, .int .i64 o.to, .int .i64 o.n, .slice Ao o.pairs.length co]] w (GivesTold (askA l o) (askE l o) w) := by
  have hmin : bel l (-9223372036854775808) = 0 := bel_min fun q hq => (hb q hq).1
  have hmax : upk l 9223372036854775807 = l.length := upk_max fun q hq => (hb q hq).2
  by_cases k1 : o.kind = 1
  · obtain ⟨g1, g2⟩ := told_get hr.out k1
    by_cases hB : ceilB l o.key = true
    · by_cases hx : (ceilP l o.key).key = o.key
      · rw [(g1 hB hx).1, (g1 hB hx).2, k1]; exact told1t A l c o Ao co w hA hl hr hB hx
      · rw [(g2 (.inr hx)).1, (g2 (.inr hx)).2, k1]; exact told1g A l c o Ao co w hA hl hr hB hx
    · have hB : ceilB l o.key = false := by simpa using hB
      rw [(g2 (.inl hB)).1, (g2 (.inl hB)).2, k1]; exact told1f A l c o Ao co w hA hl hr hB
  by_cases k4 : o.kind = 4
  · have e1 : askA l o = oneA l ((upk l o.key : Int) - 1) := by simp [askA, k4]
    have e2 : askE l o = oneE l ((upk l o.key : Int) - 1) := by simp [askE, k4]
    obtain ⟨g1, g2⟩ := told_floor l o.key
    by_cases hB : floorB l o.key = true
    · rw [e1, e2, (g1 hB).1, (g1 hB).2, k4]; exact told4t A l c o Ao co w hA hl hr hB
    · have hB : floorB l o.key = false := by simpa using hB
      rw [e1, e2, (g2 hB).1, (g2 hB).2, k4]; exact told4f A l c o Ao co w hA hl hr hB
  by_cases k5 : o.kind = 5
  · have e1 : askA l o = oneA l (bel l o.key) := by simp [askA, k5]
    have e2 : askE l o = oneE l (bel l o.key) := by simp [askE, k5]
    obtain ⟨g1, g2⟩ := told_ceil l o.key
    by_cases hB : ceilB l o.key = true
    · rw [e1, e2, (g1 hB).1, (g1 hB).2, k5]; exact told5t A l c o Ao co w hA hl hr hB
    · have hB : ceilB l o.key = false := by simpa using hB
      rw [e1, e2, (g2 hB).1, (g2 hB).2, k5]; exact told5f A l c o Ao co w hA hl hr hB
  by_cases k6 : o.kind = 6
  · have e1 : askA l o = oneA l (bel l (-9223372036854775808) : Nat) := by rw [hmin]; simp [askA, k6]
    have e2 : askE l o = oneE l (bel l (-9223372036854775808) : Nat) := by rw [hmin]; simp [askE, k6]
    obtain ⟨g1, g2⟩ := told_ceil l (-9223372036854775808)
    by_cases hB : ceilB l (-9223372036854775808) = true
    · rw [e1, e2, (g1 hB).1, (g1 hB).2, k6]; exact told6t A l c o Ao co w hA hl hr hB
    · have hB : ceilB l (-9223372036854775808) = false := by simpa using hB
      rw [e1, e2, (g2 hB).1, (g2 hB).2, k6]; exact told6f A l c o Ao co w hA hl hr hB
  by_cases k7 : o.kind = 7
  · have e1 : askA l o = oneA l ((upk l 9223372036854775807 : Nat) - 1) := by rw [hmax]; simp [askA, k7]
    have e2 : askE l o = oneE l ((upk l 9223372036854775807 : Nat) - 1) := by rw [hmax]; simp [askE, k7]
    obtain ⟨g1, g2⟩ := told_floor l 9223372036854775807
    by_cases hB : floorB l 9223372036854775807 = true
    · rw [e1, e2, (g1 hB).1, (g1 hB).2, k7]; exact told7t A l c o Ao co w hA hl hr hB
    · have hB : floorB l 9223372036854775807 = false := by simpa using hB
      rw [e1, e2, (g2 hB).1, (g2 hB).2, k7]; exact told7f A l c o Ao co w hA hl hr hB
  by_cases k8 : o.kind = 8
  · have e2 : askE l o = 0 := by simp [askE, k8]
    rw [e2, k8]; exact told8 A l c o Ao co w hA hl hr k8
  by_cases k9 : o.kind = 9
  · have e1 : askA l o = oneA l o.n := by simp [askA, k9]
    have e2 : askE l o = (if oneE l o.n = 0 then 0 else 290) := by simp [askE, k9]
    rw [e1, e2, k9]
    by_cases h0 : o.n < 0
    · rw [oneA_out (by omega), oneE_out (by omega)]; exact told9a A l c o Ao co w hA hl hr h0
    · by_cases h1 : (l.length : Int) ≤ o.n
      · rw [oneA_out (by omega), oneE_out (by omega)]; exact told9b A l c o Ao co w hA hl hr h0 h1
      · obtain ⟨n, hn⟩ : ∃ n : Nat, o.n = n := ⟨o.n.toNat, by omega⟩
        have hlt : n < l.length := by omega
        have e3 : oneA l o.n = ⟨l[n]'hlt, 0, []⟩ := by rw [hn]; exact oneA_in hlt
        have e4 : oneE l o.n = 0 := by rw [hn]; exact oneE_in hlt
        rw [e3, e4]
        exact told9c A l c o Ao co w hA hl hr n (Lib.hid hn) hlt
  by_cases k10 : o.kind = 10
  · by_cases hf : 0 ≤ o.n ∧ o.n ≤ 1000
    · obtain ⟨n, hn⟩ : ∃ n : Nat, o.n = n := ⟨o.n.toNat, by omega⟩
      have e1 : askA l o = ⟨⟨0, 0⟩, 0, runOfL l o.key o.to n⟩ := by
        rw [scan_run hr.out, ← hn]
        simp only [askA, k10]
        rw [if_neg (by omega)]
        simp
        omega
      have e2 : askE l o = 0 := by simp [askE, k10]; omega
      rw [e1, e2, k10]
      exact told10b A l c o Ao co w hA hl hr n (Lib.hid hn) (decide_eq_true hf)
    · have e1 : askA l o = noAns := by simp [askA, k10]; omega
      have e2 : askE l o = 2 := by simp [askE, k10]; omega
      rw [e1, e2, k10]
      exact told10a A l c o Ao co w hA hl hr (decide_eq_false hf)
  by_cases k14 : o.kind = 14
  · have e1 : askA l o = noAns := by simp [askA, k14]
    have e2 : askE l o = 0 := by simp [askE, k14]
    rw [e1, e2, k14]; exact told14 A l c o Ao co w hA hl hr
  by_cases k15 : o.kind = 15
  · have e1 : askA l o = ⟨⟨0, 0⟩, l.length, []⟩ := by simp [askA, k15]
    have e2 : askE l o = 0 := by simp [askE, k15]
    rw [e1, e2, k15]; exact told15 A l c o Ao co w hA hl hr
  have e1 : askA l o = noAns := by simp [askA, *]
  have e2 : askE l o = 291 := by simp [askE, *]
  rw [e1, e2]
  exact told0 A l c o Ao co w hA hl hr (by simpa using k1) (by simpa using k4) (by simpa using k5) (by simpa using k6) (by simpa using k7) (by simpa using k8) (by simpa using k9) (by simpa using k10) (by simpa using k14) (by simpa using k15)

end Go.Proofs.Ytibgpghlnfcilaa