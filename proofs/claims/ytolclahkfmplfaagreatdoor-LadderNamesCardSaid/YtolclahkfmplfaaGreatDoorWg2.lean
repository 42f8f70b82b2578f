/- Iter Ca Cp Tq: texts of the claim, in this order. -/
import Derived.Test.YtolclahkfmplfaaGreatDoorWg1
import Derived.RangeFuncOwn
import Derived.RangeFuncLeaves
import Derived.OwnWalkIn
import Derived.TacticsInMore
import Derived.LoopIn
import Derived.LoopNIn
import Derived.Shelf.Abstract
import Derived.Shelf.RegionOpen
import Derived.ScopeJumps
import Derived.WalkMore
import Derived.Laws.ComplexArith
import Derived.OrdersHeld
import Derived.StillTail
import Derived.Deep.RegionHeld3
import Derived.Deep.LoopGhost
/- A range over a function: what an iterator yields, the rule for the statement, and the end of a function that holds one. No program in sight. -/
namespace Go.Proofs.YtolclahkfmplfaaGreatDoor
open Go Go.RowKit Go.Shelf

/-- only blocks in S may have turned; new ones may have come -/
structure Mod (S : Nat → Prop) (w w' : World) : Prop where
  os : w'.os = w.os
  tape : w'.tape = w.tape
  output : w'.output = w.output
  size : w.heap.size ≤ w'.heap.size
  block : ∀ k, k < w.heap.size → ¬ S k → w'.heap[k]? = w.heap[k]?

section
variable {S T : Nat → Prop} {a b c w w' : World}
theorem Mod.refl (S : Nat → Prop) (w : World) : Mod S w w := ⟨rfl, rfl, rfl, Nat.le_refl _, fun _ _ _ => rfl⟩
theorem Mod.trans (h : Mod S a b) (k : Mod S b c) : Mod S a c :=
  ⟨k.os.trans h.os, k.tape.trans h.tape, k.output.trans h.output, Nat.le_trans h.size k.size, fun i hi hn => (k.block i (Nat.lt_of_lt_of_le hi h.size) hn).trans (h.block i hi hn)⟩
theorem Mod.mono (h : Mod S a b) (hs : ∀ k, k < a.heap.size → S k → T k) : Mod T a b := ⟨h.os, h.tape, h.output, h.size, fun i hi hn => h.block i hi fun hk => hn (hs i hi hk)⟩
theorem Mod.alloc (h : Mod S a w) (o : Obj) : Mod S a (w.alloc o) :=
  h.trans ⟨rfl, rfl, rfl, by simp, fun k hk _ => Below.heap_alloc _ _ _ hk⟩
theorem Mod.setCell (h : Mod S a w) {p : Addr} (hp : S p.block) (u : Value) : Mod S a (w.setCell p u) :=
  h.trans ⟨rfl, rfl, rfl, by simp [World.setCell], fun k hk hn => Below.heap_setCell _ _ _ _ (fun e => hn (e ▸ hp))⟩
theorem Mod.setNew (h : Mod S a w) {p : Addr} (hp : a.heap.size ≤ p.block) (u : Value) : Mod S a (w.setCell p u) :=
  ⟨h.os, h.tape, h.output, by simpa [World.setCell] using h.size, fun k hk hn => (Below.heap_setCell _ _ _ _ (by omega)).trans (h.block k hk hn)⟩
theorem Mod.drew (h : Mod S a w) : Mod S a w.drew := ⟨h.os, h.tape, h.output, h.size, h.block⟩
theorem Mod.drewN (h : Mod S a w) (n : Nat) : Mod S a (w.drewN n) := ⟨h.os, h.tape, h.output, h.size, h.block⟩
theorem Mod.ext (h : Mod S a w) (hb : Below w.heap.size w w') : Mod S a w' :=
  h.trans ⟨hb.os, hb.tape, hb.output, hb.size, fun k hk _ => hb.block k hk⟩
theorem Mod.of_ext (hb : Below w.heap.size w w') : Mod S w w' := (Mod.refl S w).ext hb
theorem Mod.of_below {B : Nat} (hb : Below B w w') : Mod (fun k => B ≤ k) w w' := ⟨hb.os, hb.tape, hb.output, hb.size, fun k _ hn => hb.block k (by omega)⟩
theorem Mod.grown {row : Option Nat} (h : Mod S a w) (hg : w.grownBy w' row) (hr : ∀ k, row = some k → S k ∨ a.heap.size ≤ k) : Mod S a w' :=
  ⟨hg.os.trans h.os, hg.tape.trans h.tape, hg.output.trans h.output, Nat.le_trans h.size hg.size, fun k hk hn => (hg.block k (Nat.lt_of_lt_of_le hk h.size) (fun e => by
    rcases hr k e.symm with hs | hs
    · exact hn hs
    · omega)).trans (h.block k hk hn)⟩
theorem Mod.below {B : Nat} (h : Mod S w w') (hB : B ≤ w.heap.size) (hs : ∀ k, S k → B ≤ k) : Below B w w' :=
  ⟨h.os, h.tape, h.output, h.size, fun k hk => h.block k (by omega) fun hsk => by have := hs k hsk; omega⟩
theorem Mod.cell (h : Mod S w w') {p : Addr} (hp : p.block < w.heap.size) (hn : ¬ S p.block) : w'.cell? p = w.cell? p := World.cell?_of_block (h.block _ hp hn)
theorem Mod.frozen (h : Mod S w w') {p : Addr} (hp : p.block < w.heap.size) (hn : ¬ S p.block) : w'.frozen? p = w.frozen? p := World.frozen?_of_block (h.block _ hp hn)
theorem Mod.putObj (h : Mod S a w) {l : Nat} (hl : S l) (o : Obj) : Mod S a (w.putObj l o) :=
  h.trans ⟨rfl, rfl, rfl, by simp [World.putObj], fun k hk hn => World.putObj_heap_other (fun e => hn (e ▸ hl))⟩
end

theorem Blk.mod {S : Nat → Prop} {w w' : World} {g : Nat} {t : TypeId} {cs : Array Value} (h : Blk w g t cs) (hm : Mod S w w') (hn : ¬ S g) : Blk w' g t cs := h.of (hm.block _ h.lt hn)
theorem Sl.mod {S : Nat → Prop} {w w' : World} {A : Option Addr} {xs : List Value} (h : Sl w A xs) (hm : Mod S w w') (hn : ∀ a, A = some a → ¬ S a.block) : Sl w' A xs := by
  rcases h with h | ⟨b, off, hA, hlt, hc⟩
  · exact .inl h
  · exact .inr ⟨b, off, hA, Nat.lt_of_lt_of_le hlt hm.size, fun j u hu => (hm.cell (p := ⟨b, off + j, none⟩) hlt (hn ⟨b, off, none⟩ hA)).trans (hc j u hu)⟩

/-- A call of g at a yield gives it, one by one, the arrays xs 0 .. xs (N - 1). K: the blocks that the iterator leans on, T: those that it may turn. -/
def Yields (F : Fence) (P : Program) (g : FuncId) (lb : Array Value) (N : Nat) (xs : Nat → Array Value) (K T : Nat → Prop) (w : World) : Prop :=
  ∀ (l : Nat) (I : Nat → World → Prop) (X : World → Prop) (W : World),
    w.heap.size ≤ W.heap.size → (∀ b, K b → W.heap[b]? = w.heap[b]?) →
    (∀ k A B, I k A → Mod T A B → I k B) → (∀ A B, X A → Mod T A B → X B) →
    (∀ k A, k < N → I k A → YieldAt F 0 P l (xs k) A fun e B =>
        (e = .returned (.bool true) ∧ I (k + 1) B ∧ A.heap.size ≤ B.heap.size ∧ ∀ b, K b → B.heap[b]? = A.heap[b]?) ∨ (e = .returned (.bool false) ∧ X B)) →
    I 0 W →
    CallsIn F 0 P g (#[.func (.yield l) #[] #[]] ++ lb) W fun e W' => (∃ v, e = .returned v) ∧ (I N W' ∨ X W')

/-- how the body of a round may be left -/
def rPost (B : Nat) (K : Nat → Prop) (In : World → Prop) (Ix : Code → World → Prop) (A : World) : Exit → Act → World → Prop
  | .normal, _, W => Mod (fun b => b ≠ B ∧ b ≠ B + 1 ∧ ¬ K b) A W ∧ In W
  | .ret, _, W => Mod (fun b => b ≠ B ∧ b ≠ B + 1) A W ∧ Ix .ret W
  | .exit id, _, W => Mod (fun b => b ≠ B ∧ b ≠ B + 1) A W ∧ Ix (.exit id) W
  | .goto t, _, W => Mod (fun b => b ≠ B ∧ b ≠ B + 1) A W ∧ Ix (.goto t) W
  | .panic _, _, _ => False
  | .outgrown, _, _ => False

theorem wpIn_range {F : Fence} {P : Program} {g : Operand} {ps : Array Tmp} {assign body : Code} {Q : Exit → Act → World → Prop} {a : Act} {w : World}
    (hd : F.depth = none) (hF : ∀ f, F.fn f) (hro : F.round = none)
    {gf : Nat} {lb : Array Value} (hg : a.eval g = .func (.func gf) #[] lb) (eg : ∀ args w, (callFunc gf args).run P w = .ok (.enter gf args) w)
    {N : Nat} {xs : Nat → Array Value} {K T : Nat → Prop} (hy : Yields F P gf lb N xs K T w) (hK : ∀ b, K b → b < w.heap.size) (hT : ∀ b, T b → b < w.heap.size)
    (hps : ∀ k, (xs k).size = ps.size)
    (I : Nat → World → Prop) (Ix : Code → World → Prop)
    (hI : ∀ k A B, I k A → Mod (fun b => T b ∨ b = w.heap.size ∨ b = w.heap.size + 1) A B → I k B)
    (hIx : ∀ c A B, Ix c A → Mod (fun b => T b ∨ b = w.heap.size ∨ b = w.heap.size + 1) A B → Ix c B)
    (h0 : I 0 w) (Ax : Nat → Act → World → Prop)
    (hAx : ∀ k a' A B, Ax k a' A → Mod (fun b => T b ∨ b = w.heap.size ∨ b = w.heap.size + 1) A B → Ax k a' B)
    (hassign : ∀ (l k : Nat), k < N → ∀ (A : World) (C : Act → World → Prop), I k A → w.heap.size + 2 ≤ A.heap.size →
      (∀ a' A', Mod (fun b => b ≠ w.heap.size ∧ b ≠ w.heap.size + 1 ∧ ¬ K b) A A' → I k A' → Ax k a' A' → C a' A') →
      assign.wpIn (F.inRound l) 0 P (Exit.then C (fun _ _ _ => False)) { tmps := (ps.zip (xs k)).foldl (fun t (p, v) => t.setIfInBounds p v) a.tmps, defers := [] } A)
    (hbody : ∀ (l k : Nat), k < N → ∀ (a' : Act) (A : World), I k A → Ax k a' A → w.heap.size + 2 ≤ A.heap.size →
      body.wpIn (F.inRound l) 0 P (rPost w.heap.size K (I (k + 1)) Ix A) a' A)
    (hdone : ∀ (W : World), I N W → W.heap[w.heap.size]? = some (.deferred (some [])) → Q .normal { a with defers := { target := .collected w.heap.size, args := #[] } :: a.defers } W)
    (hstop : ∀ (c : Code) (W : World), Ix c W → W.heap[w.heap.size]? = some (.deferred (some [])) → c.wpIn F 0 P Q { a with defers := { target := .collected w.heap.size, args := #[] } :: a.defers } W) :
    (Code.rangeFunc g ps assign body).wpIn F 0 P Q a w := by
  refine wpIn_rangeFunc ?_
  intro fn hfn
  rw [hro]
  obtain ⟨rec, hrec⟩ : ∃ rec : LoopState → Option Code → Loop, rec = fun st pe => { state := st, pending := pe, fn, tmps := a.tmps, params := ps, assign, body, defers := w.heap.size } := ⟨_, rfl⟩
  obtain ⟨W1, hW1⟩ : ∃ W1, (w.alloc (.deferred (some []))).alloc (.loop (rec .ready none)) = W1 := ⟨_, rfl⟩
  have hL1 : W1.heap[w.heap.size + 1]? = some (.loop (rec .ready none)) := by
    rw [← hW1]; have := World.alloc_heap_new (w.alloc (.deferred (some []))) (.loop (rec .ready none)); rwa [World.size_alloc] at this
  have hK1 : W1.heap[w.heap.size]? = some (.deferred (some [])) := by
    rw [← hW1]; exact (Below.heap_alloc _ _ _ (by simp)).trans (World.alloc_heap_new w _)
  have hm1 : ∀ S, Mod S w W1 := fun S => by rw [← hW1]; exact ((Mod.refl S w).alloc _).alloc _
  have hs1 : W1.heap.size = w.heap.size + 2 := by rw [← hW1]; simp
  refine ⟨w.heap.size + 1, [{ target := .collected w.heap.size, args := #[] }], W1, { target := .fn (.func gf) lb, args := #[.func (.yield (w.heap.size + 1)) #[] #[]] }, W1, gf,
    #[.func (.yield (w.heap.size + 1)) #[] #[]] ++ lb, W1, ?_, ?_, ?_, ?_, (fun h => by rw [hd] at h; cases h), ?_⟩
  · rw [← hW1, hrec]; exact run_enterLoop_outer _ _ _ _ _
  · simp only [resolve, hg]
    simp [go_sem]
  · intro f' _; exact hF _
  · simp [invoke, go_sem, eg]
  · have hTne : ∀ b, T b → b ≠ w.heap.size ∧ b ≠ w.heap.size + 1 := fun b hb => by have := hT b hb; omega
    have hKne : ∀ b, K b → b ≠ w.heap.size ∧ b ≠ w.heap.size + 1 := fun b hb => by have := hK b hb; omega
    refine (hy (w.heap.size + 1)
      (fun k W => I k W ∧ W.heap[w.heap.size + 1]? = some (.loop (rec .ready none)) ∧ W.heap[w.heap.size]? = some (.deferred (some [])))
      (fun W => ∃ c, Ix c W ∧ W.heap[w.heap.size + 1]? = some (.loop (rec .done (some c))) ∧ W.heap[w.heap.size]? = some (.deferred (some [])))
      W1 (by omega) (fun b hb => (hm1 (fun _ => False)).block b (hK b hb) (fun h => h))
      ?stab ?stabx ?round ⟨hI 0 _ _ h0 (hm1 _), hL1, hK1⟩).mono ?behind
    case stab =>
      rintro k A B ⟨hi, hl, hk⟩ hm
      refine ⟨hI _ _ _ hi (hm.mono fun _ _ h => .inl h), ?_, ?_⟩
      · exact (hm.block _ (Array.getElem?_eq_some_iff.1 hl).1 (fun h => (hTne _ h).2 rfl)).trans hl
      · exact (hm.block _ (Array.getElem?_eq_some_iff.1 hk).1 (fun h => (hTne _ h).1 rfl)).trans hk
    case stabx =>
      rintro A B ⟨c, hi, hl, hk⟩ hm
      refine ⟨c, hIx _ _ _ hi (hm.mono fun _ _ h => .inl h), ?_, ?_⟩
      · exact (hm.block _ (Array.getElem?_eq_some_iff.1 hl).1 (fun h => (hTne _ h).2 rfl)).trans hl
      · exact (hm.block _ (Array.getElem?_eq_some_iff.1 hk).1 (fun h => (hTne _ h).1 rfl)).trans hk
    case round =>
      rintro k A hk ⟨hi, hl, hD⟩
      have hlt : w.heap.size + 1 < A.heap.size := (Array.getElem?_eq_some_iff.1 hl).1
      have hyd := run_yield (P := P) (args := xs k) hl (by rw [hrec]; exact hps k)
      rw [hrec] at hyd
      refine ⟨fn, _, assign, body, hyd, roundIn_of_wpIn hfn (hassign _ k hk A _ hi (by omega) ?_)⟩
      clear hyd
      intro a' A1 hm hi1 hax
      have hl1 : A1.heap[w.heap.size + 1]? = some (.loop (rec .ready none)) := (hm.block _ hlt (fun h => h.2.1 rfl)).trans hl
      have hD1 : A1.heap[w.heap.size]? = some (.deferred (some [])) := (hm.block _ (by omega) (fun h => h.1 rfl)).trans hD
      have hlt1 : w.heap.size + 1 < A1.heap.size := (Array.getElem?_eq_some_iff.1 hl1).1
      refine ⟨_, run_beginRound hl1 (by rw [hrec]), ?_⟩
      obtain ⟨A2, hA2⟩ : ∃ A2, A1.putObj (w.heap.size + 1) (.loop { rec .ready none with state := .busy }) = A2 := ⟨_, rfl⟩
      rw [hA2]
      have hl2 : A2.heap[w.heap.size + 1]? = some (.loop { rec .ready none with state := .busy }) := by rw [← hA2]; exact World.putObj_heap_same hlt1
      have hD2 : A2.heap[w.heap.size]? = some (.deferred (some [])) := by rw [← hA2]; exact (World.putObj_heap_other (by omega)).trans hD1
      have hm2 : Mod (fun b => T b ∨ b = w.heap.size ∨ b = w.heap.size + 1) A1 A2 := by rw [← hA2]; exact (Mod.refl _ _).putObj (.inr (.inr rfl)) _
      have hk12 : ∀ b, K b → A2.heap[b]? = A1.heap[b]? := fun b hb => by rw [← hA2]; exact World.putObj_heap_other (hKne b hb).2
      have hs2 : A2.heap.size = A1.heap.size := by rw [← hA2]; simp [World.putObj]
      refine wpIn_mono (hbody _ k hk a' A2 (hI _ _ _ hi1 hm2) (hAx _ _ _ _ hax hm2) (by omega)) ?_
      have fin : ∀ (jump : Option Code) (W3 : World) (S : Nat → Prop), Mod S A2 W3 → ¬ S w.heap.size → ¬ S (w.heap.size + 1) →
          (Instr.endRound (w.heap.size + 1) jump).run P W3 = .ok (.bool jump.isNone) (W3.putObj (w.heap.size + 1) (.loop (rec (if jump.isNone then .ready else .done) jump))) ∧
          (W3.putObj (w.heap.size + 1) (.loop (rec (if jump.isNone then .ready else .done) jump))).heap[w.heap.size + 1]? = some (.loop (rec (if jump.isNone then .ready else .done) jump)) ∧
          (W3.putObj (w.heap.size + 1) (.loop (rec (if jump.isNone then .ready else .done) jump))).heap[w.heap.size]? = some (.deferred (some [])) := fun jump W3 S hm3 hn1 hn2 => by
        have hl3 := (hm3.block _ (by omega) hn2).trans hl2
        have hD3 := (hm3.block _ (by omega) hn1).trans hD2
        have := run_endRound (P := P) jump hl3
        rw [hrec] at this ⊢
        exact ⟨this, World.putObj_heap_same (Array.getElem?_eq_some_iff.1 hl3).1, (World.putObj_heap_other (by omega)).trans hD3⟩
      have mp : ∀ (W3 : World) (o : Obj), Mod (fun b => T b ∨ b = w.heap.size ∨ b = w.heap.size + 1) W3 (W3.putObj (w.heap.size + 1) o) := fun W3 o => (Mod.refl _ _).putObj (.inr (.inr rfl)) o
      rintro e a3 W3 hp
      cases e with
      | normal =>
        obtain ⟨hm3, hi3⟩ := hp
        obtain ⟨hr, hl4, hD4⟩ := fin none W3 _ hm3 (fun h => h.1 rfl) (fun h => h.2.1 rfl)
        refine ⟨_, _, hr, .inl ⟨rfl, ⟨hI _ _ _ hi3 (mp _ _), hl4, hD4⟩, ?_, fun b hb => ?_⟩⟩
        · have := hm.size; have := hm3.size; simp [World.putObj]; omega
        · have h1 := hm.block b (by have := hK b hb; omega) (fun h => h.2.2 hb)
          have h2 := hk12 b hb
          have h3 := hm3.block b (by have := hK b hb; omega) (fun h => h.2.2 hb)
          exact (World.putObj_heap_other (hKne b hb).2).trans (h3.trans (h2.trans h1))
      | ret =>
        obtain ⟨hm3, hi3⟩ := hp
        obtain ⟨hr, hl4, hD4⟩ := fin (some .ret) W3 _ hm3 (fun h => h.1 rfl) (fun h => h.2 rfl)
        exact ⟨_, _, hr, .inr ⟨rfl, .ret, hIx _ _ _ hi3 (mp _ _), hl4, hD4⟩⟩
      | exit id =>
        obtain ⟨hm3, hi3⟩ := hp
        obtain ⟨hr, hl4, hD4⟩ := fin (some (.exit id)) W3 _ hm3 (fun h => h.1 rfl) (fun h => h.2 rfl)
        exact ⟨_, _, hr, .inr ⟨rfl, .exit id, hIx _ _ _ hi3 (mp _ _), hl4, hD4⟩⟩
      | goto t =>
        obtain ⟨hm3, hi3⟩ := hp
        obtain ⟨hr, hl4, hD4⟩ := fin (some (.goto t)) W3 _ hm3 (fun h => h.1 rfl) (fun h => h.2 rfl)
        exact ⟨_, _, hr, .inr ⟨rfl, .goto t, hIx _ _ _ hi3 (mp _ _), hl4, hD4⟩⟩
      | panic ch => exact hp.elim
      | outgrown => exact hp.elim
    case behind =>
      have mp : ∀ (W3 : World) (o : Obj), Mod (fun b => T b ∨ b = w.heap.size ∨ b = w.heap.size + 1) W3 (W3.putObj (w.heap.size + 1) o) := fun W3 o => (Mod.refl _ _).putObj (.inr (.inr rfl)) o
      rintro e W2 ⟨⟨v, rfl⟩, (⟨hi, hl, hk⟩ | ⟨c, hi, hl, hk⟩)⟩
      · exact ⟨none, _, by have := run_endLoop (P := P) hl (by rw [hrec]; simp); rw [hrec] at this; exact this, hdone _ (hI _ _ _ hi (mp _ _)) ((World.putObj_heap_other (by omega)).trans hk)⟩
      · exact ⟨some c, _, by have := run_endLoop (P := P) hl (by rw [hrec]; simp); rw [hrec] at this; exact this, hstop c _ (hIx _ _ _ hi (mp _ _)) ((World.putObj_heap_other (by omega)).trans hk)⟩

/-- the temporaries with some of them set -/
def rt (t : Array Value) (l : List (Tmp × Value)) : Array Value := l.foldl (fun t p => t.setIfInBounds p.1 p.2) t

/-- the rule where the assignments to the loop's left sides lay no block -/
theorem wpIn_rangeS {F : Fence} {P : Program} {g : Operand} {ps : Array Tmp} {assign body : Code} {Q : Exit → Act → World → Prop} {a : Act} {w : World}
    (hd : F.depth = none) (hF : ∀ f, F.fn f) (hro : F.round = none)
    {gf : Nat} {lb : Array Value} (hg : a.eval g = .func (.func gf) #[] lb) (eg : ∀ args w, (callFunc gf args).run P w = .ok (.enter gf args) w)
    {N : Nat} {xs : Nat → Array Value} {K T : Nat → Prop} (hy : Yields F P gf lb N xs K T w) (hK : ∀ b, K b → b < w.heap.size) (hT : ∀ b, T b → b < w.heap.size)
    (hps : ∀ k, (xs k).size = ps.size)
    (I : Nat → World → Prop) (Ix : Code → World → Prop) (sets : Nat → List (Tmp × Value))
    (hI : ∀ k A B, I k A → Mod (fun b => T b ∨ b = w.heap.size ∨ b = w.heap.size + 1) A B → I k B)
    (hIx : ∀ c A B, Ix c A → Mod (fun b => T b ∨ b = w.heap.size ∨ b = w.heap.size + 1) A B → Ix c B)
    (h0 : I 0 w)
    (hassign : ∀ (l k : Nat), k < N → ∀ (A : World) (C : Act → World → Prop), C { tmps := rt a.tmps (sets k), defers := [] } A →
      assign.wpIn (F.inRound l) 0 P (Exit.then C (fun _ _ _ => False)) { tmps := (ps.zip (xs k)).foldl (fun t (p, v) => t.setIfInBounds p v) a.tmps, defers := [] } A)
    (hbody : ∀ (l k : Nat), k < N → ∀ (A : World), I k A → w.heap.size + 2 ≤ A.heap.size →
      body.wpIn (F.inRound l) 0 P (rPost w.heap.size K (I (k + 1)) Ix A) { tmps := rt a.tmps (sets k), defers := [] } A)
    (hdone : ∀ (W : World), I N W → W.heap[w.heap.size]? = some (.deferred (some [])) → Q .normal { a with defers := { target := .collected w.heap.size, args := #[] } :: a.defers } W)
    (hstop : ∀ (c : Code) (W : World), Ix c W → W.heap[w.heap.size]? = some (.deferred (some [])) → c.wpIn F 0 P Q { a with defers := { target := .collected w.heap.size, args := #[] } :: a.defers } W) :
    (Code.rangeFunc g ps assign body).wpIn F 0 P Q a w :=
  wpIn_range hd hF hro hg eg hy hK hT hps I Ix hI hIx h0 (fun k a' _ => a' = { tmps := rt a.tmps (sets k), defers := [] }) (fun _ _ _ _ h _ => h)
    (fun l k hk A C hi _ hC => hassign l k hk A C (hC _ _ (Mod.refl _ _) hi rfl))
    (fun l k hk a' A hi ha hs => by subst ha; exact hbody l k hk A hi hs) hdone hstop

/-! ### a scope with a label, in a fence -/
section
variable {F : Fence} {P : Program} {b : Frame} {a : Act} {k : List Item} {cs : List Frame} {w : World} {Q : Exit → Act → World → Prop}
theorem stepR_scope {c : Code} : step P (lone (b.atR a (.code (.scope c) :: k)) cs w) = .next (lone (b.atR a (.code c :: .inScope c :: k)) cs w) :=
  step_lone_go (by simp [stepG, stepG.exec, Frame.atR])
theorem stepR_inScope {c : Code} : step P (lone (b.atR a (.inScope c :: k)) cs w) = .next (lone (b.atR a k) cs w) :=
  step_lone_go (by simp [stepG, stepG.exec, Frame.atR])

theorem arrives_scope {c : Code} {e : Exit} {a₁ : Act} {w₁ : World} {m : Machine} {n : Nat} (hb : F.fn b.fn) (hr : F.room (cs.length + 1 + n)) (hne : ∀ l, e ≠ .goto l)
    (harr : ArrivesIn (Machine.fenced P F) P m b (.inScope c :: k) cs e a₁ w₁) : ArrivesIn (Machine.fenced P F) P m b k cs e a₁ w₁ := by
  cases e with
  | normal => exact StepsIn.trans harr (.one (fenced_calm hb hr rfl) stepR_inScope)
  | exit id =>
    have hx : exitTo id (.inScope c :: k) = exitTo id k := by simp [exitTo]
    exact ⟨fun k' hk => harr.1 k' (by rw [hx]; exact hk), fun hr' hk => let ⟨k₁, h1, h2⟩ := harr.2 hr' (by rw [hx]; exact hk); ⟨k₁, h1, h2⟩⟩
  | goto l => exact absurd rfl (hne l)
  | ret => exact harr
  | panic ch => exact harr
  | outgrown => exact harr

/-- a scope in which the run jumps to one label: J holds at every jump, and a measure goes down -/
theorem wpIn_scope_jumps {n : Nat} {c rest : Code} (l : Nat) (J : Act → World → Prop) (μ : Act → World → Nat) (hf : findLabel c l = some rest)
    (first : c.wpIn F n P (Exit.jump l J Q) a w)
    (pass : ∀ a w, J a w → rest.wpIn F n P (Exit.jump l (fun a' w' => J a' w' ∧ μ a' w' < μ a w) Q) a w) : (Code.scope c).wpIn F n P Q a w := by
  intro b k cs hro hb hr
  have h0 : (lone (b.atR a (.code (.scope c) :: k)) cs w).fenced P F := fenced_calm hb hr rfl
  have hg : gotoIn l (.inScope c :: k) = some (.code rest :: .inScope c :: k) := by simp [gotoIn, hf]
  have key : ∀ m a w, μ a w = m → J a w → ∃ e a' w', Q e a' w' ∧ ArrivesIn (Machine.fenced P F) P (lone (b.atR a (.code rest :: .inScope c :: k)) cs w) b k cs e a' w' := by
    intro m
    induction m using Nat.strongRecOn with
    | _ m ih =>
      intro a w hn hJ
      obtain ⟨e, a₁, w₁, hq, harr⟩ := pass a w hJ b (.inScope c :: k) cs hro hb hr
      cases e with
      | goto l' =>
        obtain ⟨rfl, hJ', hlt⟩ := hq
        obtain ⟨e₂, a₂, w₂, hq₂, harr₂⟩ := ih _ (by omega) a₁ w₁ rfl hJ'
        exact ⟨e₂, a₂, w₂, hq₂, .of_steps (harr.1 _ hg) harr₂⟩
      | normal => exact ⟨_, a₁, w₁, hq, arrives_scope hb hr (fun _ h => by cases h) harr⟩
      | exit id => exact ⟨_, a₁, w₁, hq, arrives_scope hb hr (fun _ h => by cases h) harr⟩
      | ret => exact ⟨_, a₁, w₁, hq, arrives_scope hb hr (fun _ h => by cases h) harr⟩
      | panic ch => exact ⟨_, a₁, w₁, hq, arrives_scope hb hr (fun _ h => by cases h) harr⟩
      | outgrown => exact ⟨_, a₁, w₁, hq, arrives_scope hb hr (fun _ h => by cases h) harr⟩
  obtain ⟨e, a₁, w₁, hq, harr⟩ := first b (.inScope c :: k) cs hro hb hr
  cases e with
  | goto l' =>
    obtain ⟨rfl, hJ'⟩ := hq
    obtain ⟨e₂, a₂, w₂, hq₂, harr₂⟩ := key _ a₁ w₁ rfl hJ'
    exact ⟨e₂, a₂, w₂, hq₂, .of_steps (.head h0 stepR_scope (harr.1 _ hg)) harr₂⟩
  | normal => exact ⟨_, a₁, w₁, hq, .of_steps (.one h0 stepR_scope) (arrives_scope hb hr (fun _ h => by cases h) harr)⟩
  | exit id => exact ⟨_, a₁, w₁, hq, .of_steps (.one h0 stepR_scope) (arrives_scope hb hr (fun _ h => by cases h) harr)⟩
  | ret => exact ⟨_, a₁, w₁, hq, .of_steps (.one h0 stepR_scope) (arrives_scope hb hr (fun _ h => by cases h) harr)⟩
  | panic ch => exact ⟨_, a₁, w₁, hq, .of_steps (.one h0 stepR_scope) (arrives_scope hb hr (fun _ h => by cases h) harr)⟩
  | outgrown => exact ⟨_, a₁, w₁, hq, .of_steps (.one h0 stepR_scope) (arrives_scope hb hr (fun _ h => by cases h) harr)⟩

theorem wpIn_scope_straight {n : Nat} {c : Code} (h : c.wpIn F n P (Exit.noGoto Q) a w) : (Code.scope c).wpIn F n P Q a w := by
  intro b k cs hro hb hr
  have h0 : (lone (b.atR a (.code (.scope c) :: k)) cs w).fenced P F := fenced_calm hb hr rfl
  obtain ⟨e, a₁, w₁, hq, harr⟩ := h b (.inScope c :: k) cs hro hb hr
  cases e with
  | goto l' => exact hq.elim
  | normal => exact ⟨_, a₁, w₁, hq, .of_steps (.one h0 stepR_scope) (arrives_scope hb hr (fun _ h => by cases h) harr)⟩
  | exit id => exact ⟨_, a₁, w₁, hq, .of_steps (.one h0 stepR_scope) (arrives_scope hb hr (fun _ h => by cases h) harr)⟩
  | ret => exact ⟨_, a₁, w₁, hq, .of_steps (.one h0 stepR_scope) (arrives_scope hb hr (fun _ h => by cases h) harr)⟩
  | panic ch => exact ⟨_, a₁, w₁, hq, .of_steps (.one h0 stepR_scope) (arrives_scope hb hr (fun _ h => by cases h) harr)⟩
  | outgrown => exact ⟨_, a₁, w₁, hq, .of_steps (.one h0 stepR_scope) (arrives_scope hb hr (fun _ h => by cases h) harr)⟩
end

/-- the end of a function that has held one range over a function: one result -/
theorem postM_ret1 {F : Fence} {P : Program} {fn : Func} {R : Ending → World → Prop} {tmps : Array Value} {D t : Nat} {w : World}
    (h : fn.results = #[.tmp t]) (hD : w.heap[D]? = some (.deferred (some []))) (hR : R (.returned (tmps.getD t undef)) (w.putObj D (.deferred none))) :
    bodyPostM F 0 P fn R .ret { tmps := tmps, defers := [{ target := .collected D, args := #[] }] } w :=
  ⟨by simp, .inl ⟨_, _, rfl, run_takeDeferred hD, ⟨_, results_tmp h _ _ _, hR⟩⟩⟩
theorem postM_ret2 {F : Fence} {P : Program} {fn : Func} {R : Ending → World → Prop} {tmps : Array Value} {D t u : Nat} {w : World}
    (h : fn.results = #[.tmp t, .tmp u]) (hD : w.heap[D]? = some (.deferred (some []))) (hR : R (.returned (.tuple #[tmps.getD t undef, tmps.getD u undef])) (w.putObj D (.deferred none))) :
    bodyPostM F 0 P fn R .ret { tmps := tmps, defers := [{ target := .collected D, args := #[] }] } w :=
  ⟨by simp, .inl ⟨_, _, rfl, run_takeDeferred hD, ⟨_, results_tmp2 h _ _ _, hR⟩⟩⟩
/-- and where it leaves without having come to one -/
theorem postM_plain1 {F : Fence} {P : Program} {fn : Func} {R : Ending → World → Prop} {tmps : Array Value} {t : Nat} {w : World}
    (h : fn.results = #[.tmp t]) (hR : R (.returned (tmps.getD t undef)) w) : bodyPostM F 0 P fn R .ret { tmps := tmps, defers := [] } w :=
  ⟨_, results_tmp h _ _ _, hR⟩
theorem postM_plain2 {F : Fence} {P : Program} {fn : Func} {R : Ending → World → Prop} {tmps : Array Value} {t u : Nat} {w : World}
    (h : fn.results = #[.tmp t, .tmp u]) (hR : R (.returned (.tuple #[tmps.getD t undef, tmps.getD u undef])) w) : bodyPostM F 0 P fn R .ret { tmps := tmps, defers := [] } w :=
  ⟨_, results_tmp2 h _ _ _, hR⟩
theorem calls_of_in {_F : Fence} {P : Program} {f : FuncId} {args : Array Value} {w : World} {R : Ending → World → Prop} (h : CallsIn Fence.wide 0 P f args w R) : Calls P f args w R := callsIn_wide.1 h
end Go.Proofs.YtolclahkfmplfaaGreatDoor

/- Contracts: frac.small, frac.Cross. -/
namespace Go.Proofs.YtolclahkfmplfaaGreatDoor
open Go Go.RowKit
set_option maxRecDepth 100000
def smallN (n : Int) : Bool := decide (-67108864 < n) && decide (n < 67108864)
def iv (n : Int) : Value := .int .i64 n
set_option maxHeartbeats 1000000 in
theorem small_any (A : Option Addr) (l : List Int) (c : Nat) (w : World) (hA : Sl w A (l.map iv)) (hl : l.length ≤ 1000000) (hs : ∀ n ∈ l, smallN n = true) :
    Calls Tryz.prog 83 #[.slice A l.length c] w fun r w' => r = .returned (.bool true) ∧ w' = w := by
  have HA := Lib.hid hA
  have HS := Lib.hid hs
  clear hA hs
  go_enter Tryz.func83, Tryz.ntmps83
  go_wp2
  go_loopw [7] (fun i wr => ∃ k : Nat, k ≤ l.length ∧ i = .int .i64 k ∧ wr = w) (fun i _ => l.length - (intOf i).toNat)
  case atStart => exact ⟨0, Nat.zero_le _, rfl, rfl⟩
  case round =>
    obtain ⟨k, hk, rfl, hw⟩ := hrel
    have hw2 := hw.symm
    subst hw2
    by_cases hlt : k < l.length
    · obtain ⟨b, off, rfl, hbl, cp⟩ := HA.out.oneB (Below.refl _ _) k hlt
      have hsm := HS.out _ (List.getElem_mem hlt)
      obtain ⟨n, hn⟩ : ∃ n, l[k]'hlt = n := ⟨_, rfl⟩
      rw [hn] at cp hsm
      unfold smallN at hsm
      rw [Bool.and_eq_true, decide_eq_true_iff, decide_eq_true_iff] at hsm
      have cp1 : w.cell? ⟨b, off + k, none⟩ = some (.int .i64 n) := cp
      have g1 : ¬ n ≤ -67108864 := by omega
      have g2 : ¬ 67108864 ≤ n := by omega
      have i0 : (0 : Int) ≤ (k : Int) := by omega
      have i1 : (k : Int) < (l.length : Int) := by omega
      clear cp hsm hn
      go_wp2
      go_roundw
      case rel => exact ⟨k + 1, by omega, by go_num, by first | trivial | rfl⟩
      case measure => simp [intOf]; omega
    · go_wp2
      go_ret
      exact ⟨rfl, rfl⟩
def sgn (x : Int) : Int := if 0 < x then 1 else if x < 0 then -1 else 0
theorem run_neg_f (x : Nat) (w : World) : (Op.unary .neg (.float .f64 x)).run Tryz.prog w = .ok (.float .f64 (Op.negFloat .f64 x)) w := by
  rfl
theorem prod_lt {x y : Int} (hx : -67108864 < x ∧ x < 67108864) (hy : -67108864 < y ∧ y < 67108864) : (x * y).natAbs < 2 ^ 52 := by
  rw [Int.natAbs_mul]
  have h1 : x.natAbs < 2 ^ 26 := by omega
  have h2 : y.natAbs < 2 ^ 26 := by omega
  have h3 := Nat.mul_lt_mul'' h1 h2
  simpa using h3
theorem sgn_im (a b c d : Int) : sgn (a * d - b * c) = if 0 < a * -d + b * c then -1 else if a * -d + b * c < 0 then 1 else 0 := by
  have h : a * -d = -(a * d) := Int.mul_neg a d
  rw [h]
  generalize a * d = p
  generalize b * c = q
  unfold sgn
  split <;> split <;> first | omega | (split <;> omega) | rfl | (rw [if_pos (by omega)])
set_option maxHeartbeats 1000000 in
theorem cross_any (a b c d : Int) (w : World) (ha : smallN a = true) (hb : smallN b = true) (hc : smallN c = true) (hd : smallN d = true) :
    Calls Tryz.prog 63 #[.int .i64 a, .int .i64 b, .int .i64 c, .int .i64 d] w fun r w' => r = .returned (.tuple #[.int .i64 (sgn (a * d - b * c)), .int .i64 0]) ∧ Below w.heap.size w w' := by
  have HS : Hid (∀ n ∈ [a, b, c, d], smallN n = true) := fun n hn => by
    simp at hn
    rcases hn with rfl | rfl | rfl | rfl <;> assumption
  go_enter Tryz.func63, Tryz.ntmps63
  go_wp2_with fail
  refine (small_any (some ⟨w.heap.size, 0, none⟩) [a, b, c, d] 4 _ (by exact sl_new1 _ _ _) (by simp) HS.out).mono ?_
  rintro e w1 ⟨rfl, hw1⟩
  subst hw1
  have hbd := fun n (h : smallN n = true) => (show -67108864 < n ∧ n < 67108864 by unfold smallN at h; rw [Bool.and_eq_true, decide_eq_true_iff, decide_eq_true_iff] at h; exact h)
  have qa := hbd a ha
  have qb := hbd b hb
  have qc := hbd c hc
  have qd := hbd d hd
  obtain ⟨fa, ha1⟩ : ∃ x, floatOfInt .f64 a = x := ⟨_, rfl⟩
  obtain ⟨fb, hb1⟩ : ∃ x, floatOfInt .f64 b = x := ⟨_, rfl⟩
  obtain ⟨fc, hc1⟩ : ∃ x, floatOfInt .f64 c = x := ⟨_, rfl⟩
  obtain ⟨fd, hd1⟩ : ∃ x, floatOfInt .f64 d = x := ⟨_, rfl⟩
  have ga : Holds fa a := by rw [← ha1]; exact holds_int a (by omega)
  have gb : Holds fb b := by rw [← hb1]; exact holds_int b (by omega)
  have gc : Holds fc c := by rw [← hc1]; exact holds_int c (by omega)
  have gd : Holds fd d := by rw [← hd1]; exact holds_int d (by omega)
  have hn := fun w => run_neg_f fd w
  have gn := holds_neg gd
  obtain ⟨fn, hfn⟩ : ∃ x, Op.negFloat .f64 fd = x := ⟨_, rfl⟩
  rw [hfn] at hn gn
  have qn : -67108864 < -d ∧ -d < 67108864 := by omega
  have p1 := prod_lt qa qc
  have p2 := prod_lt qb qn
  have p3 := prod_lt qa qn
  have p4 := prod_lt qb qc
  obtain ⟨re, im, hcm, gi⟩ := holds_cmul ga gb gc gn (by omega) (by omega) (by omega) (by omega) (by omega) (by omega)
  have hm := fun w => run_complex_mul (P := Tryz.prog) w 132 fa fb fc fn re im hcm
  have hord : FloatKind.f64.format.order im 0 = some (compare (a * -d + b * c) 0) := holds_order gi holds_zero
  have HSG := Lib.hid (sgn_im a b c d)
  obtain ⟨z, hz⟩ : ∃ z, a * -d + b * c = z := ⟨_, rfl⟩
  rw [hz] at hord HSG
  have HB1 : Hid (Below w.heap.size w (w.alloc (.cells #[.int .i64 a, .int .i64 b, .int .i64 c, .int .i64 d] 3))) := (Below.refl _ _).alloc (Nat.le_refl _) _
  clear qa qb qc qd hbd HS ha hb hc hd hfn qn p1 p2 p3 p4 hcm hz gi
  by_cases z1 : 0 < z
  · rw [Int.compare_eq_gt.2 z1] at hord
    have HV : Hid (sgn (a * d - b * c) = -1) := by show _ = _; rw [HSG.out, if_pos z1]
    clear z1
    go_wp2_with fail
    refine bodyPost_ret (v := .tuple #[.int .i64 (-1), .int .i64 0]) (by simp [results, Tryz.results63, go_sem]) rfl ?_
    exact ⟨by rw [HV.out], HB1.out⟩
  · by_cases z2 : z < 0
    · rw [Int.compare_eq_lt.2 z2] at hord
      have HV : Hid (sgn (a * d - b * c) = 1) := by show _ = _; rw [HSG.out, if_neg z1, if_pos z2]
      go_wp2_with fail
      refine bodyPost_ret (v := .tuple #[.int .i64 1, .int .i64 0]) (by simp [results, Tryz.results63, go_sem]) rfl ?_
      exact ⟨by rw [HV.out], HB1.out⟩
    · rw [Int.compare_eq_eq.2 (by omega)] at hord
      have HV : Hid (sgn (a * d - b * c) = 0) := by show _ = _; rw [HSG.out, if_neg z1, if_neg z2]
      go_wp2_with fail
      refine bodyPost_ret (v := .tuple #[.int .i64 0, .int .i64 0]) (by simp [results, Tryz.results63, go_sem]) rfl ?_
      exact ⟨by rw [HV.out], HB1.out⟩
end Go.Proofs.YtolclahkfmplfaaGreatDoor

/- Plain facts: which configs may be; the least capacity that takes so many pairs. No program in sight. -/
namespace Go.Proofs.YtolclahkfmplfaaGreatDoor
open Go
/-- the least capacity that takes so many pairs: doubled while it is too small -/
def takesF (n den high : Nat) : Nat → Nat → Nat
  | 0, s => s
  | k + 1, s => if high * s < n * den then takesF n den high k (2 * s) else s
/-- what stands while it is doubled -/
structure Fits (n den high k s : Nat) : Prop where
  fuel : n * den ≤ high * (s * 2 ^ k)
  pos : 0 < s
  le : s ≤ 65536
theorem takes_end {n den high k s : Nat} (h : ¬ high * s < n * den) : takesF n den high k s = s := by
  cases k with
  | zero => rfl
  | succ k => unfold takesF; rw [if_neg h]
theorem takes_step {n den high k s : Nat} (hf : Fits n den high k s) (h : high * s < n * den) (hn : n ≤ 16384) (hd : den ≤ 2 * high) : ∃ k', k = k' + 1 ∧ takesF n den high k s = takesF n den high k' (2 * s) ∧ Fits n den high k' (2 * s) := by
  cases k with
  | zero =>
    have h1 := hf.fuel
    rw [Nat.pow_zero, Nat.mul_one] at h1
    omega
  | succ k =>
    refine ⟨k, rfl, by rw [takesF, if_pos h], ?_, by have := hf.pos; omega, ?_⟩
    · have h1 := hf.fuel
      rw [Nat.pow_succ, Nat.mul_comm (2 ^ k) 2, ← Nat.mul_assoc s 2, Nat.mul_comm s 2] at h1
      exact h1
    · have h1 : n * den ≤ 16384 * (2 * high) := Nat.mul_le_mul hn hd
      have h2 : high * s < high * 32768 := by
        refine Nat.lt_of_lt_of_le h (Nat.le_trans h1 ?_)
        rw [Nat.mul_comm high 32768, ← Nat.mul_assoc]
        exact Nat.le_refl _
      have h3 := Nat.lt_of_mul_lt_mul_left h2
      omega
theorem fits_start {n den high s : Nat} (hn : n ≤ 16384) (hd : den ≤ 2 * high) (hs : 0 < s) (hs2 : s ≤ 256) : Fits n den high 16 s := by
  refine ⟨?_, hs, by omega⟩
  have h1 : n * den ≤ 16384 * (2 * high) := Nat.mul_le_mul hn hd
  refine Nat.le_trans h1 ?_
  have h2 : high * (1 * 65536) ≤ high * (s * 2 ^ 16) := Nat.mul_le_mul_left _ (Nat.mul_le_mul hs (by decide))
  refine Nat.le_trans ?_ h2
  rw [Nat.one_mul, Nat.mul_comm high 65536, ← Nat.mul_assoc]
  exact Nat.mul_le_mul_right _ (by decide)
def takesN (n den high least : Nat) : Nat := takesF n den high 16 least
theorem takes_le {n den high : Nat} (hn : n ≤ 16384) (hd : den ≤ 2 * high) : ∀ {k s : Nat}, Fits n den high k s → takesF n den high k s ≤ 65536 ∧ s ≤ takesF n den high k s := by
  intro k
  induction k with
  | zero => intro s h; exact ⟨h.le, Nat.le_refl _⟩
  | succ k ih =>
    intro s h
    by_cases h1 : high * s < n * den
    · obtain ⟨k', hk, h2, h3⟩ := takes_step h h1 hn hd
      obtain rfl : k = k' := by omega
      rw [h2]
      have := ih h3
      omega
    · rw [takes_end h1]
      exact ⟨h.le, Nat.le_refl _⟩
/-- is a number a power of two? -/
def pow2 (n : Nat) : Bool := decide (0 < n) && decide (2 ^ Nat.log2 n = n)
theorem pow2_and : ∀ n : Nat, n ≤ 256 → 0 < n → ((n &&& (n - 1)) == 0) = pow2 n := by decide +kernel

structure Cfg where
  tag : Int
  most : Int
  seg : Int
  least : Int
  den : Int
  leafLow : Int
  rootLow : Int
  rootHigh : Int
  leafHigh : Int
deriving DecidableEq
def Cfg.cells (c : Cfg) : List Value := [.int .u8 c.tag, .int .i64 c.most, .int .i64 c.seg, .int .i64 c.least, .int .i64 c.den, .int .i64 c.leafLow, .int .i64 c.rootLow, .int .i64 c.rootHigh, .int .i64 c.leafHigh]
structure CfgA (c : Cfg) : Prop where
  tag : 1 ≤ c.tag ∧ c.tag ≤ 3
  most : 1 ≤ c.most ∧ c.most ≤ 16384
  seg : 4 ≤ c.seg ∧ c.seg ≤ 64 ∧ pow2 c.seg.toNat = true
  least : c.seg ≤ c.least ∧ c.least ≤ 256 ∧ pow2 c.least.toNat = true
  den : 1 ≤ c.den ∧ c.den ≤ 64
structure CfgB (c : Cfg) : Prop where
  low : 0 ≤ c.leafLow ∧ c.leafLow < c.rootLow
  mid : c.rootLow < c.rootHigh
  high : c.rootHigh < c.leafHigh ∧ c.leafHigh ≤ c.den
structure CfgC (c : Cfg) : Prop where
  high : c.den ≤ 2 * c.rootHigh
  low : 8 * c.rootLow ≤ c.den
  room : 2 * c.den ≤ c.rootLow * c.least
def Cfg.tall (c : Cfg) : Nat := Nat.log2 (takesN c.most.toNat c.den.toNat c.rootHigh.toNat c.least.toNat / c.seg.toNat)
structure MayC (c : Cfg) : Prop where
  sizes : CfgA c
  parts : CfgB c
  room : CfgC c
  tall : c.den * (c.tall : Int) ≤ (c.leafHigh - c.rootHigh) * c.seg
open Classical in
noncomputable def confE (c : Cfg) : Int := if MayC c then 0 else 50
end Go.Proofs.YtolclahkfmplfaaGreatDoor

/- A region that draws its order, and whose last operations wait for all the others: what is held (S) need not be held behind them. No program in sight. -/
namespace Go.Proofs.YtolclahkfmplfaaGreatDoor
open Go

/-- each operation behind number n waits for one from n on -/
def chainT (md : Region.Mode) (ops : Array Oper) (n : Nat) : Bool :=
  (List.range ops.size).all fun t => decide (t ≤ n) || (List.range t).any fun j => decide (n ≤ j) && Region.waitsFor md ops t j
section
variable {P : Program} {ops : Array Oper} {Q : Exit → Act → World → Prop} {md : Region.Mode} {S : World → Prop}
theorem tail_waitsT {n : Nat} {listed : Array Bool} (hs : Region.sinkB md ops n = true) (hc : chainT md ops n = true) (hn : n < ops.size) (inv : HeadInv md ops n listed) :
    ∀ (d i : Nat), n - i = d → i < n → listed.getD i true = false → ∀ t, n ≤ t → t ∉ Region.ready md ops listed := by
  intro d
  induction d using Nat.strongRecOn with
  | _ d ih =>
    intro i hd hi hun t ht hr
    obtain ⟨_, ot, hot, hall⟩ := mem_ready.1 hr
    have htlt : t < ops.size := (Array.getElem?_eq_some_iff.1 hot).1
    by_cases htn : t = n
    · subst htn
      have h1 := List.all_eq_true.1 hs i (List.mem_range.2 hi)
      obtain ⟨j, hj, hj2⟩ := List.any_eq_true.1 h1
      simp only [Bool.and_eq_true, decide_eq_true_eq] at hj2
      obtain ⟨oj, hoj, e, he, hb, hon⟩ := Region.waitsFor_spec hj2.2
      have hjle : j ≤ t := by have := List.mem_range.1 hj; omega
      by_cases hjt : j = t
      · subst hjt
        have : oj = ot := Option.some.inj (hoj.symm.trans hot)
        subst this
        have h2 := hall e he hb
        rw [hon, getD_both hun] at h2
        cases h2
      · cases hl : listed.getD j false with
        | true =>
          have h2 := inv.closed j oj hoj hl e he hb
          rw [hon, getD_both hun] at h2
          cases h2
        | false =>
          have hjs : j < listed.size := by rw [inv.size]; omega
          exact ih (t - j) (by omega) j rfl (by omega) (getD_in hjs hl) t (Nat.le_refl _) hr
    · have h1 := List.all_eq_true.1 hc t (List.mem_range.2 htlt)
      simp only [Bool.or_eq_true, decide_eq_true_eq] at h1
      rcases h1 with h1 | h1
      · omega
      · obtain ⟨j, hj, hj2⟩ := List.any_eq_true.1 h1
        simp only [Bool.and_eq_true, decide_eq_true_eq] at hj2
        obtain ⟨o', ho', e, he, hb, hon⟩ := Region.waitsFor_spec hj2.2
        have : o' = ot := Option.some.inj (ho'.symm.trans hot)
        subst this
        have h2 := hall e he hb
        rw [hon, getD_both (inv.tail j hj2.1 (by have := List.mem_range.1 hj; omega))] at h2
        cases h2
/-- whatever order is picked from here on; S holds behind each operation below n -/
def wpAnyT (P : Program) (md : Region.Mode) (ops : Array Oper) (Q : Exit → Act → World → Prop) (S : World → Prop) (n : Nat) : Nat → Array Bool → Act → World → Prop
  | 0, listed, a, w => Region.ready md ops listed = [] ∧ Q .normal a w
  | fuel + 1, listed, a, w =>
    (Region.ready md ops listed = [] → Q .normal a w) ∧
    ∀ i ∈ Region.ready md ops listed, wpOp P ops Q i (fun a' w' => (i < n → S w') ∧ wpAnyT P md ops Q S n fuel (listed.setIfInBounds i true) a' w') a w
theorem wpAny_of_T {n : Nat} : ∀ (fuel : Nat) (listed : Array Bool) (a : Act) (w : World), wpAnyT P md ops Q S n fuel listed a w → wpAny P md ops Q fuel listed a w
  | 0, _, _, _, h => h
  | fuel + 1, _, _, _, h => ⟨h.1, fun i hi => wpOp_mono (fun a' w' h' => wpAny_of_T fuel _ a' w' h'.2) (h.2 i hi)⟩
theorem wpAnyT_first {n i : Nat} {oi : Oper} {v : Value} (hs : Region.sinkB md ops n = true) (hc : chainT md ops n = true) (hn : n < ops.size) (hin : i < n) (hi : ops[i]? = some oi) (hsel : ∀ (j : Nat) (o : Oper) cs b, ops[j]? = some o → o.op ≠ .select cs b)
    (hQ : ∀ c a w, Q (.panic c) (a.put oi.dst v) w → Q (.panic c) a w) :
    ∀ (fuel : Nat) (listed : Array Bool) (a : Act) (w : World), HeadInv md ops n listed →
      (∀ j oj, ops[j]? = some oj → j ≠ i → listed.getD j true = false → (∀ e ∈ oj.after, Region.binds md e = true → e.on ≠ i) → oi.apart ops oj = true) →
      i ∈ Region.ready md ops listed → YieldsIf P ops S oi v a → S w →
      wpAnyT P md ops Q S n fuel (listed.setIfInBounds i true) (a.put oi.dst v) w → wpAnyT P md ops Q S n (fuel + 1) listed a w := by
  intro fuel
  induction fuel with
  | zero =>
    intro listed a w _ _ hr hy hS H
    refine ⟨fun h => (by rw [h] at hr; cases hr), fun j hj => ?_⟩
    by_cases hji : j = i
    · subst hji; exact hy.wpOp hi hS ⟨fun _ => hS, H⟩
    · have := ready_mono hj hji
      rw [H.1] at this
      cases this
  | succ fuel ih =>
    intro listed a w inv hfree hr hy hS H
    refine ⟨fun h => (by rw [h] at hr; cases hr), fun j hj => ?_⟩
    by_cases hji : j = i
    · subst hji; exact hy.wpOp hi hS ⟨fun _ => hS, H⟩
    · have hiun : listed.getD i true = false := by
        have := (mem_ready.1 hr).1
        simpa using this
      have hjn : j < n := by
        rcases Nat.lt_or_ge j n with h | h
        · exact h
        · exact absurd hj (tail_waitsT hs hc hn inv _ i rfl hin hiun j h)
      have h1 := H.2 j (ready_mono hj hji)
      obtain ⟨hjun, oj, hoj, hall⟩ := mem_ready.1 hj
      have hnot : ∀ e ∈ oj.after, Region.binds md e = true → e.on ≠ i := fun e he hb heq => by
        have h1 := hall e he hb
        have h0 := (mem_ready.1 hr).1
        rw [heq] at h1
        rcases Nat.lt_or_ge i listed.size with h' | h'
        · simp [h'] at h0 h1; rw [h0] at h1; cases h1
        · simp [Array.getElem?_eq_none h'] at h1
      have h2 := wpOp_putIf hoj (hfree j oj hoj hji hjun hnot) (fun cs b => hsel i oi cs b hi) (fun cs b => hsel j oj cs b hoj) hQ hy h1
      have hfree' : ∀ k ok, ops[k]? = some ok → k ≠ i → (listed.setIfInBounds j true).getD k true = false →
          (∀ e ∈ ok.after, Region.binds md e = true → e.on ≠ i) → oi.apart ops ok = true := fun k ok hk hki hun hno => by
        refine hfree k ok hk hki ?_ hno
        by_cases hjk : j = k
        · subst hjk; exact hjun
        · rw [getD_set_ne true hjk] at hun; exact hun
      refine wpOp_mono (fun a' w' h3 => ⟨fun _ => h3.2.1 hjn, ih (listed.setIfInBounds j true) a' w' (inv.set hj hjn) hfree' (ready_mono hr (Ne.symm hji)) h3.1 (h3.2.1 hjn) ?_⟩) h2
      rw [Array.setIfInBounds_comm _ _ hji]
      exact h3.2.2
/-- an operation that yields in whatever world -/
theorem wpAnyT_pure0 {n i : Nat} {oi : Oper} {v : Value} (hi : ops[i]? = some oi) (hsel : ∀ (j : Nat) (o : Oper) cs b, ops[j]? = some o → o.op ≠ .select cs b)
    (hQ : ∀ c a w, Q (.panic c) (a.put oi.dst v) w → Q (.panic c) a w) (hge : n ≤ i) :
    ∀ (fuel : Nat) (listed : Array Bool) (a : Act) (w : World),
      (∀ j oj, ops[j]? = some oj → j ≠ i → listed.getD j true = false → (∀ e ∈ oj.after, Region.binds md e = true → e.on ≠ i) → oi.apart ops oj = true) →
      i ∈ Region.ready md ops listed → YieldsIf P ops (fun _ => True) oi v a →
      wpAnyT P md ops Q S n fuel (listed.setIfInBounds i true) (a.put oi.dst v) w → wpAnyT P md ops Q S n (fuel + 1) listed a w := by
  intro fuel
  induction fuel with
  | zero =>
    intro listed a w _ hr hy H
    refine ⟨fun h => (by rw [h] at hr; cases hr), fun j hj => ?_⟩
    by_cases hji : j = i
    · subst hji; exact hy.wpOp hi trivial ⟨fun h => absurd h (by omega), H⟩
    · have := ready_mono hj hji
      rw [H.1] at this
      cases this
  | succ fuel ih =>
    intro listed a w hfree hr hy H
    refine ⟨fun h => (by rw [h] at hr; cases hr), fun j hj => ?_⟩
    by_cases hji : j = i
    · subst hji; exact hy.wpOp hi trivial ⟨fun h => absurd h (by omega), H⟩
    · have h1 := H.2 j (ready_mono hj hji)
      obtain ⟨hjun, oj, hoj, hall⟩ := mem_ready.1 hj
      have hnot : ∀ e ∈ oj.after, Region.binds md e = true → e.on ≠ i := fun e he hb heq => by
        have h1 := hall e he hb
        have h0 := (mem_ready.1 hr).1
        rw [heq] at h1
        rcases Nat.lt_or_ge i listed.size with h' | h'
        · simp [h'] at h0 h1; rw [h0] at h1; cases h1
        · simp [Array.getElem?_eq_none h'] at h1
      have h2 := wpOp_putIf hoj (hfree j oj hoj hji hjun hnot) (fun cs b => hsel i oi cs b hi) (fun cs b => hsel j oj cs b hoj) hQ hy h1
      have hfree' : ∀ k ok, ops[k]? = some ok → k ≠ i → (listed.setIfInBounds j true).getD k true = false →
          (∀ e ∈ ok.after, Region.binds md e = true → e.on ≠ i) → oi.apart ops ok = true := fun k ok hk hki hun hno => by
        refine hfree k ok hk hki ?_ hno
        by_cases hjk : j = k
        · subst hjk; exact hjun
        · rw [getD_set_ne true hjk] at hun; exact hun
      refine wpOp_mono (fun a' w' h3 => ⟨h3.2.1, ih (listed.setIfInBounds j true) a' w' hfree' (ready_mono hr (Ne.symm hji)) h3.1 ?_⟩) h2
      rw [Array.setIfInBounds_comm _ _ hji]
      exact h3.2.2
theorem wpAnyT_take {n i : Nat} {oi : Oper} {v : Value} {fuel : Nat} {listed : Array Bool} {a : Act} {w : World} (inv : HeadInv md ops n listed) (hi : ops[i]? = some oi) (hB : (Region.sinkB md ops n && chainT md ops n && decide (n < ops.size) && decide (i < n) && Region.noSelect ops && Region.free md ops listed i && (Region.ready md ops listed).contains i) = true)
    (hQ : ∀ c a w, Q (.panic c) (a.put oi.dst v) w → Q (.panic c) a w) (hy : YieldsIf P ops S oi v a) (hS : S w)
    (h : HeadInv md ops n (listed.setIfInBounds i true) → wpAnyT P md ops Q S n fuel (listed.setIfInBounds i true) (a.put oi.dst v) w) : wpAnyT P md ops Q S n (fuel + 1) listed a w := by
  simp only [Bool.and_eq_true, decide_eq_true_eq] at hB
  obtain ⟨⟨⟨⟨⟨⟨h1, h2⟩, h3⟩, h4⟩, h5⟩, h6⟩, h7⟩ := hB
  have hr : i ∈ Region.ready md ops listed := by simpa using h7
  exact wpAnyT_first h1 h2 h3 h4 hi (Region.noSelect_spec h5) hQ fuel listed a w inv (Region.free_spec hi h6) hr hy hS (h (inv.set hr h4))
theorem wpAnyT_pure {n i : Nat} {oi : Oper} {v : Value} {fuel : Nat} {listed : Array Bool} {a : Act} {w : World} (hi : ops[i]? = some oi) (hB : (decide (n ≤ i) && Region.noSelect ops && Region.free md ops listed i && (Region.ready md ops listed).contains i) = true)
    (hQ : ∀ c a w, Q (.panic c) (a.put oi.dst v) w → Q (.panic c) a w) (hy : YieldsIf P ops (fun _ => True) oi v a)
    (h : wpAnyT P md ops Q S n fuel (listed.setIfInBounds i true) (a.put oi.dst v) w) : wpAnyT P md ops Q S n (fuel + 1) listed a w := by
  simp only [Bool.and_eq_true, decide_eq_true_eq] at hB
  obtain ⟨⟨⟨h4, h5⟩, h6⟩, h7⟩ := hB
  have hr : i ∈ Region.ready md ops listed := by simpa using h7
  exact wpAnyT_pure0 hi (Region.noSelect_spec h5) hQ h4 fuel listed a w (Region.free_spec hi h6) hr hy h
/-- the one that may come up -/
theorem wpAnyT_step {n i : Nat} {o : Oper} {fuel : Nat} {listed : Array Bool} {a : Act} {w : World} (hr : Region.ready md ops listed = [i]) (ho : ops[i]? = some o)
    (h : ∀ K : Act → World → Prop, (∀ a' w', (i < n → S w') → ((i < n → S w') → wpAnyT P md ops Q S n fuel (listed.setIfInBounds i true) a' w') → K a' w') →
      if Region.wanted o (yielded ops a.tmps) = true then Oper.wp P o a w K Q else K (a.put o.dst undef) w) : wpAnyT P md ops Q S n (fuel + 1) listed a w := by
  refine ⟨fun h0 => (by rw [hr] at h0; cases h0), fun j hj => ?_⟩
  rw [hr] at hj
  obtain rfl : j = i := by simpa using hj
  have h1 := h (fun a' w' => (j < n → S w') ∧ wpAnyT P md ops Q S n fuel (listed.setIfInBounds j true) a' w') (fun a' w' h2 h3 => ⟨h2, h3 h2⟩)
  unfold wpOp
  simp only [ho]
  split
  · rename_i hw
    rw [if_pos hw] at h1
    exact .inl h1
  · rename_i hw
    rw [if_neg hw] at h1
    exact h1
theorem headInv_set {n i : Nat} {listed : Array Bool} (inv : HeadInv md ops n listed) (hB : (decide (i < n) && (Region.ready md ops listed).contains i) = true) : HeadInv md ops n (listed.setIfInBounds i true) := by
  simp only [Bool.and_eq_true, decide_eq_true_eq] at hB
  exact inv.set (by simpa using hB.2) hB.1
theorem headInv_start (n : Nat) : HeadInv md ops n (Array.replicate ops.size false) :=
  ⟨by simp, fun j oj hj hl => (by rw [getD_replicate_false] at hl; cases hl), fun t _ ht => (by simp [ht])⟩
theorem wpAnyT_done {n : Nat} {listed : Array Bool} {a : Act} {w : World} (hr : Region.ready md ops listed = []) (h : Q .normal a w) : ∀ fuel, wpAnyT P md ops Q S n fuel listed a w
  | 0 => ⟨hr, h⟩
  | _ + 1 => ⟨fun _ => h, by rw [hr]; simp⟩
theorem wp_region_T {id : Nat} {a : Act} {w : World} (S : World → Prop) (n : Nat) (hm : P.follows .mixedOrders = true)
    (h : HeadInv .any ops n (Array.replicate ops.size false) → wpAnyT P .any ops Q S n ops.size (Array.replicate ops.size false) a w.drew) : (Code.region id ops true).wp P Q a w :=
  wp_region_any hm (wpAny_of_T _ _ _ _ (h (headInv_start n)))
/-- a scope with one label to which it goes back: a number goes down at each jump -/
theorem wp_scope_ghost {c rest : Code} {a : Act} {w : World} (l : Nat) (I : Nat → Act → World → Prop) (hf : findLabel c l = some (Code.skip.seq rest))
    (pass : ∀ n a w, I n a w → ∀ K : Act → World → Prop, (∀ n' a' w', n' < n → I n' a' w' → K a' w') → rest.wp P (Exit.jump l K Q) a w)
    (first : ∀ K : Act → World → Prop, (∀ n a w, I n a w → rest.wp P (Exit.jump l K Q) a w) → c.wp P (Exit.jump l K Q) a w) : (Code.scope c).wp P Q a w := by
  refine wp_scope_jumps l (fun a w => ∃ n, I n a w) (fun a w => leastOf (fun n => I n a w)) hf ?_ ?_
  · exact first _ (fun n a w h => pass n a w h _ (fun n' _ _ _ h2 => ⟨n', h2⟩))
  · intro a w hJ
    refine wp_seq (wp_skip ?_)
    exact pass _ a w (leastOf_spec hJ).1 _ (fun n' a' w' hlt h2 => ⟨⟨n', h2⟩, Nat.lt_of_le_of_lt ((leastOf_spec ⟨n', h2⟩).2 n' h2) hlt⟩)
end
end Go.Proofs.YtolclahkfmplfaaGreatDoor
