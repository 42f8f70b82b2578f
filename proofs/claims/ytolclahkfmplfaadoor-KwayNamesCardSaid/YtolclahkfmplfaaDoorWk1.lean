/- Iter Eytz Wey: texts of the claim, in this order. -/
import Derived.Test.YtolclahkfmplfaaDoorWd1
import Derived.RangeFuncOwn
import Derived.RangeFuncLeaves
import Derived.OwnWalkIn
import Derived.TacticsInMore
import Derived.LoopIn
import Derived.LoopNIn
import Derived.Shelf.Abstract
import Derived.Shelf.RegionOpen
import Derived.ScopeJumps
import Derived.WalkMore
import Derived.Test.YtolclahkfmplfaaDoorProg
/- A range over a function: what an iterator yields, the rule for the statement, and the end of a function that holds one. No program in sight. -/
namespace Go.Proofs.YtolclahkfmplfaaDoor
open Go Go.RowKit Go.Shelf

/-- only blocks in S may have turned; new ones may have come -/
structure Mod (S : Nat → Prop) (w w' : World) : Prop where
  os : w'.os = w.os
  tape : w'.tape = w.tape
  output : w'.output = w.output
  size : w.heap.size ≤ w'.heap.size
  block : ∀ k, k < w.heap.size → ¬ S k → w'.heap[k]? = w.heap[k]?

section
variable {S T : Nat → Prop} {a b c w w' : World}
theorem Mod.refl (S : Nat → Prop) (w : World) : Mod S w w := ⟨rfl, rfl, rfl, Nat.le_refl _, fun _ _ _ => rfl⟩
theorem Mod.trans (h : Mod S a b) (k : Mod S b c) : Mod S a c :=
  ⟨k.os.trans h.os, k.tape.trans h.tape, k.output.trans h.output, Nat.le_trans h.size k.size, fun i hi hn => (k.block i (Nat.lt_of_lt_of_le hi h.size) hn).trans (h.block i hi hn)⟩
theorem Mod.mono (h : Mod S a b) (hs : ∀ k, k < a.heap.size → S k → T k) : Mod T a b := ⟨h.os, h.tape, h.output, h.size, fun i hi hn => h.block i hi fun hk => hn (hs i hi hk)⟩
theorem Mod.alloc (h : Mod S a w) (o : Obj) : Mod S a (w.alloc o) :=
  h.trans ⟨rfl, rfl, rfl, by simp, fun k hk _ => Below.heap_alloc _ _ _ hk⟩
theorem Mod.setCell (h : Mod S a w) {p : Addr} (hp : S p.block) (u : Value) : Mod S a (w.setCell p u) :=
  h.trans ⟨rfl, rfl, rfl, by simp [World.setCell], fun k hk hn => Below.heap_setCell _ _ _ _ (fun e => hn (e ▸ hp))⟩
theorem Mod.setNew (h : Mod S a w) {p : Addr} (hp : a.heap.size ≤ p.block) (u : Value) : Mod S a (w.setCell p u) :=
  ⟨h.os, h.tape, h.output, by simpa [World.setCell] using h.size, fun k hk hn => (Below.heap_setCell _ _ _ _ (by omega)).trans (h.block k hk hn)⟩
theorem Mod.drew (h : Mod S a w) : Mod S a w.drew := ⟨h.os, h.tape, h.output, h.size, h.block⟩
theorem Mod.drewN (h : Mod S a w) (n : Nat) : Mod S a (w.drewN n) := ⟨h.os, h.tape, h.output, h.size, h.block⟩
theorem Mod.ext (h : Mod S a w) (hb : Below w.heap.size w w') : Mod S a w' :=
  h.trans ⟨hb.os, hb.tape, hb.output, hb.size, fun k hk _ => hb.block k hk⟩
theorem Mod.of_ext (hb : Below w.heap.size w w') : Mod S w w' := (Mod.refl S w).ext hb
theorem Mod.of_below {B : Nat} (hb : Below B w w') : Mod (fun k => B ≤ k) w w' := ⟨hb.os, hb.tape, hb.output, hb.size, fun k _ hn => hb.block k (by omega)⟩
theorem Mod.grown {row : Option Nat} (h : Mod S a w) (hg : w.grownBy w' row) (hr : ∀ k, row = some k → S k ∨ a.heap.size ≤ k) : Mod S a w' :=
  ⟨hg.os.trans h.os, hg.tape.trans h.tape, hg.output.trans h.output, Nat.le_trans h.size hg.size, fun k hk hn => (hg.block k (Nat.lt_of_lt_of_le hk h.size) (fun e => by
    rcases hr k e.symm with hs | hs
    · exact hn hs
    · omega)).trans (h.block k hk hn)⟩
theorem Mod.below {B : Nat} (h : Mod S w w') (hB : B ≤ w.heap.size) (hs : ∀ k, S k → B ≤ k) : Below B w w' :=
  ⟨h.os, h.tape, h.output, h.size, fun k hk => h.block k (by omega) fun hsk => by have := hs k hsk; omega⟩
theorem Mod.cell (h : Mod S w w') {p : Addr} (hp : p.block < w.heap.size) (hn : ¬ S p.block) : w'.cell? p = w.cell? p := World.cell?_of_block (h.block _ hp hn)
theorem Mod.frozen (h : Mod S w w') {p : Addr} (hp : p.block < w.heap.size) (hn : ¬ S p.block) : w'.frozen? p = w.frozen? p := World.frozen?_of_block (h.block _ hp hn)
theorem Mod.putObj (h : Mod S a w) {l : Nat} (hl : S l) (o : Obj) : Mod S a (w.putObj l o) :=
  h.trans ⟨rfl, rfl, rfl, by simp [World.putObj], fun k hk hn => World.putObj_heap_other (fun e => hn (e ▸ hl))⟩
end

theorem Blk.mod {S : Nat → Prop} {w w' : World} {g : Nat} {t : TypeId} {cs : Array Value} (h : Blk w g t cs) (hm : Mod S w w') (hn : ¬ S g) : Blk w' g t cs := h.of (hm.block _ h.lt hn)
theorem Sl.mod {S : Nat → Prop} {w w' : World} {A : Option Addr} {xs : List Value} (h : Sl w A xs) (hm : Mod S w w') (hn : ∀ a, A = some a → ¬ S a.block) : Sl w' A xs := by
  rcases h with h | ⟨b, off, hA, hlt, hc⟩
  · exact .inl h
  · exact .inr ⟨b, off, hA, Nat.lt_of_lt_of_le hlt hm.size, fun j u hu => (hm.cell (p := ⟨b, off + j, none⟩) hlt (hn ⟨b, off, none⟩ hA)).trans (hc j u hu)⟩

/-- A call of g at a yield gives it, one by one, the arrays xs 0 .. xs (N - 1). K: the blocks that the iterator leans on, T: those that it may turn. -/
def Yields (F : Fence) (P : Program) (g : FuncId) (lb : Array Value) (N : Nat) (xs : Nat → Array Value) (K T : Nat → Prop) (w : World) : Prop :=
  ∀ (l : Nat) (I : Nat → World → Prop) (X : World → Prop) (W : World),
    w.heap.size ≤ W.heap.size → (∀ b, K b → W.heap[b]? = w.heap[b]?) →
    (∀ k A B, I k A → Mod T A B → I k B) → (∀ A B, X A → Mod T A B → X B) →
    (∀ k A, k < N → I k A → YieldAt F 0 P l (xs k) A fun e B =>
        (e = .returned (.bool true) ∧ I (k + 1) B ∧ A.heap.size ≤ B.heap.size ∧ ∀ b, K b → B.heap[b]? = A.heap[b]?) ∨ (e = .returned (.bool false) ∧ X B)) →
    I 0 W →
    CallsIn F 0 P g (#[.func (.yield l) #[] #[]] ++ lb) W fun e W' => (∃ v, e = .returned v) ∧ (I N W' ∨ X W')

/-- how the body of a round may be left -/
def rPost (B : Nat) (K : Nat → Prop) (In : World → Prop) (Ix : Code → World → Prop) (A : World) : Exit → Act → World → Prop
  | .normal, _, W => Mod (fun b => b ≠ B ∧ b ≠ B + 1 ∧ ¬ K b) A W ∧ In W
  | .ret, _, W => Mod (fun b => b ≠ B ∧ b ≠ B + 1) A W ∧ Ix .ret W
  | .exit id, _, W => Mod (fun b => b ≠ B ∧ b ≠ B + 1) A W ∧ Ix (.exit id) W
  | .goto t, _, W => Mod (fun b => b ≠ B ∧ b ≠ B + 1) A W ∧ Ix (.goto t) W
  | .panic _, _, _ => False
  | .outgrown, _, _ => False

theorem wpIn_range {F : Fence} {P : Program} {g : Operand} {ps : Array Tmp} {assign body : Code} {Q : Exit → Act → World → Prop} {a : Act} {w : World}
    (hd : F.depth = none) (hF : ∀ f, F.fn f) (hro : F.round = none)
    {gf : Nat} {lb : Array Value} (hg : a.eval g = .func (.func gf) #[] lb) (eg : ∀ args w, (callFunc gf args).run P w = .ok (.enter gf args) w)
    {N : Nat} {xs : Nat → Array Value} {K T : Nat → Prop} (hy : Yields F P gf lb N xs K T w) (hK : ∀ b, K b → b < w.heap.size) (hT : ∀ b, T b → b < w.heap.size)
    (hps : ∀ k, (xs k).size = ps.size)
    (I : Nat → World → Prop) (Ix : Code → World → Prop)
    (hI : ∀ k A B, I k A → Mod (fun b => T b ∨ b = w.heap.size ∨ b = w.heap.size + 1) A B → I k B)
    (hIx : ∀ c A B, Ix c A → Mod (fun b => T b ∨ b = w.heap.size ∨ b = w.heap.size + 1) A B → Ix c B)
    (h0 : I 0 w) (Ax : Nat → Act → World → Prop)
    (hAx : ∀ k a' A B, Ax k a' A → Mod (fun b => T b ∨ b = w.heap.size ∨ b = w.heap.size + 1) A B → Ax k a' B)
    (hassign : ∀ (l k : Nat), k < N → ∀ (A : World) (C : Act → World → Prop), I k A → w.heap.size + 2 ≤ A.heap.size →
      (∀ a' A', Mod (fun b => b ≠ w.heap.size ∧ b ≠ w.heap.size + 1 ∧ ¬ K b) A A' → I k A' → Ax k a' A' → C a' A') →
      assign.wpIn (F.inRound l) 0 P (Exit.then C (fun _ _ _ => False)) { tmps := (ps.zip (xs k)).foldl (fun t (p, v) => t.setIfInBounds p v) a.tmps, defers := [] } A)
    (hbody : ∀ (l k : Nat), k < N → ∀ (a' : Act) (A : World), I k A → Ax k a' A → w.heap.size + 2 ≤ A.heap.size →
      body.wpIn (F.inRound l) 0 P (rPost w.heap.size K (I (k + 1)) Ix A) a' A)
    (hdone : ∀ (W : World), I N W → W.heap[w.heap.size]? = some (.deferred (some [])) → Q .normal { a with defers := { target := .collected w.heap.size, args := #[] } :: a.defers } W)
    (hstop : ∀ (c : Code) (W : World), Ix c W → W.heap[w.heap.size]? = some (.deferred (some [])) → c.wpIn F 0 P Q { a with defers := { target := .collected w.heap.size, args := #[] } :: a.defers } W) :
    (Code.rangeFunc g ps assign body).wpIn F 0 P Q a w := by
  refine wpIn_rangeFunc ?_
  intro fn hfn
  rw [hro]
  obtain ⟨rec, hrec⟩ : ∃ rec : LoopState → Option Code → Loop, rec = fun st pe => { state := st, pending := pe, fn, tmps := a.tmps, params := ps, assign, body, defers := w.heap.size } := ⟨_, rfl⟩
  obtain ⟨W1, hW1⟩ : ∃ W1, (w.alloc (.deferred (some []))).alloc (.loop (rec .ready none)) = W1 := ⟨_, rfl⟩
  have hL1 : W1.heap[w.heap.size + 1]? = some (.loop (rec .ready none)) := by
    rw [← hW1]; have := World.alloc_heap_new (w.alloc (.deferred (some []))) (.loop (rec .ready none)); rwa [World.size_alloc] at this
  have hK1 : W1.heap[w.heap.size]? = some (.deferred (some [])) := by
    rw [← hW1]; exact (Below.heap_alloc _ _ _ (by simp)).trans (World.alloc_heap_new w _)
  have hm1 : ∀ S, Mod S w W1 := fun S => by rw [← hW1]; exact ((Mod.refl S w).alloc _).alloc _
  have hs1 : W1.heap.size = w.heap.size + 2 := by rw [← hW1]; simp
  refine ⟨w.heap.size + 1, [{ target := .collected w.heap.size, args := #[] }], W1, { target := .fn (.func gf) lb, args := #[.func (.yield (w.heap.size + 1)) #[] #[]] }, W1, gf,
    #[.func (.yield (w.heap.size + 1)) #[] #[]] ++ lb, W1, ?_, ?_, ?_, ?_, (fun h => by rw [hd] at h; cases h), ?_⟩
  · rw [← hW1, hrec]; exact run_enterLoop_outer _ _ _ _ _
  · simp only [resolve, hg]
    simp [go_sem]
  · intro f' _; exact hF _
  · simp [invoke, go_sem, eg]
  · have hTne : ∀ b, T b → b ≠ w.heap.size ∧ b ≠ w.heap.size + 1 := fun b hb => by have := hT b hb; omega
    have hKne : ∀ b, K b → b ≠ w.heap.size ∧ b ≠ w.heap.size + 1 := fun b hb => by have := hK b hb; omega
    refine (hy (w.heap.size + 1)
      (fun k W => I k W ∧ W.heap[w.heap.size + 1]? = some (.loop (rec .ready none)) ∧ W.heap[w.heap.size]? = some (.deferred (some [])))
      (fun W => ∃ c, Ix c W ∧ W.heap[w.heap.size + 1]? = some (.loop (rec .done (some c))) ∧ W.heap[w.heap.size]? = some (.deferred (some [])))
      W1 (by omega) (fun b hb => (hm1 (fun _ => False)).block b (hK b hb) (fun h => h))
      ?stab ?stabx ?round ⟨hI 0 _ _ h0 (hm1 _), hL1, hK1⟩).mono ?behind
    case stab =>
      rintro k A B ⟨hi, hl, hk⟩ hm
      refine ⟨hI _ _ _ hi (hm.mono fun _ _ h => .inl h), ?_, ?_⟩
      · exact (hm.block _ (Array.getElem?_eq_some_iff.1 hl).1 (fun h => (hTne _ h).2 rfl)).trans hl
      · exact (hm.block _ (Array.getElem?_eq_some_iff.1 hk).1 (fun h => (hTne _ h).1 rfl)).trans hk
    case stabx =>
      rintro A B ⟨c, hi, hl, hk⟩ hm
      refine ⟨c, hIx _ _ _ hi (hm.mono fun _ _ h => .inl h), ?_, ?_⟩
      · exact (hm.block _ (Array.getElem?_eq_some_iff.1 hl).1 (fun h => (hTne _ h).2 rfl)).trans hl
      · exact (hm.block _ (Array.getElem?_eq_some_iff.1 hk).1 (fun h => (hTne _ h).1 rfl)).trans hk
    case round =>
      rintro k A hk ⟨hi, hl, hD⟩
      have hlt : w.heap.size + 1 < A.heap.size := (Array.getElem?_eq_some_iff.1 hl).1
      have hyd := run_yield (P := P) (args := xs k) hl (by rw [hrec]; exact hps k)
      rw [hrec] at hyd
      refine ⟨fn, _, assign, body, hyd, roundIn_of_wpIn hfn (hassign _ k hk A _ hi (by omega) ?_)⟩
      clear hyd
      intro a' A1 hm hi1 hax
      have hl1 : A1.heap[w.heap.size + 1]? = some (.loop (rec .ready none)) := (hm.block _ hlt (fun h => h.2.1 rfl)).trans hl
      have hD1 : A1.heap[w.heap.size]? = some (.deferred (some [])) := (hm.block _ (by omega) (fun h => h.1 rfl)).trans hD
      have hlt1 : w.heap.size + 1 < A1.heap.size := (Array.getElem?_eq_some_iff.1 hl1).1
      refine ⟨_, run_beginRound hl1 (by rw [hrec]), ?_⟩
      obtain ⟨A2, hA2⟩ : ∃ A2, A1.putObj (w.heap.size + 1) (.loop { rec .ready none with state := .busy }) = A2 := ⟨_, rfl⟩
      rw [hA2]
      have hl2 : A2.heap[w.heap.size + 1]? = some (.loop { rec .ready none with state := .busy }) := by rw [← hA2]; exact World.putObj_heap_same hlt1
      have hD2 : A2.heap[w.heap.size]? = some (.deferred (some [])) := by rw [← hA2]; exact (World.putObj_heap_other (by omega)).trans hD1
      have hm2 : Mod (fun b => T b ∨ b = w.heap.size ∨ b = w.heap.size + 1) A1 A2 := by rw [← hA2]; exact (Mod.refl _ _).putObj (.inr (.inr rfl)) _
      have hk12 : ∀ b, K b → A2.heap[b]? = A1.heap[b]? := fun b hb => by rw [← hA2]; exact World.putObj_heap_other (hKne b hb).2
      have hs2 : A2.heap.size = A1.heap.size := by rw [← hA2]; simp [World.putObj]
      refine wpIn_mono (hbody _ k hk a' A2 (hI _ _ _ hi1 hm2) (hAx _ _ _ _ hax hm2) (by omega)) ?_
      have fin : ∀ (jump : Option Code) (W3 : World) (S : Nat → Prop), Mod S A2 W3 → ¬ S w.heap.size → ¬ S (w.heap.size + 1) →
          (Instr.endRound (w.heap.size + 1) jump).run P W3 = .ok (.bool jump.isNone) (W3.putObj (w.heap.size + 1) (.loop (rec (if jump.isNone then .ready else .done) jump))) ∧
          (W3.putObj (w.heap.size + 1) (.loop (rec (if jump.isNone then .ready else .done) jump))).heap[w.heap.size + 1]? = some (.loop (rec (if jump.isNone then .ready else .done) jump)) ∧
          (W3.putObj (w.heap.size + 1) (.loop (rec (if jump.isNone then .ready else .done) jump))).heap[w.heap.size]? = some (.deferred (some [])) := fun jump W3 S hm3 hn1 hn2 => by
        have hl3 := (hm3.block _ (by omega) hn2).trans hl2
        have hD3 := (hm3.block _ (by omega) hn1).trans hD2
        have := run_endRound (P := P) jump hl3
        rw [hrec] at this ⊢
        exact ⟨this, World.putObj_heap_same (Array.getElem?_eq_some_iff.1 hl3).1, (World.putObj_heap_other (by omega)).trans hD3⟩
      have mp : ∀ (W3 : World) (o : Obj), Mod (fun b => T b ∨ b = w.heap.size ∨ b = w.heap.size + 1) W3 (W3.putObj (w.heap.size + 1) o) := fun W3 o => (Mod.refl _ _).putObj (.inr (.inr rfl)) o
      rintro e a3 W3 hp
      cases e with
      | normal =>
        obtain ⟨hm3, hi3⟩ := hp
        obtain ⟨hr, hl4, hD4⟩ := fin none W3 _ hm3 (fun h => h.1 rfl) (fun h => h.2.1 rfl)
        refine ⟨_, _, hr, .inl ⟨rfl, ⟨hI _ _ _ hi3 (mp _ _), hl4, hD4⟩, ?_, fun b hb => ?_⟩⟩
        · have := hm.size; have := hm3.size; simp [World.putObj]; omega
        · have h1 := hm.block b (by have := hK b hb; omega) (fun h => h.2.2 hb)
          have h2 := hk12 b hb
          have h3 := hm3.block b (by have := hK b hb; omega) (fun h => h.2.2 hb)
          exact (World.putObj_heap_other (hKne b hb).2).trans (h3.trans (h2.trans h1))
      | ret =>
        obtain ⟨hm3, hi3⟩ := hp
        obtain ⟨hr, hl4, hD4⟩ := fin (some .ret) W3 _ hm3 (fun h => h.1 rfl) (fun h => h.2 rfl)
        exact ⟨_, _, hr, .inr ⟨rfl, .ret, hIx _ _ _ hi3 (mp _ _), hl4, hD4⟩⟩
      | exit id =>
        obtain ⟨hm3, hi3⟩ := hp
        obtain ⟨hr, hl4, hD4⟩ := fin (some (.exit id)) W3 _ hm3 (fun h => h.1 rfl) (fun h => h.2 rfl)
        exact ⟨_, _, hr, .inr ⟨rfl, .exit id, hIx _ _ _ hi3 (mp _ _), hl4, hD4⟩⟩
      | goto t =>
        obtain ⟨hm3, hi3⟩ := hp
        obtain ⟨hr, hl4, hD4⟩ := fin (some (.goto t)) W3 _ hm3 (fun h => h.1 rfl) (fun h => h.2 rfl)
        exact ⟨_, _, hr, .inr ⟨rfl, .goto t, hIx _ _ _ hi3 (mp _ _), hl4, hD4⟩⟩
      | panic ch => exact hp.elim
      | outgrown => exact hp.elim
    case behind =>
      have mp : ∀ (W3 : World) (o : Obj), Mod (fun b => T b ∨ b = w.heap.size ∨ b = w.heap.size + 1) W3 (W3.putObj (w.heap.size + 1) o) := fun W3 o => (Mod.refl _ _).putObj (.inr (.inr rfl)) o
      rintro e W2 ⟨⟨v, rfl⟩, (⟨hi, hl, hk⟩ | ⟨c, hi, hl, hk⟩)⟩
      · exact ⟨none, _, by have := run_endLoop (P := P) hl (by rw [hrec]; simp); rw [hrec] at this; exact this, hdone _ (hI _ _ _ hi (mp _ _)) ((World.putObj_heap_other (by omega)).trans hk)⟩
      · exact ⟨some c, _, by have := run_endLoop (P := P) hl (by rw [hrec]; simp); rw [hrec] at this; exact this, hstop c _ (hIx _ _ _ hi (mp _ _)) ((World.putObj_heap_other (by omega)).trans hk)⟩

/-- the temporaries with some of them set -/
def rt (t : Array Value) (l : List (Tmp × Value)) : Array Value := l.foldl (fun t p => t.setIfInBounds p.1 p.2) t

/-- the rule where the assignments to the loop's left sides lay no block -/
theorem wpIn_rangeS {F : Fence} {P : Program} {g : Operand} {ps : Array Tmp} {assign body : Code} {Q : Exit → Act → World → Prop} {a : Act} {w : World}
    (hd : F.depth = none) (hF : ∀ f, F.fn f) (hro : F.round = none)
    {gf : Nat} {lb : Array Value} (hg : a.eval g = .func (.func gf) #[] lb) (eg : ∀ args w, (callFunc gf args).run P w = .ok (.enter gf args) w)
    {N : Nat} {xs : Nat → Array Value} {K T : Nat → Prop} (hy : Yields F P gf lb N xs K T w) (hK : ∀ b, K b → b < w.heap.size) (hT : ∀ b, T b → b < w.heap.size)
    (hps : ∀ k, (xs k).size = ps.size)
    (I : Nat → World → Prop) (Ix : Code → World → Prop) (sets : Nat → List (Tmp × Value))
    (hI : ∀ k A B, I k A → Mod (fun b => T b ∨ b = w.heap.size ∨ b = w.heap.size + 1) A B → I k B)
    (hIx : ∀ c A B, Ix c A → Mod (fun b => T b ∨ b = w.heap.size ∨ b = w.heap.size + 1) A B → Ix c B)
    (h0 : I 0 w)
    (hassign : ∀ (l k : Nat), k < N → ∀ (A : World) (C : Act → World → Prop), C { tmps := rt a.tmps (sets k), defers := [] } A →
      assign.wpIn (F.inRound l) 0 P (Exit.then C (fun _ _ _ => False)) { tmps := (ps.zip (xs k)).foldl (fun t (p, v) => t.setIfInBounds p v) a.tmps, defers := [] } A)
    (hbody : ∀ (l k : Nat), k < N → ∀ (A : World), I k A → w.heap.size + 2 ≤ A.heap.size →
      body.wpIn (F.inRound l) 0 P (rPost w.heap.size K (I (k + 1)) Ix A) { tmps := rt a.tmps (sets k), defers := [] } A)
    (hdone : ∀ (W : World), I N W → W.heap[w.heap.size]? = some (.deferred (some [])) → Q .normal { a with defers := { target := .collected w.heap.size, args := #[] } :: a.defers } W)
    (hstop : ∀ (c : Code) (W : World), Ix c W → W.heap[w.heap.size]? = some (.deferred (some [])) → c.wpIn F 0 P Q { a with defers := { target := .collected w.heap.size, args := #[] } :: a.defers } W) :
    (Code.rangeFunc g ps assign body).wpIn F 0 P Q a w :=
  wpIn_range hd hF hro hg eg hy hK hT hps I Ix hI hIx h0 (fun k a' _ => a' = { tmps := rt a.tmps (sets k), defers := [] }) (fun _ _ _ _ h _ => h)
    (fun l k hk A C hi _ hC => hassign l k hk A C (hC _ _ (Mod.refl _ _) hi rfl))
    (fun l k hk a' A hi ha hs => by subst ha; exact hbody l k hk A hi hs) hdone hstop

/-! ### a scope with a label, in a fence -/
section
variable {F : Fence} {P : Program} {b : Frame} {a : Act} {k : List Item} {cs : List Frame} {w : World} {Q : Exit → Act → World → Prop}
theorem stepR_scope {c : Code} : step P (lone (b.atR a (.code (.scope c) :: k)) cs w) = .next (lone (b.atR a (.code c :: .inScope c :: k)) cs w) :=
  step_lone_go (by simp [stepG, stepG.exec, Frame.atR])
theorem stepR_inScope {c : Code} : step P (lone (b.atR a (.inScope c :: k)) cs w) = .next (lone (b.atR a k) cs w) :=
  step_lone_go (by simp [stepG, stepG.exec, Frame.atR])

theorem arrives_scope {c : Code} {e : Exit} {a₁ : Act} {w₁ : World} {m : Machine} {n : Nat} (hb : F.fn b.fn) (hr : F.room (cs.length + 1 + n)) (hne : ∀ l, e ≠ .goto l)
    (harr : ArrivesIn (Machine.fenced P F) P m b (.inScope c :: k) cs e a₁ w₁) : ArrivesIn (Machine.fenced P F) P m b k cs e a₁ w₁ := by
  cases e with
  | normal => exact StepsIn.trans harr (.one (fenced_calm hb hr rfl) stepR_inScope)
  | exit id =>
    have hx : exitTo id (.inScope c :: k) = exitTo id k := by simp [exitTo]
    exact ⟨fun k' hk => harr.1 k' (by rw [hx]; exact hk), fun hr' hk => let ⟨k₁, h1, h2⟩ := harr.2 hr' (by rw [hx]; exact hk); ⟨k₁, h1, h2⟩⟩
  | goto l => exact absurd rfl (hne l)
  | ret => exact harr
  | panic ch => exact harr
  | outgrown => exact harr

/-- a scope in which the run jumps to one label: J holds at every jump, and a measure goes down -/
theorem wpIn_scope_jumps {n : Nat} {c rest : Code} (l : Nat) (J : Act → World → Prop) (μ : Act → World → Nat) (hf : findLabel c l = some rest)
    (first : c.wpIn F n P (Exit.jump l J Q) a w)
    (pass : ∀ a w, J a w → rest.wpIn F n P (Exit.jump l (fun a' w' => J a' w' ∧ μ a' w' < μ a w) Q) a w) : (Code.scope c).wpIn F n P Q a w := by
  intro b k cs hro hb hr
  have h0 : (lone (b.atR a (.code (.scope c) :: k)) cs w).fenced P F := fenced_calm hb hr rfl
  have hg : gotoIn l (.inScope c :: k) = some (.code rest :: .inScope c :: k) := by simp [gotoIn, hf]
  have key : ∀ m a w, μ a w = m → J a w → ∃ e a' w', Q e a' w' ∧ ArrivesIn (Machine.fenced P F) P (lone (b.atR a (.code rest :: .inScope c :: k)) cs w) b k cs e a' w' := by
    intro m
    induction m using Nat.strongRecOn with
    | _ m ih =>
      intro a w hn hJ
      obtain ⟨e, a₁, w₁, hq, harr⟩ := pass a w hJ b (.inScope c :: k) cs hro hb hr
      cases e with
      | goto l' =>
        obtain ⟨rfl, hJ', hlt⟩ := hq
        obtain ⟨e₂, a₂, w₂, hq₂, harr₂⟩ := ih _ (by omega) a₁ w₁ rfl hJ'
        exact ⟨e₂, a₂, w₂, hq₂, .of_steps (harr.1 _ hg) harr₂⟩
      | normal => exact ⟨_, a₁, w₁, hq, arrives_scope hb hr (fun _ h => by cases h) harr⟩
      | exit id => exact ⟨_, a₁, w₁, hq, arrives_scope hb hr (fun _ h => by cases h) harr⟩
      | ret => exact ⟨_, a₁, w₁, hq, arrives_scope hb hr (fun _ h => by cases h) harr⟩
      | panic ch => exact ⟨_, a₁, w₁, hq, arrives_scope hb hr (fun _ h => by cases h) harr⟩
      | outgrown => exact ⟨_, a₁, w₁, hq, arrives_scope hb hr (fun _ h => by cases h) harr⟩
  obtain ⟨e, a₁, w₁, hq, harr⟩ := first b (.inScope c :: k) cs hro hb hr
  cases e with
  | goto l' =>
    obtain ⟨rfl, hJ'⟩ := hq
    obtain ⟨e₂, a₂, w₂, hq₂, harr₂⟩ := key _ a₁ w₁ rfl hJ'
    exact ⟨e₂, a₂, w₂, hq₂, .of_steps (.head h0 stepR_scope (harr.1 _ hg)) harr₂⟩
  | normal => exact ⟨_, a₁, w₁, hq, .of_steps (.one h0 stepR_scope) (arrives_scope hb hr (fun _ h => by cases h) harr)⟩
  | exit id => exact ⟨_, a₁, w₁, hq, .of_steps (.one h0 stepR_scope) (arrives_scope hb hr (fun _ h => by cases h) harr)⟩
  | ret => exact ⟨_, a₁, w₁, hq, .of_steps (.one h0 stepR_scope) (arrives_scope hb hr (fun _ h => by cases h) harr)⟩
  | panic ch => exact ⟨_, a₁, w₁, hq, .of_steps (.one h0 stepR_scope) (arrives_scope hb hr (fun _ h => by cases h) harr)⟩
  | outgrown => exact ⟨_, a₁, w₁, hq, .of_steps (.one h0 stepR_scope) (arrives_scope hb hr (fun _ h => by cases h) harr)⟩

theorem wpIn_scope_straight {n : Nat} {c : Code} (h : c.wpIn F n P (Exit.noGoto Q) a w) : (Code.scope c).wpIn F n P Q a w := by
  intro b k cs hro hb hr
  have h0 : (lone (b.atR a (.code (.scope c) :: k)) cs w).fenced P F := fenced_calm hb hr rfl
  obtain ⟨e, a₁, w₁, hq, harr⟩ := h b (.inScope c :: k) cs hro hb hr
  cases e with
  | goto l' => exact hq.elim
  | normal => exact ⟨_, a₁, w₁, hq, .of_steps (.one h0 stepR_scope) (arrives_scope hb hr (fun _ h => by cases h) harr)⟩
  | exit id => exact ⟨_, a₁, w₁, hq, .of_steps (.one h0 stepR_scope) (arrives_scope hb hr (fun _ h => by cases h) harr)⟩
  | ret => exact ⟨_, a₁, w₁, hq, .of_steps (.one h0 stepR_scope) (arrives_scope hb hr (fun _ h => by cases h) harr)⟩
  | panic ch => exact ⟨_, a₁, w₁, hq, .of_steps (.one h0 stepR_scope) (arrives_scope hb hr (fun _ h => by cases h) harr)⟩
  | outgrown => exact ⟨_, a₁, w₁, hq, .of_steps (.one h0 stepR_scope) (arrives_scope hb hr (fun _ h => by cases h) harr)⟩
end

/-- the end of a function that has held one range over a function: one result -/
theorem postM_ret1 {F : Fence} {P : Program} {fn : Func} {R : Ending → World → Prop} {tmps : Array Value} {D t : Nat} {w : World}
    (h : fn.results = #[.tmp t]) (hD : w.heap[D]? = some (.deferred (some []))) (hR : R (.returned (tmps.getD t undef)) (w.putObj D (.deferred none))) :
    bodyPostM F 0 P fn R .ret { tmps := tmps, defers := [{ target := .collected D, args := #[] }] } w :=
  ⟨by simp, .inl ⟨_, _, rfl, run_takeDeferred hD, ⟨_, results_tmp h _ _ _, hR⟩⟩⟩
theorem postM_ret2 {F : Fence} {P : Program} {fn : Func} {R : Ending → World → Prop} {tmps : Array Value} {D t u : Nat} {w : World}
    (h : fn.results = #[.tmp t, .tmp u]) (hD : w.heap[D]? = some (.deferred (some []))) (hR : R (.returned (.tuple #[tmps.getD t undef, tmps.getD u undef])) (w.putObj D (.deferred none))) :
    bodyPostM F 0 P fn R .ret { tmps := tmps, defers := [{ target := .collected D, args := #[] }] } w :=
  ⟨by simp, .inl ⟨_, _, rfl, run_takeDeferred hD, ⟨_, results_tmp2 h _ _ _, hR⟩⟩⟩
/-- and where it leaves without having come to one -/
theorem postM_plain1 {F : Fence} {P : Program} {fn : Func} {R : Ending → World → Prop} {tmps : Array Value} {t : Nat} {w : World}
    (h : fn.results = #[.tmp t]) (hR : R (.returned (tmps.getD t undef)) w) : bodyPostM F 0 P fn R .ret { tmps := tmps, defers := [] } w :=
  ⟨_, results_tmp h _ _ _, hR⟩
theorem postM_plain2 {F : Fence} {P : Program} {fn : Func} {R : Ending → World → Prop} {tmps : Array Value} {t u : Nat} {w : World}
    (h : fn.results = #[.tmp t, .tmp u]) (hR : R (.returned (.tuple #[tmps.getD t undef, tmps.getD u undef])) w) : bodyPostM F 0 P fn R .ret { tmps := tmps, defers := [] } w :=
  ⟨_, results_tmp2 h _ _ _, hR⟩
theorem calls_of_in {_F : Fence} {P : Program} {f : FuncId} {args : Array Value} {w : World} {R : Ending → World → Prop} (h : CallsIn Fence.wide 0 P f args w R) : Calls P f args w R := callsIn_wide.1 h
end Go.Proofs.YtolclahkfmplfaaDoor

/- Eytzinger's layout as plain mathematics: the places in order, the way from each to the next, that they are just the places below n. -/
namespace Go.Proofs.YtolclahkfmplfaaDoor

def inord (n a : Nat) : List Nat := if _h : a < n then inord n (2 * a + 1) ++ a :: inord n (2 * a + 2) else []
termination_by n - a
decreasing_by all_goals omega

def lm (n a : Nat) : Nat := if h : 2 * a + 1 < n then lm n (2 * a + 1) else a
termination_by n - a
decreasing_by omega

def upo (a : Nat) : Option Nat := if a = 0 then none else if a % 2 = 1 then some ((a - 1) / 2) else upo ((a - 1) / 2)
termination_by a
decreasing_by omega

def nx (n a : Nat) : Option Nat := if 2 * a + 2 < n then some (lm n (2 * a + 2)) else upo a

theorem inord_in {n a : Nat} (h : a < n) : inord n a = inord n (2 * a + 1) ++ a :: inord n (2 * a + 2) := by rw [inord]; simp [h]
theorem inord_out {n a : Nat} (h : ¬ a < n) : inord n a = [] := by rw [inord]; simp [h]
theorem lm_in {n a : Nat} (h : 2 * a + 1 < n) : lm n a = lm n (2 * a + 1) := by rw [lm]; simp [h]
theorem lm_out {n a : Nat} (h : ¬ 2 * a + 1 < n) : lm n a = a := by rw [lm]; simp [h]
theorem upo_zero : upo 0 = none := by rw [upo]; simp
theorem upo_odd {a : Nat} (h : a % 2 = 1) : upo a = some ((a - 1) / 2) := by rw [upo, if_neg (by omega), if_pos h]
theorem upo_even {a : Nat} (h0 : a ≠ 0) (h : a % 2 ≠ 1) : upo a = upo ((a - 1) / 2) := by rw [upo, if_neg h0, if_neg h]

theorem inord_ne {n a : Nat} (h : a < n) : inord n a ≠ [] := by rw [inord_in h]; simp

theorem inord_head (n a : Nat) (h : a < n) : (inord n a).head? = some (lm n a) := by
  induction a using lm.induct (n := n) with
  | case1 a h1 ih =>
    rw [inord_in h, lm_in h1, List.head?_append, ih h1]
    rfl
  | case2 a h1 =>
    rw [inord_in h, lm_out h1, inord_out h1]
    rfl

theorem inord_zero_get {n a : Nat} (h : a < n) (h0 : 0 < (inord n a).length) : (inord n a)[0]'h0 = lm n a := by
  have := inord_head n a h
  rw [List.head?_eq_getElem?, List.getElem?_eq_getElem h0] at this
  exact Option.some.inj this

/-- from each place under a the way leads to the next one under a, or out of it, upward -/
theorem nx_under (n : Nat) : ∀ (m a : Nat), n - a ≤ m → a < n → ∀ (k : Nat) (x : Nat), (inord n a)[k]? = some x → nx n x = ((inord n a)[k + 1]?).or (upo a) := by
  intro m
  induction m with
  | zero => intro a hm h; omega
  | succ m ih =>
    intro a hm h k x hx
    have hl : ∀ k x, (inord n (2 * a + 1))[k]? = some x → nx n x = ((inord n (2 * a + 1))[k + 1]?).or (some a) := by
      intro k x hx
      by_cases h1 : 2 * a + 1 < n
      · have := ih (2 * a + 1) (by omega) h1 k x hx
        rw [this, upo_odd (by omega)]
        congr 2
        omega
      · rw [inord_out h1] at hx; simp at hx
    have hr : ∀ k x, (inord n (2 * a + 2))[k]? = some x → nx n x = ((inord n (2 * a + 2))[k + 1]?).or (upo a) := by
      intro k x hx
      by_cases h1 : 2 * a + 2 < n
      · have := ih (2 * a + 2) (by omega) h1 k x hx
        rw [this, upo_even (a := 2 * a + 2) (by omega) (by omega)]
        congr 2
        omega
      · rw [inord_out h1] at hx; simp at hx
    rw [inord_in h] at hx ⊢
    rcases Nat.lt_trichotomy k (inord n (2 * a + 1)).length with hk | hk | hk
    · rw [List.getElem?_append_left hk] at hx
      rw [hl k x hx]
      by_cases hk1 : k + 1 < (inord n (2 * a + 1)).length
      · rw [List.getElem?_append_left hk1, List.getElem?_eq_getElem hk1]; rfl
      · have : k + 1 = (inord n (2 * a + 1)).length := by omega
        rw [List.getElem?_append_right (by omega), this, Nat.sub_self, List.getElem?_eq_none (by omega)]
        rfl
    · rw [List.getElem?_append_right (by omega), hk, Nat.sub_self] at hx
      simp at hx
      subst hx
      rw [List.getElem?_append_right (by omega), hk]
      have : (inord n (2 * a + 1)).length + 1 - (inord n (2 * a + 1)).length = 1 := by omega
      rw [this]
      simp only [List.getElem?_cons_succ]
      unfold nx
      by_cases h2 : 2 * a + 2 < n
      · rw [if_pos h2]
        have h0 : 0 < (inord n (2 * a + 2)).length := by
          have := inord_ne h2
          cases hh : inord n (2 * a + 2) with
          | nil => exact absurd hh this
          | cons => simp
        rw [List.getElem?_eq_getElem h0, inord_zero_get h2 h0]
        rfl
      · rw [if_neg h2, inord_out h2]
        rfl
    · rw [List.getElem?_append_right (by omega)] at hx
      obtain ⟨j, rfl⟩ : ∃ j, k = (inord n (2 * a + 1)).length + 1 + j := ⟨k - (inord n (2 * a + 1)).length - 1, by omega⟩
      have e1 : (inord n (2 * a + 1)).length + 1 + j - (inord n (2 * a + 1)).length = j + 1 := by omega
      have e2 : (inord n (2 * a + 1)).length + 1 + j + 1 - (inord n (2 * a + 1)).length = j + 1 + 1 := by omega
      rw [e1, List.getElem?_cons_succ] at hx
      rw [List.getElem?_append_right (by omega), e2, List.getElem?_cons_succ]
      exact hr j x hx

theorem nx_next {n k x : Nat} (hx : (inord n 0)[k]? = some x) : nx n x = (inord n 0)[k + 1]? := by
  by_cases h : 0 < n
  · rw [nx_under n n 0 (by omega) h k x hx, upo_zero, Option.or_none]
  · rw [inord_out h] at hx; simp at hx

/-! ### they are just the places below n -/

theorem mem_inord (n : Nat) : ∀ (m a : Nat), n - a ≤ m → ∀ x, x ∈ inord n a ↔ x < n ∧ ∃ d, (x + 1) / 2 ^ d = a + 1 := by
  intro m
  induction m with
  | zero =>
    intro a hm x
    rw [inord_out (by omega)]
    simp only [List.not_mem_nil, false_iff, not_and, not_exists]
    intro hx d he
    have := Nat.div_le_self (x + 1) (2 ^ d)
    omega
  | succ m ih =>
    intro a hm x
    by_cases h : a < n
    · rw [inord_in h, List.mem_append, List.mem_cons, ih (2 * a + 1) (by omega), ih (2 * a + 2) (by omega)]
      constructor
      · rintro (⟨hx, d, he⟩ | rfl | ⟨hx, d, he⟩)
        · refine ⟨hx, d + 1, ?_⟩
          rw [Nat.pow_succ, ← Nat.div_div_eq_div_mul, he]; omega
        · exact ⟨h, 0, by simp⟩
        · refine ⟨hx, d + 1, ?_⟩
          rw [Nat.pow_succ, ← Nat.div_div_eq_div_mul, he]; omega
      · rintro ⟨hx, d, he⟩
        cases d with
        | zero => right; left; simp at he; exact he
        | succ d =>
          rw [Nat.pow_succ, ← Nat.div_div_eq_div_mul] at he
          have : (x + 1) / 2 ^ d = 2 * a + 1 + 1 ∨ (x + 1) / 2 ^ d = 2 * a + 2 + 1 := by omega
          rcases this with h1 | h1
          · exact .inl ⟨hx, d, h1⟩
          · exact .inr (.inr ⟨hx, d, h1⟩)
    · rw [inord_out h]
      simp only [List.not_mem_nil, false_iff, not_and, not_exists]
      intro hx d he
      have := Nat.div_le_self (x + 1) (2 ^ d)
      omega

theorem reach_one (x : Nat) : ∃ d, (x + 1) / 2 ^ d = 1 := by
  induction x using Nat.strongRecOn with
  | _ x ih =>
    cases x with
    | zero => exact ⟨0, rfl⟩
    | succ x =>
      obtain ⟨d, hd⟩ := ih ((x + 2) / 2 - 1) (by omega)
      refine ⟨d + 1, ?_⟩
      rw [Nat.pow_succ, Nat.mul_comm, ← Nat.div_div_eq_div_mul]
      rw [show (x + 2) / 2 - 1 + 1 = (x + 2) / 2 by omega] at hd
      exact hd

theorem mem_inord_zero (n x : Nat) : x ∈ inord n 0 ↔ x < n := by
  rw [mem_inord n n 0 (by omega)]
  exact ⟨fun h => h.1, fun h => ⟨h, reach_one x⟩⟩

theorem far_div {y d e c : Nat} (hde : d < e) (h1 : y / 2 ^ d = c) : y / 2 ^ e ≤ c / 2 := by
  obtain ⟨j, rfl⟩ : ∃ j, e = d + 1 + j := ⟨e - d - 1, by omega⟩
  rw [Nat.pow_add, Nat.pow_succ, ← Nat.div_div_eq_div_mul, ← Nat.div_div_eq_div_mul, h1]
  exact Nat.div_le_self _ _

theorem nodup_inord (n : Nat) : ∀ (m a : Nat), n - a ≤ m → (inord n a).Nodup := by
  intro m
  induction m with
  | zero => intro a hm; rw [inord_out (by omega)]; exact List.nodup_nil
  | succ m ih =>
    intro a hm
    by_cases h : a < n
    · rw [inord_in h, List.nodup_append]
      refine ⟨ih _ (by omega), List.nodup_cons.2 ⟨?_, ih _ (by omega)⟩, ?_⟩
      · rw [mem_inord n m _ (by omega)]
        rintro ⟨_, d, he⟩
        have := Nat.div_le_self (a + 1) (2 ^ d)
        omega
      · intro x hx y hy hxy
        subst hxy
        rw [mem_inord n m _ (by omega)] at hx
        obtain ⟨_, d, hd⟩ := hx
        rcases List.mem_cons.1 hy with rfl | hy
        · have := Nat.div_le_self (x + 1) (2 ^ d)
          omega
        · rw [mem_inord n m _ (by omega)] at hy
          obtain ⟨_, e, he⟩ := hy
          rcases Nat.lt_trichotomy d e with hde | hde | hde
          · have := far_div hde hd; omega
          · subst hde; omega
          · have := far_div hde he; omega
    · rw [inord_out h]; exact List.nodup_nil

theorem inord_perm (n : Nat) : (inord n 0).Perm (List.range n) := by
  rw [List.perm_ext_iff_of_nodup (nodup_inord n n 0 (by omega)) List.nodup_range]
  intro x
  rw [mem_inord_zero, List.mem_range]

theorem inord_length (n : Nat) : (inord n 0).length = n := by rw [(inord_perm n).length_eq, List.length_range]

theorem inord_lt {n x : Nat} (h : x ∈ inord n 0) : x < n := (mem_inord_zero n x).1 h

theorem inord_sub (n : Nat) : ∀ a, (inord n a).Sublist (inord n 0) := by
  intro a
  induction a using Nat.strongRecOn with
  | _ a ih =>
    by_cases h0 : a = 0
    · subst h0; exact List.Sublist.refl _
    · refine List.Sublist.trans ?_ (ih ((a - 1) / 2) (by omega))
      by_cases hp : (a - 1) / 2 < n
      · rw [inord_in hp]
        rcases Nat.mod_two_eq_zero_or_one a with h | h
        · rw [show 2 * ((a - 1) / 2) + 2 = a by omega]
          exact (List.sublist_cons_self _ _).trans (List.sublist_append_right _ _)
        · rw [show 2 * ((a - 1) / 2) + 1 = a by omega]
          exact List.sublist_append_left _ _
      · rw [inord_out (a := a) (by omega)]; exact List.nil_sublist _
theorem inord_le (n a : Nat) : (inord n a).length ≤ n := by have := (inord_sub n a).length_le; rwa [inord_length] at this

/-- of each place the rank of what stands there -/
def ranks (n : Nat) : List Nat := (List.range n).map fun at_ => (inord n 0).idxOf at_
theorem ranks_length (n : Nat) : (ranks n).length = n := by simp [ranks]
theorem ranks_get {n a : Nat} (h : a < n) : (ranks n)[a]'(by rw [ranks_length]; exact h) = (inord n 0).idxOf a := by simp [ranks]
theorem ranks_lt {n a : Nat} (h : a < n) : (inord n 0).idxOf a < n := by
  have := List.idxOf_lt_length_iff.2 ((mem_inord_zero n a).2 h)
  rwa [inord_length] at this
theorem inord_idx {n a : Nat} (h : a < n) : (inord n 0)[(inord n 0).idxOf a]'(by rw [inord_length]; exact ranks_lt h) = a := List.getElem_idxOf _
theorem idx_inord {n k : Nat} (h : k < (inord n 0).length) : (inord n 0).idxOf ((inord n 0)[k]'h) = k := (nodup_inord n n 0 (by omega)).idxOf_getElem k h
end Go.Proofs.YtolclahkfmplfaaDoor

/- Contracts of eytz: asked, leftmost, next, places and what they yield, Order. -/
namespace Go.Proofs.YtolclahkfmplfaaDoor
open Go Go.RowKit Go.Shelf
set_option maxRecDepth 100000

def askedE (n : Int) : Int := if n < 0 then 2 else if n > 65536 then 4 else 0

set_option maxHeartbeats 400000 in
theorem asked_any (n : Int) (w : World) :
    Calls Tryd.prog 27 #[.int .i64 n] w fun r w' => r = .returned (.int .i64 (askedE n)) ∧ w = w' := by
  go_enter Tryd.func27, Tryd.ntmps27
  go_wp2
  all_goals
    go_ret
    refine ⟨ret_int ?_, rfl⟩
    unfold askedE
    first | (rw [if_pos (by assumption)]) | (rw [if_neg (by omega), if_pos (by assumption)]) | (rw [if_neg (by omega), if_neg (by omega)])

set_option maxHeartbeats 400000 in
theorem leftmost_any (n a : Nat) (N Z : Int) (hN : N = n) (hZ : Z = a) (hn : n ≤ 65536) (ha : a ≤ 200000) (w : World) :
    Calls Tryd.prog 32 #[.int .i64 N, .int .i64 Z] w fun r w' => r = .returned (.int .i64 (lm n a : Nat)) ∧ w = w' := by
  subst hN hZ
  go_enter Tryd.func32, Tryd.ntmps32
  go_wp2
  go_loop [1] (fun i => ∃ b : Nat, b ≤ 200000 ∧ i = .int .i64 b ∧ Hid (lm n b = lm n a)) (fun i => n - (intOf i).toNat)
  case atStart => exact ⟨a, ha, rfl, rfl⟩
  case round =>
    obtain ⟨b, hb, rfl, hl⟩ := hrel
    by_cases hlt : 2 * b + 1 < n
    · go_wp2
      go_round
      case rel => exact ⟨2 * b + 1, by omega, by go_num, by rw [← hl.out, ← lm_in hlt]; rfl⟩
      case measure => simp [intOf]; omega
    · go_wp2
      go_ret
      exact ⟨ret_int (by rw [← hl.out, lm_out hlt]), rfl⟩

def nxI (n a : Nat) : Int := match nx n a with | some x => (x : Int) | none => -1

set_option maxHeartbeats 400000 in
theorem next_any (n a : Nat) (N Z : Int) (hN : N = n) (hZ : Z = a) (hn : n ≤ 65536) (ha : a < n) (w : World) :
    Calls Tryd.prog 33 #[.int .i64 N, .int .i64 Z] w fun r w' => r = .returned (.int .i64 (nxI n a)) ∧ w = w' := by
  subst hN hZ
  by_cases h2 : 2 * a + 2 < n
  · go_enter Tryd.func33, Tryd.ntmps33
    go_wp2
    go_step3
    go_wp2_with (go_at_call 32; refine (leftmost_any n (2 * a + 2) _ _ rfl (by omega) hn (by omega) _).mono ?_; rintro e w1 ⟨rfl, rfl⟩)
    rw [Exit.noGoto_ret]
    go_ret
    exact ⟨ret_int (by simp [nxI, nx, h2]), rfl⟩
  · go_enter Tryd.func33, Tryd.ntmps33
    go_wp2
    go_step3
    go_wp2
    go_step3
    go_wp2
    go_loop [1] (fun i => ∃ b : Nat, b ≤ a ∧ i = .int .i64 b ∧ Hid (upo b = upo a)) (fun i => (intOf i).toNat)
    case atStart => exact ⟨a, Nat.le_refl _, rfl, rfl⟩
    case round =>
      obtain ⟨b, hb, rfl, hl⟩ := hrel
      by_cases h0 : b = 0
      · have hz : (((b : Nat) : Int) == 0) = true := by simp [h0]
        have hr : Hid (nxI n a = -1) := by unfold nxI nx; rw [if_neg h2, ← hl.out, h0, upo_zero]; rfl
        clear h0
        go_wp2
        go_ret
        exact ⟨ret_int hr.out.symm, rfl⟩
      · have hz : (((b : Nat) : Int) == 0) = false := by simp [h0]
        by_cases h1 : b % 2 = 1
        · have hz1 : (((b : Nat) : Int) % 2 == 1) = true := by simp; omega
          have hr : Hid (nxI n a = ((b - 1) / 2 : Nat)) := by unfold nxI nx; rw [if_neg h2, ← hl.out, upo_odd h1]; rfl
          have h1' : 1 ≤ b := by omega
          clear h1 h0
          go_wp2
          go_ret
          exact ⟨ret_int (by rw [hr.out]; omega), rfl⟩
        · have hz1 : (((b : Nat) : Int) % 2 == 1) = false := by simp; omega
          have hr : Hid (upo ((b - 1) / 2) = upo a) := by rw [← upo_even h0 h1]; exact hl.out
          have h1' : 1 ≤ b := by omega
          clear h1 h0
          go_wp2
          go_round
          case rel => exact ⟨(b - 1) / 2, by omega, by congr 1; omega, hr⟩
          case measure => simp [intOf]; omega

attribute [local go_sem] Oper.semAt_some

/-- what eytz.places(n) yields: k and the k-th place -/
def placesX (n k : Nat) : Array Value := #[.int .i64 (k : Nat), .int .i64 ((inord n 0).getD k 0 : Nat)]
theorem placesX_get {n k x : Nat} (hx : (inord n 0)[k]? = some x) : placesX n k = #[.int .i64 (k : Nat), .int .i64 (x : Nat)] := by
  simp [placesX, List.getD, hx]

theorem nxI_some {n k x y : Nat} (hx : (inord n 0)[k]? = some x) (hy : (inord n 0)[k + 1]? = some y) : nxI n x = (y : Nat) := by
  unfold nxI; rw [nx_next hx, hy]
theorem nxI_none {n k x : Nat} (hx : (inord n 0)[k]? = some x) (hy : (inord n 0)[k + 1]? = none) : nxI n x = -1 := by
  unfold nxI; rw [nx_next hx, hy]

set_option maxHeartbeats 1000000 in
theorem places1_in (n B : Nat) (hn : n ≤ 65536) (w : World)
    (hc : w.cell? ⟨B, 0, none⟩ = some (.int .i64 (n : Nat))) :
    Yields Fence.wide Tryd.prog 31 #[.pointer (some ⟨B, 0, none⟩)] n (placesX n) (fun b => b = B) (fun _ => False) w := by
  intro l I X W hsz hKp hI hX hY h0
  have hcW : W.cell? ⟨B, 0, none⟩ = some (.int .i64 (n : Nat)) := (World.cell?_of_block (hKp B rfl)).trans hc
  have hdd : ∀ k : Nat, (Fence.wide.depth.isSome = true → 1 ≤ k) := fun k h => by cases h
  have hwf : ∀ f, Fence.wide.fn f := fun _ => trivial
  have hdp : Fence.wide.depth = none := rfl
  have hro : Fence.wide.round = none := rfl
  refine callsIn_of_wp Tryd.func31 rfl (hwf _) ?_ hro
  simp only [Tryd.ntmps31, List.size_toArray, List.length_cons, List.length_nil, Nat.reduceAdd, Nat.reduceSub, Array.replicate_succ, Array.replicate_zero, List.push_toArray, List.append_toArray, List.nil_append, List.cons_append]
  refine wpIn_scope_jumps 0 (fun a' w' => ∃ (k x : Nat) (v2 v5 v6 v7 v8 v9 v10 v11 v12 v13 v14 v15 v16 v17 v18 v19 v20 : Value), (inord n 0)[k]? = some x ∧
      a' = { tmps := #[.func (.yield l) #[] #[], .pointer (some ⟨B, 0, none⟩), v2, .int .i64 (k : Nat), .int .i64 (x : Nat), v5, v6, v7, v8, v9, v10, v11, v12, v13, v14, v15, v16, v17, v18, v19, v20], defers := [] } ∧
      I k w' ∧ w'.cell? ⟨B, 0, none⟩ = some (.int .i64 (n : Nat)))
    (fun a' _ => n - (intOf (a'.tmps.getD 3 undef)).toNat) rfl ?first ?pass
  case first =>
    by_cases hn0 : n = 0
    · have hz : (((n : Nat) : Int) == 0) = true := by simp [hn0]
      have hHl := Lib.hid (show 0 = n from hn0.symm)
      clear hn0 hY hKp hI hX
      gi_wp2
      simp only [Exit.jump]
      refine bodyPost_ret (results_none rfl _ _ _) rfl ?_
      exact ⟨⟨_, rfl⟩, .inl (hHl.out ▸ h0)⟩
    · have hz : (((n : Nat) : Int) == 0) = false := by simp [hn0]
      have hx : (inord n 0)[0]? = some (lm n 0) := by
        have h1 : 0 < n := by omega
        have h2 : 0 < (inord n 0).length := by rw [inord_length]; exact h1
        rw [List.getElem?_eq_getElem h2, inord_zero_get h1 h2]
      have hY' := hY 0 W (by omega) h0
      rw [placesX_get hx, show ((0 : Nat) : Int) = 0 from rfl] at hY'
      obtain ⟨fn, tmps, assign, body, hy, hR⟩ := hY'
      clear hY hKp hI hX hn0
      gi_wp2_with ((try refine ⟨hdd _, ?_⟩); gi_at_call 32; refine (callsIn_wide.2 (leftmost_any n 0 _ _ rfl rfl hn (by omega) _)).mono ?_; rintro e w1 ⟨rfl, rfl⟩)
      refine wpIn_label ?_
      gi_wp2
      refine hR.mono ?_
      clear hR hy
      rintro e W2 (⟨rfl, hi2, hs2, hk2⟩ | ⟨rfl, hx2⟩)
      · have hcw2 : W2.cell? ⟨B, 0, none⟩ = some (.int .i64 (n : Nat)) := (World.cell?_of_block (hk2 B rfl)).trans hcW
        have hxn := inord_lt (List.mem_of_getElem? hx)
        clear hk2
        rcases hnext : (inord n 0)[0 + 1]? with _ | y
        · have hH := Lib.hid (nxI_none hx hnext)
          have hlen : 0 + 1 = n := by
            have h1 := (List.getElem?_eq_none_iff.1 hnext)
            have h2 := (List.getElem?_eq_some_iff.1 hx).1
            rw [inord_length] at h1 h2
            omega
          have hHl := Lib.hid hlen
          have hHx := Lib.hid hx
          clear hnext hlen hx
          gi_wp2_with ((try refine ⟨hdd _, ?_⟩); gi_at_call 33; refine (callsIn_wide.2 (next_any n (lm n 0) _ _ rfl rfl hn hxn _)).mono ?_; rw [hH.out]; rintro e w1 ⟨rfl, rfl⟩)
          simp only [Exit.jump]
          refine bodyPost_end (results_none rfl _ _ _) rfl ?_
          exact ⟨⟨_, rfl⟩, .inl (hHl.out ▸ hi2)⟩
        · have hH := Lib.hid (nxI_some hx hnext)
          have hkn : 0 + 1 < n := by have := (List.getElem?_eq_some_iff.1 hnext).1; rwa [inord_length] at this
          have hHl := Lib.hid hnext
          have hHx := Lib.hid hx
          clear hnext hx
          gi_wp2_with ((try refine ⟨hdd _, ?_⟩); gi_at_call 33; refine (callsIn_wide.2 (next_any n (lm n 0) _ _ rfl rfl hn hxn _)).mono ?_; rw [hH.out]; rintro e w1 ⟨rfl, rfl⟩)
          refine wpIn_goto ?_
          refine ⟨rfl, ⟨1, y, _, _, _, _, _, _, _, _, _, _, _, _, _, _, _, _, _, hHl.out, rfl, hi2, hcw2⟩⟩
      · gi_wp2
        simp only [Exit.jump]
        refine bodyPost_ret (results_none rfl _ _ _) rfl ?_
        exact ⟨⟨_, rfl⟩, .inr hx2⟩
  case pass =>
    rintro a' w' ⟨k, x, v2, v5, v6, v7, v8, v9, v10, v11, v12, v13, v14, v15, v16, v17, v18, v19, v20, hx, rfl, hi, hcw⟩
    have hk : k < n := by rw [← inord_length n]; exact (List.getElem?_eq_some_iff.1 hx).1
    have hY' := hY k w' hk hi
    rw [placesX_get hx] at hY'
    obtain ⟨fn, tmps, assign, body, hy, hR⟩ := hY'
    clear hY hKp hI hX
    gi_wp2
    refine hR.mono ?_
    clear hR hy
    rintro e W2 (⟨rfl, hi2, hs2, hk2⟩ | ⟨rfl, hx2⟩)
    · have hcw2 : W2.cell? ⟨B, 0, none⟩ = some (.int .i64 (n : Nat)) := (World.cell?_of_block (hk2 B rfl)).trans hcw
      have hxn := inord_lt (List.mem_of_getElem? hx)
      clear hk2
      rcases hnext : (inord n 0)[k + 1]? with _ | y
      · have hH := Lib.hid (nxI_none hx hnext)
        have hlen : k + 1 = n := by
          have h1 := (List.getElem?_eq_none_iff.1 hnext)
          have h2 := (List.getElem?_eq_some_iff.1 hx).1
          rw [inord_length] at h1 h2
          omega
        have hHl := Lib.hid hlen
        clear hnext hlen
        gi_wp2_with ((try refine ⟨hdd _, ?_⟩); gi_at_call 33; refine (callsIn_wide.2 (next_any n x _ _ rfl rfl hn hxn _)).mono ?_; rw [hH.out]; rintro e w1 ⟨rfl, rfl⟩)
        simp only [Exit.jump]
        refine bodyPost_end (results_none rfl _ _ _) rfl ?_
        exact ⟨⟨_, rfl⟩, .inl (hHl.out ▸ hi2)⟩
      · have hH := Lib.hid (nxI_some hx hnext)
        have hkn : k + 1 < n := by have := (List.getElem?_eq_some_iff.1 hnext).1; rwa [inord_length] at this
        have hHl := Lib.hid hnext
        clear hnext
        gi_wp2_with ((try refine ⟨hdd _, ?_⟩); gi_at_call 33; refine (callsIn_wide.2 (next_any n x _ _ rfl rfl hn hxn _)).mono ?_; rw [hH.out]; rintro e w1 ⟨rfl, rfl⟩)
        refine wpIn_goto ?_
        refine ⟨rfl, ⟨k + 1, y, _, _, _, _, _, _, _, _, _, _, _, _, _, _, _, _, _, hHl.out, rfl, hi2, hcw2⟩, ?_⟩
        show n - (((k : Int) + 1)).toNat < n - ((k : Int)).toNat
        omega
    · gi_wp2
      simp only [Exit.jump]
      refine bodyPost_ret (results_none rfl _ _ _) rfl ?_
      exact ⟨⟨_, rfl⟩, .inr hx2⟩

set_option maxHeartbeats 400000 in
theorem places_any (n : Nat) (w : World) :
    Calls Tryd.prog 28 #[.int .i64 (n : Nat)] w fun r w' =>
      r = .returned (.func (.func 31) #[] #[.pointer (some ⟨w.heap.size, 0, none⟩)]) ∧ w' = w.alloc (.cells #[.int .i64 (n : Nat)] 3) := by
  go_enter Tryd.func28, Tryd.ntmps28
  go_wp2
  go_ret
  exact ⟨rfl, rfl⟩

theorem int_info : (Tryd.prog.info? 3).map (fun i => (i.zero, i.size, i.bytes)) = some (some (.int .i64 0), 1, 8) := by kernel_rfl

set_option maxHeartbeats 1000000 in
theorem order_ok (n : Nat) (hn : n ≤ 65536) (w : World) :
    Calls Tryd.prog 23 #[.int .i64 (n : Nat)] w fun r w' => r = .returned (.tuple #[.slice (some ⟨w.heap.size, 0, none⟩) n n, .int .i64 0]) ∧
      Blk w' w.heap.size 3 ((ranks n).map fun k => Value.int .i64 (k : Nat)).toArray ∧ Below w.heap.size w w' := by
  refine calls_of_in (_F := Fence.wide) ?_
  have hdd : ∀ k : Nat, (Fence.wide.depth.isSome = true → 1 ≤ k) := fun k h => by cases h
  have hwf : ∀ f, Fence.wide.fn f := fun _ => trivial
  have hdp : Fence.wide.depth = none := rfl
  have hro : Fence.wide.round = none := rfl
  obtain ⟨i0, hi, hz0, hz1, hz2⟩ := info_parts int_info
  have hmk := fun W => run_make_rowN (P := Tryd.prog) 58 3 i0 (.int .i64 0) Tryd.underlying58 hi hz0 n (by rw [hz2]; omega) (by omega) W
  rw [hz1] at hmk
  clear hi hz0 hz1 hz2
  refine callsIn_of_wp_marks Tryd.func23 rfl (hwf _) ?_ hro
  simp only [Tryd.ntmps23, List.size_toArray, List.length_cons, List.length_nil, Nat.reduceAdd, Nat.reduceSub, Array.replicate_succ, Array.replicate_zero, List.push_toArray, List.append_toArray, List.nil_append, List.cons_append]
  have hask := Lib.hid (show askedE (n : Nat) = 0 by unfold askedE; rw [if_neg (by omega), if_neg (by omega)])
  gi_wp2_with (first
    | ((try refine ⟨hdd _, ?_⟩); gi_at_call 27; refine (callsIn_wide.2 (asked_any _ _)).mono ?_; rw [hask.out]; rintro e w1 ⟨rfl, rfl⟩)
    | ((try refine ⟨hdd _, ?_⟩); gi_at_call 28; refine (callsIn_wide.2 (places_any _ _)).mono ?_; rintro e w1 ⟨rfl, rfl⟩))
  obtain ⟨g, hg⟩ : ∃ g, w.heap.size = g := ⟨_, rfl⟩
  obtain ⟨W0, hW0⟩ : ∃ W0, (((w.alloc (Obj.cells (madeCells #[Value.int IntKind.i64 0] n) 3)).alloc (Obj.cells #[Value.slice (some { block := w.heap.size, off := 0 }) n n] 58)).alloc (Obj.cells #[Value.int IntKind.i64 (n : Nat)] 3)) = W0 := ⟨_, rfl⟩
  rw [hW0]
  have b0 : Blk W0 w.heap.size 3 (madeCells #[Value.int IntKind.i64 0] n) := by rw [← hW0]; exact ((Blk.new w _ _).alloc _).alloc _
  have b1 : Blk W0 (w.heap.size + 1) 58 #[Value.slice (some { block := w.heap.size, off := 0 }) n n] := by
    rw [← hW0]; have := Blk.new (w.alloc (Obj.cells (madeCells #[Value.int IntKind.i64 0] n) 3)) 58 #[Value.slice (some { block := w.heap.size, off := 0 }) n n]
    rw [World.size_alloc] at this
    exact this.alloc _
  have b2 : Blk W0 (w.heap.size + 1 + 1) 3 #[Value.int IntKind.i64 (n : Nat)] := by
    rw [← hW0]; have := Blk.new ((w.alloc (Obj.cells (madeCells #[Value.int IntKind.i64 0] n) 3)).alloc (Obj.cells #[Value.slice (some { block := w.heap.size, off := 0 }) n n] 58)) 3 #[Value.int IntKind.i64 (n : Nat)]
    rwa [World.size_alloc, World.size_alloc] at this
  have hb0 : Below w.heap.size w W0 := by
    rw [← hW0]; exact (((Below.refl _ w).alloc (Nat.le_refl _) _).alloc (by simp) _).alloc (by simp; omega) _
  have hs0 : W0.heap.size = w.heap.size + 3 := by rw [← hW0]; simp
  clear hW0 hmk
  rw [hg] at b0 b1 b2 hb0 hs0 ⊢
  refine wpIn_rangeS hdp hwf hro rfl (enters_of Tryd.func31 (by kernel_rfl) rfl)
    (places1_in n (g + 1 + 1) hn W0 (b2.cell 0)) (by rintro b rfl; omega) (fun _ h => h.elim) (fun _ => rfl)
    (fun k W => ∃ cur : Array Value, cur.size = n ∧ Blk W g 3 cur ∧ Blk W (g + 1) 58 #[Value.slice (some { block := g, off := 0 }) n n] ∧ Below g w W ∧
      ∀ j x, j < k → (inord n 0)[j]? = some x → cur[x]? = some (.int .i64 (j : Nat)))
    (fun _ _ => False)
    (fun k => [(17, .int .i64 (k : Nat)), (18, .int .i64 ((inord n 0).getD k 0 : Nat)), (6, .int .i64 (k : Nat)), (7, .int .i64 ((inord n 0).getD k 0 : Nat))])
    ?stab (fun _ _ _ h _ => h) ⟨_, by simp [madeCells], b0, b1, hb0, by omega⟩ ?assign ?body ?done (fun _ _ h _ => h.elim)
  case stab =>
    rintro k A B ⟨cur, hcs, hB0, hB1, hbl, hc⟩ hm
    refine ⟨cur, hcs, hB0.mod hm (by simp; omega), hB1.mod hm (by simp; omega), ?_, hc⟩
    exact hbl.trans (hm.below (by have := hB0.lt; omega) (by rintro k (h | h | h) <;> first | exact h.elim | omega))
  case assign =>
    intro l k hk A C hC
    simp only [placesX]
    gi_wp2
    exact hC
  case body =>
    rintro l k hk A ⟨cur, hcs, hB0, hB1, hbl, hc⟩ hsA
    have hkl : k < (inord n 0).length := by rw [inord_length]; exact hk
    obtain ⟨x, hx⟩ : ∃ x, (inord n 0)[k]? = some x := ⟨_, List.getElem?_eq_getElem hkl⟩
    have hxn : x < n := inord_lt (List.mem_of_getElem? hx)
    rw [show (inord n 0).getD k 0 = x by simp [List.getD, hx]]
    have hc1 : A.cell? ⟨g + 1, 0, none⟩ = some (.slice (some ⟨g, 0, none⟩) n n) := hB1.cell 0
    obtain ⟨vx, hcx⟩ : ∃ vx, A.cell? ⟨g, x, none⟩ = some vx := ⟨_, (hB0.cell x).trans (Array.getElem?_eq_getElem (show x < cur.size by omega))⟩
    have hfx : A.frozen? ⟨g, x, none⟩ = false := hB0.frozen x
    have hxi : (0 : Int) ≤ (x : Int) := by omega
    have hH := Lib.hid hx
    have hHc := Lib.hid hc
    have hHs := Lib.hid hcs
    clear hx hc hcs
    simp only [rt, List.foldl_cons, List.foldl_nil]
    gi_wp2
    refine ⟨(Mod.refl _ _).setCell (p := ⟨g, x, none⟩) (by simp; omega) _, _, ?_, hB0.set_ x _, hB1.far (p := ⟨g, x, none⟩) (by simp) _, hbl.setCell (p := ⟨g, x, none⟩) (Nat.le_refl _) _, ?_⟩
    · simpa using hHs.out
    · intro j y hj hy
      have hcs := hHs.out
      by_cases hjk : j = k
      · subst hjk
        rw [hH.out] at hy
        obtain rfl := Option.some.inj hy
        simp [hcs, hxn]
      · have hy' := hHc.out j y (by omega) hy
        have hne : x ≠ y := by
          intro e
          subst e
          have h1 := List.getElem?_eq_some_iff.1 hy
          have h2 := List.getElem?_eq_some_iff.1 hH.out
          have e1 := idx_inord h1.1
          have e2 := idx_inord h2.1
          rw [h1.2] at e1
          rw [h2.2] at e2
          exact hjk (e1.symm.trans e2)
        rw [Array.getElem?_setIfInBounds_ne hne]
        exact hy'
  case done =>
    rintro W ⟨cur, hcs, hB0, hB1, hbl, hc⟩ hD
    have hc1 : W.cell? ⟨g + 1, 0, none⟩ = some (.slice (some ⟨g, 0, none⟩) n n) := hB1.cell 0
    have hHc := Lib.hid hc
    have hHs := Lib.hid hcs
    clear hc hcs
    gi_wp2
    subst hg
    refine postM_ret2 rfl hD ⟨rfl, ?_, ?_⟩
    · have hcur : cur = ((ranks n).map fun k => Value.int .i64 (k : Nat)).toArray := by
        have hcs := hHs.out
        refine Array.ext (by simp [ranks_length, hcs]) fun i h1 h2 => ?_
        have hi : i < n := by omega
        have h := hHc.out _ i (ranks_lt hi) (by rw [List.getElem?_eq_getElem (by rw [inord_length]; exact ranks_lt hi), inord_idx hi])
        rw [Array.getElem?_eq_getElem h1] at h
        simp [Option.some.inj h, ranks_get hi]
      rw [← hcur]
      exact hB0.of (World.putObj_heap_other (by have := hB0.lt; omega))
    · exact hbl.trans ⟨rfl, rfl, rfl, by simp [World.putObj], fun k hk => World.putObj_heap_other (by omega)⟩
end Go.Proofs.YtolclahkfmplfaaDoor
