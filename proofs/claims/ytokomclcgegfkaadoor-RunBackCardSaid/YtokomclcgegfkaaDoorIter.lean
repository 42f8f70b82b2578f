/- A range over a function: what an iterator yields, the rule for the statement, and the end of a function that holds one. No program in sight. -/
import Derived.Test.YtokomclcgegfkaaDoorLib
import Derived.RangeFuncOwn
import Derived.RangeFuncLeaves
import Derived.OwnWalkIn
import Derived.TacticsInMore
import Derived.LoopIn
import Derived.LoopNIn
import Derived.Shelf.Abstract
import Derived.Shelf.RegionOpen
import Derived.ScopeJumps
import Derived.WalkMore
namespace Go.Proofs.YtokomclcgegfkaaDoor
open Go Go.RowKit Go.Shelf

/-- only blocks in S may have turned; new ones may have come -/
structure Mod (S : Nat → Prop) (w w' : World) : Prop where
  os : w'.os = w.os
  tape : w'.tape = w.tape
  output : w'.output = w.output
  size : w.heap.size ≤ w'.heap.size
  block : ∀ k, k < w.heap.size → ¬ S k → w'.heap[k]? = w.heap[k]?

section
variable {S T : Nat → Prop} {a b c w w' : World}
theorem Mod.refl (S : Nat → Prop) (w : World) : Mod S w w := ⟨rfl, rfl, rfl, Nat.le_refl _, fun _ _ _ => rfl⟩
theorem Mod.trans (h : Mod S a b) (k : Mod S b c) : Mod S a c :=
  ⟨k.os.trans h.os, k.tape.trans h.tape, k.output.trans h.output, Nat.le_trans h.size k.size, fun i hi hn => (k.block i (Nat.lt_of_lt_of_le hi h.size) hn).trans (h.block i hi hn)⟩
theorem Mod.mono (h : Mod S a b) (hs : ∀ k, k < a.heap.size → S k → T k) : Mod T a b := ⟨h.os, h.tape, h.output, h.size, fun i hi hn => h.block i hi fun hk => hn (hs i hi hk)⟩
theorem Mod.alloc (h : Mod S a w) (o : Obj) : Mod S a (w.alloc o) :=
  h.trans ⟨rfl, rfl, rfl, by simp, fun k hk _ => Below.heap_alloc _ _ _ hk⟩
theorem Mod.setCell (h : Mod S a w) {p : Addr} (hp : S p.block) (u : Value) : Mod S a (w.setCell p u) :=
  h.trans ⟨rfl, rfl, rfl, by simp [World.setCell], fun k hk hn => Below.heap_setCell _ _ _ _ (fun e => hn (e ▸ hp))⟩
theorem Mod.setNew (h : Mod S a w) {p : Addr} (hp : a.heap.size ≤ p.block) (u : Value) : Mod S a (w.setCell p u) :=
  ⟨h.os, h.tape, h.output, by simpa [World.setCell] using h.size, fun k hk hn => (Below.heap_setCell _ _ _ _ (by omega)).trans (h.block k hk hn)⟩
theorem Mod.drew (h : Mod S a w) : Mod S a w.drew := ⟨h.os, h.tape, h.output, h.size, h.block⟩
theorem Mod.drewN (h : Mod S a w) (n : Nat) : Mod S a (w.drewN n) := ⟨h.os, h.tape, h.output, h.size, h.block⟩
theorem Mod.ext (h : Mod S a w) (hb : Below w.heap.size w w') : Mod S a w' :=
  h.trans ⟨hb.os, hb.tape, hb.output, hb.size, fun k hk _ => hb.block k hk⟩
theorem Mod.of_ext (hb : Below w.heap.size w w') : Mod S w w' := (Mod.refl S w).ext hb
theorem Mod.of_below {B : Nat} (hb : Below B w w') : Mod (fun k => B ≤ k) w w' := ⟨hb.os, hb.tape, hb.output, hb.size, fun k _ hn => hb.block k (by omega)⟩
theorem Mod.grown {row : Option Nat} (h : Mod S a w) (hg : w.grownBy w' row) (hr : ∀ k, row = some k → S k ∨ a.heap.size ≤ k) : Mod S a w' :=
  ⟨hg.os.trans h.os, hg.tape.trans h.tape, hg.output.trans h.output, Nat.le_trans h.size hg.size, fun k hk hn => (hg.block k (Nat.lt_of_lt_of_le hk h.size) (fun e => by
    rcases hr k e.symm with hs | hs
    · exact hn hs
    · omega)).trans (h.block k hk hn)⟩
theorem Mod.below {B : Nat} (h : Mod S w w') (hB : B ≤ w.heap.size) (hs : ∀ k, S k → B ≤ k) : Below B w w' :=
  ⟨h.os, h.tape, h.output, h.size, fun k hk => h.block k (by omega) fun hsk => by have := hs k hsk; omega⟩
theorem Mod.cell (h : Mod S w w') {p : Addr} (hp : p.block < w.heap.size) (hn : ¬ S p.block) : w'.cell? p = w.cell? p := World.cell?_of_block (h.block _ hp hn)
theorem Mod.frozen (h : Mod S w w') {p : Addr} (hp : p.block < w.heap.size) (hn : ¬ S p.block) : w'.frozen? p = w.frozen? p := World.frozen?_of_block (h.block _ hp hn)
theorem Mod.putObj (h : Mod S a w) {l : Nat} (hl : S l) (o : Obj) : Mod S a (w.putObj l o) :=
  h.trans ⟨rfl, rfl, rfl, by simp [World.putObj], fun k hk hn => World.putObj_heap_other (fun e => hn (e ▸ hl))⟩
end

theorem Blk.mod {S : Nat → Prop} {w w' : World} {g : Nat} {t : TypeId} {cs : Array Value} (h : Blk w g t cs) (hm : Mod S w w') (hn : ¬ S g) : Blk w' g t cs := h.of (hm.block _ h.lt hn)
theorem Sl.mod {S : Nat → Prop} {w w' : World} {A : Option Addr} {xs : List Value} (h : Sl w A xs) (hm : Mod S w w') (hn : ∀ a, A = some a → ¬ S a.block) : Sl w' A xs := by
  rcases h with h | ⟨b, off, hA, hlt, hc⟩
  · exact .inl h
  · exact .inr ⟨b, off, hA, Nat.lt_of_lt_of_le hlt hm.size, fun j u hu => (hm.cell (p := ⟨b, off + j, none⟩) hlt (hn ⟨b, off, none⟩ hA)).trans (hc j u hu)⟩

/-- A call of g at a yield gives it, one by one, the arrays xs 0 .. xs (N - 1). K: the blocks that the iterator leans on, T: those that it may turn. -/
def Yields (F : Fence) (P : Program) (g : FuncId) (lb : Array Value) (N : Nat) (xs : Nat → Array Value) (K T : Nat → Prop) (w : World) : Prop :=
  ∀ (l : Nat) (I : Nat → World → Prop) (X : World → Prop) (W : World),
    w.heap.size ≤ W.heap.size → (∀ b, K b → W.heap[b]? = w.heap[b]?) →
    (∀ k A B, I k A → Mod T A B → I k B) → (∀ A B, X A → Mod T A B → X B) →
    (∀ k A, k < N → I k A → YieldAt F 0 P l (xs k) A fun e B =>
        (e = .returned (.bool true) ∧ I (k + 1) B ∧ A.heap.size ≤ B.heap.size ∧ ∀ b, K b → B.heap[b]? = A.heap[b]?) ∨ (e = .returned (.bool false) ∧ X B)) →
    I 0 W →
    CallsIn F 0 P g (#[.func (.yield l) #[] #[]] ++ lb) W fun e W' => (∃ v, e = .returned v) ∧ (I N W' ∨ X W')

/-- how the body of a round may be left -/
def rPost (B : Nat) (K : Nat → Prop) (In : World → Prop) (Ix : Code → World → Prop) (A : World) : Exit → Act → World → Prop
  | .normal, _, W => Mod (fun b => b ≠ B ∧ b ≠ B + 1 ∧ ¬ K b) A W ∧ In W
  | .ret, _, W => Mod (fun b => b ≠ B ∧ b ≠ B + 1) A W ∧ Ix .ret W
  | .exit id, _, W => Mod (fun b => b ≠ B ∧ b ≠ B + 1) A W ∧ Ix (.exit id) W
  | .goto t, _, W => Mod (fun b => b ≠ B ∧ b ≠ B + 1) A W ∧ Ix (.goto t) W
  | .panic _, _, _ => False
  | .outgrown, _, _ => False

theorem wpIn_range {F : Fence} {P : Program} {g : Operand} {ps : Array Tmp} {assign body : Code} {Q : Exit → Act → World → Prop} {a : Act} {w : World}
    (hd : F.depth = none) (hF : ∀ f, F.fn f) (hro : F.round = none)
    {gf : Nat} {lb : Array Value} (hg : a.eval g = .func (.func gf) #[] lb) (eg : ∀ args w, (callFunc gf args).run P w = .ok (.enter gf args) w)
    {N : Nat} {xs : Nat → Array Value} {K T : Nat → Prop} (hy : Yields F P gf lb N xs K T w) (hK : ∀ b, K b → b < w.heap.size) (hT : ∀ b, T b → b < w.heap.size)
    (hps : ∀ k, (xs k).size = ps.size)
    (I : Nat → World → Prop) (Ix : Code → World → Prop)
    (hI : ∀ k A B, I k A → Mod (fun b => T b ∨ b = w.heap.size ∨ b = w.heap.size + 1) A B → I k B)
    (hIx : ∀ c A B, Ix c A → Mod (fun b => T b ∨ b = w.heap.size ∨ b = w.heap.size + 1) A B → Ix c B)
    (h0 : I 0 w) (Ax : Nat → Act → World → Prop)
    (hAx : ∀ k a' A B, Ax k a' A → Mod (fun b => T b ∨ b = w.heap.size ∨ b = w.heap.size + 1) A B → Ax k a' B)
    (hassign : ∀ (l k : Nat), k < N → ∀ (A : World) (C : Act → World → Prop), I k A → w.heap.size + 2 ≤ A.heap.size →
      (∀ a' A', Mod (fun b => b ≠ w.heap.size ∧ b ≠ w.heap.size + 1 ∧ ¬ K b) A A' → I k A' → Ax k a' A' → C a' A') →
      assign.wpIn (F.inRound l) 0 P (Exit.then C (fun _ _ _ => False)) { tmps := (ps.zip (xs k)).foldl (fun t (p, v) => t.setIfInBounds p v) a.tmps, defers := [] } A)
    (hbody : ∀ (l k : Nat), k < N → ∀ (a' : Act) (A : World), I k A → Ax k a' A → w.heap.size + 2 ≤ A.heap.size →
      body.wpIn (F.inRound l) 0 P (rPost w.heap.size K (I (k + 1)) Ix A) a' A)
    (hdone : ∀ (W : World), I N W → W.heap[w.heap.size]? = some (.deferred (some [])) → Q .normal { a with defers := { target := .collected w.heap.size, args := #[] } :: a.defers } W)
    (hstop : ∀ (c : Code) (W : World), Ix c W → W.heap[w.heap.size]? = some (.deferred (some [])) → c.wpIn F 0 P Q { a with defers := { target := .collected w.heap.size, args := #[] } :: a.defers } W) :
    (Code.rangeFunc g ps assign body).wpIn F 0 P Q a w := by
  refine wpIn_rangeFunc ?_
  intro fn hfn
  rw [hro]
  obtain ⟨rec, hrec⟩ : ∃ rec : LoopState → Option Code → Loop, rec = fun st pe => { state := st, pending := pe, fn, tmps := a.tmps, params := ps, assign, body, defers := w.heap.size } := ⟨_, rfl⟩
  obtain ⟨W1, hW1⟩ : ∃ W1, (w.alloc (.deferred (some []))).alloc (.loop (rec .ready none)) = W1 := ⟨_, rfl⟩
  have hL1 : W1.heap[w.heap.size + 1]? = some (.loop (rec .ready none)) := by
    rw [← hW1]; have := World.alloc_heap_new (w.alloc (.deferred (some []))) (.loop (rec .ready none)); rwa [World.size_alloc] at this
  have hK1 : W1.heap[w.heap.size]? = some (.deferred (some [])) := by
    rw [← hW1]; exact (Below.heap_alloc _ _ _ (by simp)).trans (World.alloc_heap_new w _)
  have hm1 : ∀ S, Mod S w W1 := fun S => by rw [← hW1]; exact ((Mod.refl S w).alloc _).alloc _
  have hs1 : W1.heap.size = w.heap.size + 2 := by rw [← hW1]; simp
  refine ⟨w.heap.size + 1, [{ target := .collected w.heap.size, args := #[] }], W1, { target := .fn (.func gf) lb, args := #[.func (.yield (w.heap.size + 1)) #[] #[]] }, W1, gf,
    #[.func (.yield (w.heap.size + 1)) #[] #[]] ++ lb, W1, ?_, ?_, ?_, ?_, (fun h => by rw [hd] at h; cases h), ?_⟩
  · rw [← hW1, hrec]; exact run_enterLoop_outer _ _ _ _ _
  · simp only [resolve, hg]
    simp [go_sem]
  · intro f' _; exact hF _
  · simp [invoke, go_sem, eg]
  · have hTne : ∀ b, T b → b ≠ w.heap.size ∧ b ≠ w.heap.size + 1 := fun b hb => by have := hT b hb; omega
    have hKne : ∀ b, K b → b ≠ w.heap.size ∧ b ≠ w.heap.size + 1 := fun b hb => by have := hK b hb; omega
    refine (hy (w.heap.size + 1)
      (fun k W => I k W ∧ W.heap[w.heap.size + 1]? = some (.loop (rec .ready none)) ∧ W.heap[w.heap.size]? = some (.deferred (some [])))
      (fun W => ∃ c, Ix c W ∧ W.heap[w.heap.size + 1]? = some (.loop (rec .done (some c))) ∧ W.heap[w.heap.size]? = some (.deferred (some [])))
      W1 (by omega) (fun b hb => (hm1 (fun _ => False)).block b (hK b hb) (fun h => h))
      ?stab ?stabx ?round ⟨hI 0 _ _ h0 (hm1 _), hL1, hK1⟩).mono ?behind
    case stab =>
      rintro k A B ⟨hi, hl, hk⟩ hm
      refine ⟨hI _ _ _ hi (hm.mono fun _ _ h => .inl h), ?_, ?_⟩
      · exact (hm.block _ (Array.getElem?_eq_some_iff.1 hl).1 (fun h => (hTne _ h).2 rfl)).trans hl
      · exact (hm.block _ (Array.getElem?_eq_some_iff.1 hk).1 (fun h => (hTne _ h).1 rfl)).trans hk
    case stabx =>
      rintro A B ⟨c, hi, hl, hk⟩ hm
      refine ⟨c, hIx _ _ _ hi (hm.mono fun _ _ h => .inl h), ?_, ?_⟩
      · exact (hm.block _ (Array.getElem?_eq_some_iff.1 hl).1 (fun h => (hTne _ h).2 rfl)).trans hl
      · exact (hm.block _ (Array.getElem?_eq_some_iff.1 hk).1 (fun h => (hTne _ h).1 rfl)).trans hk
    case round =>
      rintro k A hk ⟨hi, hl, hD⟩
      have hlt : w.heap.size + 1 < A.heap.size := (Array.getElem?_eq_some_iff.1 hl).1
      have hyd := run_yield (P := P) (args := xs k) hl (by rw [hrec]; exact hps k)
      rw [hrec] at hyd
      refine ⟨fn, _, assign, body, hyd, roundIn_of_wpIn hfn (hassign _ k hk A _ hi (by omega) ?_)⟩
      clear hyd
      intro a' A1 hm hi1 hax
      have hl1 : A1.heap[w.heap.size + 1]? = some (.loop (rec .ready none)) := (hm.block _ hlt (fun h => h.2.1 rfl)).trans hl
      have hD1 : A1.heap[w.heap.size]? = some (.deferred (some [])) := (hm.block _ (by omega) (fun h => h.1 rfl)).trans hD
      have hlt1 : w.heap.size + 1 < A1.heap.size := (Array.getElem?_eq_some_iff.1 hl1).1
      refine ⟨_, run_beginRound hl1 (by rw [hrec]), ?_⟩
      obtain ⟨A2, hA2⟩ : ∃ A2, A1.putObj (w.heap.size + 1) (.loop { rec .ready none with state := .busy }) = A2 := ⟨_, rfl⟩
      rw [hA2]
      have hl2 : A2.heap[w.heap.size + 1]? = some (.loop { rec .ready none with state := .busy }) := by rw [← hA2]; exact World.putObj_heap_same hlt1
      have hD2 : A2.heap[w.heap.size]? = some (.deferred (some [])) := by rw [← hA2]; exact (World.putObj_heap_other (by omega)).trans hD1
      have hm2 : Mod (fun b => T b ∨ b = w.heap.size ∨ b = w.heap.size + 1) A1 A2 := by rw [← hA2]; exact (Mod.refl _ _).putObj (.inr (.inr rfl)) _
      have hk12 : ∀ b, K b → A2.heap[b]? = A1.heap[b]? := fun b hb => by rw [← hA2]; exact World.putObj_heap_other (hKne b hb).2
      have hs2 : A2.heap.size = A1.heap.size := by rw [← hA2]; simp [World.putObj]
      refine wpIn_mono (hbody _ k hk a' A2 (hI _ _ _ hi1 hm2) (hAx _ _ _ _ hax hm2) (by omega)) ?_
      have fin : ∀ (jump : Option Code) (W3 : World) (S : Nat → Prop), Mod S A2 W3 → ¬ S w.heap.size → ¬ S (w.heap.size + 1) →
          (Instr.endRound (w.heap.size + 1) jump).run P W3 = .ok (.bool jump.isNone) (W3.putObj (w.heap.size + 1) (.loop (rec (if jump.isNone then .ready else .done) jump))) ∧
          (W3.putObj (w.heap.size + 1) (.loop (rec (if jump.isNone then .ready else .done) jump))).heap[w.heap.size + 1]? = some (.loop (rec (if jump.isNone then .ready else .done) jump)) ∧
          (W3.putObj (w.heap.size + 1) (.loop (rec (if jump.isNone then .ready else .done) jump))).heap[w.heap.size]? = some (.deferred (some [])) := fun jump W3 S hm3 hn1 hn2 => by
        have hl3 := (hm3.block _ (by omega) hn2).trans hl2
        have hD3 := (hm3.block _ (by omega) hn1).trans hD2
        have := run_endRound (P := P) jump hl3
        rw [hrec] at this ⊢
        exact ⟨this, World.putObj_heap_same (Array.getElem?_eq_some_iff.1 hl3).1, (World.putObj_heap_other (by omega)).trans hD3⟩
      have mp : ∀ (W3 : World) (o : Obj), Mod (fun b => T b ∨ b = w.heap.size ∨ b = w.heap.size + 1) W3 (W3.putObj (w.heap.size + 1) o) := fun W3 o => (Mod.refl _ _).putObj (.inr (.inr rfl)) o
      rintro e a3 W3 hp
      cases e with
      | normal =>
        obtain ⟨hm3, hi3⟩ := hp
        obtain ⟨hr, hl4, hD4⟩ := fin none W3 _ hm3 (fun h => h.1 rfl) (fun h => h.2.1 rfl)
        refine ⟨_, _, hr, .inl ⟨rfl, ⟨hI _ _ _ hi3 (mp _ _), hl4, hD4⟩, ?_, fun b hb => ?_⟩⟩
        · have := hm.size; have := hm3.size; simp [World.putObj]; omega
        · have h1 := hm.block b (by have := hK b hb; omega) (fun h => h.2.2 hb)
          have h2 := hk12 b hb
          have h3 := hm3.block b (by have := hK b hb; omega) (fun h => h.2.2 hb)
          exact (World.putObj_heap_other (hKne b hb).2).trans (h3.trans (h2.trans h1))
      | ret =>
        obtain ⟨hm3, hi3⟩ := hp
        obtain ⟨hr, hl4, hD4⟩ := fin (some .ret) W3 _ hm3 (fun h => h.1 rfl) (fun h => h.2 rfl)
        exact ⟨_, _, hr, .inr ⟨rfl, .ret, hIx _ _ _ hi3 (mp _ _), hl4, hD4⟩⟩
      | exit id =>
        obtain ⟨hm3, hi3⟩ := hp
        obtain ⟨hr, hl4, hD4⟩ := fin (some (.exit id)) W3 _ hm3 (fun h => h.1 rfl) (fun h => h.2 rfl)
        exact ⟨_, _, hr, .inr ⟨rfl, .exit id, hIx _ _ _ hi3 (mp _ _), hl4, hD4⟩⟩
      | goto t =>
        obtain ⟨hm3, hi3⟩ := hp
        obtain ⟨hr, hl4, hD4⟩ := fin (some (.goto t)) W3 _ hm3 (fun h => h.1 rfl) (fun h => h.2 rfl)
        exact ⟨_, _, hr, .inr ⟨rfl, .goto t, hIx _ _ _ hi3 (mp _ _), hl4, hD4⟩⟩
      | panic ch => exact hp.elim
      | outgrown => exact hp.elim
    case behind =>
      have mp : ∀ (W3 : World) (o : Obj), Mod (fun b => T b ∨ b = w.heap.size ∨ b = w.heap.size + 1) W3 (W3.putObj (w.heap.size + 1) o) := fun W3 o => (Mod.refl _ _).putObj (.inr (.inr rfl)) o
      rintro e W2 ⟨⟨v, rfl⟩, (⟨hi, hl, hk⟩ | ⟨c, hi, hl, hk⟩)⟩
      · exact ⟨none, _, by have := run_endLoop (P := P) hl (by rw [hrec]; simp); rw [hrec] at this; exact this, hdone _ (hI _ _ _ hi (mp _ _)) ((World.putObj_heap_other (by omega)).trans hk)⟩
      · exact ⟨some c, _, by have := run_endLoop (P := P) hl (by rw [hrec]; simp); rw [hrec] at this; exact this, hstop c _ (hIx _ _ _ hi (mp _ _)) ((World.putObj_heap_other (by omega)).trans hk)⟩

/-- the temporaries with some of them set -/
def rt (t : Array Value) (l : List (Tmp × Value)) : Array Value := l.foldl (fun t p => t.setIfInBounds p.1 p.2) t

/-- the rule where the assignments to the loop's left sides lay no block -/
theorem wpIn_rangeS {F : Fence} {P : Program} {g : Operand} {ps : Array Tmp} {assign body : Code} {Q : Exit → Act → World → Prop} {a : Act} {w : World}
    (hd : F.depth = none) (hF : ∀ f, F.fn f) (hro : F.round = none)
    {gf : Nat} {lb : Array Value} (hg : a.eval g = .func (.func gf) #[] lb) (eg : ∀ args w, (callFunc gf args).run P w = .ok (.enter gf args) w)
    {N : Nat} {xs : Nat → Array Value} {K T : Nat → Prop} (hy : Yields F P gf lb N xs K T w) (hK : ∀ b, K b → b < w.heap.size) (hT : ∀ b, T b → b < w.heap.size)
    (hps : ∀ k, (xs k).size = ps.size)
    (I : Nat → World → Prop) (Ix : Code → World → Prop) (sets : Nat → List (Tmp × Value))
    (hI : ∀ k A B, I k A → Mod (fun b => T b ∨ b = w.heap.size ∨ b = w.heap.size + 1) A B → I k B)
    (hIx : ∀ c A B, Ix c A → Mod (fun b => T b ∨ b = w.heap.size ∨ b = w.heap.size + 1) A B → Ix c B)
    (h0 : I 0 w)
    (hassign : ∀ (l k : Nat), k < N → ∀ (A : World) (C : Act → World → Prop), C { tmps := rt a.tmps (sets k), defers := [] } A →
      assign.wpIn (F.inRound l) 0 P (Exit.then C (fun _ _ _ => False)) { tmps := (ps.zip (xs k)).foldl (fun t (p, v) => t.setIfInBounds p v) a.tmps, defers := [] } A)
    (hbody : ∀ (l k : Nat), k < N → ∀ (A : World), I k A → w.heap.size + 2 ≤ A.heap.size →
      body.wpIn (F.inRound l) 0 P (rPost w.heap.size K (I (k + 1)) Ix A) { tmps := rt a.tmps (sets k), defers := [] } A)
    (hdone : ∀ (W : World), I N W → W.heap[w.heap.size]? = some (.deferred (some [])) → Q .normal { a with defers := { target := .collected w.heap.size, args := #[] } :: a.defers } W)
    (hstop : ∀ (c : Code) (W : World), Ix c W → W.heap[w.heap.size]? = some (.deferred (some [])) → c.wpIn F 0 P Q { a with defers := { target := .collected w.heap.size, args := #[] } :: a.defers } W) :
    (Code.rangeFunc g ps assign body).wpIn F 0 P Q a w :=
  wpIn_range hd hF hro hg eg hy hK hT hps I Ix hI hIx h0 (fun k a' _ => a' = { tmps := rt a.tmps (sets k), defers := [] }) (fun _ _ _ _ h _ => h)
    (fun l k hk A C hi _ hC => hassign l k hk A C (hC _ _ (Mod.refl _ _) hi rfl))
    (fun l k hk a' A hi ha hs => by subst ha; exact hbody l k hk A hi hs) hdone hstop

/-! ### a scope with a label, in a fence -/
section
variable {F : Fence} {P : Program} {b : Frame} {a : Act} {k : List Item} {cs : List Frame} {w : World} {Q : Exit → Act → World → Prop}
theorem stepR_scope {c : Code} : step P (lone (b.atR a (.code (.scope c) :: k)) cs w) = .next (lone (b.atR a (.code c :: .inScope c :: k)) cs w) :=
  step_lone_go (by simp [stepG, stepG.exec, Frame.atR])
theorem stepR_inScope {c : Code} : step P (lone (b.atR a (.inScope c :: k)) cs w) = .next (lone (b.atR a k) cs w) :=
  step_lone_go (by simp [stepG, stepG.exec, Frame.atR])

theorem arrives_scope {c : Code} {e : Exit} {a₁ : Act} {w₁ : World} {m : Machine} {n : Nat} (hb : F.fn b.fn) (hr : F.room (cs.length + 1 + n)) (hne : ∀ l, e ≠ .goto l)
    (harr : ArrivesIn (Machine.fenced P F) P m b (.inScope c :: k) cs e a₁ w₁) : ArrivesIn (Machine.fenced P F) P m b k cs e a₁ w₁ := by
  cases e with
  | normal => exact StepsIn.trans harr (.one (fenced_calm hb hr rfl) stepR_inScope)
  | exit id =>
    have hx : exitTo id (.inScope c :: k) = exitTo id k := by simp [exitTo]
    exact ⟨fun k' hk => harr.1 k' (by rw [hx]; exact hk), fun hr' hk => let ⟨k₁, h1, h2⟩ := harr.2 hr' (by rw [hx]; exact hk); ⟨k₁, h1, h2⟩⟩
  | goto l => exact absurd rfl (hne l)
  | ret => exact harr
  | panic ch => exact harr
  | outgrown => exact harr

/-- a scope in which the run jumps to one label: J holds at every jump, and a measure goes down -/
theorem wpIn_scope_jumps {n : Nat} {c rest : Code} (l : Nat) (J : Act → World → Prop) (μ : Act → World → Nat) (hf : findLabel c l = some rest)
    (first : c.wpIn F n P (Exit.jump l J Q) a w)
    (pass : ∀ a w, J a w → rest.wpIn F n P (Exit.jump l (fun a' w' => J a' w' ∧ μ a' w' < μ a w) Q) a w) : (Code.scope c).wpIn F n P Q a w := by
  intro b k cs hro hb hr
  have h0 : (lone (b.atR a (.code (.scope c) :: k)) cs w).fenced P F := fenced_calm hb hr rfl
  have hg : gotoIn l (.inScope c :: k) = some (.code rest :: .inScope c :: k) := by simp [gotoIn, hf]
  have key : ∀ m a w, μ a w = m → J a w → ∃ e a' w', Q e a' w' ∧ ArrivesIn (Machine.fenced P F) P (lone (b.atR a (.code rest :: .inScope c :: k)) cs w) b k cs e a' w' := by
    intro m
    induction m using Nat.strongRecOn with
    | _ m ih =>
      intro a w hn hJ
      obtain ⟨e, a₁, w₁, hq, harr⟩ := pass a w hJ b (.inScope c :: k) cs hro hb hr
      cases e with
      | goto l' =>
        obtain ⟨rfl, hJ', hlt⟩ := hq
        obtain ⟨e₂, a₂, w₂, hq₂, harr₂⟩ := ih _ (by omega) a₁ w₁ rfl hJ'
        exact ⟨e₂, a₂, w₂, hq₂, .of_steps (harr.1 _ hg) harr₂⟩
      | normal => exact ⟨_, a₁, w₁, hq, arrives_scope hb hr (fun _ h => by cases h) harr⟩
      | exit id => exact ⟨_, a₁, w₁, hq, arrives_scope hb hr (fun _ h => by cases h) harr⟩
      | ret => exact ⟨_, a₁, w₁, hq, arrives_scope hb hr (fun _ h => by cases h) harr⟩
      | panic ch => exact ⟨_, a₁, w₁, hq, arrives_scope hb hr (fun _ h => by cases h) harr⟩
      | outgrown => exact ⟨_, a₁, w₁, hq, arrives_scope hb hr (fun _ h => by cases h) harr⟩
  obtain ⟨e, a₁, w₁, hq, harr⟩ := first b (.inScope c :: k) cs hro hb hr
  cases e with
  | goto l' =>
    obtain ⟨rfl, hJ'⟩ := hq
    obtain ⟨e₂, a₂, w₂, hq₂, harr₂⟩ := key _ a₁ w₁ rfl hJ'
    exact ⟨e₂, a₂, w₂, hq₂, .of_steps (.head h0 stepR_scope (harr.1 _ hg)) harr₂⟩
  | normal => exact ⟨_, a₁, w₁, hq, .of_steps (.one h0 stepR_scope) (arrives_scope hb hr (fun _ h => by cases h) harr)⟩
  | exit id => exact ⟨_, a₁, w₁, hq, .of_steps (.one h0 stepR_scope) (arrives_scope hb hr (fun _ h => by cases h) harr)⟩
  | ret => exact ⟨_, a₁, w₁, hq, .of_steps (.one h0 stepR_scope) (arrives_scope hb hr (fun _ h => by cases h) harr)⟩
  | panic ch => exact ⟨_, a₁, w₁, hq, .of_steps (.one h0 stepR_scope) (arrives_scope hb hr (fun _ h => by cases h) harr)⟩
  | outgrown => exact ⟨_, a₁, w₁, hq, .of_steps (.one h0 stepR_scope) (arrives_scope hb hr (fun _ h => by cases h) harr)⟩

theorem wpIn_scope_straight {n : Nat} {c : Code} (h : c.wpIn F n P (Exit.noGoto Q) a w) : (Code.scope c).wpIn F n P Q a w := by
  intro b k cs hro hb hr
  have h0 : (lone (b.atR a (.code (.scope c) :: k)) cs w).fenced P F := fenced_calm hb hr rfl
  obtain ⟨e, a₁, w₁, hq, harr⟩ := h b (.inScope c :: k) cs hro hb hr
  cases e with
  | goto l' => exact hq.elim
  | normal => exact ⟨_, a₁, w₁, hq, .of_steps (.one h0 stepR_scope) (arrives_scope hb hr (fun _ h => by cases h) harr)⟩
  | exit id => exact ⟨_, a₁, w₁, hq, .of_steps (.one h0 stepR_scope) (arrives_scope hb hr (fun _ h => by cases h) harr)⟩
  | ret => exact ⟨_, a₁, w₁, hq, .of_steps (.one h0 stepR_scope) (arrives_scope hb hr (fun _ h => by cases h) harr)⟩
  | panic ch => exact ⟨_, a₁, w₁, hq, .of_steps (.one h0 stepR_scope) (arrives_scope hb hr (fun _ h => by cases h) harr)⟩
  | outgrown => exact ⟨_, a₁, w₁, hq, .of_steps (.one h0 stepR_scope) (arrives_scope hb hr (fun _ h => by cases h) harr)⟩
end

/-- the end of a function that has held one range over a function: one result -/
theorem postM_ret1 {F : Fence} {P : Program} {fn : Func} {R : Ending → World → Prop} {tmps : Array Value} {D t : Nat} {w : World}
    (h : fn.results = #[.tmp t]) (hD : w.heap[D]? = some (.deferred (some []))) (hR : R (.returned (tmps.getD t undef)) (w.putObj D (.deferred none))) :
    bodyPostM F 0 P fn R .ret { tmps := tmps, defers := [{ target := .collected D, args := #[] }] } w :=
  ⟨by simp, .inl ⟨_, _, rfl, run_takeDeferred hD, ⟨_, results_tmp h _ _ _, hR⟩⟩⟩
theorem postM_ret2 {F : Fence} {P : Program} {fn : Func} {R : Ending → World → Prop} {tmps : Array Value} {D t u : Nat} {w : World}
    (h : fn.results = #[.tmp t, .tmp u]) (hD : w.heap[D]? = some (.deferred (some []))) (hR : R (.returned (.tuple #[tmps.getD t undef, tmps.getD u undef])) (w.putObj D (.deferred none))) :
    bodyPostM F 0 P fn R .ret { tmps := tmps, defers := [{ target := .collected D, args := #[] }] } w :=
  ⟨by simp, .inl ⟨_, _, rfl, run_takeDeferred hD, ⟨_, results_tmp2 h _ _ _, hR⟩⟩⟩
/-- and where it leaves without having come to one -/
theorem postM_plain1 {F : Fence} {P : Program} {fn : Func} {R : Ending → World → Prop} {tmps : Array Value} {t : Nat} {w : World}
    (h : fn.results = #[.tmp t]) (hR : R (.returned (tmps.getD t undef)) w) : bodyPostM F 0 P fn R .ret { tmps := tmps, defers := [] } w :=
  ⟨_, results_tmp h _ _ _, hR⟩
theorem postM_plain2 {F : Fence} {P : Program} {fn : Func} {R : Ending → World → Prop} {tmps : Array Value} {t u : Nat} {w : World}
    (h : fn.results = #[.tmp t, .tmp u]) (hR : R (.returned (.tuple #[tmps.getD t undef, tmps.getD u undef])) w) : bodyPostM F 0 P fn R .ret { tmps := tmps, defers := [] } w :=
  ⟨_, results_tmp2 h _ _ _, hR⟩
theorem calls_of_in {_F : Fence} {P : Program} {f : FuncId} {args : Array Value} {w : World} {R : Ending → World → Prop} (h : CallsIn Fence.wide 0 P f args w R) : Calls P f args w R := callsIn_wide.1 h
end Go.Proofs.YtokomclcgegfkaaDoor
