/- Lib Iter Eytz: texts of the claim, in this order. -/
import Derived.WalkKit
import Derived.WalkSpells
import Derived.Deep.QuietTactic
import Derived.BigQuiet
import Derived.Lib.Hide
import Derived.Laws.OwnMore
import Derived.Laws.MakeOwn
import Derived.Laws.Entries
import Derived.OwnWalk
import Derived.RangeFuncOwn
import Derived.RangeFuncLeaves
import Derived.OwnWalkIn
import Derived.TacticsInMore
import Derived.LoopIn
import Derived.LoopNIn
import Derived.Shelf.Abstract
import Derived.Shelf.RegionOpen
import Derived.ScopeJumps
import Derived.WalkMore
/- Words and small laws on memory that all proofs of this seat use; no program in sight. -/
namespace Go.Proofs.YthbppblmecdekaaDoor
open Go Go.RowKit

/-- an entry of a run, as data -/
structure Ent where
  key : Int
  val : Int
  dead : Bool
  deriving DecidableEq

/-- a pair, as data -/
structure Pr where
  key : Int
  val : Int
  deriving DecidableEq

def Ent.cells (e : Ent) : List Value := [.int .i64 e.key, .int .i64 e.val, .bool e.dead]
def Pr.cells (e : Pr) : List Value := [.int .i64 e.key, .int .i64 e.val]

/-- the slice's address A reads, in w, as these cells -/
def Sl (w : World) (A : Option Addr) (xs : List Value) : Prop :=
  xs = [] ∨ ∃ b off, A = some ⟨b, off, none⟩ ∧ b < w.heap.size ∧ ∀ j u, xs[j]? = some u → w.cell? ⟨b, off + j, none⟩ = some u

theorem Sl.below {w w' : World} {A : Option Addr} {xs : List Value} (h : Sl w A xs) (hb : Below w.heap.size w w') : Sl w' A xs := by
  rcases h with h | ⟨b, off, hA, hlt, hc⟩
  · exact .inl h
  · exact .inr ⟨b, off, hA, Nat.lt_of_lt_of_le hlt hb.size, fun j u hu => (hb.cell (p := ⟨b, off + j, none⟩) hlt).trans (hc j u hu)⟩

theorem flat_get {α : Type} (enc : α → List Value) (s : Nat) (hs : ∀ x, (enc x).length = s) (l : List α) (i j : Nat) (hi : i < l.length) (hj : j < s) :
    (l.flatMap enc)[i * s + j]? = (enc (l[i]'hi))[j]? := by
  induction l generalizing i with
  | nil => simp at hi
  | cons x l ih =>
    rw [List.flatMap_cons]
    cases i with
    | zero => rw [List.getElem?_append_left (by rw [hs]; omega)]; simp
    | succ i =>
      have : (i + 1) * s + j = s + (i * s + j) := by rw [Nat.succ_mul]; omega
      rw [this, List.getElem?_append_right (by rw [hs]; omega), hs]
      have : s + (i * s + j) - s = i * s + j := by omega
      rw [this, ih i (by simpa using hi)]
      rfl

theorem flat_length {α : Type} (enc : α → List Value) (s : Nat) (hs : ∀ x, (enc x).length = s) (l : List α) : (l.flatMap enc).length = l.length * s := by
  induction l with
  | nil => simp
  | cons x l ih => rw [List.flatMap_cons, List.length_append, hs, ih, List.length_cons, Nat.succ_mul]; omega

theorem Ent.cells_length (e : Ent) : e.cells.length = 3 := rfl
theorem Pr.cells_length (e : Pr) : e.cells.length = 2 := rfl

/-- element i of a slice of entries -/
theorem Sl.ent {w : World} {A : Option Addr} {l : List Ent} (h : Sl w A (l.flatMap Ent.cells)) (i : Nat) (hi : i < l.length) :
    ∃ b off, A = some ⟨b, off, none⟩ ∧ b < w.heap.size ∧ w.cell? ⟨b, off + i * 3, none⟩ = some (.int .i64 (l[i]'hi).key) ∧
      w.cell? ⟨b, off + i * 3 + 1, none⟩ = some (.int .i64 (l[i]'hi).val) ∧ w.cell? ⟨b, off + i * 3 + 2, none⟩ = some (.bool (l[i]'hi).dead) := by
  rcases h with h | ⟨b, off, hA, hlt, hc⟩
  · have := flat_length Ent.cells 3 Ent.cells_length l
    rw [h] at this
    simp at this
    omega
  · refine ⟨b, off, hA, hlt, ?_, ?_, ?_⟩
    · exact hc _ _ ((flat_get Ent.cells 3 Ent.cells_length l i 0 hi (by omega)).trans rfl)
    · exact hc _ _ ((flat_get Ent.cells 3 Ent.cells_length l i 1 hi (by omega)).trans rfl)
    · exact hc _ _ ((flat_get Ent.cells 3 Ent.cells_length l i 2 hi (by omega)).trans rfl)

theorem Sl.pr {w : World} {A : Option Addr} {l : List Pr} (h : Sl w A (l.flatMap Pr.cells)) (i : Nat) (hi : i < l.length) :
    ∃ b off, A = some ⟨b, off, none⟩ ∧ b < w.heap.size ∧ w.cell? ⟨b, off + i * 2, none⟩ = some (.int .i64 (l[i]'hi).key) ∧
      w.cell? ⟨b, off + i * 2 + 1, none⟩ = some (.int .i64 (l[i]'hi).val) := by
  rcases h with h | ⟨b, off, hA, hlt, hc⟩
  · have := flat_length Pr.cells 2 Pr.cells_length l
    rw [h] at this
    simp at this
    omega
  · refine ⟨b, off, hA, hlt, ?_, ?_⟩
    · exact hc _ _ ((flat_get Pr.cells 2 Pr.cells_length l i 0 hi (by omega)).trans rfl)
    · exact hc _ _ ((flat_get Pr.cells 2 Pr.cells_length l i 1 hi (by omega)).trans rfl)

def intV (n : Int) : Value := .int .i64 n
def natV (n : Nat) : Value := .int .i64 (n : Int)

/-- a slice of one-cell elements -/
theorem Sl.one {α : Type} {w : World} {A : Option Addr} {f : α → Value} {l : List α} (h : Sl w A (l.map f)) (i : Nat) (hi : i < l.length) :
    ∃ b off, A = some ⟨b, off, none⟩ ∧ b < w.heap.size ∧ w.cell? ⟨b, off + i, none⟩ = some (f (l[i]'hi)) := by
  rcases h with h | ⟨b, off, hA, hlt, hc⟩
  · have : (l.map f).length = 0 := by rw [h]; rfl
    simp at this
    subst this
    simp at hi
  · exact ⟨b, off, hA, hlt, hc i _ (by rw [List.getElem?_map, List.getElem?_eq_getElem hi]; rfl)⟩

/-- the same, read in a later world: the block lies below the elder heap's end -/
theorem Sl.entB {w w' : World} {A : Option Addr} {l : List Ent} (h : Sl w A (l.flatMap Ent.cells)) (hb : Below w.heap.size w w') (i : Nat) (hi : i < l.length) :
    ∃ b off, A = some ⟨b, off, none⟩ ∧ b < w.heap.size ∧ w'.cell? ⟨b, off + i * 3, none⟩ = some (.int .i64 (l[i]'hi).key) ∧
      w'.cell? ⟨b, off + i * 3 + 1, none⟩ = some (.int .i64 (l[i]'hi).val) ∧ w'.cell? ⟨b, off + i * 3 + 2, none⟩ = some (.bool (l[i]'hi).dead) := by
  obtain ⟨b, off, hA, hlt, c1, c2, c3⟩ := h.ent i hi
  exact ⟨b, off, hA, hlt, (hb.cell (p := ⟨b, _, none⟩) hlt).trans c1, (hb.cell (p := ⟨b, _, none⟩) hlt).trans c2, (hb.cell (p := ⟨b, _, none⟩) hlt).trans c3⟩
theorem Sl.prB {w w' : World} {A : Option Addr} {l : List Pr} (h : Sl w A (l.flatMap Pr.cells)) (hb : Below w.heap.size w w') (i : Nat) (hi : i < l.length) :
    ∃ b off, A = some ⟨b, off, none⟩ ∧ b < w.heap.size ∧ w'.cell? ⟨b, off + i * 2, none⟩ = some (.int .i64 (l[i]'hi).key) ∧
      w'.cell? ⟨b, off + i * 2 + 1, none⟩ = some (.int .i64 (l[i]'hi).val) := by
  obtain ⟨b, off, hA, hlt, c1, c2⟩ := h.pr i hi
  exact ⟨b, off, hA, hlt, (hb.cell (p := ⟨b, _, none⟩) hlt).trans c1, (hb.cell (p := ⟨b, _, none⟩) hlt).trans c2⟩
theorem Sl.oneB {α : Type} {w w' : World} {A : Option Addr} {f : α → Value} {l : List α} (h : Sl w A (l.map f)) (hb : Below w.heap.size w w') (i : Nat) (hi : i < l.length) :
    ∃ b off, A = some ⟨b, off, none⟩ ∧ b < w.heap.size ∧ w'.cell? ⟨b, off + i, none⟩ = some (f (l[i]'hi)) := by
  obtain ⟨b, off, hA, hlt, c1⟩ := h.one i hi
  exact ⟨b, off, hA, hlt, (hb.cell (p := ⟨b, _, none⟩) hlt).trans c1⟩

/-- block g is just the cells cs, none frozen -/
def Blk (w : World) (g : Nat) (t : TypeId) (cs : Array Value) : Prop := w.heap[g]? = some (.cells cs t (0, 0))

section
variable {w w' : World} {g : Nat} {t : TypeId} {cs : Array Value}
theorem Blk.lt (h : Blk w g t cs) : g < w.heap.size := by
  rcases Nat.lt_or_ge g w.heap.size with hlt | hge
  · exact hlt
  · unfold Blk at h; rw [Array.getElem?_eq_none hge] at h; cases h
theorem Blk.cell (h : Blk w g t cs) (i : Nat) : w.cell? ⟨g, i, none⟩ = cs[i]? := cell_of_row w g i cs t (0, 0) h
theorem Blk.frozen (h : Blk w g t cs) (i : Nat) : w.frozen? ⟨g, i, none⟩ = false := by
  unfold Blk at h
  simp [World.frozen?, h]
theorem Blk.new (w : World) (t : TypeId) (cs : Array Value) : Blk (w.alloc (.cells cs t)) w.heap.size t cs := heap_alloc_new w _
theorem Blk.drewN (h : Blk w g t cs) (n : Nat) : Blk (w.drewN n) g t cs := h
theorem Blk.alloc (h : Blk w g t cs) (o : Obj) : Blk (w.alloc o) g t cs := (Below.heap_alloc w o g h.lt).trans h
theorem Blk.set_ (h : Blk w g t cs) (i : Nat) (u : Value) : Blk (w.setCell ⟨g, i, none⟩ u) g t (cs.setIfInBounds i u) := by
  unfold Blk at h ⊢
  simp [World.setCell, Array.getElem?_modify, h]
theorem Blk.far (h : Blk w g t cs) {p : Addr} (hp : g ≠ p.block) (u : Value) : Blk (w.setCell p u) g t cs := (Below.heap_setCell w p u g hp).trans h
theorem Blk.of (h : Blk w g t cs) (he : w'.heap[g]? = w.heap[g]?) : Blk w' g t cs := he.trans h
theorem Blk.below {B : Nat} (h : Blk w g t cs) (hb : Below B w w') (hg : g < B) : Blk w' g t cs := (hb.block g hg).trans h
theorem Blk.sl (h : Blk w g t cs) (o : Nat) (xs : List Value) (hx : ∀ j u, xs[j]? = some u → cs[o + j]? = some u) : Sl w (some ⟨g, o, none⟩) xs :=
  .inr ⟨g, o, rfl, h.lt, fun j u hu => (h.cell _).trans (hx j u hu)⟩
end

/-! ### a slice of the call's own -/
section
variable {w : World} {B B' s n c : Nat} {e : TypeId} {A : Option Addr} {v : Value} {xs : List Value}
theorem own_form (h : w.ownsRow B e s v n xs) : ∃ A c, v = .slice A n c ∧ n ≤ c ∧ c ≤ maxLen := by
  rcases h.2 with ⟨rfl, rfl⟩ | ⟨g, cap, cur, rfl, _, _, hn, hm, _⟩
  · exact ⟨none, 0, rfl, Nat.le_refl _, Nat.zero_le _⟩
  · exact ⟨_, cap, rfl, hn, hm⟩
theorem own_sl (h : w.ownsRow B e s (.slice A n c) n xs) : Sl w A xs := by
  rcases h.2 with ⟨hv, hn⟩ | ⟨g, cap, cur, hv, _, hg, _, _, _, ht⟩
  · left; have := h.1; rw [hn] at this; exact List.eq_nil_of_length_eq_zero (by simpa using this)
  · obtain ⟨rfl, rfl⟩ : A = some ⟨g, 0, none⟩ ∧ c = cap := by simpa using hv
    refine .inr ⟨g, 0, rfl, (Array.getElem?_eq_some_iff.1 hg).1, fun j u hu => ?_⟩
    rw [Nat.zero_add, cell_of_row w g j cur e (0, 0) hg]
    rw [← ht, List.getElem?_take] at hu
    split at hu
    · simpa using hu
    · cases hu
theorem own_base (h : w.ownsRow B e s (.slice A n c) n xs) : ∀ a, A = some a → B ≤ a.block := by
  intro a ha
  exact (h.lt a.block (by simp [Value.ownBlock, ha])).1
theorem own_mono (h : w.ownsRow B e s v n xs) (hB : B' ≤ B) : w.ownsRow B' e s v n xs := by
  refine ⟨h.1, ?_⟩
  rcases h.2 with h2 | ⟨g, cap, cur, hv, hg, r⟩
  · exact .inl h2
  · exact .inr ⟨g, cap, cur, hv, by omega, r⟩
theorem own_below {w' : World} (h : w.ownsRow B e s v n xs) (hb : Below w.heap.size w w') : w'.ownsRow B e s v n xs := by
  refine ⟨h.1, ?_⟩
  rcases h.2 with h2 | ⟨g, cap, cur, hv, hg, hh, r⟩
  · exact .inl h2
  · exact .inr ⟨g, cap, cur, hv, hg, (hb.block g (Array.getElem?_eq_some_iff.1 hh).1).trans hh, r⟩
theorem own_far {p : Addr} (h : w.ownsRow B e s v n xs) (hp : v.ownBlock ≠ some p.block) (u : Value) : (w.setCell p u).ownsRow B e s v n xs := by
  refine ⟨h.1, ?_⟩
  rcases h.2 with h2 | ⟨g, cap, cur, rfl, hg, hh, r⟩
  · exact .inl h2
  · exact .inr ⟨g, cap, cur, rfl, hg, (Below.heap_setCell w p u g (fun e => hp (by simp [Value.ownBlock, e]))).trans hh, r⟩
/-- what is owned reads as a row: the block, whole -/
theorem own_blk (h : w.ownsRow B e s v n xs) (hn : 0 < n) : ∃ g cap cur, v = .slice (some ⟨g, 0, none⟩) n cap ∧ B ≤ g ∧ Blk w g e cur ∧ n ≤ cap ∧ cap ≤ maxLen ∧ cur.size = cap * s ∧ cur.toList.take (n * s) = xs := by
  rcases h.2 with ⟨_, rfl⟩ | h2
  · omega
  · exact h2
end

section
variable {P : Program} (w : World)
theorem run_append_nilsrc (base : Nat) (t ty e : TypeId) (i : TypeInfo) (size : Nat) (ht : P.underlying t = some (.slice e)) (hi : P.info? e = some i)
    (v : Value) (n : Nat) (xs : List Value) (hown : w.ownsRow base e size v n xs) (A : Option Addr) (c : Nat) : (Builtin.append_ #[t, t] ty #[v, .slice A 0 c]).run P w = .ok v w := by
  cases A with
  | none =>
    rcases hown.2 with ⟨rfl, rfl⟩ | ⟨g, cap, cur, rfl, _, _, hnc, _⟩
    · simp [Builtin.append_, run_underlying ht, sizeOf, typeInfo, hi, Builtin.lenOf, Builtin.firstCells]
    · simp [Builtin.append_, run_underlying ht, sizeOf, typeInfo, hi, Builtin.lenOf, Builtin.firstCells, hnc, storeCells]
  | some a =>
    rcases hown.2 with ⟨rfl, rfl⟩ | ⟨g, cap, cur, rfl, _, _, hnc, _⟩
    · simp [Builtin.append_, run_underlying ht, sizeOf, typeInfo, hi, Builtin.lenOf, Builtin.firstCells, loadCells, loadCellsFrom]
    · simp [Builtin.append_, run_underlying ht, sizeOf, typeInfo, hi, Builtin.lenOf, Builtin.firstCells, hnc, storeCells, loadCells, loadCellsFrom]

/-- append onto a row of the call's own, whatever slice it is that is appended -/
theorem run_append_sl (base : Nat) (t ty e : TypeId) (i : TypeInfo) (z : Value) (size bytes : Nat) (ht : P.underlying t = some (.slice e)) (hi : P.info? e = some i) (hz : i.zero = some z)
    (hsize : i.size = size) (hby : i.bytes = bytes) (hzs : z.cells.size = size) (hsz : 0 < size)
    (v : Value) (n : Nat) (xs : List Value) (hown : w.ownsRow base e size v n xs)
    (A : Option Addr) (m c : Nat) (news : List Value) (hr : Sl w A news) (hl : news.length = m * size) (h1 : ∀ u ∈ news, u.oneCell' = true)
    (h63 : n + m ≤ maxLen) (hbytes : (n + m) * bytes ≤ 140737488355328) (hbase : base ≤ w.heap.size) :
    ∃ v' w', (Builtin.append_ #[t, t] ty #[v, .slice A m c]).run P w = .ok v' w' ∧ w'.ownsRow base e size v' (n + m) (xs ++ news) ∧ w.grownBy w' v.ownBlock := by
  by_cases hm : m = 0
  · subst hm
    have hn : news = [] := List.eq_nil_of_length_eq_zero (by simpa using hl)
    subst hn
    exact ⟨v, w, run_append_nilsrc w base t ty e i size ht hi v n xs hown A c, by simpa using hown, World.grownBy.refl w _⟩
  · rcases hr with hr | ⟨b, off, rfl, hlt, hc⟩
    · subst hr
      rw [List.length_nil] at hl
      have := Nat.mul_pos (Nat.pos_of_ne_zero hm) hsz
      omega
    · obtain ⟨v', w', hrun, h2, h3, _⟩ := run_append_own (P := P) w base t ty e i z size bytes ht hi hz hsize hby hzs hsz v n xs hown ⟨b, off, none⟩ m c news hl
        (fun j u hu => by rw [Addr.add_lit]; exact hc j u hu) h1 h63 hbytes hbase
      exact ⟨v', w', hrun, h2, h3⟩

theorem wpList_append_sl {ops : Array Oper} {rest : List Oper} {o : Oper} {a : Act} {Q : Exit → Act → World → Prop} (hgd : o.guard = none) (s x : Operand) (t : TypeId)
    (ho : o.op = .call { callee := .builtin .append, args := #[s, x], argTypes := #[t, t] })
    (base : Nat) (e : TypeId) (i : TypeInfo) (z : Value) (size bytes : Nat) (ht : P.underlying t = some (.slice e)) (hi : P.info? e = some i) (hz : i.zero = some z)
    (hsize : i.size = size) (hby : i.bytes = bytes) (hzs : z.cells.size = size) (hsz : 0 < size)
    (v : Value) (n : Nat) (xs : List Value) (hs : a.eval s = v) (hown : w.ownsRow base e size v n xs)
    (A : Option Addr) (m c : Nat) (news : List Value) (hx : a.eval x = .slice A m c) (hr : Sl w A news) (hl : news.length = m * size) (h1 : ∀ u ∈ news, u.oneCell' = true)
    (h63 : n + m ≤ maxLen) (hbytes : (n + m) * bytes ≤ 140737488355328) (hbase : base ≤ w.heap.size)
    (h : ∀ v' w', w'.ownsRow base e size v' (n + m) (xs ++ news) → w.grownBy w' v.ownBlock → wpList P ops Q rest (a.put o.dst v') w') : wpList P ops Q (o :: rest) a w := by
  refine wpList_plain hgd fun K hK => ?_
  obtain ⟨v', w', hrun, h2, h3⟩ := run_append_sl (P := P) w base t o.type e i z size bytes ht hi hz hsize hby hzs hsz v n xs hown A m c news hr hl h1 h63 hbytes hbase
  unfold Oper.wp execOp
  simp only [ho, resolve, invoke, builtin, Sem.run_bind, Sem.run_pure, Result.andThen_ok, List.map_toArray, List.map_cons, List.map_nil, hs, hx, hrun]
  exact hK _ _ (h v' w' h2 h3)
end

theorem step_append_sl {P : Program} (w : World) {ops : Array Oper} {o : Oper} {a : Act} {K : Act → World → Prop} {Q : Exit → Act → World → Prop} {E : Prop} (hgd : o.guard = none) (s x : Operand) (t : TypeId)
    (ho : o.op = .call { callee := .builtin .append, args := #[s, x], argTypes := #[t, t] })
    (base : Nat) (e : TypeId) (i : TypeInfo) (z : Value) (size bytes : Nat) (ht : P.underlying t = some (.slice e)) (hi : P.info? e = some i) (hz : i.zero = some z)
    (hsize : i.size = size) (hby : i.bytes = bytes) (hzs : z.cells.size = size) (hsz : 0 < size)
    (v : Value) (n : Nat) (xs : List Value) (hs : a.eval s = v) (hown : w.ownsRow base e size v n xs)
    (A : Option Addr) (m c : Nat) (news : List Value) (hx : a.eval x = .slice A m c) (hr : Sl w A news) (hl : news.length = m * size) (h1 : ∀ u ∈ news, u.oneCell' = true)
    (h63 : n + m ≤ maxLen) (hbytes : (n + m) * bytes ≤ 140737488355328) (hbase : base ≤ w.heap.size)
    (h : ∀ v' w', w'.ownsRow base e size v' (n + m) (xs ++ news) → w.grownBy w' v.ownBlock → K (a.put o.dst v') w') :
    if Region.wanted o (yielded ops a.tmps) = true then Oper.wp P o a w K Q else E := by
  have hw : Region.wanted o (yielded ops a.tmps) = true := by simp [Region.wanted, hgd]
  rw [if_pos hw]
  obtain ⟨v', w', hrun, h2, h3⟩ := run_append_sl (P := P) w base t o.type e i z size bytes ht hi hz hsize hby hzs hsz v n xs hown A m c news hr hl h1 h63 hbytes hbase
  unfold Oper.wp execOp
  simp only [ho, resolve, invoke, builtin, Sem.run_bind, Sem.run_pure, Result.andThen_ok, List.map_toArray, List.map_cons, List.map_nil, hs, hx, hrun]
  exact h v' w' h2 h3

theorem grown_cell {w w' : World} {row : Option Nat} {p : Addr} {v : Value} (hg : w.grownBy w' row) (h : w.cell? p = some v) (hne : some p.block ≠ row) : w'.cell? p = some v :=
  (World.cell?_of_block (hg.block p.block (World.block_lt_of_cell? w p h) hne)).trans h
theorem grown_frozen {w w' : World} {row : Option Nat} {p : Addr} (hg : w.grownBy w' row) (hlt : p.block < w.heap.size) (h : w.frozen? p = false) (hne : some p.block ≠ row) : w'.frozen? p = false :=
  (World.frozen?_of_block (hg.block p.block hlt hne)).trans h
theorem alloc_cell {w : World} {p : Addr} {v : Value} (h : w.cell? p = some v) (o : Obj) : (w.alloc o).cell? p = some v :=
  (World.cell?_of_block (Below.heap_alloc w o p.block (World.block_lt_of_cell? w p h))).trans h
theorem alloc_frozen {w : World} {p : Addr} (hlt : p.block < w.heap.size) (h : w.frozen? p = false) (o : Obj) : (w.alloc o).frozen? p = false :=
  (World.frozen?_of_block (Below.heap_alloc w o p.block hlt)).trans h

theorem take_set3 {cur : Array Value} {k : Nat} {xs : List Value} (a b c : Value) (h : k * 3 + 3 ≤ cur.size) (hx : cur.toList.take (k * 3) = xs) :
    (((cur.setIfInBounds (k * 3) a).setIfInBounds (k * 3 + 1) b).setIfInBounds (k * 3 + 2) c).toList.take ((k + 1) * 3) = xs ++ [a, b, c] := by
  have hl : xs.length = k * 3 := by rw [← hx, List.length_take, Array.length_toList]; omega
  refine List.ext_getElem? fun i => ?_
  rw [List.getElem?_take]
  by_cases h1 : i < k * 3
  · rw [if_pos (by omega), List.getElem?_append_left (by omega), ← hx, List.getElem?_take, if_pos h1]
    simp only [Array.toList_setIfInBounds]
    rw [List.getElem?_set_ne (by omega), List.getElem?_set_ne (by omega), List.getElem?_set_ne (by omega)]
  · rw [List.getElem?_append_right (by omega), hl]
    by_cases h2 : i < (k + 1) * 3
    · rw [if_pos h2]
      simp only [Array.toList_setIfInBounds]
      obtain ⟨j, rfl⟩ : ∃ j, i = k * 3 + j := ⟨i - k * 3, by omega⟩
      have hj : j = 0 ∨ j = 1 ∨ j = 2 := by omega
      rw [Nat.add_sub_cancel_left]
      rcases hj with rfl | rfl | rfl
      · rw [List.getElem?_set_ne (by omega), List.getElem?_set_ne (by omega), Nat.add_zero, List.getElem?_set_self (by simpa using by omega)]; rfl
      · rw [List.getElem?_set_ne (by omega), List.getElem?_set_self (by simpa using by omega)]; rfl
      · rw [List.getElem?_set_self (by simpa using by omega)]; rfl
    · rw [if_neg h2, List.getElem?_eq_none (by simp; omega)]

/-- make of elements of several cells -/
theorem run_make_rowN {P : Program} (t e : TypeId) (i : TypeInfo) (z : Value) (ht : P.underlying t = some (.slice e)) (hi : P.info? e = some i) (hz : i.zero = some z)
    (n : Nat) (hbytes : i.bytes * n ≤ 281474976710656) (h63 : n ≤ 9223372036854775807) (w : World) :
    (Instr.makeSlice t (.int .i64 (n : Int)) (.int .i64 (n : Int))).run P w = .ok (.slice (some ⟨w.heap.size, 0, none⟩) n n) (w.alloc (.cells (madeCells z.cells (n * i.size)) e)) := by
  have hb : (i.bytes : Int) * (n : Int) ≤ 281474976710656 := by
    have h : ((i.bytes * n : Nat) : Int) ≤ 281474976710656 := by omega
    rwa [Int.natCast_mul] at h
  have hr := run_make (P := P) w t e i z ht hi hz .i64 .i64 n n (by omega) (by omega) hb (by omega)
  simp only [Int.toNat_natCast] at hr
  exact hr

/-- keys rise -/
def rises (ks : List Int) : Bool := decide (ks.Pairwise (· < ·))

theorem rises_iff (ks : List Int) : rises ks = true ↔ ∀ i (h : i + 1 < ks.length), ks[i]'(by omega) < ks[i + 1]'h := by
  unfold rises
  rw [decide_eq_true_iff]
  constructor
  · intro h i hi
    exact (List.pairwise_iff_getElem.1 h) i (i + 1) (by omega) hi (by omega)
  · intro h
    rw [List.pairwise_iff_getElem]
    intro i j hi hj hij
    induction j with
    | zero => omega
    | succ j ih =>
      have hj' := h j hj
      by_cases e : i = j
      · subst e; exact hj'
      · exact Int.lt_trans (ih (by omega) (by omega)) hj'

theorem rises_of_chain {ks : List Int} (h : ∀ i (h : i + 1 < ks.length), ks[i]'(by omega) < ks[i + 1]'h) : rises ks = true := (rises_iff ks).2 h
theorem rises_false {ks : List Int} {i : Nat} (hi : i + 1 < ks.length) (h : ks[i + 1]'hi ≤ ks[i]'(by omega)) : rises ks = false := by
  rw [Bool.eq_false_iff]
  intro hr
  have := (rises_iff ks).1 hr i hi
  omega

theorem bdrew {B : Nat} {a w : World} (h : Below B a w) (n : Nat) : Below B a (w.drewN n) := ⟨h.os, h.tape, h.output, h.size, h.block⟩
theorem bdrew1 {B : Nat} {a w : World} (h : Below B a w) : Below B a w.drew := h.drew
theorem bext {a b c : World} (h : Below a.heap.size a b) (k : Below b.heap.size b c) : Below a.heap.size a c := h.trans (k.mono h.size)
/-- the keys rise up to place k -/
def RiseTo (ks : List Int) (k : Nat) : Prop := ∀ i (h : i + 1 < ks.length), i + 1 < k → ks[i]'(by omega) < ks[i + 1]'h
theorem RiseTo.start (ks : List Int) : RiseTo ks 1 := fun _ _ h => absurd h (by omega)
theorem RiseTo.step {ks : List Int} {k : Nat} (h : RiseTo ks k) (hk : 1 ≤ k) (hlt : k < ks.length) (hx : ks[k - 1]'(by omega) < ks[k]'hlt) : RiseTo ks (k + 1) := by
  intro i hi hik
  by_cases e : i + 1 = k
  · subst e; simpa using hx
  · exact h i hi (by omega)
theorem RiseTo.all {ks : List Int} {k : Nat} (h : RiseTo ks k) (hk : ks.length ≤ k) : rises ks = true := rises_of_chain fun i hi => h i hi (by omega)
theorem RiseTo.no {ks : List Int} {k : Nat} (hk : 1 ≤ k) (hlt : k < ks.length) (hx : ks[k]'hlt ≤ ks[k - 1]'(by omega)) : rises ks = false := by
  obtain ⟨j, rfl⟩ : ∃ j, k = j + 1 := ⟨k - 1, by omega⟩
  exact rises_false hlt (by simpa using hx)

theorem bcell {W w1 : World} {B : Nat} (hb : Below B W w1) : (∀ b o, b < B → w1.cell? ⟨b, o, none⟩ = W.cell? ⟨b, o, none⟩) ∧ (∀ b o, b < B → w1.frozen? ⟨b, o, none⟩ = W.frozen? ⟨b, o, none⟩) :=
  ⟨fun b o h => hb.cell (p := ⟨b, o, none⟩) h, fun b o h => hb.frozen (p := ⟨b, o, none⟩) h⟩
theorem ret_int {k : IntKind} {a b : Int} (h : a = b) : Ending.returned (.int k a) = .returned (.int k b) := by rw [h]
theorem ret_bool {a b : Bool} (h : a = b) : Ending.returned (.bool a) = .returned (.bool b) := by rw [h]
end Go.Proofs.YthbppblmecdekaaDoor

/- A range over a function: what an iterator yields, the rule for the statement, and the end of a function that holds one. No program in sight. -/
namespace Go.Proofs.YthbppblmecdekaaDoor
open Go Go.RowKit Go.Shelf

/-- only blocks in S may have turned; new ones may have come -/
structure Mod (S : Nat → Prop) (w w' : World) : Prop where
  os : w'.os = w.os
  tape : w'.tape = w.tape
  output : w'.output = w.output
  size : w.heap.size ≤ w'.heap.size
  block : ∀ k, k < w.heap.size → ¬ S k → w'.heap[k]? = w.heap[k]?

section
variable {S T : Nat → Prop} {a b c w w' : World}
theorem Mod.refl (S : Nat → Prop) (w : World) : Mod S w w := ⟨rfl, rfl, rfl, Nat.le_refl _, fun _ _ _ => rfl⟩
theorem Mod.trans (h : Mod S a b) (k : Mod S b c) : Mod S a c :=
  ⟨k.os.trans h.os, k.tape.trans h.tape, k.output.trans h.output, Nat.le_trans h.size k.size, fun i hi hn => (k.block i (Nat.lt_of_lt_of_le hi h.size) hn).trans (h.block i hi hn)⟩
theorem Mod.mono (h : Mod S a b) (hs : ∀ k, k < a.heap.size → S k → T k) : Mod T a b := ⟨h.os, h.tape, h.output, h.size, fun i hi hn => h.block i hi fun hk => hn (hs i hi hk)⟩
theorem Mod.alloc (h : Mod S a w) (o : Obj) : Mod S a (w.alloc o) :=
  h.trans ⟨rfl, rfl, rfl, by simp, fun k hk _ => Below.heap_alloc _ _ _ hk⟩
theorem Mod.setCell (h : Mod S a w) {p : Addr} (hp : S p.block) (u : Value) : Mod S a (w.setCell p u) :=
  h.trans ⟨rfl, rfl, rfl, by simp [World.setCell], fun k hk hn => Below.heap_setCell _ _ _ _ (fun e => hn (e ▸ hp))⟩
theorem Mod.setNew (h : Mod S a w) {p : Addr} (hp : a.heap.size ≤ p.block) (u : Value) : Mod S a (w.setCell p u) :=
  ⟨h.os, h.tape, h.output, by simpa [World.setCell] using h.size, fun k hk hn => (Below.heap_setCell _ _ _ _ (by omega)).trans (h.block k hk hn)⟩
theorem Mod.drew (h : Mod S a w) : Mod S a w.drew := ⟨h.os, h.tape, h.output, h.size, h.block⟩
theorem Mod.drewN (h : Mod S a w) (n : Nat) : Mod S a (w.drewN n) := ⟨h.os, h.tape, h.output, h.size, h.block⟩
theorem Mod.ext (h : Mod S a w) (hb : Below w.heap.size w w') : Mod S a w' :=
  h.trans ⟨hb.os, hb.tape, hb.output, hb.size, fun k hk _ => hb.block k hk⟩
theorem Mod.of_ext (hb : Below w.heap.size w w') : Mod S w w' := (Mod.refl S w).ext hb
theorem Mod.of_below {B : Nat} (hb : Below B w w') : Mod (fun k => B ≤ k) w w' := ⟨hb.os, hb.tape, hb.output, hb.size, fun k _ hn => hb.block k (by omega)⟩
theorem Mod.grown {row : Option Nat} (h : Mod S a w) (hg : w.grownBy w' row) (hr : ∀ k, row = some k → S k ∨ a.heap.size ≤ k) : Mod S a w' :=
  ⟨hg.os.trans h.os, hg.tape.trans h.tape, hg.output.trans h.output, Nat.le_trans h.size hg.size, fun k hk hn => (hg.block k (Nat.lt_of_lt_of_le hk h.size) (fun e => by
    rcases hr k e.symm with hs | hs
    · exact hn hs
    · omega)).trans (h.block k hk hn)⟩
theorem Mod.below {B : Nat} (h : Mod S w w') (hB : B ≤ w.heap.size) (hs : ∀ k, S k → B ≤ k) : Below B w w' :=
  ⟨h.os, h.tape, h.output, h.size, fun k hk => h.block k (by omega) fun hsk => by have := hs k hsk; omega⟩
theorem Mod.cell (h : Mod S w w') {p : Addr} (hp : p.block < w.heap.size) (hn : ¬ S p.block) : w'.cell? p = w.cell? p := World.cell?_of_block (h.block _ hp hn)
theorem Mod.frozen (h : Mod S w w') {p : Addr} (hp : p.block < w.heap.size) (hn : ¬ S p.block) : w'.frozen? p = w.frozen? p := World.frozen?_of_block (h.block _ hp hn)
theorem Mod.putObj (h : Mod S a w) {l : Nat} (hl : S l) (o : Obj) : Mod S a (w.putObj l o) :=
  h.trans ⟨rfl, rfl, rfl, by simp [World.putObj], fun k hk hn => World.putObj_heap_other (fun e => hn (e ▸ hl))⟩
end

theorem Blk.mod {S : Nat → Prop} {w w' : World} {g : Nat} {t : TypeId} {cs : Array Value} (h : Blk w g t cs) (hm : Mod S w w') (hn : ¬ S g) : Blk w' g t cs := h.of (hm.block _ h.lt hn)
theorem Sl.mod {S : Nat → Prop} {w w' : World} {A : Option Addr} {xs : List Value} (h : Sl w A xs) (hm : Mod S w w') (hn : ∀ a, A = some a → ¬ S a.block) : Sl w' A xs := by
  rcases h with h | ⟨b, off, hA, hlt, hc⟩
  · exact .inl h
  · exact .inr ⟨b, off, hA, Nat.lt_of_lt_of_le hlt hm.size, fun j u hu => (hm.cell (p := ⟨b, off + j, none⟩) hlt (hn ⟨b, off, none⟩ hA)).trans (hc j u hu)⟩

/-- A call of g at a yield gives it, one by one, the arrays xs 0 .. xs (N - 1). K: the blocks that the iterator leans on, T: those that it may turn. -/
def Yields (F : Fence) (P : Program) (g : FuncId) (lb : Array Value) (N : Nat) (xs : Nat → Array Value) (K T : Nat → Prop) (w : World) : Prop :=
  ∀ (l : Nat) (I : Nat → World → Prop) (X : World → Prop) (W : World),
    w.heap.size ≤ W.heap.size → (∀ b, K b → W.heap[b]? = w.heap[b]?) →
    (∀ k A B, I k A → Mod T A B → I k B) → (∀ A B, X A → Mod T A B → X B) →
    (∀ k A, k < N → I k A → YieldAt F 0 P l (xs k) A fun e B =>
        (e = .returned (.bool true) ∧ I (k + 1) B ∧ A.heap.size ≤ B.heap.size ∧ ∀ b, K b → B.heap[b]? = A.heap[b]?) ∨ (e = .returned (.bool false) ∧ X B)) →
    I 0 W →
    CallsIn F 0 P g (#[.func (.yield l) #[] #[]] ++ lb) W fun e W' => (∃ v, e = .returned v) ∧ (I N W' ∨ X W')

/-- how the body of a round may be left -/
def rPost (B : Nat) (K : Nat → Prop) (In : World → Prop) (Ix : Code → World → Prop) (A : World) : Exit → Act → World → Prop
  | .normal, _, W => Mod (fun b => b ≠ B ∧ b ≠ B + 1 ∧ ¬ K b) A W ∧ In W
  | .ret, _, W => Mod (fun b => b ≠ B ∧ b ≠ B + 1) A W ∧ Ix .ret W
  | .exit id, _, W => Mod (fun b => b ≠ B ∧ b ≠ B + 1) A W ∧ Ix (.exit id) W
  | .goto t, _, W => Mod (fun b => b ≠ B ∧ b ≠ B + 1) A W ∧ Ix (.goto t) W
  | .panic _, _, _ => False
  | .outgrown, _, _ => False

theorem wpIn_range {F : Fence} {P : Program} {g : Operand} {ps : Array Tmp} {assign body : Code} {Q : Exit → Act → World → Prop} {a : Act} {w : World}
    (hd : F.depth = none) (hF : ∀ f, F.fn f) (hro : F.round = none)
    {gf : Nat} {lb : Array Value} (hg : a.eval g = .func (.func gf) #[] lb) (eg : ∀ args w, (callFunc gf args).run P w = .ok (.enter gf args) w)
    {N : Nat} {xs : Nat → Array Value} {K T : Nat → Prop} (hy : Yields F P gf lb N xs K T w) (hK : ∀ b, K b → b < w.heap.size) (hT : ∀ b, T b → b < w.heap.size)
    (hps : ∀ k, (xs k).size = ps.size)
    (I : Nat → World → Prop) (Ix : Code → World → Prop)
    (hI : ∀ k A B, I k A → Mod (fun b => T b ∨ b = w.heap.size ∨ b = w.heap.size + 1) A B → I k B)
    (hIx : ∀ c A B, Ix c A → Mod (fun b => T b ∨ b = w.heap.size ∨ b = w.heap.size + 1) A B → Ix c B)
    (h0 : I 0 w) (Ax : Nat → Act → World → Prop)
    (hAx : ∀ k a' A B, Ax k a' A → Mod (fun b => T b ∨ b = w.heap.size ∨ b = w.heap.size + 1) A B → Ax k a' B)
    (hassign : ∀ (l k : Nat), k < N → ∀ (A : World) (C : Act → World → Prop), I k A → w.heap.size + 2 ≤ A.heap.size →
      (∀ a' A', Mod (fun b => b ≠ w.heap.size ∧ b ≠ w.heap.size + 1 ∧ ¬ K b) A A' → I k A' → Ax k a' A' → C a' A') →
      assign.wpIn (F.inRound l) 0 P (Exit.then C (fun _ _ _ => False)) { tmps := (ps.zip (xs k)).foldl (fun t (p, v) => t.setIfInBounds p v) a.tmps, defers := [] } A)
    (hbody : ∀ (l k : Nat), k < N → ∀ (a' : Act) (A : World), I k A → Ax k a' A → w.heap.size + 2 ≤ A.heap.size →
      body.wpIn (F.inRound l) 0 P (rPost w.heap.size K (I (k + 1)) Ix A) a' A)
    (hdone : ∀ (W : World), I N W → W.heap[w.heap.size]? = some (.deferred (some [])) → Q .normal { a with defers := { target := .collected w.heap.size, args := #[] } :: a.defers } W)
    (hstop : ∀ (c : Code) (W : World), Ix c W → W.heap[w.heap.size]? = some (.deferred (some [])) → c.wpIn F 0 P Q { a with defers := { target := .collected w.heap.size, args := #[] } :: a.defers } W) :
    (Code.rangeFunc g ps assign body).wpIn F 0 P Q a w := by
  refine wpIn_rangeFunc ?_
  intro fn hfn
  rw [hro]
  obtain ⟨rec, hrec⟩ : ∃ rec : LoopState → Option Code → Loop, rec = fun st pe => { state := st, pending := pe, fn, tmps := a.tmps, params := ps, assign, body, defers := w.heap.size } := ⟨_, rfl⟩
  obtain ⟨W1, hW1⟩ : ∃ W1, (w.alloc (.deferred (some []))).alloc (.loop (rec .ready none)) = W1 := ⟨_, rfl⟩
  have hL1 : W1.heap[w.heap.size + 1]? = some (.loop (rec .ready none)) := by
    rw [← hW1]; have := World.alloc_heap_new (w.alloc (.deferred (some []))) (.loop (rec .ready none)); rwa [World.size_alloc] at this
  have hK1 : W1.heap[w.heap.size]? = some (.deferred (some [])) := by
    rw [← hW1]; exact (Below.heap_alloc _ _ _ (by simp)).trans (World.alloc_heap_new w _)
  have hm1 : ∀ S, Mod S w W1 := fun S => by rw [← hW1]; exact ((Mod.refl S w).alloc _).alloc _
  have hs1 : W1.heap.size = w.heap.size + 2 := by rw [← hW1]; simp
  refine ⟨w.heap.size + 1, [{ target := .collected w.heap.size, args := #[] }], W1, { target := .fn (.func gf) lb, args := #[.func (.yield (w.heap.size + 1)) #[] #[]] }, W1, gf,
    #[.func (.yield (w.heap.size + 1)) #[] #[]] ++ lb, W1, ?_, ?_, ?_, ?_, (fun h => by rw [hd] at h; cases h), ?_⟩
  · rw [← hW1, hrec]; exact run_enterLoop_outer _ _ _ _ _
  · simp only [resolve, hg]
    simp [go_sem]
  · intro f' _; exact hF _
  · simp [invoke, go_sem, eg]
  · have hTne : ∀ b, T b → b ≠ w.heap.size ∧ b ≠ w.heap.size + 1 := fun b hb => by have := hT b hb; omega
    have hKne : ∀ b, K b → b ≠ w.heap.size ∧ b ≠ w.heap.size + 1 := fun b hb => by have := hK b hb; omega
    refine (hy (w.heap.size + 1)
      (fun k W => I k W ∧ W.heap[w.heap.size + 1]? = some (.loop (rec .ready none)) ∧ W.heap[w.heap.size]? = some (.deferred (some [])))
      (fun W => ∃ c, Ix c W ∧ W.heap[w.heap.size + 1]? = some (.loop (rec .done (some c))) ∧ W.heap[w.heap.size]? = some (.deferred (some [])))
      W1 (by omega) (fun b hb => (hm1 (fun _ => False)).block b (hK b hb) (fun h => h))
      ?stab ?stabx ?round ⟨hI 0 _ _ h0 (hm1 _), hL1, hK1⟩).mono ?behind
    case stab =>
      rintro k A B ⟨hi, hl, hk⟩ hm
      refine ⟨hI _ _ _ hi (hm.mono fun _ _ h => .inl h), ?_, ?_⟩
      · exact (hm.block _ (Array.getElem?_eq_some_iff.1 hl).1 (fun h => (hTne _ h).2 rfl)).trans hl
      · exact (hm.block _ (Array.getElem?_eq_some_iff.1 hk).1 (fun h => (hTne _ h).1 rfl)).trans hk
    case stabx =>
      rintro A B ⟨c, hi, hl, hk⟩ hm
      refine ⟨c, hIx _ _ _ hi (hm.mono fun _ _ h => .inl h), ?_, ?_⟩
      · exact (hm.block _ (Array.getElem?_eq_some_iff.1 hl).1 (fun h => (hTne _ h).2 rfl)).trans hl
      · exact (hm.block _ (Array.getElem?_eq_some_iff.1 hk).1 (fun h => (hTne _ h).1 rfl)).trans hk
    case round =>
      rintro k A hk ⟨hi, hl, hD⟩
      have hlt : w.heap.size + 1 < A.heap.size := (Array.getElem?_eq_some_iff.1 hl).1
      have hyd := run_yield (P := P) (args := xs k) hl (by rw [hrec]; exact hps k)
      rw [hrec] at hyd
      refine ⟨fn, _, assign, body, hyd, roundIn_of_wpIn hfn (hassign _ k hk A _ hi (by omega) ?_)⟩
      clear hyd
      intro a' A1 hm hi1 hax
      have hl1 : A1.heap[w.heap.size + 1]? = some (.loop (rec .ready none)) := (hm.block _ hlt (fun h => h.2.1 rfl)).trans hl
      have hD1 : A1.heap[w.heap.size]? = some (.deferred (some [])) := (hm.block _ (by omega) (fun h => h.1 rfl)).trans hD
      have hlt1 : w.heap.size + 1 < A1.heap.size := (Array.getElem?_eq_some_iff.1 hl1).1
      refine ⟨_, run_beginRound hl1 (by rw [hrec]), ?_⟩
      obtain ⟨A2, hA2⟩ : ∃ A2, A1.putObj (w.heap.size + 1) (.loop { rec .ready none with state := .busy }) = A2 := ⟨_, rfl⟩
      rw [hA2]
      have hl2 : A2.heap[w.heap.size + 1]? = some (.loop { rec .ready none with state := .busy }) := by rw [← hA2]; exact World.putObj_heap_same hlt1
      have hD2 : A2.heap[w.heap.size]? = some (.deferred (some [])) := by rw [← hA2]; exact (World.putObj_heap_other (by omega)).trans hD1
      have hm2 : Mod (fun b => T b ∨ b = w.heap.size ∨ b = w.heap.size + 1) A1 A2 := by rw [← hA2]; exact (Mod.refl _ _).putObj (.inr (.inr rfl)) _
      have hk12 : ∀ b, K b → A2.heap[b]? = A1.heap[b]? := fun b hb => by rw [← hA2]; exact World.putObj_heap_other (hKne b hb).2
      have hs2 : A2.heap.size = A1.heap.size := by rw [← hA2]; simp [World.putObj]
      refine wpIn_mono (hbody _ k hk a' A2 (hI _ _ _ hi1 hm2) (hAx _ _ _ _ hax hm2) (by omega)) ?_
      have fin : ∀ (jump : Option Code) (W3 : World) (S : Nat → Prop), Mod S A2 W3 → ¬ S w.heap.size → ¬ S (w.heap.size + 1) →
          (Instr.endRound (w.heap.size + 1) jump).run P W3 = .ok (.bool jump.isNone) (W3.putObj (w.heap.size + 1) (.loop (rec (if jump.isNone then .ready else .done) jump))) ∧
          (W3.putObj (w.heap.size + 1) (.loop (rec (if jump.isNone then .ready else .done) jump))).heap[w.heap.size + 1]? = some (.loop (rec (if jump.isNone then .ready else .done) jump)) ∧
          (W3.putObj (w.heap.size + 1) (.loop (rec (if jump.isNone then .ready else .done) jump))).heap[w.heap.size]? = some (.deferred (some [])) := fun jump W3 S hm3 hn1 hn2 => by
        have hl3 := (hm3.block _ (by omega) hn2).trans hl2
        have hD3 := (hm3.block _ (by omega) hn1).trans hD2
        have := run_endRound (P := P) jump hl3
        rw [hrec] at this ⊢
        exact ⟨this, World.putObj_heap_same (Array.getElem?_eq_some_iff.1 hl3).1, (World.putObj_heap_other (by omega)).trans hD3⟩
      have mp : ∀ (W3 : World) (o : Obj), Mod (fun b => T b ∨ b = w.heap.size ∨ b = w.heap.size + 1) W3 (W3.putObj (w.heap.size + 1) o) := fun W3 o => (Mod.refl _ _).putObj (.inr (.inr rfl)) o
      rintro e a3 W3 hp
      cases e with
      | normal =>
        obtain ⟨hm3, hi3⟩ := hp
        obtain ⟨hr, hl4, hD4⟩ := fin none W3 _ hm3 (fun h => h.1 rfl) (fun h => h.2.1 rfl)
        refine ⟨_, _, hr, .inl ⟨rfl, ⟨hI _ _ _ hi3 (mp _ _), hl4, hD4⟩, ?_, fun b hb => ?_⟩⟩
        · have := hm.size; have := hm3.size; simp [World.putObj]; omega
        · have h1 := hm.block b (by have := hK b hb; omega) (fun h => h.2.2 hb)
          have h2 := hk12 b hb
          have h3 := hm3.block b (by have := hK b hb; omega) (fun h => h.2.2 hb)
          exact (World.putObj_heap_other (hKne b hb).2).trans (h3.trans (h2.trans h1))
      | ret =>
        obtain ⟨hm3, hi3⟩ := hp
        obtain ⟨hr, hl4, hD4⟩ := fin (some .ret) W3 _ hm3 (fun h => h.1 rfl) (fun h => h.2 rfl)
        exact ⟨_, _, hr, .inr ⟨rfl, .ret, hIx _ _ _ hi3 (mp _ _), hl4, hD4⟩⟩
      | exit id =>
        obtain ⟨hm3, hi3⟩ := hp
        obtain ⟨hr, hl4, hD4⟩ := fin (some (.exit id)) W3 _ hm3 (fun h => h.1 rfl) (fun h => h.2 rfl)
        exact ⟨_, _, hr, .inr ⟨rfl, .exit id, hIx _ _ _ hi3 (mp _ _), hl4, hD4⟩⟩
      | goto t =>
        obtain ⟨hm3, hi3⟩ := hp
        obtain ⟨hr, hl4, hD4⟩ := fin (some (.goto t)) W3 _ hm3 (fun h => h.1 rfl) (fun h => h.2 rfl)
        exact ⟨_, _, hr, .inr ⟨rfl, .goto t, hIx _ _ _ hi3 (mp _ _), hl4, hD4⟩⟩
      | panic ch => exact hp.elim
      | outgrown => exact hp.elim
    case behind =>
      have mp : ∀ (W3 : World) (o : Obj), Mod (fun b => T b ∨ b = w.heap.size ∨ b = w.heap.size + 1) W3 (W3.putObj (w.heap.size + 1) o) := fun W3 o => (Mod.refl _ _).putObj (.inr (.inr rfl)) o
      rintro e W2 ⟨⟨v, rfl⟩, (⟨hi, hl, hk⟩ | ⟨c, hi, hl, hk⟩)⟩
      · exact ⟨none, _, by have := run_endLoop (P := P) hl (by rw [hrec]; simp); rw [hrec] at this; exact this, hdone _ (hI _ _ _ hi (mp _ _)) ((World.putObj_heap_other (by omega)).trans hk)⟩
      · exact ⟨some c, _, by have := run_endLoop (P := P) hl (by rw [hrec]; simp); rw [hrec] at this; exact this, hstop c _ (hIx _ _ _ hi (mp _ _)) ((World.putObj_heap_other (by omega)).trans hk)⟩

/-- the temporaries with some of them set -/
def rt (t : Array Value) (l : List (Tmp × Value)) : Array Value := l.foldl (fun t p => t.setIfInBounds p.1 p.2) t

/-- the rule where the assignments to the loop's left sides lay no block -/
theorem wpIn_rangeS {F : Fence} {P : Program} {g : Operand} {ps : Array Tmp} {assign body : Code} {Q : Exit → Act → World → Prop} {a : Act} {w : World}
    (hd : F.depth = none) (hF : ∀ f, F.fn f) (hro : F.round = none)
    {gf : Nat} {lb : Array Value} (hg : a.eval g = .func (.func gf) #[] lb) (eg : ∀ args w, (callFunc gf args).run P w = .ok (.enter gf args) w)
    {N : Nat} {xs : Nat → Array Value} {K T : Nat → Prop} (hy : Yields F P gf lb N xs K T w) (hK : ∀ b, K b → b < w.heap.size) (hT : ∀ b, T b → b < w.heap.size)
    (hps : ∀ k, (xs k).size = ps.size)
    (I : Nat → World → Prop) (Ix : Code → World → Prop) (sets : Nat → List (Tmp × Value))
    (hI : ∀ k A B, I k A → Mod (fun b => T b ∨ b = w.heap.size ∨ b = w.heap.size + 1) A B → I k B)
    (hIx : ∀ c A B, Ix c A → Mod (fun b => T b ∨ b = w.heap.size ∨ b = w.heap.size + 1) A B → Ix c B)
    (h0 : I 0 w)
    (hassign : ∀ (l k : Nat), k < N → ∀ (A : World) (C : Act → World → Prop), C { tmps := rt a.tmps (sets k), defers := [] } A →
      assign.wpIn (F.inRound l) 0 P (Exit.then C (fun _ _ _ => False)) { tmps := (ps.zip (xs k)).foldl (fun t (p, v) => t.setIfInBounds p v) a.tmps, defers := [] } A)
    (hbody : ∀ (l k : Nat), k < N → ∀ (A : World), I k A → w.heap.size + 2 ≤ A.heap.size →
      body.wpIn (F.inRound l) 0 P (rPost w.heap.size K (I (k + 1)) Ix A) { tmps := rt a.tmps (sets k), defers := [] } A)
    (hdone : ∀ (W : World), I N W → W.heap[w.heap.size]? = some (.deferred (some [])) → Q .normal { a with defers := { target := .collected w.heap.size, args := #[] } :: a.defers } W)
    (hstop : ∀ (c : Code) (W : World), Ix c W → W.heap[w.heap.size]? = some (.deferred (some [])) → c.wpIn F 0 P Q { a with defers := { target := .collected w.heap.size, args := #[] } :: a.defers } W) :
    (Code.rangeFunc g ps assign body).wpIn F 0 P Q a w :=
  wpIn_range hd hF hro hg eg hy hK hT hps I Ix hI hIx h0 (fun k a' _ => a' = { tmps := rt a.tmps (sets k), defers := [] }) (fun _ _ _ _ h _ => h)
    (fun l k hk A C hi _ hC => hassign l k hk A C (hC _ _ (Mod.refl _ _) hi rfl))
    (fun l k hk a' A hi ha hs => by subst ha; exact hbody l k hk A hi hs) hdone hstop

/-! ### a scope with a label, in a fence -/
section
variable {F : Fence} {P : Program} {b : Frame} {a : Act} {k : List Item} {cs : List Frame} {w : World} {Q : Exit → Act → World → Prop}
theorem stepR_scope {c : Code} : step P (lone (b.atR a (.code (.scope c) :: k)) cs w) = .next (lone (b.atR a (.code c :: .inScope c :: k)) cs w) :=
  step_lone_go (by simp [stepG, stepG.exec, Frame.atR])
theorem stepR_inScope {c : Code} : step P (lone (b.atR a (.inScope c :: k)) cs w) = .next (lone (b.atR a k) cs w) :=
  step_lone_go (by simp [stepG, stepG.exec, Frame.atR])

theorem arrives_scope {c : Code} {e : Exit} {a₁ : Act} {w₁ : World} {m : Machine} {n : Nat} (hb : F.fn b.fn) (hr : F.room (cs.length + 1 + n)) (hne : ∀ l, e ≠ .goto l)
    (harr : ArrivesIn (Machine.fenced P F) P m b (.inScope c :: k) cs e a₁ w₁) : ArrivesIn (Machine.fenced P F) P m b k cs e a₁ w₁ := by
  cases e with
  | normal => exact StepsIn.trans harr (.one (fenced_calm hb hr rfl) stepR_inScope)
  | exit id =>
    have hx : exitTo id (.inScope c :: k) = exitTo id k := by simp [exitTo]
    exact ⟨fun k' hk => harr.1 k' (by rw [hx]; exact hk), fun hr' hk => let ⟨k₁, h1, h2⟩ := harr.2 hr' (by rw [hx]; exact hk); ⟨k₁, h1, h2⟩⟩
  | goto l => exact absurd rfl (hne l)
  | ret => exact harr
  | panic ch => exact harr
  | outgrown => exact harr

/-- a scope in which the run jumps to one label: J holds at every jump, and a measure goes down -/
theorem wpIn_scope_jumps {n : Nat} {c rest : Code} (l : Nat) (J : Act → World → Prop) (μ : Act → World → Nat) (hf : findLabel c l = some rest)
    (first : c.wpIn F n P (Exit.jump l J Q) a w)
    (pass : ∀ a w, J a w → rest.wpIn F n P (Exit.jump l (fun a' w' => J a' w' ∧ μ a' w' < μ a w) Q) a w) : (Code.scope c).wpIn F n P Q a w := by
  intro b k cs hro hb hr
  have h0 : (lone (b.atR a (.code (.scope c) :: k)) cs w).fenced P F := fenced_calm hb hr rfl
  have hg : gotoIn l (.inScope c :: k) = some (.code rest :: .inScope c :: k) := by simp [gotoIn, hf]
  have key : ∀ m a w, μ a w = m → J a w → ∃ e a' w', Q e a' w' ∧ ArrivesIn (Machine.fenced P F) P (lone (b.atR a (.code rest :: .inScope c :: k)) cs w) b k cs e a' w' := by
    intro m
    induction m using Nat.strongRecOn with
    | _ m ih =>
      intro a w hn hJ
      obtain ⟨e, a₁, w₁, hq, harr⟩ := pass a w hJ b (.inScope c :: k) cs hro hb hr
      cases e with
      | goto l' =>
        obtain ⟨rfl, hJ', hlt⟩ := hq
        obtain ⟨e₂, a₂, w₂, hq₂, harr₂⟩ := ih _ (by omega) a₁ w₁ rfl hJ'
        exact ⟨e₂, a₂, w₂, hq₂, .of_steps (harr.1 _ hg) harr₂⟩
      | normal => exact ⟨_, a₁, w₁, hq, arrives_scope hb hr (fun _ h => by cases h) harr⟩
      | exit id => exact ⟨_, a₁, w₁, hq, arrives_scope hb hr (fun _ h => by cases h) harr⟩
      | ret => exact ⟨_, a₁, w₁, hq, arrives_scope hb hr (fun _ h => by cases h) harr⟩
      | panic ch => exact ⟨_, a₁, w₁, hq, arrives_scope hb hr (fun _ h => by cases h) harr⟩
      | outgrown => exact ⟨_, a₁, w₁, hq, arrives_scope hb hr (fun _ h => by cases h) harr⟩
  obtain ⟨e, a₁, w₁, hq, harr⟩ := first b (.inScope c :: k) cs hro hb hr
  cases e with
  | goto l' =>
    obtain ⟨rfl, hJ'⟩ := hq
    obtain ⟨e₂, a₂, w₂, hq₂, harr₂⟩ := key _ a₁ w₁ rfl hJ'
    exact ⟨e₂, a₂, w₂, hq₂, .of_steps (.head h0 stepR_scope (harr.1 _ hg)) harr₂⟩
  | normal => exact ⟨_, a₁, w₁, hq, .of_steps (.one h0 stepR_scope) (arrives_scope hb hr (fun _ h => by cases h) harr)⟩
  | exit id => exact ⟨_, a₁, w₁, hq, .of_steps (.one h0 stepR_scope) (arrives_scope hb hr (fun _ h => by cases h) harr)⟩
  | ret => exact ⟨_, a₁, w₁, hq, .of_steps (.one h0 stepR_scope) (arrives_scope hb hr (fun _ h => by cases h) harr)⟩
  | panic ch => exact ⟨_, a₁, w₁, hq, .of_steps (.one h0 stepR_scope) (arrives_scope hb hr (fun _ h => by cases h) harr)⟩
  | outgrown => exact ⟨_, a₁, w₁, hq, .of_steps (.one h0 stepR_scope) (arrives_scope hb hr (fun _ h => by cases h) harr)⟩

theorem wpIn_scope_straight {n : Nat} {c : Code} (h : c.wpIn F n P (Exit.noGoto Q) a w) : (Code.scope c).wpIn F n P Q a w := by
  intro b k cs hro hb hr
  have h0 : (lone (b.atR a (.code (.scope c) :: k)) cs w).fenced P F := fenced_calm hb hr rfl
  obtain ⟨e, a₁, w₁, hq, harr⟩ := h b (.inScope c :: k) cs hro hb hr
  cases e with
  | goto l' => exact hq.elim
  | normal => exact ⟨_, a₁, w₁, hq, .of_steps (.one h0 stepR_scope) (arrives_scope hb hr (fun _ h => by cases h) harr)⟩
  | exit id => exact ⟨_, a₁, w₁, hq, .of_steps (.one h0 stepR_scope) (arrives_scope hb hr (fun _ h => by cases h) harr)⟩
  | ret => exact ⟨_, a₁, w₁, hq, .of_steps (.one h0 stepR_scope) (arrives_scope hb hr (fun _ h => by cases h) harr)⟩
  | panic ch => exact ⟨_, a₁, w₁, hq, .of_steps (.one h0 stepR_scope) (arrives_scope hb hr (fun _ h => by cases h) harr)⟩
  | outgrown => exact ⟨_, a₁, w₁, hq, .of_steps (.one h0 stepR_scope) (arrives_scope hb hr (fun _ h => by cases h) harr)⟩
end

/-- the end of a function that has held one range over a function: one result -/
theorem postM_ret1 {F : Fence} {P : Program} {fn : Func} {R : Ending → World → Prop} {tmps : Array Value} {D t : Nat} {w : World}
    (h : fn.results = #[.tmp t]) (hD : w.heap[D]? = some (.deferred (some []))) (hR : R (.returned (tmps.getD t undef)) (w.putObj D (.deferred none))) :
    bodyPostM F 0 P fn R .ret { tmps := tmps, defers := [{ target := .collected D, args := #[] }] } w :=
  ⟨by simp, .inl ⟨_, _, rfl, run_takeDeferred hD, ⟨_, results_tmp h _ _ _, hR⟩⟩⟩
theorem postM_ret2 {F : Fence} {P : Program} {fn : Func} {R : Ending → World → Prop} {tmps : Array Value} {D t u : Nat} {w : World}
    (h : fn.results = #[.tmp t, .tmp u]) (hD : w.heap[D]? = some (.deferred (some []))) (hR : R (.returned (.tuple #[tmps.getD t undef, tmps.getD u undef])) (w.putObj D (.deferred none))) :
    bodyPostM F 0 P fn R .ret { tmps := tmps, defers := [{ target := .collected D, args := #[] }] } w :=
  ⟨by simp, .inl ⟨_, _, rfl, run_takeDeferred hD, ⟨_, results_tmp2 h _ _ _, hR⟩⟩⟩
/-- and where it leaves without having come to one -/
theorem postM_plain1 {F : Fence} {P : Program} {fn : Func} {R : Ending → World → Prop} {tmps : Array Value} {t : Nat} {w : World}
    (h : fn.results = #[.tmp t]) (hR : R (.returned (tmps.getD t undef)) w) : bodyPostM F 0 P fn R .ret { tmps := tmps, defers := [] } w :=
  ⟨_, results_tmp h _ _ _, hR⟩
theorem postM_plain2 {F : Fence} {P : Program} {fn : Func} {R : Ending → World → Prop} {tmps : Array Value} {t u : Nat} {w : World}
    (h : fn.results = #[.tmp t, .tmp u]) (hR : R (.returned (.tuple #[tmps.getD t undef, tmps.getD u undef])) w) : bodyPostM F 0 P fn R .ret { tmps := tmps, defers := [] } w :=
  ⟨_, results_tmp2 h _ _ _, hR⟩
theorem calls_of_in {_F : Fence} {P : Program} {f : FuncId} {args : Array Value} {w : World} {R : Ending → World → Prop} (h : CallsIn Fence.wide 0 P f args w R) : Calls P f args w R := callsIn_wide.1 h
end Go.Proofs.YthbppblmecdekaaDoor

/- Eytzinger's layout as plain mathematics: the places in order, the way from each to the next, that they are just the places below n. -/
namespace Go.Proofs.YthbppblmecdekaaDoor

def inord (n a : Nat) : List Nat := if _h : a < n then inord n (2 * a + 1) ++ a :: inord n (2 * a + 2) else []
termination_by n - a
decreasing_by all_goals omega

def lm (n a : Nat) : Nat := if h : 2 * a + 1 < n then lm n (2 * a + 1) else a
termination_by n - a
decreasing_by omega

def upo (a : Nat) : Option Nat := if a = 0 then none else if a % 2 = 1 then some ((a - 1) / 2) else upo ((a - 1) / 2)
termination_by a
decreasing_by omega

def nx (n a : Nat) : Option Nat := if 2 * a + 2 < n then some (lm n (2 * a + 2)) else upo a

theorem inord_in {n a : Nat} (h : a < n) : inord n a = inord n (2 * a + 1) ++ a :: inord n (2 * a + 2) := by rw [inord]; simp [h]
theorem inord_out {n a : Nat} (h : ¬ a < n) : inord n a = [] := by rw [inord]; simp [h]
theorem lm_in {n a : Nat} (h : 2 * a + 1 < n) : lm n a = lm n (2 * a + 1) := by rw [lm]; simp [h]
theorem lm_out {n a : Nat} (h : ¬ 2 * a + 1 < n) : lm n a = a := by rw [lm]; simp [h]
theorem upo_zero : upo 0 = none := by rw [upo]; simp
theorem upo_odd {a : Nat} (h : a % 2 = 1) : upo a = some ((a - 1) / 2) := by rw [upo, if_neg (by omega), if_pos h]
theorem upo_even {a : Nat} (h0 : a ≠ 0) (h : a % 2 ≠ 1) : upo a = upo ((a - 1) / 2) := by rw [upo, if_neg h0, if_neg h]

theorem inord_ne {n a : Nat} (h : a < n) : inord n a ≠ [] := by rw [inord_in h]; simp

theorem inord_head (n a : Nat) (h : a < n) : (inord n a).head? = some (lm n a) := by
  induction a using lm.induct (n := n) with
  | case1 a h1 ih =>
    rw [inord_in h, lm_in h1, List.head?_append, ih h1]
    rfl
  | case2 a h1 =>
    rw [inord_in h, lm_out h1, inord_out h1]
    rfl

theorem inord_zero_get {n a : Nat} (h : a < n) (h0 : 0 < (inord n a).length) : (inord n a)[0]'h0 = lm n a := by
  have := inord_head n a h
  rw [List.head?_eq_getElem?, List.getElem?_eq_getElem h0] at this
  exact Option.some.inj this

/-- from each place under a the way leads to the next one under a, or out of it, upward -/
theorem nx_under (n : Nat) : ∀ (m a : Nat), n - a ≤ m → a < n → ∀ (k : Nat) (x : Nat), (inord n a)[k]? = some x → nx n x = ((inord n a)[k + 1]?).or (upo a) := by
  intro m
  induction m with
  | zero => intro a hm h; omega
  | succ m ih =>
    intro a hm h k x hx
    have hl : ∀ k x, (inord n (2 * a + 1))[k]? = some x → nx n x = ((inord n (2 * a + 1))[k + 1]?).or (some a) := by
      intro k x hx
      by_cases h1 : 2 * a + 1 < n
      · have := ih (2 * a + 1) (by omega) h1 k x hx
        rw [this, upo_odd (by omega)]
        congr 2
        omega
      · rw [inord_out h1] at hx; simp at hx
    have hr : ∀ k x, (inord n (2 * a + 2))[k]? = some x → nx n x = ((inord n (2 * a + 2))[k + 1]?).or (upo a) := by
      intro k x hx
      by_cases h1 : 2 * a + 2 < n
      · have := ih (2 * a + 2) (by omega) h1 k x hx
        rw [this, upo_even (a := 2 * a + 2) (by omega) (by omega)]
        congr 2
        omega
      · rw [inord_out h1] at hx; simp at hx
    rw [inord_in h] at hx ⊢
    rcases Nat.lt_trichotomy k (inord n (2 * a + 1)).length with hk | hk | hk
    · rw [List.getElem?_append_left hk] at hx
      rw [hl k x hx]
      by_cases hk1 : k + 1 < (inord n (2 * a + 1)).length
      · rw [List.getElem?_append_left hk1, List.getElem?_eq_getElem hk1]; rfl
      · have : k + 1 = (inord n (2 * a + 1)).length := by omega
        rw [List.getElem?_append_right (by omega), this, Nat.sub_self, List.getElem?_eq_none (by omega)]
        rfl
    · rw [List.getElem?_append_right (by omega), hk, Nat.sub_self] at hx
      simp at hx
      subst hx
      rw [List.getElem?_append_right (by omega), hk]
      have : (inord n (2 * a + 1)).length + 1 - (inord n (2 * a + 1)).length = 1 := by omega
      rw [this]
      simp only [List.getElem?_cons_succ]
      unfold nx
      by_cases h2 : 2 * a + 2 < n
      · rw [if_pos h2]
        have h0 : 0 < (inord n (2 * a + 2)).length := by
          have := inord_ne h2
          cases hh : inord n (2 * a + 2) with
          | nil => exact absurd hh this
          | cons => simp
        rw [List.getElem?_eq_getElem h0, inord_zero_get h2 h0]
        rfl
      · rw [if_neg h2, inord_out h2]
        rfl
    · rw [List.getElem?_append_right (by omega)] at hx
      obtain ⟨j, rfl⟩ : ∃ j, k = (inord n (2 * a + 1)).length + 1 + j := ⟨k - (inord n (2 * a + 1)).length - 1, by omega⟩
      have e1 : (inord n (2 * a + 1)).length + 1 + j - (inord n (2 * a + 1)).length = j + 1 := by omega
      have e2 : (inord n (2 * a + 1)).length + 1 + j + 1 - (inord n (2 * a + 1)).length = j + 1 + 1 := by omega
      rw [e1, List.getElem?_cons_succ] at hx
      rw [List.getElem?_append_right (by omega), e2, List.getElem?_cons_succ]
      exact hr j x hx

theorem nx_next {n k x : Nat} (hx : (inord n 0)[k]? = some x) : nx n x = (inord n 0)[k + 1]? := by
  by_cases h : 0 < n
  · rw [nx_under n n 0 (by omega) h k x hx, upo_zero, Option.or_none]
  · rw [inord_out h] at hx; simp at hx

/-! ### they are just the places below n -/

theorem mem_inord (n : Nat) : ∀ (m a : Nat), n - a ≤ m → ∀ x, x ∈ inord n a ↔ x < n ∧ ∃ d, (x + 1) / 2 ^ d = a + 1 := by
  intro m
  induction m with
  | zero =>
    intro a hm x
    rw [inord_out (by omega)]
    simp only [List.not_mem_nil, false_iff, not_and, not_exists]
    intro hx d he
    have := Nat.div_le_self (x + 1) (2 ^ d)
    omega
  | succ m ih =>
    intro a hm x
    by_cases h : a < n
    · rw [inord_in h, List.mem_append, List.mem_cons, ih (2 * a + 1) (by omega), ih (2 * a + 2) (by omega)]
      constructor
      · rintro (⟨hx, d, he⟩ | rfl | ⟨hx, d, he⟩)
        · refine ⟨hx, d + 1, ?_⟩
          rw [Nat.pow_succ, ← Nat.div_div_eq_div_mul, he]; omega
        · exact ⟨h, 0, by simp⟩
        · refine ⟨hx, d + 1, ?_⟩
          rw [Nat.pow_succ, ← Nat.div_div_eq_div_mul, he]; omega
      · rintro ⟨hx, d, he⟩
        cases d with
        | zero => right; left; simp at he; exact he
        | succ d =>
          rw [Nat.pow_succ, ← Nat.div_div_eq_div_mul] at he
          have : (x + 1) / 2 ^ d = 2 * a + 1 + 1 ∨ (x + 1) / 2 ^ d = 2 * a + 2 + 1 := by omega
          rcases this with h1 | h1
          · exact .inl ⟨hx, d, h1⟩
          · exact .inr (.inr ⟨hx, d, h1⟩)
    · rw [inord_out h]
      simp only [List.not_mem_nil, false_iff, not_and, not_exists]
      intro hx d he
      have := Nat.div_le_self (x + 1) (2 ^ d)
      omega

theorem reach_one (x : Nat) : ∃ d, (x + 1) / 2 ^ d = 1 := by
  induction x using Nat.strongRecOn with
  | _ x ih =>
    cases x with
    | zero => exact ⟨0, rfl⟩
    | succ x =>
      obtain ⟨d, hd⟩ := ih ((x + 2) / 2 - 1) (by omega)
      refine ⟨d + 1, ?_⟩
      rw [Nat.pow_succ, Nat.mul_comm, ← Nat.div_div_eq_div_mul]
      rw [show (x + 2) / 2 - 1 + 1 = (x + 2) / 2 by omega] at hd
      exact hd

theorem mem_inord_zero (n x : Nat) : x ∈ inord n 0 ↔ x < n := by
  rw [mem_inord n n 0 (by omega)]
  exact ⟨fun h => h.1, fun h => ⟨h, reach_one x⟩⟩

theorem far_div {y d e c : Nat} (hde : d < e) (h1 : y / 2 ^ d = c) : y / 2 ^ e ≤ c / 2 := by
  obtain ⟨j, rfl⟩ : ∃ j, e = d + 1 + j := ⟨e - d - 1, by omega⟩
  rw [Nat.pow_add, Nat.pow_succ, ← Nat.div_div_eq_div_mul, ← Nat.div_div_eq_div_mul, h1]
  exact Nat.div_le_self _ _

theorem nodup_inord (n : Nat) : ∀ (m a : Nat), n - a ≤ m → (inord n a).Nodup := by
  intro m
  induction m with
  | zero => intro a hm; rw [inord_out (by omega)]; exact List.nodup_nil
  | succ m ih =>
    intro a hm
    by_cases h : a < n
    · rw [inord_in h, List.nodup_append]
      refine ⟨ih _ (by omega), List.nodup_cons.2 ⟨?_, ih _ (by omega)⟩, ?_⟩
      · rw [mem_inord n m _ (by omega)]
        rintro ⟨_, d, he⟩
        have := Nat.div_le_self (a + 1) (2 ^ d)
        omega
      · intro x hx y hy hxy
        subst hxy
        rw [mem_inord n m _ (by omega)] at hx
        obtain ⟨_, d, hd⟩ := hx
        rcases List.mem_cons.1 hy with rfl | hy
        · have := Nat.div_le_self (x + 1) (2 ^ d)
          omega
        · rw [mem_inord n m _ (by omega)] at hy
          obtain ⟨_, e, he⟩ := hy
          rcases Nat.lt_trichotomy d e with hde | hde | hde
          · have := far_div hde hd; omega
          · subst hde; omega
          · have := far_div hde he; omega
    · rw [inord_out h]; exact List.nodup_nil

theorem inord_perm (n : Nat) : (inord n 0).Perm (List.range n) := by
  rw [List.perm_ext_iff_of_nodup (nodup_inord n n 0 (by omega)) List.nodup_range]
  intro x
  rw [mem_inord_zero, List.mem_range]

theorem inord_length (n : Nat) : (inord n 0).length = n := by rw [(inord_perm n).length_eq, List.length_range]

theorem inord_lt {n x : Nat} (h : x ∈ inord n 0) : x < n := (mem_inord_zero n x).1 h

theorem inord_sub (n : Nat) : ∀ a, (inord n a).Sublist (inord n 0) := by
  intro a
  induction a using Nat.strongRecOn with
  | _ a ih =>
    by_cases h0 : a = 0
    · subst h0; exact List.Sublist.refl _
    · refine List.Sublist.trans ?_ (ih ((a - 1) / 2) (by omega))
      by_cases hp : (a - 1) / 2 < n
      · rw [inord_in hp]
        rcases Nat.mod_two_eq_zero_or_one a with h | h
        · rw [show 2 * ((a - 1) / 2) + 2 = a by omega]
          exact (List.sublist_cons_self _ _).trans (List.sublist_append_right _ _)
        · rw [show 2 * ((a - 1) / 2) + 1 = a by omega]
          exact List.sublist_append_left _ _
      · rw [inord_out (a := a) (by omega)]; exact List.nil_sublist _
theorem inord_le (n a : Nat) : (inord n a).length ≤ n := by have := (inord_sub n a).length_le; rwa [inord_length] at this

/-- of each place the rank of what stands there -/
def ranks (n : Nat) : List Nat := (List.range n).map fun at_ => (inord n 0).idxOf at_
theorem ranks_length (n : Nat) : (ranks n).length = n := by simp [ranks]
theorem ranks_get {n a : Nat} (h : a < n) : (ranks n)[a]'(by rw [ranks_length]; exact h) = (inord n 0).idxOf a := by simp [ranks]
theorem ranks_lt {n a : Nat} (h : a < n) : (inord n 0).idxOf a < n := by
  have := List.idxOf_lt_length_iff.2 ((mem_inord_zero n a).2 h)
  rwa [inord_length] at this
theorem inord_idx {n a : Nat} (h : a < n) : (inord n 0)[(inord n 0).idxOf a]'(by rw [inord_length]; exact ranks_lt h) = a := List.getElem_idxOf _
theorem idx_inord {n k : Nat} (h : k < (inord n 0).length) : (inord n 0).idxOf ((inord n 0)[k]'h) = k := (nodup_inord n n 0 (by omega)).idxOf_getElem k h
end Go.Proofs.YthbppblmecdekaaDoor
