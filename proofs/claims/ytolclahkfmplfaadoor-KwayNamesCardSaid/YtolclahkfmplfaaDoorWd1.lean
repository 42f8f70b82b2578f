/- Lib: texts of the claim, in this order. -/
import Derived.WalkKit
import Derived.WalkSpells
import Derived.Deep.QuietTactic
import Derived.BigQuiet
import Derived.Lib.Hide
import Derived.Laws.OwnMore
import Derived.Laws.MakeOwn
import Derived.Laws.Entries
import Derived.OwnWalk
/- Words and small laws on memory that all proofs of this seat use; no program in sight. -/
namespace Go.Proofs.YtolclahkfmplfaaDoor
open Go Go.RowKit

/-- an entry of a run, as data -/
structure Ent where
  key : Int
  val : Int
  dead : Bool
  deriving DecidableEq

/-- a pair, as data -/
structure Pr where
  key : Int
  val : Int
  deriving DecidableEq

def Ent.cells (e : Ent) : List Value := [.int .i64 e.key, .int .i64 e.val, .bool e.dead]
def Pr.cells (e : Pr) : List Value := [.int .i64 e.key, .int .i64 e.val]

/-- the slice's address A reads, in w, as these cells -/
def Sl (w : World) (A : Option Addr) (xs : List Value) : Prop :=
  xs = [] ∨ ∃ b off, A = some ⟨b, off, none⟩ ∧ b < w.heap.size ∧ ∀ j u, xs[j]? = some u → w.cell? ⟨b, off + j, none⟩ = some u

theorem Sl.below {w w' : World} {A : Option Addr} {xs : List Value} (h : Sl w A xs) (hb : Below w.heap.size w w') : Sl w' A xs := by
  rcases h with h | ⟨b, off, hA, hlt, hc⟩
  · exact .inl h
  · exact .inr ⟨b, off, hA, Nat.lt_of_lt_of_le hlt hb.size, fun j u hu => (hb.cell (p := ⟨b, off + j, none⟩) hlt).trans (hc j u hu)⟩

theorem flat_get {α : Type} (enc : α → List Value) (s : Nat) (hs : ∀ x, (enc x).length = s) (l : List α) (i j : Nat) (hi : i < l.length) (hj : j < s) :
    (l.flatMap enc)[i * s + j]? = (enc (l[i]'hi))[j]? := by
  induction l generalizing i with
  | nil => simp at hi
  | cons x l ih =>
    rw [List.flatMap_cons]
    cases i with
    | zero => rw [List.getElem?_append_left (by rw [hs]; omega)]; simp
    | succ i =>
      have : (i + 1) * s + j = s + (i * s + j) := by rw [Nat.succ_mul]; omega
      rw [this, List.getElem?_append_right (by rw [hs]; omega), hs]
      have : s + (i * s + j) - s = i * s + j := by omega
      rw [this, ih i (by simpa using hi)]
      rfl

theorem flat_length {α : Type} (enc : α → List Value) (s : Nat) (hs : ∀ x, (enc x).length = s) (l : List α) : (l.flatMap enc).length = l.length * s := by
  induction l with
  | nil => simp
  | cons x l ih => rw [List.flatMap_cons, List.length_append, hs, ih, List.length_cons, Nat.succ_mul]; omega

theorem Ent.cells_length (e : Ent) : e.cells.length = 3 := rfl
theorem Pr.cells_length (e : Pr) : e.cells.length = 2 := rfl

/-- element i of a slice of entries -/
theorem Sl.ent {w : World} {A : Option Addr} {l : List Ent} (h : Sl w A (l.flatMap Ent.cells)) (i : Nat) (hi : i < l.length) :
    ∃ b off, A = some ⟨b, off, none⟩ ∧ b < w.heap.size ∧ w.cell? ⟨b, off + i * 3, none⟩ = some (.int .i64 (l[i]'hi).key) ∧
      w.cell? ⟨b, off + i * 3 + 1, none⟩ = some (.int .i64 (l[i]'hi).val) ∧ w.cell? ⟨b, off + i * 3 + 2, none⟩ = some (.bool (l[i]'hi).dead) := by
  rcases h with h | ⟨b, off, hA, hlt, hc⟩
  · have := flat_length Ent.cells 3 Ent.cells_length l
    rw [h] at this
    simp at this
    omega
  · refine ⟨b, off, hA, hlt, ?_, ?_, ?_⟩
    · exact hc _ _ ((flat_get Ent.cells 3 Ent.cells_length l i 0 hi (by omega)).trans rfl)
    · exact hc _ _ ((flat_get Ent.cells 3 Ent.cells_length l i 1 hi (by omega)).trans rfl)
    · exact hc _ _ ((flat_get Ent.cells 3 Ent.cells_length l i 2 hi (by omega)).trans rfl)

theorem Sl.pr {w : World} {A : Option Addr} {l : List Pr} (h : Sl w A (l.flatMap Pr.cells)) (i : Nat) (hi : i < l.length) :
    ∃ b off, A = some ⟨b, off, none⟩ ∧ b < w.heap.size ∧ w.cell? ⟨b, off + i * 2, none⟩ = some (.int .i64 (l[i]'hi).key) ∧
      w.cell? ⟨b, off + i * 2 + 1, none⟩ = some (.int .i64 (l[i]'hi).val) := by
  rcases h with h | ⟨b, off, hA, hlt, hc⟩
  · have := flat_length Pr.cells 2 Pr.cells_length l
    rw [h] at this
    simp at this
    omega
  · refine ⟨b, off, hA, hlt, ?_, ?_⟩
    · exact hc _ _ ((flat_get Pr.cells 2 Pr.cells_length l i 0 hi (by omega)).trans rfl)
    · exact hc _ _ ((flat_get Pr.cells 2 Pr.cells_length l i 1 hi (by omega)).trans rfl)

def intV (n : Int) : Value := .int .i64 n
def natV (n : Nat) : Value := .int .i64 (n : Int)

/-- a slice of one-cell elements -/
theorem Sl.one {α : Type} {w : World} {A : Option Addr} {f : α → Value} {l : List α} (h : Sl w A (l.map f)) (i : Nat) (hi : i < l.length) :
    ∃ b off, A = some ⟨b, off, none⟩ ∧ b < w.heap.size ∧ w.cell? ⟨b, off + i, none⟩ = some (f (l[i]'hi)) := by
  rcases h with h | ⟨b, off, hA, hlt, hc⟩
  · have : (l.map f).length = 0 := by rw [h]; rfl
    simp at this
    subst this
    simp at hi
  · exact ⟨b, off, hA, hlt, hc i _ (by rw [List.getElem?_map, List.getElem?_eq_getElem hi]; rfl)⟩

/-- the same, read in a later world: the block lies below the elder heap's end -/
theorem Sl.entB {w w' : World} {A : Option Addr} {l : List Ent} (h : Sl w A (l.flatMap Ent.cells)) (hb : Below w.heap.size w w') (i : Nat) (hi : i < l.length) :
    ∃ b off, A = some ⟨b, off, none⟩ ∧ b < w.heap.size ∧ w'.cell? ⟨b, off + i * 3, none⟩ = some (.int .i64 (l[i]'hi).key) ∧
      w'.cell? ⟨b, off + i * 3 + 1, none⟩ = some (.int .i64 (l[i]'hi).val) ∧ w'.cell? ⟨b, off + i * 3 + 2, none⟩ = some (.bool (l[i]'hi).dead) := by
  obtain ⟨b, off, hA, hlt, c1, c2, c3⟩ := h.ent i hi
  exact ⟨b, off, hA, hlt, (hb.cell (p := ⟨b, _, none⟩) hlt).trans c1, (hb.cell (p := ⟨b, _, none⟩) hlt).trans c2, (hb.cell (p := ⟨b, _, none⟩) hlt).trans c3⟩
theorem Sl.prB {w w' : World} {A : Option Addr} {l : List Pr} (h : Sl w A (l.flatMap Pr.cells)) (hb : Below w.heap.size w w') (i : Nat) (hi : i < l.length) :
    ∃ b off, A = some ⟨b, off, none⟩ ∧ b < w.heap.size ∧ w'.cell? ⟨b, off + i * 2, none⟩ = some (.int .i64 (l[i]'hi).key) ∧
      w'.cell? ⟨b, off + i * 2 + 1, none⟩ = some (.int .i64 (l[i]'hi).val) := by
  obtain ⟨b, off, hA, hlt, c1, c2⟩ := h.pr i hi
  exact ⟨b, off, hA, hlt, (hb.cell (p := ⟨b, _, none⟩) hlt).trans c1, (hb.cell (p := ⟨b, _, none⟩) hlt).trans c2⟩
theorem Sl.oneB {α : Type} {w w' : World} {A : Option Addr} {f : α → Value} {l : List α} (h : Sl w A (l.map f)) (hb : Below w.heap.size w w') (i : Nat) (hi : i < l.length) :
    ∃ b off, A = some ⟨b, off, none⟩ ∧ b < w.heap.size ∧ w'.cell? ⟨b, off + i, none⟩ = some (f (l[i]'hi)) := by
  obtain ⟨b, off, hA, hlt, c1⟩ := h.one i hi
  exact ⟨b, off, hA, hlt, (hb.cell (p := ⟨b, _, none⟩) hlt).trans c1⟩

/-- block g is just the cells cs, none frozen -/
def Blk (w : World) (g : Nat) (t : TypeId) (cs : Array Value) : Prop := w.heap[g]? = some (.cells cs t (0, 0))

section
variable {w w' : World} {g : Nat} {t : TypeId} {cs : Array Value}
theorem Blk.lt (h : Blk w g t cs) : g < w.heap.size := by
  rcases Nat.lt_or_ge g w.heap.size with hlt | hge
  · exact hlt
  · unfold Blk at h; rw [Array.getElem?_eq_none hge] at h; cases h
theorem Blk.cell (h : Blk w g t cs) (i : Nat) : w.cell? ⟨g, i, none⟩ = cs[i]? := cell_of_row w g i cs t (0, 0) h
theorem Blk.frozen (h : Blk w g t cs) (i : Nat) : w.frozen? ⟨g, i, none⟩ = false := by
  unfold Blk at h
  simp [World.frozen?, h]
theorem Blk.new (w : World) (t : TypeId) (cs : Array Value) : Blk (w.alloc (.cells cs t)) w.heap.size t cs := heap_alloc_new w _
theorem Blk.drewN (h : Blk w g t cs) (n : Nat) : Blk (w.drewN n) g t cs := h
theorem Blk.alloc (h : Blk w g t cs) (o : Obj) : Blk (w.alloc o) g t cs := (Below.heap_alloc w o g h.lt).trans h
theorem Blk.set_ (h : Blk w g t cs) (i : Nat) (u : Value) : Blk (w.setCell ⟨g, i, none⟩ u) g t (cs.setIfInBounds i u) := by
  unfold Blk at h ⊢
  simp [World.setCell, Array.getElem?_modify, h]
theorem Blk.far (h : Blk w g t cs) {p : Addr} (hp : g ≠ p.block) (u : Value) : Blk (w.setCell p u) g t cs := (Below.heap_setCell w p u g hp).trans h
theorem Blk.of (h : Blk w g t cs) (he : w'.heap[g]? = w.heap[g]?) : Blk w' g t cs := he.trans h
theorem Blk.below {B : Nat} (h : Blk w g t cs) (hb : Below B w w') (hg : g < B) : Blk w' g t cs := (hb.block g hg).trans h
theorem Blk.sl (h : Blk w g t cs) (o : Nat) (xs : List Value) (hx : ∀ j u, xs[j]? = some u → cs[o + j]? = some u) : Sl w (some ⟨g, o, none⟩) xs :=
  .inr ⟨g, o, rfl, h.lt, fun j u hu => (h.cell _).trans (hx j u hu)⟩
end

/-! ### a slice of the call's own -/
section
variable {w : World} {B B' s n c : Nat} {e : TypeId} {A : Option Addr} {v : Value} {xs : List Value}
theorem own_form (h : w.ownsRow B e s v n xs) : ∃ A c, v = .slice A n c ∧ n ≤ c ∧ c ≤ maxLen := by
  rcases h.2 with ⟨rfl, rfl⟩ | ⟨g, cap, cur, rfl, _, _, hn, hm, _⟩
  · exact ⟨none, 0, rfl, Nat.le_refl _, Nat.zero_le _⟩
  · exact ⟨_, cap, rfl, hn, hm⟩
theorem own_sl (h : w.ownsRow B e s (.slice A n c) n xs) : Sl w A xs := by
  rcases h.2 with ⟨hv, hn⟩ | ⟨g, cap, cur, hv, _, hg, _, _, _, ht⟩
  · left; have := h.1; rw [hn] at this; exact List.eq_nil_of_length_eq_zero (by simpa using this)
  · obtain ⟨rfl, rfl⟩ : A = some ⟨g, 0, none⟩ ∧ c = cap := by simpa using hv
    refine .inr ⟨g, 0, rfl, (Array.getElem?_eq_some_iff.1 hg).1, fun j u hu => ?_⟩
    rw [Nat.zero_add, cell_of_row w g j cur e (0, 0) hg]
    rw [← ht, List.getElem?_take] at hu
    split at hu
    · simpa using hu
    · cases hu
theorem own_base (h : w.ownsRow B e s (.slice A n c) n xs) : ∀ a, A = some a → B ≤ a.block := by
  intro a ha
  exact (h.lt a.block (by simp [Value.ownBlock, ha])).1
theorem own_mono (h : w.ownsRow B e s v n xs) (hB : B' ≤ B) : w.ownsRow B' e s v n xs := by
  refine ⟨h.1, ?_⟩
  rcases h.2 with h2 | ⟨g, cap, cur, hv, hg, r⟩
  · exact .inl h2
  · exact .inr ⟨g, cap, cur, hv, by omega, r⟩
theorem own_below {w' : World} (h : w.ownsRow B e s v n xs) (hb : Below w.heap.size w w') : w'.ownsRow B e s v n xs := by
  refine ⟨h.1, ?_⟩
  rcases h.2 with h2 | ⟨g, cap, cur, hv, hg, hh, r⟩
  · exact .inl h2
  · exact .inr ⟨g, cap, cur, hv, hg, (hb.block g (Array.getElem?_eq_some_iff.1 hh).1).trans hh, r⟩
theorem own_far {p : Addr} (h : w.ownsRow B e s v n xs) (hp : v.ownBlock ≠ some p.block) (u : Value) : (w.setCell p u).ownsRow B e s v n xs := by
  refine ⟨h.1, ?_⟩
  rcases h.2 with h2 | ⟨g, cap, cur, rfl, hg, hh, r⟩
  · exact .inl h2
  · exact .inr ⟨g, cap, cur, rfl, hg, (Below.heap_setCell w p u g (fun e => hp (by simp [Value.ownBlock, e]))).trans hh, r⟩
/-- what is owned reads as a row: the block, whole -/
theorem own_blk (h : w.ownsRow B e s v n xs) (hn : 0 < n) : ∃ g cap cur, v = .slice (some ⟨g, 0, none⟩) n cap ∧ B ≤ g ∧ Blk w g e cur ∧ n ≤ cap ∧ cap ≤ maxLen ∧ cur.size = cap * s ∧ cur.toList.take (n * s) = xs := by
  rcases h.2 with ⟨_, rfl⟩ | h2
  · omega
  · exact h2
end

section
variable {P : Program} (w : World)
theorem run_append_nilsrc (base : Nat) (t ty e : TypeId) (i : TypeInfo) (size : Nat) (ht : P.underlying t = some (.slice e)) (hi : P.info? e = some i)
    (v : Value) (n : Nat) (xs : List Value) (hown : w.ownsRow base e size v n xs) (A : Option Addr) (c : Nat) : (Builtin.append_ #[t, t] ty #[v, .slice A 0 c]).run P w = .ok v w := by
  cases A with
  | none =>
    rcases hown.2 with ⟨rfl, rfl⟩ | ⟨g, cap, cur, rfl, _, _, hnc, _⟩
    · simp [Builtin.append_, run_underlying ht, sizeOf, typeInfo, hi, Builtin.lenOf, Builtin.firstCells]
    · simp [Builtin.append_, run_underlying ht, sizeOf, typeInfo, hi, Builtin.lenOf, Builtin.firstCells, hnc, storeCells]
  | some a =>
    rcases hown.2 with ⟨rfl, rfl⟩ | ⟨g, cap, cur, rfl, _, _, hnc, _⟩
    · simp [Builtin.append_, run_underlying ht, sizeOf, typeInfo, hi, Builtin.lenOf, Builtin.firstCells, loadCells, loadCellsFrom]
    · simp [Builtin.append_, run_underlying ht, sizeOf, typeInfo, hi, Builtin.lenOf, Builtin.firstCells, hnc, storeCells, loadCells, loadCellsFrom]

/-- append onto a row of the call's own, whatever slice it is that is appended -/
theorem run_append_sl (base : Nat) (t ty e : TypeId) (i : TypeInfo) (z : Value) (size bytes : Nat) (ht : P.underlying t = some (.slice e)) (hi : P.info? e = some i) (hz : i.zero = some z)
    (hsize : i.size = size) (hby : i.bytes = bytes) (hzs : z.cells.size = size) (hsz : 0 < size)
    (v : Value) (n : Nat) (xs : List Value) (hown : w.ownsRow base e size v n xs)
    (A : Option Addr) (m c : Nat) (news : List Value) (hr : Sl w A news) (hl : news.length = m * size) (h1 : ∀ u ∈ news, u.oneCell' = true)
    (h63 : n + m ≤ maxLen) (hbytes : (n + m) * bytes ≤ 140737488355328) (hbase : base ≤ w.heap.size) :
    ∃ v' w', (Builtin.append_ #[t, t] ty #[v, .slice A m c]).run P w = .ok v' w' ∧ w'.ownsRow base e size v' (n + m) (xs ++ news) ∧ w.grownBy w' v.ownBlock := by
  by_cases hm : m = 0
  · subst hm
    have hn : news = [] := List.eq_nil_of_length_eq_zero (by simpa using hl)
    subst hn
    exact ⟨v, w, run_append_nilsrc w base t ty e i size ht hi v n xs hown A c, by simpa using hown, World.grownBy.refl w _⟩
  · rcases hr with hr | ⟨b, off, rfl, hlt, hc⟩
    · subst hr
      rw [List.length_nil] at hl
      have := Nat.mul_pos (Nat.pos_of_ne_zero hm) hsz
      omega
    · obtain ⟨v', w', hrun, h2, h3, _⟩ := run_append_own (P := P) w base t ty e i z size bytes ht hi hz hsize hby hzs hsz v n xs hown ⟨b, off, none⟩ m c news hl
        (fun j u hu => by rw [Addr.add_lit]; exact hc j u hu) h1 h63 hbytes hbase
      exact ⟨v', w', hrun, h2, h3⟩

theorem wpList_append_sl {ops : Array Oper} {rest : List Oper} {o : Oper} {a : Act} {Q : Exit → Act → World → Prop} (hgd : o.guard = none) (s x : Operand) (t : TypeId)
    (ho : o.op = .call { callee := .builtin .append, args := #[s, x], argTypes := #[t, t] })
    (base : Nat) (e : TypeId) (i : TypeInfo) (z : Value) (size bytes : Nat) (ht : P.underlying t = some (.slice e)) (hi : P.info? e = some i) (hz : i.zero = some z)
    (hsize : i.size = size) (hby : i.bytes = bytes) (hzs : z.cells.size = size) (hsz : 0 < size)
    (v : Value) (n : Nat) (xs : List Value) (hs : a.eval s = v) (hown : w.ownsRow base e size v n xs)
    (A : Option Addr) (m c : Nat) (news : List Value) (hx : a.eval x = .slice A m c) (hr : Sl w A news) (hl : news.length = m * size) (h1 : ∀ u ∈ news, u.oneCell' = true)
    (h63 : n + m ≤ maxLen) (hbytes : (n + m) * bytes ≤ 140737488355328) (hbase : base ≤ w.heap.size)
    (h : ∀ v' w', w'.ownsRow base e size v' (n + m) (xs ++ news) → w.grownBy w' v.ownBlock → wpList P ops Q rest (a.put o.dst v') w') : wpList P ops Q (o :: rest) a w := by
  refine wpList_plain hgd fun K hK => ?_
  obtain ⟨v', w', hrun, h2, h3⟩ := run_append_sl (P := P) w base t o.type e i z size bytes ht hi hz hsize hby hzs hsz v n xs hown A m c news hr hl h1 h63 hbytes hbase
  unfold Oper.wp execOp
  simp only [ho, resolve, invoke, builtin, Sem.run_bind, Sem.run_pure, Result.andThen_ok, List.map_toArray, List.map_cons, List.map_nil, hs, hx, hrun]
  exact hK _ _ (h v' w' h2 h3)
end

theorem step_append_sl {P : Program} (w : World) {ops : Array Oper} {o : Oper} {a : Act} {K : Act → World → Prop} {Q : Exit → Act → World → Prop} {E : Prop} (hgd : o.guard = none) (s x : Operand) (t : TypeId)
    (ho : o.op = .call { callee := .builtin .append, args := #[s, x], argTypes := #[t, t] })
    (base : Nat) (e : TypeId) (i : TypeInfo) (z : Value) (size bytes : Nat) (ht : P.underlying t = some (.slice e)) (hi : P.info? e = some i) (hz : i.zero = some z)
    (hsize : i.size = size) (hby : i.bytes = bytes) (hzs : z.cells.size = size) (hsz : 0 < size)
    (v : Value) (n : Nat) (xs : List Value) (hs : a.eval s = v) (hown : w.ownsRow base e size v n xs)
    (A : Option Addr) (m c : Nat) (news : List Value) (hx : a.eval x = .slice A m c) (hr : Sl w A news) (hl : news.length = m * size) (h1 : ∀ u ∈ news, u.oneCell' = true)
    (h63 : n + m ≤ maxLen) (hbytes : (n + m) * bytes ≤ 140737488355328) (hbase : base ≤ w.heap.size)
    (h : ∀ v' w', w'.ownsRow base e size v' (n + m) (xs ++ news) → w.grownBy w' v.ownBlock → K (a.put o.dst v') w') :
    if Region.wanted o (yielded ops a.tmps) = true then Oper.wp P o a w K Q else E := by
  have hw : Region.wanted o (yielded ops a.tmps) = true := by simp [Region.wanted, hgd]
  rw [if_pos hw]
  obtain ⟨v', w', hrun, h2, h3⟩ := run_append_sl (P := P) w base t o.type e i z size bytes ht hi hz hsize hby hzs hsz v n xs hown A m c news hr hl h1 h63 hbytes hbase
  unfold Oper.wp execOp
  simp only [ho, resolve, invoke, builtin, Sem.run_bind, Sem.run_pure, Result.andThen_ok, List.map_toArray, List.map_cons, List.map_nil, hs, hx, hrun]
  exact h v' w' h2 h3

theorem grown_cell {w w' : World} {row : Option Nat} {p : Addr} {v : Value} (hg : w.grownBy w' row) (h : w.cell? p = some v) (hne : some p.block ≠ row) : w'.cell? p = some v :=
  (World.cell?_of_block (hg.block p.block (World.block_lt_of_cell? w p h) hne)).trans h
theorem grown_frozen {w w' : World} {row : Option Nat} {p : Addr} (hg : w.grownBy w' row) (hlt : p.block < w.heap.size) (h : w.frozen? p = false) (hne : some p.block ≠ row) : w'.frozen? p = false :=
  (World.frozen?_of_block (hg.block p.block hlt hne)).trans h
theorem alloc_cell {w : World} {p : Addr} {v : Value} (h : w.cell? p = some v) (o : Obj) : (w.alloc o).cell? p = some v :=
  (World.cell?_of_block (Below.heap_alloc w o p.block (World.block_lt_of_cell? w p h))).trans h
theorem alloc_frozen {w : World} {p : Addr} (hlt : p.block < w.heap.size) (h : w.frozen? p = false) (o : Obj) : (w.alloc o).frozen? p = false :=
  (World.frozen?_of_block (Below.heap_alloc w o p.block hlt)).trans h

theorem take_set3 {cur : Array Value} {k : Nat} {xs : List Value} (a b c : Value) (h : k * 3 + 3 ≤ cur.size) (hx : cur.toList.take (k * 3) = xs) :
    (((cur.setIfInBounds (k * 3) a).setIfInBounds (k * 3 + 1) b).setIfInBounds (k * 3 + 2) c).toList.take ((k + 1) * 3) = xs ++ [a, b, c] := by
  have hl : xs.length = k * 3 := by rw [← hx, List.length_take, Array.length_toList]; omega
  refine List.ext_getElem? fun i => ?_
  rw [List.getElem?_take]
  by_cases h1 : i < k * 3
  · rw [if_pos (by omega), List.getElem?_append_left (by omega), ← hx, List.getElem?_take, if_pos h1]
    simp only [Array.toList_setIfInBounds]
    rw [List.getElem?_set_ne (by omega), List.getElem?_set_ne (by omega), List.getElem?_set_ne (by omega)]
  · rw [List.getElem?_append_right (by omega), hl]
    by_cases h2 : i < (k + 1) * 3
    · rw [if_pos h2]
      simp only [Array.toList_setIfInBounds]
      obtain ⟨j, rfl⟩ : ∃ j, i = k * 3 + j := ⟨i - k * 3, by omega⟩
      have hj : j = 0 ∨ j = 1 ∨ j = 2 := by omega
      rw [Nat.add_sub_cancel_left]
      rcases hj with rfl | rfl | rfl
      · rw [List.getElem?_set_ne (by omega), List.getElem?_set_ne (by omega), Nat.add_zero, List.getElem?_set_self (by simpa using by omega)]; rfl
      · rw [List.getElem?_set_ne (by omega), List.getElem?_set_self (by simpa using by omega)]; rfl
      · rw [List.getElem?_set_self (by simpa using by omega)]; rfl
    · rw [if_neg h2, List.getElem?_eq_none (by simp; omega)]

/-- make of elements of several cells -/
theorem run_make_rowN {P : Program} (t e : TypeId) (i : TypeInfo) (z : Value) (ht : P.underlying t = some (.slice e)) (hi : P.info? e = some i) (hz : i.zero = some z)
    (n : Nat) (hbytes : i.bytes * n ≤ 281474976710656) (h63 : n ≤ 9223372036854775807) (w : World) :
    (Instr.makeSlice t (.int .i64 (n : Int)) (.int .i64 (n : Int))).run P w = .ok (.slice (some ⟨w.heap.size, 0, none⟩) n n) (w.alloc (.cells (madeCells z.cells (n * i.size)) e)) := by
  have hb : (i.bytes : Int) * (n : Int) ≤ 281474976710656 := by
    have h : ((i.bytes * n : Nat) : Int) ≤ 281474976710656 := by omega
    rwa [Int.natCast_mul] at h
  have hr := run_make (P := P) w t e i z ht hi hz .i64 .i64 n n (by omega) (by omega) hb (by omega)
  simp only [Int.toNat_natCast] at hr
  exact hr

/-- keys rise -/
def rises (ks : List Int) : Bool := decide (ks.Pairwise (· < ·))

theorem rises_iff (ks : List Int) : rises ks = true ↔ ∀ i (h : i + 1 < ks.length), ks[i]'(by omega) < ks[i + 1]'h := by
  unfold rises
  rw [decide_eq_true_iff]
  constructor
  · intro h i hi
    exact (List.pairwise_iff_getElem.1 h) i (i + 1) (by omega) hi (by omega)
  · intro h
    rw [List.pairwise_iff_getElem]
    intro i j hi hj hij
    induction j with
    | zero => omega
    | succ j ih =>
      have hj' := h j hj
      by_cases e : i = j
      · subst e; exact hj'
      · exact Int.lt_trans (ih (by omega) (by omega)) hj'

theorem rises_of_chain {ks : List Int} (h : ∀ i (h : i + 1 < ks.length), ks[i]'(by omega) < ks[i + 1]'h) : rises ks = true := (rises_iff ks).2 h
theorem rises_false {ks : List Int} {i : Nat} (hi : i + 1 < ks.length) (h : ks[i + 1]'hi ≤ ks[i]'(by omega)) : rises ks = false := by
  rw [Bool.eq_false_iff]
  intro hr
  have := (rises_iff ks).1 hr i hi
  omega

theorem bdrew {B : Nat} {a w : World} (h : Below B a w) (n : Nat) : Below B a (w.drewN n) := ⟨h.os, h.tape, h.output, h.size, h.block⟩
theorem bdrew1 {B : Nat} {a w : World} (h : Below B a w) : Below B a w.drew := h.drew
theorem bext {a b c : World} (h : Below a.heap.size a b) (k : Below b.heap.size b c) : Below a.heap.size a c := h.trans (k.mono h.size)
/-- the keys rise up to place k -/
def RiseTo (ks : List Int) (k : Nat) : Prop := ∀ i (h : i + 1 < ks.length), i + 1 < k → ks[i]'(by omega) < ks[i + 1]'h
theorem RiseTo.start (ks : List Int) : RiseTo ks 1 := fun _ _ h => absurd h (by omega)
theorem RiseTo.step {ks : List Int} {k : Nat} (h : RiseTo ks k) (hk : 1 ≤ k) (hlt : k < ks.length) (hx : ks[k - 1]'(by omega) < ks[k]'hlt) : RiseTo ks (k + 1) := by
  intro i hi hik
  by_cases e : i + 1 = k
  · subst e; simpa using hx
  · exact h i hi (by omega)
theorem RiseTo.all {ks : List Int} {k : Nat} (h : RiseTo ks k) (hk : ks.length ≤ k) : rises ks = true := rises_of_chain fun i hi => h i hi (by omega)
theorem RiseTo.no {ks : List Int} {k : Nat} (hk : 1 ≤ k) (hlt : k < ks.length) (hx : ks[k]'hlt ≤ ks[k - 1]'(by omega)) : rises ks = false := by
  obtain ⟨j, rfl⟩ : ∃ j, k = j + 1 := ⟨k - 1, by omega⟩
  exact rises_false hlt (by simpa using hx)

theorem bcell {W w1 : World} {B : Nat} (hb : Below B W w1) : (∀ b o, b < B → w1.cell? ⟨b, o, none⟩ = W.cell? ⟨b, o, none⟩) ∧ (∀ b o, b < B → w1.frozen? ⟨b, o, none⟩ = W.frozen? ⟨b, o, none⟩) :=
  ⟨fun b o h => hb.cell (p := ⟨b, o, none⟩) h, fun b o h => hb.frozen (p := ⟨b, o, none⟩) h⟩
theorem ret_int {k : IntKind} {a b : Int} (h : a = b) : Ending.returned (.int k a) = .returned (.int k b) := by rw [h]
theorem ret_bool {a b : Bool} (h : a = b) : Ending.returned (.bool a) = .returned (.bool b) := by rw [h]
end Go.Proofs.YtolclahkfmplfaaDoor
