/- G6 Gs Ga G7 G8 G9: texts of the claim, in this order. -/
import Derived.Test.YthbppblmecdekaaDoorWb12
import Derived.Test.YthbppblmecdekaaDoorWb8
import Derived.Maps.OwnSet
import Derived.Maps.Views
import Derived.Maps.AppendAt
import Derived.Maps.OwnOps
import Derived.Test.YthbppblmecdekaaDoorWb9
import Derived.Deep.LoopGhost
/- Levels in memory of the call's own; the map of levels that hold a run. No walk. -/
namespace Go.Proofs.YthbppblmecdekaaDoor
open Go Go.RowKit Go.Maps
set_option maxRecDepth 100000

/-! ### levels in memory of the call's own -/
structure OwnRs (w : World) (B0 : Nat) (B : Option Addr) (c : Nat) (Rs : List Rm) : Prop where
  row : w.ownsRow B0 61 1 (.slice B Rs.length c) Rs.length (Rs.map Rm.v)
  ent : ∀ r ∈ Rs, w.ownsRow B0 27 3 r.v r.l.length (r.l.flatMap Ent.cells)
theorem own_rm {w : World} {B0 : Nat} {r : Rm} (h : w.ownsRow B0 27 3 r.v r.l.length (r.l.flatMap Ent.cells)) : r.Ok w := by
  obtain ⟨A3, c3, h3, h4, h5⟩ := own_form h
  obtain ⟨ls, As, cs⟩ := r
  have h6 : As = A3 ∧ cs = c3 := by simpa [Rm.v] using h3
  obtain ⟨rfl, rfl⟩ := h6
  exact ⟨own_sl h, h4, h5⟩
theorem OwnRs.runsAt {w : World} {B0 : Nat} {B : Option Addr} {c : Nat} {Rs : List Rm} (h : OwnRs w B0 B c Rs) : RunsAt w B Rs := ⟨own_sl h.row, fun r hr => own_rm (h.ent r hr)⟩
theorem OwnRs.le {w : World} {B0 : Nat} {B : Option Addr} {c : Nat} {Rs : List Rm} (h : OwnRs w B0 B c Rs) : Rs.length ≤ c ∧ c ≤ maxLen := by
  obtain ⟨A', c', h4, h5, h6⟩ := own_form h.row
  obtain ⟨rfl, rfl⟩ : B = A' ∧ c = c' := by simpa using h4
  exact ⟨h5, h6⟩
theorem OwnRs.nil (w : World) (B0 : Nat) : OwnRs w B0 none 0 [] := ⟨World.ownsRow_nil _ _ _ _, by simp⟩
theorem OwnRs.below {w w' : World} {B0 : Nat} {B : Option Addr} {c : Nat} {Rs : List Rm} (h : OwnRs w B0 B c Rs) (hb : Below w.heap.size w w') : OwnRs w' B0 B c Rs :=
  ⟨own_below h.row hb, fun r hr => own_below (h.ent r hr) hb⟩
theorem OwnRs.mono {w : World} {B0 B1 : Nat} {B : Option Addr} {c : Nat} {Rs : List Rm} (h : OwnRs w B0 B c Rs) (hb : B1 ≤ B0) : OwnRs w B1 B c Rs :=
  ⟨own_mono h.row hb, fun r hr => own_mono (h.ent r hr) hb⟩
theorem OwnRs.alloc {w : World} {B0 : Nat} {B : Option Addr} {c : Nat} {Rs : List Rm} (h : OwnRs w B0 B c Rs) (o : Obj) : OwnRs (w.alloc o) B0 B c Rs :=
  ⟨h.row.alloc o, fun r hr => (h.ent r hr).alloc o⟩
theorem OwnRs.drew {w : World} {B0 : Nat} {B : Option Addr} {c : Nat} {Rs : List Rm} (h : OwnRs w B0 B c Rs) : OwnRs w.drew B0 B c Rs := ⟨h.row, h.ent⟩
/-- a store into a block of another type -/
theorem own_setT {w : World} {g B s n : Nat} {t e : TypeId} {cur : Array Value} {v : Value} {xs : List Value} (hB : Blk w g t cur) (h : w.ownsRow B e s v n xs) (hne : e ≠ t) (i : Nat) (u : Value) : (w.setCell ⟨g, i, none⟩ u).ownsRow B e s v n xs := by
  refine ⟨h.1, ?_⟩
  rcases h.2 with h2 | ⟨k, cap, cur', rfl, hg, hh, r⟩
  · exact .inl h2
  · refine .inr ⟨k, cap, cur', rfl, hg, ?_, r⟩
    refine (Below.heap_setCell w ⟨g, i, none⟩ u k ?_).trans hh
    intro e2
    have e3 : k = g := e2
    subst e3
    have := hB.symm.trans hh
    simp at this
    exact hne this.2.symm
/-- a store into a block that is not this row's, or of another type -/
theorem OwnRs.setT {w : World} {B0 g : Nat} {B : Option Addr} {c : Nat} {Rs : List Rm} {t : TypeId} {cur : Array Value} (h : OwnRs w B0 B c Rs) (hB : Blk w g t cur) (h1 : 61 ≠ t) (h2 : 27 ≠ t) (i : Nat) (u : Value) : OwnRs (w.setCell ⟨g, i, none⟩ u) B0 B c Rs :=
  ⟨own_setT hB h.row h1 i u, fun r hr => own_setT hB (h.ent r hr) h2 i u⟩
/-- a row of runs, of the call's own -/
abbrev RowAt (w : World) (B0 : Nat) (B : Option Addr) (c : Nat) (Rs : List Rm) : Prop := w.ownsRow B0 61 1 (.slice B Rs.length c) Rs.length (Rs.map Rm.v)
theorem RowAt.at {w : World} {B0 : Nat} {B : Option Addr} {c : Nat} {Rs : List Rm} (h : RowAt w B0 B c Rs) (hn : 0 < Rs.length) : ∃ g cur, B = some ⟨g, 0, none⟩ ∧ B0 ≤ g ∧ Blk w g 61 cur ∧ cur.size = c ∧ (∀ k (hk : k < Rs.length), w.cell? ⟨g, k, none⟩ = some (Rs[k]'hk).v) := by
  obtain ⟨g, cap, cur, hv, hg, hb, h1, h2, h3, h4⟩ := own_blk h hn
  obtain ⟨rfl, rfl⟩ : B = some ⟨g, 0, none⟩ ∧ c = cap := by simpa using hv
  refine ⟨g, cur, rfl, hg, hb, by simpa using h3, fun k hk => ?_⟩
  rw [hb.cell]
  have h5 : (Rs.map Rm.v)[k]? = some (Rs[k]'hk).v := by simp [hk]
  rw [← h4, List.getElem?_take, if_pos (by omega)] at h5
  simpa using h5
theorem OwnRs.at {w : World} {B0 : Nat} {B : Option Addr} {c : Nat} {Rs : List Rm} (h : OwnRs w B0 B c Rs) (hn : 0 < Rs.length) : ∃ g cur, B = some ⟨g, 0, none⟩ ∧ B0 ≤ g ∧ Blk w g 61 cur ∧ cur.size = c ∧ (∀ k (hk : k < Rs.length), w.cell? ⟨g, k, none⟩ = some (Rs[k]'hk).v) := RowAt.at h.row hn
theorem RowAt.set {w : World} {B0 g : Nat} {c : Nat} {Rs : List Rm} (h : RowAt w B0 (some ⟨g, 0, none⟩) c Rs) {k : Nat} (hk : k < Rs.length) (r : Rm) : RowAt (w.setCell ⟨g, k, none⟩ r.v) B0 (some ⟨g, 0, none⟩) c (Rs.set k r) := by
  obtain ⟨g', cap, cur, hv, hg, hb, h1, h2, h3, h4⟩ := own_blk h (by omega)
  obtain ⟨rfl, rfl⟩ : g = g' ∧ c = cap := by simpa using hv
  unfold RowAt
  rw [List.length_set]
  refine ⟨by simp, .inr ⟨g, c, cur.setIfInBounds k r.v, rfl, hg, hb.set_ k r.v, h1, h2, by simpa using h3, ?_⟩⟩
  rw [Array.toList_setIfInBounds, List.take_set, h4, List.map_set]
theorem RowAt.le {w : World} {B0 : Nat} {B : Option Addr} {c : Nat} {Rs : List Rm} (h : RowAt w B0 B c Rs) : Rs.length ≤ c ∧ c ≤ maxLen := by
  obtain ⟨A', c', h4, h5, h6⟩ := own_form h
  obtain ⟨rfl, rfl⟩ : B = A' ∧ c = c' := by simpa using h4
  exact ⟨h5, h6⟩
/-- a run is laid at a level -/
theorem OwnRs.set {w : World} {B0 g : Nat} {c : Nat} {Rs : List Rm} (h : OwnRs w B0 (some ⟨g, 0, none⟩) c Rs) {k : Nat} (hk : k < Rs.length) (r : Rm) (hr : w.ownsRow B0 27 3 r.v r.l.length (r.l.flatMap Ent.cells)) :
    OwnRs (w.setCell ⟨g, k, none⟩ r.v) B0 (some ⟨g, 0, none⟩) c (Rs.set k r) := by
  obtain ⟨g', cur, h1, _, hb, _⟩ := h.at (by omega)
  obtain rfl : g = g' := by simpa using h1
  refine ⟨RowAt.set h.row hk r, ?_⟩
  intro s hs
  refine own_setT hb ?_ (by decide) k _
  rcases List.mem_or_eq_of_mem_set hs with h5 | h5
  · exact h.ent s h5
  · rw [h5]; exact hr
/-- a run more, behind the others -/
theorem OwnRs.push {w w' : World} {B0 : Nat} {B A' : Option Addr} {c c' : Nat} {Rs : List Rm} (h : OwnRs w B0 B c Rs) (r : Rm) (hr : w.ownsRow B0 27 3 r.v r.l.length (r.l.flatMap Ent.cells))
    (ho : w'.ownsRow B0 61 1 (.slice A' (Rs.length + 1) c') (Rs.length + 1) (Rs.map Rm.v ++ [r.v])) (hg : w.grownBy w' (Value.slice B Rs.length c).ownBlock) : OwnRs w' B0 A' c' (Rs ++ [r]) := by
  refine ⟨?_, ?_⟩
  · rw [List.length_append, List.map_append]; exact ho
  · intro s hs
    refine own_grow hg h.row ?_ (by decide)
    rcases List.mem_append.1 hs with hs | hs
    · exact h.ent s hs
    · obtain rfl : s = r := by simpa using hs
      exact hr
theorem OwnRs.grown {w w' : World} {B0 : Nat} {B : Option Addr} {c : Nat} {Rs : List Rm} (h : OwnRs w B0 B c Rs) (hg : w.grownBy w' (Value.slice B Rs.length c).ownBlock) (hb : B0 ≤ w.heap.size) : Below B0 w w' :=
  (Below.refl _ _).grown hg (by omega) (fun q hq => (h.row.lt q hq).1)
/-- rows whose runs are among others' -/
theorem OwnRs.sub {w : World} {B0 : Nat} {B A : Option Addr} {c d : Nat} {Rs Ts : List Rm} (h : OwnRs w B0 B c Rs) (ho : w.ownsRow B0 61 1 (.slice A Ts.length d) Ts.length (Ts.map Rm.v)) (hs : ∀ t ∈ Ts, t = ⟨[], none, 0⟩ ∨ t ∈ Rs) : OwnRs w B0 A d Ts := by
  refine ⟨ho, fun t ht => ?_⟩
  rcases hs t ht with rfl | h1
  · exact World.ownsRow_nil _ _ _ _
  · exact h.ent t h1
theorem own_empty (w : World) (B0 : Nat) : w.ownsRow B0 27 3 (Rm.v ⟨[], none, 0⟩) 0 (([] : List Ent).flatMap Ent.cells) := World.ownsRow_nil _ _ _ _

/-- hands back levels, in memory of its own -/
def GivesLs (ls : Lv) (w : World) (r : Ending) (w' : World) : Prop := ∃ B c Rs, r = .returned (.slice B Rs.length c) ∧ lvs Rs = ls ∧ OwnRs w' w.heap.size B c Rs ∧ Below w.heap.size w w'
/-- .. and a ledger -/
def GivesRg (ls : Lv) (n : Int) (w : World) (r : Ending) (w' : World) : Prop := ∃ B c Rs, r = .returned (.agg #[.slice B Rs.length c, .int .u64 n]) ∧ lvs Rs = ls ∧ OwnRs w' w.heap.size B c Rs ∧ Below w.heap.size w w'
/-- .. and an error -/
def GivesRgE (ls : Lv) (n e : Int) (w : World) (r : Ending) (w' : World) : Prop := ∃ B c Rs, r = .returned (.tuple #[.agg #[.slice B Rs.length c, .int .u64 n], .int .i64 e]) ∧ lvs Rs = ls ∧ OwnRs w' w.heap.size B c Rs ∧ Below w.heap.size w w'
theorem rs_len {Rs : List Rm} {ls : Lv} (h : lvs Rs = ls) : Rs.length = ls.length := by rw [← h, lvs_len]
theorem lvs_set (Rs : List Rm) (k : Nat) (r : Rm) : lvs (Rs.set k r) = (lvs Rs).set k r.l := by unfold lvs; rw [List.map_set]
theorem lvs_append (Rs Ts : List Rm) : lvs (Rs ++ Ts) = lvs Rs ++ lvs Ts := by unfold lvs; rw [List.map_append]
theorem lvs_empty (Rs : List Rm) (r : Rm) : lvs (Rs ++ [r]) = lvs Rs ++ [r.l] := by rw [lvs_append]; rfl

/-! ### the map of levels that hold a run -/
def HeldAt (w : World) (b : Nat) (rs : Lv) : Prop := ∃ (n : Nat) (D : DataW Unit), w.ownsMap Tryd.prog 3 (plainElem (H := Unit) Tryd.prog 3) b n D ∧ n ≤ 1000000 ∧ Tidy D ∧ (∀ j : Nat, D.atKey (.int .i64 j) (.lit (.int .i64 0)) = .lit (.int .i64 (lev rs j).length)) ∧
  (∀ j : Nat, Maps.has D (.int .i64 j) = decide (lev rs j ≠ [])) ∧ Maps.size D = cnt rs
theorem HeldAt.below {w w' : World} {b : Nat} {rs : Lv} (h : HeldAt w b rs) (hb : Below w.heap.size w w') : HeldAt w' b rs := by
  obtain ⟨n, D, h1, h2⟩ := h
  refine ⟨n, D, ?_, h2⟩
  have hl := h1.lt
  obtain ⟨es, clock, h3, h4⟩ := h1
  exact ⟨es, clock, (hb.block b hl).trans h3, h4⟩
theorem HeldAt.lt {w : World} {b : Nat} {rs : Lv} (h : HeldAt w b rs) : b < w.heap.size := by obtain ⟨n, D, h1, _⟩ := h; exact h1.lt
theorem HeldAt.setCell {w : World} {b : Nat} {rs : Lv} (h : HeldAt w b rs) {a : Addr} (ha : b ≠ a.block) (u : Value) : HeldAt (w.setCell a u) b rs := by
  obtain ⟨n, D, h1, h2⟩ := h
  exact ⟨n, D, h1.setCell ha u, h2⟩
theorem HeldAt.alloc {w : World} {b : Nat} {rs : Lv} (h : HeldAt w b rs) (o : Obj) : HeldAt (w.alloc o) b rs := by
  obtain ⟨n, D, h1, h2⟩ := h
  exact ⟨n, D, h1.alloc o, h2⟩
theorem HeldAt.notCells {w : World} {b g : Nat} {rs : Lv} {t : TypeId} {cur : Array Value} (h : HeldAt w b rs) (hB : Blk w g t cur) : b ≠ g := by
  obtain ⟨n, D, ⟨es, clock, h3, _⟩, _⟩ := h
  rintro rfl
  have := hB.symm.trans h3
  simp at this
theorem lev_take' (rs : Lv) (k j : Nat) : lev (rs.take k) j = if j < k then lev rs j else [] := lev_take rs k j
theorem cnt_take {rs : Lv} {k : Nat} (h : k < rs.length) : cnt (rs.take (k + 1)) = cnt (rs.take k) + (if lev rs k ≠ [] then 1 else 0) := by
  unfold cnt
  rw [List.take_succ_eq_append_getElem h, List.countP_append, lev_lt h]
  by_cases e : rs[k] = [] <;> simp [e]
theorem key_lit (j : Nat) : WideAt.IsKeyLit (.int .i64 (j : Int)) := trivial
theorem key_ne {j k : Nat} (e : ¬ j = k) : Lit.int .i64 (j : Int) ≠ Lit.int .i64 (k : Int) := by
  intro h
  injection h with _ h2
  exact e (by exact_mod_cast h2)
theorem HeldAt.made {_w w' : World} {b : Nat} (h : w'.ownsMap Tryd.prog 3 (plainElem (H := Unit) Tryd.prog 3) b 0 (.map [])) : HeldAt w' b [] :=
  ⟨0, .map [], h, by omega, tidy_empty, fun j => by rw [lev_nil]; rfl, fun j => by rw [lev_nil]; rfl, rfl⟩
/-- a level that holds a run is noted -/
theorem held_put {D : DataW Unit} {rs : Lv} {k : Nat} (hk : k < rs.length) (hne : lev rs k ≠ []) (hT : Tidy D) (h1 : ∀ j : Nat, D.atKey (.int .i64 j) (.lit (.int .i64 0)) = .lit (.int .i64 (lev (rs.take k) j).length))
    (h2 : ∀ j : Nat, Maps.has D (.int .i64 j) = decide (lev (rs.take k) j ≠ [])) (h3 : Maps.size D = cnt (rs.take k)) :
    Tidy (D.put (.int .i64 (k : Int)) (.lit (.int .i64 (lev rs k).length))) ∧ (∀ j : Nat, (D.put (.int .i64 (k : Int)) (.lit (.int .i64 (lev rs k).length))).atKey (.int .i64 j) (.lit (.int .i64 0)) = .lit (.int .i64 (lev (rs.take (k + 1)) j).length)) ∧
    (∀ j : Nat, Maps.has (D.put (.int .i64 (k : Int)) (.lit (.int .i64 (lev rs k).length))) (.int .i64 j) = decide (lev (rs.take (k + 1)) j ≠ [])) ∧ Maps.size (D.put (.int .i64 (k : Int)) (.lit (.int .i64 (lev rs k).length))) = cnt (rs.take (k + 1)) := by
  have hno : Maps.has D (.int .i64 (k : Int)) = false := by rw [h2, lev_take, if_neg (by omega)]; rfl
  refine ⟨hT.put (key_lit k) _, fun j => ?_, fun j => ?_, ?_⟩
  · by_cases e : j = k
    · subst e
      rw [atKey_put_same hT.isMap (key_lit j), lev_take, if_pos (by omega)]
    · rw [atKey_put_other (key_ne e), h1, lev_take, lev_take]
      by_cases e2 : j < k
      · rw [if_pos e2, if_pos (by omega)]
      · rw [if_neg e2, if_neg (by omega)]
  · by_cases e : j = k
    · subst e
      rw [has_put_same hT.isMap (key_lit j), lev_take, if_pos (by omega)]
      simp [hne]
    · rw [has_put_other (key_ne e), h2, lev_take, lev_take]
      by_cases e2 : j < k
      · rw [if_pos e2, if_pos (by omega)]
      · rw [if_neg e2, if_neg (by omega)]
  · rw [size_put hT, hno, if_neg (by simp), h3, cnt_take hk, if_pos hne]
theorem held_skip {rs : Lv} {k : Nat} (hk : k < rs.length) (he : lev rs k = []) : (∀ j, lev (rs.take (k + 1)) j = lev (rs.take k) j) ∧ cnt (rs.take (k + 1)) = cnt (rs.take k) := by
  refine ⟨fun j => ?_, by rw [cnt_take hk, if_neg (by simp [he])]; rfl⟩
  rw [lev_take, lev_take]
  by_cases e : j = k
  · subst e; rw [if_pos (by omega), if_neg (by omega), he]
  · by_cases e2 : j < k
    · rw [if_pos e2, if_pos (by omega)]
    · rw [if_neg e2, if_neg (by omega)]
/-- a level is struck out -/
theorem held_del {D : DataW Unit} {rs : Lv} {k : Nat} (hne : lev rs k ≠ []) (hT : Tidy D) (h1 : ∀ j : Nat, D.atKey (.int .i64 j) (.lit (.int .i64 0)) = .lit (.int .i64 (lev rs j).length))
    (h2 : ∀ j : Nat, Maps.has D (.int .i64 j) = decide (lev rs j ≠ [])) (h3 : Maps.size D = cnt rs) :
    Tidy (D.del (.int .i64 (k : Int))) ∧ (∀ j : Nat, (D.del (.int .i64 (k : Int))).atKey (.int .i64 j) (.lit (.int .i64 0)) = .lit (.int .i64 (lev (rs.set k []) j).length)) ∧
    (∀ j : Nat, Maps.has (D.del (.int .i64 (k : Int))) (.int .i64 j) = decide (lev (rs.set k []) j ≠ [])) ∧ Maps.size (D.del (.int .i64 (k : Int))) = cnt (rs.set k []) := by
  refine ⟨hT.del _, fun j => ?_, fun j => ?_, ?_⟩
  · rw [lev_set_nil]
    by_cases e : j = k
    · subst e; rw [atKey_del_same, if_pos rfl]; rfl
    · rw [atKey_del_other (key_ne e), h1, if_neg e]
  · rw [lev_set_nil]
    by_cases e : j = k
    · subst e; rw [has_del_same, if_pos rfl]; rfl
    · rw [has_del_other (key_ne e), h2, if_neg e]
  · have := size_del (k := .int .i64 (k : Int)) hT
    rw [h2, h3, ← cnt_set rs k hne] at this
    simp [hne] at this
    exact this
end Go.Proofs.YthbppblmecdekaaDoor

/- Levels that are written over: what stays so that the walk may go on. No walk. -/
namespace Go.Proofs.YthbppblmecdekaaDoor
open Go Go.RowKit
set_option maxRecDepth 100000
def KeyRow (w : World) (B0 E : Nat) (A : Option Addr) (m : Nat) : Prop := m = 0 ∨ ∃ g cs, A = some ⟨g, 0, none⟩ ∧ (B0 ≤ g ∧ g < E) ∧ Blk w g 27 cs ∧ ∀ q, q < m → ∃ k, cs[q * 3]? = some (.int .i64 k)
structure LvRow (w : World) (B0 E g n : Nat) (cs : Array Value) : Prop where
  blk : Blk w g 61 cs
  base : B0 ≤ g ∧ g < E
  row : ∀ j, j < n → ∃ A m c, cs[j]? = some (.slice A m c) ∧ m ≤ 1000000 ∧ KeyRow w B0 E A m
section
variable {w w' : World} {B0 E g g2 n m i : Nat} {A : Option Addr} {cs : Array Value}
theorem KeyRow.get (h : KeyRow w B0 E A m) {q : Nat} (hq : q < m) : ∃ g k, A = some ⟨g, 0, none⟩ ∧ (B0 ≤ g ∧ g < E) ∧ w.cell? ⟨g, q * 3, none⟩ = some (.int .i64 k) ∧ w.frozen? ⟨g, q * 3, none⟩ = false ∧ ∃ cs, Blk w g 27 cs := by
  rcases h with h0 | ⟨g, cs, h1, h2, h3, h4⟩
  · omega
  · obtain ⟨k, hk⟩ := h4 q hq
    exact ⟨g, k, h1, h2, (h3.cell _).trans hk, h3.frozen _, cs, h3⟩
theorem KeyRow.setKey (h : KeyRow w B0 E A m) (g i : Nat) (k : Int) : KeyRow (w.setCell ⟨g, i, none⟩ (.int .i64 k)) B0 E A m := by
  rcases h with h0 | ⟨g', cs, h1, h2, h4, h5⟩
  · exact .inl h0
  · by_cases e : g' = g
    · subst e
      refine .inr ⟨g', _, h1, h2, h4.set_ i _, fun j hj => ?_⟩
      obtain ⟨k', hk'⟩ := h5 j hj
      rw [Array.getElem?_setIfInBounds]
      by_cases e2 : i = j * 3
      · rw [if_pos e2]
        have hlt : i < cs.size := by rw [e2]; exact (Array.getElem?_eq_some_iff.1 hk').1
        rw [if_pos hlt]
        exact ⟨k, rfl⟩
      · rw [if_neg e2]
        exact ⟨k', hk'⟩
    · exact .inr ⟨g', cs, h1, h2, h4.far (p := ⟨g, i, none⟩) e _, h5⟩
theorem KeyRow.setRow (h : KeyRow w B0 E A m) (hB : Blk w g 61 cs) (i : Nat) (u : Value) : KeyRow (w.setCell ⟨g, i, none⟩ u) B0 E A m := by
  rcases h with h0 | ⟨g', cs', h1, h2, h4, h5⟩
  · exact .inl h0
  · refine .inr ⟨g', cs', h1, h2, h4.far (p := ⟨g, i, none⟩) ?_ _, h5⟩
    intro e
    have e2 : g' = g := e
    subst e2
    have := h4.symm.trans hB
    simp at this
theorem KeyRow.below (h : KeyRow w B0 E A m) (hb : Below w.heap.size w w') : KeyRow w' B0 E A m := by
  rcases h with h0 | ⟨g', cs', h1, h2, h4, h5⟩
  · exact .inl h0
  · exact .inr ⟨g', cs', h1, h2, h4.below hb h4.lt, h5⟩
theorem LvRow.below (h : LvRow w B0 E g n cs) (hb : Below w.heap.size w w') : LvRow w' B0 E g n cs :=
  ⟨h.blk.below hb h.blk.lt, h.base, fun j hj => by obtain ⟨A, m, c, h1, h2, h3⟩ := h.row j hj; exact ⟨A, m, c, h1, h2, h3.below hb⟩⟩
theorem LvRow.setKey {cs2 : Array Value} (h : LvRow w B0 E g n cs) (h2 : Blk w g2 27 cs2) (i : Nat) (k : Int) : LvRow (w.setCell ⟨g2, i, none⟩ (.int .i64 k)) B0 E g n cs := by
  refine ⟨h.blk.far (p := ⟨g2, i, none⟩) ?_ _, h.base, fun j hj => ?_⟩
  · intro e
    have e2 : g = g2 := e
    subst e2
    have := h.blk.symm.trans h2
    simp at this
  · obtain ⟨A, m, c, h1, h3, h4⟩ := h.row j hj
    exact ⟨A, m, c, h1, h3, h4.setKey _ _ _⟩
theorem LvRow.clear (h : LvRow w B0 E g n cs) (i : Nat) : LvRow (w.setCell ⟨g, i, none⟩ (.slice none 0 0)) B0 E g n (cs.setIfInBounds i (.slice none 0 0)) := by
  refine ⟨h.blk.set_ i _, h.base, fun j hj => ?_⟩
  obtain ⟨A, m, c, h1, h3, h4⟩ := h.row j hj
  by_cases e : i = j
  · subst e
    have hlt : i < cs.size := (Array.getElem?_eq_some_iff.1 h1).1
    exact ⟨none, 0, 0, by rw [Array.getElem?_setIfInBounds, if_pos rfl, if_pos hlt], by omega, .inl rfl⟩
  · exact ⟨A, m, c, by rw [Array.getElem?_setIfInBounds, if_neg e]; exact h1, h3, h4.setRow h.blk _ _⟩
theorem OwnRs.lvRow {w0 : World} {B : Option Addr} {c : Nat} {Rs : List Rm} (h0 : OwnRs w0 B0 B c Rs) (h : OwnRs w B0 B c Rs) (hn : 0 < Rs.length) (hm : ∀ r ∈ Rs, r.l.length ≤ 1000000) : ∃ g cs, B = some ⟨g, 0, none⟩ ∧ LvRow w B0 w0.heap.size g Rs.length cs := by
  obtain ⟨g, cur, h1, h2, h3, h4, h5⟩ := h.at hn
  have hg0 := (h0.row.lt g (by rw [h1]; simp [Value.ownBlock])).2
  refine ⟨g, cur, h1, h3, ⟨h2, hg0⟩, fun j hj => ?_⟩
  have h6 := h5 j hj
  rw [h3.cell] at h6
  have hmem := List.getElem_mem hj
  refine ⟨_, _, _, h6, hm _ hmem, ?_⟩
  have h7 := h.ent _ hmem
  have h8 := h0.ent _ hmem
  by_cases hz : (Rs[j]'hj).l.length = 0
  · exact .inl hz
  · obtain ⟨g', cap, cur', hv, hg, hb, hn', _, hs, ht⟩ := own_blk h7 (by omega)
    have hg1 := (h8.lt g' (by rw [hv]; simp [Value.ownBlock])).2
    refine .inr ⟨g', cur', ?_, ⟨hg, hg1⟩, hb, fun q hq => ⟨((Rs[j]'hj).l[q]'hq).key, ?_⟩⟩
    · have := hv
      unfold Rm.v at this
      injection this
    · have hc := flat_get Ent.cells 3 Ent.cells_length (Rs[j]'hj).l q 0 hq (by omega)
      rw [← ht, List.getElem?_take, if_pos (by omega)] at hc
      simpa [Ent.cells] using hc
end
end Go.Proofs.YthbppblmecdekaaDoor

/- append onto a row of the call's own: where the new row lies. -/
namespace Go.Proofs.YthbppblmecdekaaDoor
open Go Go.RowKit
set_option maxRecDepth 100000
section
variable {P : Program} (w : World)
theorem wpList_append_at {ops : Array Oper} {rest : List Oper} {o : Oper} {a : Act} {Q : Exit → Act → World → Prop} (hgd : o.guard = none) (s x : Operand) (t : TypeId)
    (ho : o.op = .call { callee := .builtin .append, args := #[s, x], argTypes := #[t, t] })
    (base : Nat) (e : TypeId) (i : TypeInfo) (z : Value) (size bytes : Nat) (ht : P.underlying t = some (.slice e)) (hi : P.info? e = some i) (hz : i.zero = some z)
    (hsize : i.size = size) (hby : i.bytes = bytes) (hzs : z.cells.size = size) (hsz : 0 < size)
    (v : Value) (n : Nat) (xs : List Value) (hs : a.eval s = v) (hown : w.ownsRow base e size v n xs)
    (g m c : Nat) (news : List Value) (hx : a.eval x = .slice (some ⟨g, 0, none⟩) m c) (hr : ∀ j u, news[j]? = some u → w.cell? ⟨g, j, none⟩ = some u) (hl : news.length = m * size) (h1 : ∀ u ∈ news, u.oneCell' = true)
    (h63 : n + m ≤ maxLen) (hbytes : (n + m) * bytes ≤ 140737488355328) (hbase : base ≤ w.heap.size)
    (h : ∀ v' w', w'.ownsRow base e size v' (n + m) (xs ++ news) → w.grownBy w' v.ownBlock → (v'.ownBlock = v.ownBlock ∨ v'.ownBlock = some w.heap.size) → wpList P ops Q rest (a.put o.dst v') w') : wpList P ops Q (o :: rest) a w := by
  refine wpList_plain hgd fun K hK => ?_
  obtain ⟨v', w', hrun, h2, h3, _, h4⟩ := run_append_own_at (P := P) w base t o.type e i z size bytes ht hi hz hsize hby hzs hsz v n xs hown ⟨g, 0, none⟩ m c news hl (fun j u hu => by rw [Addr.add_lit, Nat.zero_add]; exact hr j u hu) h1 h63 hbytes hbase
  unfold Oper.wp execOp
  simp only [ho, resolve, invoke, builtin, Sem.run_bind, Sem.run_pure, Result.andThen_ok, List.map_toArray, List.map_cons, List.map_nil, hs, hx, hrun]
  exact hK _ _ (h v' w' h2 h3 h4)
end
/-- a block that is not the row's stays -/
theorem Blk.grown {w w' : World} {g : Nat} {t : TypeId} {cs : Array Value} {row : Option Nat} (h : Blk w g t cs) (hg : w.grownBy w' row) (hne : row ≠ some g) : Blk w' g t cs :=
  h.of (hg.block g h.lt (fun e => hne e.symm))
theorem blk_ne {w : World} {g g' : Nat} {t t' : TypeId} {cs cs' : Array Value} (h : Blk w g t cs) (h' : Blk w g' t' cs') (hne : t ≠ t') : g ≠ g' := by
  rintro rfl
  have := h.symm.trans h'
  simp at this
  exact hne this.2
theorem own_typ {w : World} {g B s n : Nat} {t e : TypeId} {cs : Array Value} {v : Value} {xs : List Value} (h : w.ownsRow B e s v n xs) (hB : Blk w g t cs) (hne : e ≠ t) : v.ownBlock ≠ some g := by
  rcases h.2 with ⟨rfl, _⟩ | ⟨k, cap, cur, rfl, _, hk, _⟩
  · simp [Value.ownBlock]
  · intro e2
    have e3 : k = g := by simpa [Value.ownBlock] using e2
    subst e3
    have := hk.symm.trans hB
    simp at this
    exact hne this.2
end Go.Proofs.YthbppblmecdekaaDoor

/- Contract: which levels hold a run, as a map (rungs.held). -/
namespace Go.Proofs.YthbppblmecdekaaDoor
open Go Go.RowKit Go.Maps
set_option maxRecDepth 100000
theorem held_keyed : Keyed Tryd.prog 3 := int_keyed Tryd.underlying3
theorem zero_int (w : World) : (zeroValue 3).run Tryd.prog w = .ok (.int .i64 0) w := by kernel_rfl
theorem wf_nat {k : Nat} (h : k ≤ 1000000000) : (Lit.int .i64 (k : Int)).wf = true := by
  show (decide ((-9223372036854775808 : Int) ≤ (k : Int)) && decide ((k : Int) ≤ 9223372036854775807)) = true
  simp; omega
theorem own_below_map {w w' : World} {b n : Nat} {D : DataW Unit} (h1 : w.ownsMap Tryd.prog 3 (plainElem (H := Unit) Tryd.prog 3) b n D) (hb : Below w.heap.size w w') : w'.ownsMap Tryd.prog 3 (plainElem (H := Unit) Tryd.prog 3) b n D := by
  have hl := h1.lt
  obtain ⟨es, clock, h3, h4⟩ := h1
  exact ⟨es, clock, (hb.block b hl).trans h3, h4⟩
set_option maxHeartbeats 2000000 in
theorem heldM_any (B : Option Addr) (Rs : List Rm) (c : Nat) (w : World) (hB : RunsAt w B Rs) (hl : Rs.length ≤ 1000000) (hrs : ∀ r ∈ Rs, r.l.length ≤ 1000000) :
    Calls Tryd.prog 82 #[.slice B Rs.length c] w fun r w' => ∃ b, r = .returned (.map (some b)) ∧ w.heap.size ≤ b ∧ HeldAt w' b (lvs Rs) ∧ Below w.heap.size w w' := by
  have hmm := @run_makeMap Tryd.prog
  have HB := Lib.hid hB
  have HHR := Lib.hid hrs
  clear hB hrs
  go_enter Tryd.func82, Tryd.ntmps82
  go_wp2
  go_loopw [9] (fun i wr => ∃ (k : Nat) (D : DataW Unit), k ≤ Rs.length ∧ i = .int .i64 k ∧ Below w.heap.size w wr ∧ wr.ownsMap Tryd.prog 3 (plainElem (H := Unit) Tryd.prog 3) w.heap.size k D ∧
      Hid (Tidy D ∧ (∀ j : Nat, D.atKey (.int .i64 j) (.lit (.int .i64 0)) = .lit (.int .i64 (lev ((lvs Rs).take k) j).length)) ∧ (∀ j : Nat, Maps.has D (.int .i64 j) = decide (lev ((lvs Rs).take k) j ≠ [])) ∧ Maps.size D = cnt ((lvs Rs).take k)))
    (fun i _ => Rs.length - (intOf i).toNat)
  case atStart =>
    refine ⟨0, .map [], Nat.zero_le _, rfl, (Below.refl _ _).alloc (Nat.le_refl _) _, World.ownsMap_made _ _ _ _, tidy_empty, fun j => ?_, fun j => ?_, rfl⟩
    · rw [List.take_zero, lev_nil]; rfl
    · rw [List.take_zero, lev_nil]; rfl
  case round =>
    obtain ⟨k, D, hk, rfl, hb, hown, hd⟩ := hrel
    have hbs := hb.size
    by_cases hlt : k < Rs.length
    · obtain ⟨b, off, rfl, hbl, cp⟩ := HB.out.sl.oneB hb k hlt
      have hlt2 : k < (lvs Rs).length := by rw [lvs_len]; exact hlt
      have hlv := lvs_lev hlt
      have hrl := HHR.out _ (List.getElem_mem hlt)
      obtain ⟨r, hr⟩ : ∃ r, Rs[k]'hlt = r := ⟨_, rfl⟩
      rw [hr] at cp hrl hlv
      obtain ⟨l, A, cl⟩ := r
      have cp1 : wr.cell? ⟨b, off + k, none⟩ = some (.slice A l.length cl) := cp
      dsimp only at hrl hlv
      have hki : (0 : Int) ≤ (k : Int) := by omega
      have hki2 : (k : Int) < (Rs.length : Int) := by omega
      have HL := Lib.hid hlv
      have HO := Lib.hid hown
      have HLT := Lib.hid hlt2
      clear cp hr hlv hown hlt2
      by_cases h0 : l.length = 0
      · have hnil : l = [] := List.eq_nil_of_length_eq_zero h0
        subst hnil
        clear h0
        go_wp2
        go_roundw
        case rel =>
          have he : lev (lvs Rs) k = [] := HL.out
          have hs := held_skip HLT.out he
          refine ⟨k + 1, D, by omega, by go_num, hb.alloc hbs _, (HO.out.alloc _).mono (by omega), hd.out.1, fun j => ?_, fun j => ?_, ?_⟩
          · rw [hs.1]; exact hd.out.2.1 j
          · rw [hs.1]; exact hd.out.2.2.1 j
          · rw [hs.2]; exact hd.out.2.2.2
        case measure => simp [intOf]; omega
      · have hpos : (0 : Int) < (l.length : Int) := by omega
        have hne2 : ¬ l = [] := by intro h; apply h0; rw [h]; rfl
        have hkey : keyOf Tryd.prog 3 (.int .i64 (k : Int)) = some (.int .i64 (k : Int)) := keyOf_int_mk Tryd.underlying3 (wf_nat (by omega))
        have HW := Lib.hid (wf_nat (k := l.length) (by omega))
        go_wp2_with (first
          | (at_mapUpdate; refine wpList_mapUpdate_own _ rfl _ _ _ 125 rfl 3 3 held_keyed Tryd.underlying125 _ w.heap.size k D rfl (HO.out.alloc _) (by unfold maxLen; omega) _ _ _ rfl rfl hkey _ [] (plainElem_int Tryd.underlying3 HW.out) ?_; intro w1 hown1 hgrow1; have HO1 := Lib.hid hown1; clear hown1)
          | go_in)
        go_roundw
        case rel =>
          have he : lev (lvs Rs) k ≠ [] := by rw [HL.out]; exact hne2
          have hp := held_put HLT.out he hd.out.1 hd.out.2.1 hd.out.2.2.1 hd.out.2.2.2
          rw [HL.out] at hp
          exact ⟨k + 1, _, by omega, by go_num, (hb.alloc hbs _).grown hgrow1 (by simp; omega) (fun q hq => by cases hq; exact Nat.le_refl _), HO1.out, hp⟩
        case measure => simp [intOf]; omega
    · have hkn : k = Rs.length := by omega
      have HO := Lib.hid hown
      clear hown
      have hfin : HeldAt wr w.heap.size (lvs Rs) := by
        have hd2 := hd.out
        rw [List.take_of_length_le (by rw [lvs_len]; omega)] at hd2
        exact ⟨k, D, HO.out, by omega, hd2⟩
      have HF := Lib.hid hfin
      clear hkn hfin
      go_wp2
      go_ret
      exact ⟨_, rfl, Nat.le_refl _, HF.out, hb⟩
end Go.Proofs.YthbppblmecdekaaDoor

/- Contract: runs at their levels (rungs.of). -/
namespace Go.Proofs.YthbppblmecdekaaDoor
open Go Go.RowKit
set_option maxRecDepth 100000
theorem of_succ {rs : Lv} {k : Nat} (h : k < rs.length) : ofL (rs.take (k + 1)) = standL (ofL (rs.take k)) (lev rs k) := by
  rw [List.take_succ_eq_append_getElem h, of_snoc, lev_lt h]
theorem of_grow {w : World} {B0 g4 g5 n d3 : Nat} {A3 : Option Addr} {Ts3 : List Rm} {c4 c5 : Array Value} {v5 : Value} {w5 : World} (o : Obj) (hr : RowAt w B0 A3 d3 Ts3) (b4 : Blk w g4 25 c4) (b5 : Blk w g5 25 c5)
    (ho : w5.ownsRow B0 61 1 v5 n (Ts3.map Rm.v ++ [.slice none 0 0])) (hg : (w.alloc o).grownBy w5 (Value.slice A3 Ts3.length d3).ownBlock) :
    ∃ A5 d5, v5 = .slice A5 n d5 ∧ Blk w5 g4 25 c4 ∧ Blk w5 g5 25 c5 ∧ (∀ i, w5.cell? ⟨g5, i, none⟩ = c5[i]?) ∧ (∀ i, w5.frozen? ⟨g5, i, none⟩ = false) := by
  obtain ⟨A5, d5, h1, _, _⟩ := own_form ho
  have e5 := (b5.alloc o).grown hg (own_typ (hr.alloc o) (b5.alloc o) (by decide))
  exact ⟨A5, d5, h1, (b4.alloc o).grown hg (own_typ (hr.alloc o) (b4.alloc o) (by decide)), e5, fun i => e5.cell i, fun i => e5.frozen i⟩
set_option maxHeartbeats 4000000 in
theorem of_any (n : Int) (B : Option Addr) (Rs : List Rm) (c : Nat) (w : World) (hB : RunsAt w B Rs) (hl : Rs.length ≤ 1000000) (hrs : ∀ r ∈ Rs, r.l.length ≤ 65536) :
    Calls Tryd.prog 51 #[.int .u64 n, .slice B Rs.length c] w fun r w' => ∃ A d Ts, r = .returned (.agg #[.slice A Ts.length d, .int .u64 n]) ∧ lvs Ts = ofL (lvs Rs) ∧ RowAt w' w.heap.size A d Ts ∧ (∀ t ∈ Ts, t = ⟨[], none, 0⟩ ∨ t ∈ Rs) ∧ Below w.heap.size w w' := by
  obtain ⟨te0, hI⟩ := info_parts run_info1
  have HI := Lib.hid hI
  have HB := Lib.hid hB
  have HHR := Lib.hid hrs
  clear hI hB hrs
  obtain ⟨W0, hW0⟩ : ∃ W0, (w.alloc (.cells #[.slice none 0 0, .int .u64 0] 25)).alloc (.cells #[.slice none 0 0, .int .u64 n] 25) = W0 := ⟨_, rfl⟩
  have hb0 : Below w.heap.size w W0 := by rw [← hW0]; exact ((Below.refl _ _).alloc (Nat.le_refl _) _).alloc (by simp) _
  have b40 : Blk W0 w.heap.size 25 #[.slice none 0 0, .int .u64 0] := by rw [← hW0]; exact (Blk.new _ _ _).alloc _
  have b50 : Blk W0 (w.heap.size + 1) 25 #[.slice none 0 0, .int .u64 n] := by
    rw [← hW0]
    have := Blk.new (w.alloc (.cells #[.slice none 0 0, .int .u64 0] 25)) 25 #[.slice none 0 0, .int .u64 n]
    rwa [World.size_alloc] at this
  go_enter Tryd.func51, Tryd.ntmps51
  go_wp2
  try rw [hW0]
  clear hW0
  go_loopw [13] (fun i wr => ∃ (k : Nat) (Ts : List Rm) (A : Option Addr) (d : Nat), k ≤ Rs.length ∧ i = .int .i64 k ∧ Below w.heap.size w wr ∧ Blk wr w.heap.size 25 #[.slice none 0 0, .int .u64 0] ∧ Blk wr (w.heap.size + 1) 25 #[.slice A Ts.length d, .int .u64 n] ∧
      RowAt wr w.heap.size A d Ts ∧ Ts.length ≤ 17 ∧ Hid (lvs Ts = ofL ((lvs Rs).take k) ∧ ∀ t ∈ Ts, t = ⟨[], none, 0⟩ ∨ t ∈ Rs)) (fun i _ => Rs.length - (intOf i).toNat)
  case atStart => exact ⟨0, [], none, 0, Nat.zero_le _, rfl, hb0, b40, b50, World.ownsRow_nil _ _ _ _, by simp, rfl, by simp⟩
  case round =>
    obtain ⟨k, Ts, A, d, hk, rfl, hb, b4, b5, hrow, h17, hH⟩ := hrel
    obtain ⟨wq, rfl⟩ : ∃ wq, wq = wr := ⟨_, rfl⟩
    have hbs := hb.size
    have c50 : wq.cell? ⟨w.heap.size + 1, 0, none⟩ = some (.slice A Ts.length d) := b5.cell 0
    have c51 : wq.cell? ⟨w.heap.size + 1, 1, none⟩ = some (.int .u64 n) := b5.cell 1
    by_cases hlt : k < Rs.length
    · obtain ⟨b, off, rfl, hbl, cp⟩ := HB.out.sl.oneB hb k hlt
      have hlt2 : k < (lvs Rs).length := by rw [lvs_len]; exact hlt
      have hlv := lvs_lev hlt
      have hmem := List.getElem_mem hlt
      have hrl := HHR.out _ hmem
      have hof := of_succ hlt2
      obtain ⟨r, hr⟩ : ∃ r, Rs[k]'hlt = r := ⟨_, rfl⟩
      rw [hr] at cp hrl hlv hmem
      rw [hlv] at hof
      obtain ⟨l, Ar, cl⟩ := r
      have cp1 : wq.cell? ⟨b, off + k, none⟩ = some (.slice Ar l.length cl) := cp
      dsimp only at hrl hof
      have hki : (0 : Int) ≤ (k : Int) := by omega
      have hki2 : (k : Int) < (Rs.length : Int) := by omega
      have HOF := Lib.hid hof
      have HROW := Lib.hid hrow
      have HM := Lib.hid hmem
      obtain ⟨W1, hW1⟩ : ∃ W1, wq.alloc (.cells #[.slice Ar l.length cl] 61) = W1 := ⟨_, rfl⟩
      have hb1 : Below wq.heap.size wq W1 := by rw [← hW1]; exact (Below.refl _ _).alloc (Nat.le_refl _) _
      have hs1 : W1.heap.size = wq.heap.size + 1 := by rw [← hW1]; simp
      have b71 : Blk W1 wq.heap.size 61 #[.slice Ar l.length cl] := by rw [← hW1]; exact Blk.new _ _ _
      have b41 := b4.below hb1 b4.lt
      have b51 := b5.below hb1 b5.lt
      have HROW1 := Lib.hid (own_below hrow hb1)
      have HW1 := Lib.hid hW1
      clear cp hr hlv hof hrow hmem hlt2 hW1
      by_cases h0 : l.length = 0
      · have hnil : l = [] := List.eq_nil_of_length_eq_zero h0
        subst hnil
        clear h0
        go_wp2
        have e1 : wq.alloc (.cells #[.slice Ar 0 cl] 61) = W1 := HW1.out
        rw [e1]
        clear e1
        go_roundw
        case rel =>
          refine ⟨k + 1, Ts, A, d, by omega, by go_num, bext hb hb1, b41, b51, HROW1.out, h17, ?_, hH.out.2⟩
          rw [HOF.out, stand_nil]; exact hH.out.1
        case measure => simp [intOf]; omega
      · have hpos : ¬ ((l.length : Int) = 0) := by omega
        have hne2 : ¬ l = [] := by intro h; apply h0; rw [h]; rfl
        have HL0 : Hid (0 < l.length) := by show 0 < l.length; omega
        have HL6 := Lib.hid hrl
        obtain ⟨U, hU⟩ : ∃ U, up l.length = U := ⟨_, rfl⟩
        have hU16 : U ≤ 16 := by rw [← hU]; exact up_16 hrl
        have HU := Lib.hid hU
        clear hU
        go_wp2_with fail
        rw [HW1.out]
        refine (level_any Ar l.length cl _ HL0.out HL6.out).mono ?_
        rw [HU.out]
        rintro e w2 ⟨rfl, hb2⟩
        have hb02 : Below w.heap.size w w2 := bext hb (bext hb1 hb2)
        have b72 := b71.below hb2 b71.lt
        have b42 := b41.below hb2 b41.lt
        have b52 := b51.below hb2 b51.lt
        have HROW2 := Lib.hid (own_below HROW1.out hb2)
        have hs2 := hb2.size
        have hne7 : ∀ q, A = some q → q.block ≠ wq.heap.size := by
          intro q hq
          have h1 := (HROW.out.lt q.block (by rw [hq]; simp [Value.ownBlock])).2
          omega
        clear c50 c51
        go_wp2_with fail
        go_loopg [] (U + 1 - Ts.length) (fun gk w3 => ∃ (Ts3 : List Rm) (A3 : Option Addr) (d3 : Nat), Below w.heap.size w w3 ∧ Blk w3 w.heap.size 25 #[.slice none 0 0, .int .u64 0] ∧ Blk w3 (w.heap.size + 1) 25 #[.slice A3 Ts3.length d3, .int .u64 n] ∧ Blk w3 wq.heap.size 61 #[.slice Ar l.length cl] ∧
          RowAt w3 w.heap.size A3 d3 Ts3 ∧ Ts3.length ≤ 17 ∧ wq.heap.size + 1 ≤ w3.heap.size ∧ Hid ((∀ q, A3 = some q → q.block ≠ wq.heap.size) ∧ lvs Ts3 = padTo (lvs Ts) Ts3.length ∧ Ts.length ≤ Ts3.length ∧ Ts3.length ≤ max Ts.length (U + 1) ∧ (∀ t ∈ Ts3, t = ⟨[], none, 0⟩ ∨ t ∈ Rs) ∧ gk = U + 1 - Ts3.length))
        case atStart => exact ⟨Ts, A, d, hb02, b42, b52, b72, HROW2.out, h17, by omega, hne7, by rw [pad_same _ (by rw [lvs_len]; exact Nat.le_refl _)], Nat.le_refl _, by omega, hH.out.2, rfl⟩
        case round =>
          obtain ⟨Ts3, A3, d3, hb3, b43, b53, b73, hrow3, h173, hs3, hH3⟩ := hrel
          have c53 : wr.cell? ⟨w.heap.size + 1, 0, none⟩ = some (.slice A3 Ts3.length d3) := b53.cell 0
          have c54 : wr.cell? ⟨w.heap.size + 1, 1, none⟩ = some (.int .u64 n) := b53.cell 1
          have f53 : wr.frozen? ⟨w.heap.size + 1, 0, none⟩ = false := b53.frozen 0
          have lt5 := b53.lt
          by_cases hle : Ts3.length ≤ U
          · have g1 : (Ts3.length : Int) ≤ (U : Int) := by omega
            have HROW3 := Lib.hid hrow3
            clear hrow3
            go_wp2_with (at_builtin; refine wpList_append_at _ rfl (.tmp 29) (.tmp 31) _ rfl w.heap.size 61 te0 _ 1 24 Tryd.underlying22 HI.out.1 HI.out.2.1 HI.out.2.2.1 HI.out.2.2.2 rfl (by omega) (.slice A3 Ts3.length d3) Ts3.length _ rfl (HROW3.out.alloc _) wr.heap.size 1 _ [.slice none 0 0] rfl (by intro j u hu; rw [(Blk.new wr 61 #[.slice none 0 0]).cell j]; simpa using hu) rfl (by simp [Value.oneCell']) (by unfold maxLen; omega) (by omega) (by simp; omega) ?_; intro v5 w5 hown5 hg5 hblk5; obtain ⟨A5, d5, hv5, b45, b55, cc55, ff55⟩ := of_grow _ HROW3.out b43 b53 hown5 hg5; subst hv5; have c55 : w5.cell? ⟨w.heap.size + 1, 0, none⟩ = some (.slice A3 Ts3.length d3) := cc55 0; have c56 : w5.cell? ⟨w.heap.size + 1, 1, none⟩ = some (.int .u64 n) := cc55 1; have f55 : w5.frozen? ⟨w.heap.size + 1, 0, none⟩ = false := ff55 0; clear cc55 ff55; have HO5 := Lib.hid hown5; have HG5 := Lib.hid hg5; have HK5 := Lib.hid hblk5; clear hown5 hg5 hblk5)
            go_roundg (U + 1 - (Ts3.length + 1))
            case measure => have := hH3.out.2.2.2.2.2; omega
            case rel =>
              have hsz : (wr.alloc (.cells #[.slice none 0 0] 61)).heap.size = wr.heap.size + 1 := by simp
              have b75 := (b73.alloc (.cells #[.slice none 0 0] 61)).grown HG5.out (by
                intro h
                cases A3 with
                | none => simp [Value.ownBlock] at h
                | some q => exact hH3.out.1 q rfl (by simpa [Value.ownBlock] using h))
              have hb5 : Below w.heap.size w w5 := (hb3.alloc (by have := hb3.size; omega) _).grown HG5.out (by have := hb3.size; simp; omega) (fun q hq => (HROW3.out.lt q hq).1)
              refine ⟨Ts3 ++ [⟨[], none, 0⟩], A5, d5, hb5.setCell (p := ⟨w.heap.size + 1, 0, none⟩) (Nat.le_succ _) _, b45.far (p := ⟨w.heap.size + 1, 0, none⟩) (by simp) _, ?_, b75.far (p := ⟨w.heap.size + 1, 0, none⟩) (by show _ ≠ w.heap.size + 1; exact (blk_ne b75 b55 (by decide))) _, ?_, ?_, ?_, ?_⟩
              · have := b55.set_ 0 (.slice A5 (Ts3.length + 1) d5)
                rw [List.length_append]
                exact this
              · have := own_setT b55 HO5.out (by decide) 0 (.slice A5 (Ts3.length + 1) d5)
                unfold RowAt
                rw [List.length_append, List.map_append]
                exact this
              · rw [List.length_append]; simp; omega
              · have := HG5.out.size; simp at this ⊢; omega
              · refine ⟨?_, ?_, ?_, ?_, ?_, ?_⟩
                · intro q hq
                  subst hq
                  rcases HK5.out with h1 | h1
                  · cases A3 with
                    | none => simp [Value.ownBlock] at h1
                    | some q3 => have := hH3.out.1 q3 rfl; simp [Value.ownBlock] at h1; omega
                  · simp [Value.ownBlock] at h1; omega
                · rw [lvs_append, hH3.out.2.1, List.length_append]
                  exact (pad_step (lvs Ts) (by rw [lvs_len]; exact hH3.out.2.2.1)).symm
                · rw [List.length_append]; have := hH3.out.2.2.1; omega
                · rw [List.length_append]; simp; omega
                · intro t ht
                  rcases List.mem_append.1 ht with h1 | h1
                  · exact hH3.out.2.2.2.2.1 t h1
                  · left; simpa using h1
                · rw [List.length_append]; rfl
          · have hU3 : U < Ts3.length := by omega
            obtain ⟨gT, cur, rfl, hgT, bT, hcs, hcell⟩ := RowAt.at hrow3 (by omega)
            have cT := hcell U hU3
            have fT := bT.frozen U
            have g1 : ¬ (Ts3.length : Int) ≤ (U : Int) := by omega
            have g2 : (0 : Int) ≤ (U : Int) := by omega
            have g3 : (U : Int) < (Ts3.length : Int) := by omega
            have c73 : wr.cell? ⟨wq.heap.size, 0, none⟩ = some (.slice Ar l.length cl) := b73.cell 0
            have ltT := bT.lt
            have HROW3 := Lib.hid hrow3
            have HU3 := Lib.hid hU3
            have HNE2 := Lib.hid hne2
            clear hcell hrow3 hne2
            go_wp2
            go_roundw
            case rel =>
              have hne5 := blk_ne bT b53 (by decide)
              have hne4 := blk_ne bT b43 (by decide)
              refine ⟨k + 1, Ts3.set U ⟨l, Ar, cl⟩, some ⟨gT, 0, none⟩, d3, by omega, by go_num, hb3.setCell (p := ⟨gT, U, none⟩) hgT _, b43.far (p := ⟨gT, U, none⟩) hne4.symm _, ?_, RowAt.set HROW3.out HU3.out ⟨l, Ar, cl⟩, by rw [List.length_set]; exact h173, ?_, ?_⟩
              · rw [List.length_set]; exact b53.far (p := ⟨gT, U, none⟩) hne5.symm _
              · have hp : padTo (lvs Ts) Ts3.length = padTo (lvs Ts) (U + 1) := by
                  have h1 := hH3.out.2.2.1
                  have h2 := hH3.out.2.2.2.1
                  by_cases h3 : Ts.length ≤ U
                  · rw [show Ts3.length = U + 1 by omega]
                  · rw [pad_same _ (by rw [lvs_len]; omega), pad_same _ (by rw [lvs_len]; omega)]
                rw [lvs_set, hH3.out.2.1, hp, HOF.out, ← hH.out.1]
                unfold standL
                rw [if_neg HNE2.out, HU.out]
              · intro t ht
                rcases List.mem_or_eq_of_mem_set ht with h1 | h1
                · exact hH3.out.2.2.2.2.1 t h1
                · right; rw [h1]; exact HM.out
            case measure => simp [intOf]; omega
    · have hkn : k = Rs.length := by omega
      have HF : Hid (lvs Ts = ofL (lvs Rs)) := by
        have h := hH.out.1
        rw [List.take_of_length_le (by rw [lvs_len]; omega)] at h
        exact h
      have HROW := Lib.hid hrow
      clear hrow hkn
      have f40 := b4.frozen 0
      have f41 := b4.frozen 1
      have c40 : wq.cell? ⟨w.heap.size, 0, none⟩ = some (.slice none 0 0) := b4.cell 0
      have c41 : wq.cell? ⟨w.heap.size, 1, none⟩ = some (.int .u64 0) := b4.cell 1
      go_wp2
      have hb6 := ((b4.set_ 0 (.slice A Ts.length d)).set_ 1 (.int .u64 n))
      have e0 : ((wq.setCell ⟨w.heap.size, 0, none⟩ (.slice A Ts.length d)).setCell ⟨w.heap.size, 1, none⟩ (.int .u64 n)).cell? ⟨w.heap.size, 0, none⟩ = some (.slice A Ts.length d) := hb6.cell 0
      have e1 : ((wq.setCell ⟨w.heap.size, 0, none⟩ (.slice A Ts.length d)).setCell ⟨w.heap.size, 1, none⟩ (.int .u64 n)).cell? ⟨w.heap.size, 1, none⟩ = some (.int .u64 n) := hb6.cell 1
      refine bodyPost_ret (v := .agg #[.slice A Ts.length d, .int .u64 n]) (by simp [results, Tryd.results51, go_sem, e0, e1]) rfl ?_
      refine ⟨A, d, Ts, rfl, HF.out, own_setT (b4.set_ 0 (.slice A Ts.length d)) (own_setT b4 HROW.out (by decide) 0 _) (by decide) 1 _, hH.out.2, (hb.setCell (p := ⟨w.heap.size, 0, none⟩) (Nat.le_refl _) _).setCell (p := ⟨w.heap.size, 1, none⟩) (Nat.le_refl _) _⟩
end Go.Proofs.YthbppblmecdekaaDoor

/- Contracts: copies of levels. -/
namespace Go.Proofs.YthbppblmecdekaaDoor
open Go Go.RowKit
set_option maxRecDepth 100000
set_option maxHeartbeats 2000000 in
theorem twinsO_any (B : Option Addr) (Rs : List Rm) (c : Nat) (w : World) (hB : RunsAt w B Rs) (hl : Rs.length ≤ 1000000) (hrs : ∀ r ∈ Rs, r.l.length ≤ 1000000) :
    Calls Tryd.prog 54 #[.slice B Rs.length c] w (GivesLs (lvs Rs) w) := by
  obtain ⟨te0, hI⟩ := info_parts run_info1
  have HI := Lib.hid hI
  have HB := Lib.hid hB
  have HHR := Lib.hid hrs
  clear hI hB hrs
  go_enter Tryd.func54, Tryd.ntmps54
  go_wp2
  go_loopw [3, 4] (fun v i wr => ∃ (k : Nat) (Ts : List Rm) (A' : Option Addr) (c' : Nat), k ≤ Rs.length ∧ i = .int .i64 k ∧ Below w.heap.size w wr ∧ v = .slice A' k c' ∧ Hid (Ts.length = k) ∧
      wr.ownsRow w.heap.size 61 1 (.slice A' k c') k (Ts.map Rm.v) ∧ (∀ s ∈ Ts, wr.ownsRow w.heap.size 27 3 s.v s.l.length (s.l.flatMap Ent.cells)) ∧ Hid (Ts.map Rm.l = (Rs.map Rm.l).take k)) (fun _ i _ => Rs.length - (intOf i).toNat)
  case atStart => exact ⟨0, [], none, 0, Nat.zero_le _, rfl, Below.refl _ _, rfl, rfl, World.ownsRow_nil _ _ _ _, by simp, rfl⟩
  case round =>
    obtain ⟨k, Ts, A', c', hk, rfl, hb, rfl, hTk, hown, hS, hin⟩ := hrel
    have hbs := hb.size
    by_cases hlt : k < Rs.length
    · obtain ⟨b, off, rfl, hbl, cp⟩ := HB.out.sl.oneB hb k hlt
      have hok := (HB.out.ok _ (List.getElem_mem hlt)).below hb
      have hrl := HHR.out _ (List.getElem_mem hlt)
      have hin2 : (Rs.map Rm.l).take (k + 1) = (Rs.map Rm.l).take k ++ [(Rs[k]'hlt).l] := by
        rw [List.take_succ_eq_append_getElem (by simpa using hlt)]; simp
      obtain ⟨r, hr⟩ : ∃ r, Rs[k]'hlt = r := ⟨_, rfl⟩
      rw [hr] at cp hok hrl hin2
      obtain ⟨l, A, cl⟩ := r
      have cp1 : wr.cell? ⟨b, off + k, none⟩ = some (.slice A l.length cl) := cp
      dsimp only at hrl hin2
      have hki : (0 : Int) ≤ (k : Int) := by omega
      have hki2 : (k : Int) < (Rs.length : Int) := by omega
      have HOK := Lib.hid hok.sl
      have HIN := Lib.hid hin2
      have HOW := Lib.hid hown
      have HSS := Lib.hid hS
      clear cp hr hok hin2 hown hS
      go_wp2_with fail
      refine (refTwin_any A l cl _ HOK.out hrl).mono ?_
      rintro e w1 ⟨A1, c1, rfl, ho1, hb1⟩
      have HO1 := Lib.hid (own_mono (B' := w.heap.size) ho1 (by omega))
      have HOW1 := Lib.hid (own_below HOW.out hb1)
      have hs1 := hb1.size
      clear ho1 cp1
      go_wp2_with (at_builtin; refine wpList_append_sl _ rfl (.tmp 11) (.tmp 17) _ rfl w.heap.size 61 te0 _ 1 24 Tryd.underlying22 HI.out.1 HI.out.2.1 HI.out.2.2.1 HI.out.2.2.2 rfl (by omega) (.slice A' k c') k _ rfl (HOW1.out.alloc _) _ 1 _ [.slice A1 l.length c1] rfl (by exact sl_new1 _ _ _) rfl (by simp [Value.oneCell']) (by unfold maxLen; omega) (by omega) (by simp; omega) ?_; intro v2 w2 hown2 hg2; obtain ⟨A2, q2, rfl, hle2, hmx2⟩ := own_form hown2; have HO2 := Lib.hid hown2; clear hown2)
      go_roundw
      case rel =>
        refine ⟨k + 1, Ts ++ [⟨l, A1, c1⟩], A2, q2, by omega, by go_num, ?_, rfl, ?_, ?_, ?_, ?_⟩
        · exact ((bext hb hb1).alloc (by omega) _).grown hg2 (by simp; omega) (fun q hq => (HOW1.out.lt q hq).1)
        · show _ = _
          rw [List.length_append, hTk.out]; rfl
        · rw [List.map_append]; exact HO2.out
        · intro s hs
          refine own_grow hg2 (HOW1.out.alloc _) ?_ (by decide)
          rcases List.mem_append.1 hs with hs | hs
          · exact (own_below (HSS.out s hs) hb1).alloc _
          · obtain rfl : s = ⟨l, A1, c1⟩ := by simpa using hs
            exact HO1.out.alloc _
        · show _ = _
          rw [List.map_append, hin.out, HIN.out]; rfl
      case measure => simp [intOf]; omega
    · have hkn : k = Rs.length := by omega
      have HIN : Hid (Ts.map Rm.l = Rs.map Rm.l) := by show _ = _; rw [hin.out, List.take_of_length_le (by simp; omega)]
      have HTN : Hid (Ts.length = k) := hTk
      have hO : OwnRs wr w.heap.size A' c' Ts := ⟨by rw [HTN.out]; exact hown, hS⟩
      have HO := Lib.hid hO
      clear hkn hO hown hS hin hTk
      go_wp2
      go_ret
      exact ⟨A', c', Ts, by rw [HTN.out]; rfl, HIN.out, HO.out, hb⟩
/-- a result that lies in a box of two cells -/
theorem box2 {w : World} {g : Nat} {t : TypeId} {x0 x1 : Value} (h : Blk w g t #[x0, x1]) (y0 y1 : Value) : Blk ((w.setCell ⟨g, 0, none⟩ y0).setCell ⟨g, 1, none⟩ y1) g t #[y0, y1] := by
  have := (h.set_ 0 y0).set_ 1 y1
  simpa using this
theorem below2 {B : Nat} {a w : World} {g : Nat} (h : Below B a w) (hg : B ≤ g) (y0 y1 : Value) : Below B a ((w.setCell ⟨g, 0, none⟩ y0).setCell ⟨g, 1, none⟩ y1) :=
  (h.setCell (p := ⟨g, 0, none⟩) hg _).setCell (p := ⟨g, 1, none⟩) hg _
theorem OwnRs.set2 {w : World} {B0 g : Nat} {B : Option Addr} {c : Nat} {Rs : List Rm} {t : TypeId} {x0 x1 : Value} (h : OwnRs w B0 B c Rs) (hB : Blk w g t #[x0, x1]) (h1 : 61 ≠ t) (h2 : 27 ≠ t) (y0 y1 : Value) : OwnRs ((w.setCell ⟨g, 0, none⟩ y0).setCell ⟨g, 1, none⟩ y1) B0 B c Rs :=
  (h.setT hB h1 h2 0 y0).setT (hB.set_ 0 y0) h1 h2 1 y1
set_option maxHeartbeats 2000000 in
theorem twin26_any (B : Option Addr) (Rs : List Rm) (c : Nat) (n : Int) (w : World) (hB : RunsAt w B Rs) (hl : Rs.length ≤ 1000000) (hrs : ∀ r ∈ Rs, r.l.length ≤ 1000000) :
    Calls Tryd.prog 16 #[.agg #[.slice B Rs.length c, .int .u64 n]] w (GivesRg (lvs Rs) n w) := by
  obtain ⟨W0, hW0⟩ : ∃ W0, (w.alloc (.cells #[.slice B Rs.length c, .int .u64 n] 25)).alloc (.cells #[.slice none 0 0, .int .u64 0] 25) = W0 := ⟨_, rfl⟩
  have hb0 : Below w.heap.size w W0 := by rw [← hW0]; exact ((Below.refl _ _).alloc (Nat.le_refl _) _).alloc (by simp) _
  have b1 : Blk W0 w.heap.size 25 #[.slice B Rs.length c, .int .u64 n] := by rw [← hW0]; exact (Blk.new _ _ _).alloc _
  have b2 : Blk W0 (w.heap.size + 1) 25 #[.slice none 0 0, .int .u64 0] := by
    rw [← hW0]
    have := Blk.new (w.alloc (.cells #[.slice B Rs.length c, .int .u64 n] 25)) 25 #[.slice none 0 0, .int .u64 0]
    rwa [World.size_alloc] at this
  have hs0 : W0.heap.size = w.heap.size + 2 := by rw [← hW0]; simp
  have HW0 := Lib.hid hW0
  have HS0 := Lib.hid hs0
  have HB := Lib.hid hB
  have HHR := Lib.hid hrs
  clear hW0 hB hrs hs0
  go_enter Tryd.func16, Tryd.ntmps16
  go_upto_region 1 with fail
  rw [HW0.out]
  have l1 := b1.lt
  have l2 := b2.lt
  have c10 : W0.cell? ⟨w.heap.size, 0, none⟩ = some (.slice B Rs.length c) := b1.cell 0
  have c11 : W0.cell? ⟨w.heap.size, 1, none⟩ = some (.int .u64 n) := b1.cell 1
  have c20 : W0.cell? ⟨w.heap.size + 1, 0, none⟩ = some (.slice none 0 0) := b2.cell 0
  have c21 : W0.cell? ⟨w.heap.size + 1, 1, none⟩ = some (.int .u64 0) := b2.cell 1
  have f20 := b2.frozen 0
  have f21 := b2.frozen 1
  go_region_with (go_at_call 54; refine (twinsO_any B Rs c _ (HB.out.below (bext hb0 (by first | exact (Below.refl _ _).drew | exact Below.refl _ _))) hl HHR.out).mono ?_; rintro e w5 ⟨A5, c5, Ts5, rfl, h51, h52, hb5⟩; have hb6 : Below W0.heap.size W0 w5 := (by first | exact hb5 | exact bext ((Below.refl _ _).drew) hb5); have d10 : w5.cell? ⟨w.heap.size, 0, none⟩ = some (.slice B Rs.length c) := ((bcell hb6).1 _ _ l1).trans c10; have d11 : w5.cell? ⟨w.heap.size, 1, none⟩ = some (.int .u64 n) := ((bcell hb6).1 _ _ l1).trans c11; have b25 := b2.below hb6 l2; have d20 : w5.cell? ⟨w.heap.size + 1, 0, none⟩ = some (.slice none 0 0) := b25.cell 0; have d21 : w5.cell? ⟨w.heap.size + 1, 1, none⟩ = some (.int .u64 0) := b25.cell 1; have e20 := b25.frozen 0; have e21 := b25.frozen 1; have H51 := Lib.hid h51; have H52 := Lib.hid h52; have H6 := Lib.hid hb6; clear h51 h52 hb5 hb6)
  all_goals
    go_wp2_with fail
    have hbx := box2 b25 (.slice A5 Ts5.length c5) (.int .u64 n)
    have e0 := hbx.cell 0
    have e1 := hbx.cell 1
    refine bodyPost_ret (v := .agg #[.slice A5 Ts5.length c5, .int .u64 n]) (by first | (simp [results, Tryd.results16, go_sem, e0, e1]; done) | (simp at e0 e1; simp [results, Tryd.results16, go_sem, e0, e1])) rfl ?_
    exact ⟨A5, c5, Ts5, rfl, H51.out, (H52.out.mono (by simp [HS0.out])).set2 b25 (by decide) (by decide) _ _, below2 (bext hb0 H6.out) (Nat.le_succ _) _ _⟩
end Go.Proofs.YthbppblmecdekaaDoor
