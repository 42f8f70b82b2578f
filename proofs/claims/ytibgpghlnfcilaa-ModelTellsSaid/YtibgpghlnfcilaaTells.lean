/- The law ModelTells: for every number, pairs, operation and answer it returns true; its arguments stay as they were. -/
import Derived.Test.YtibgpghlnfcilaaTv
import Derived.Test.YtibgpghlnfcilaaMargs3
import Derived.Test.YtibgpghlnfcilaaMargs4
import Derived.Test.YtibgpghlnfcilaaRows
import Derived.Deep.CutRange
namespace Go.Proofs.Ytibgpghlnfcilaa
open Go Go.ChangeShapes Go.WideShapes Go.ChangeAt Go.RowKit
set_option maxRecDepth 100000

/-! ### plain -/
theorem scan_len (l : List Pr) (a b n : Int) : (scanL l a b n).length ≤ l.length := by unfold scanL; simp; omega
theorem ask_len (l : List Pr) (o : Opn) : (askA l o).pairs.length ≤ l.length := by
  unfold askA
  repeat' split
  all_goals first | exact Nat.zero_le _ | (rw [oneA_pairs]; exact Nat.zero_le _) | exact scan_len _ _ _ _
theorem doA_len (most : Int) (l : List Pr) (o : Opn) : (doA most l o).pairs.length ≤ l.length := by
  unfold doA
  repeat' split
  all_goals first | exact Nat.zero_le _ | exact ask_len _ _
theorem SB.six {w W : World} {g : Nat} (hg : w.heap.size ≤ g) (y0 y1 y2 y3 y4 y5 : Value) (h : SB w W) : SB w ((((((W.setCell ⟨g, 0, none⟩ y0).setCell ⟨g, 1, none⟩ y1).setCell ⟨g, 2, none⟩ y2).setCell ⟨g, 3, none⟩ y3).setCell ⟨g, 4, none⟩ y4).setCell ⟨g, 5, none⟩ y5) := SB.set hg _ _ (SB.set hg _ _ (SB.four hg _ _ _ _ h))
theorem Blk.six {w : World} {b : Nat} {t : TypeId} {x0 x1 x2 x3 x4 x5 : Value} (h : Blk w b t #[x0, x1, x2, x3, x4, x5]) (y0 y1 y2 y3 y4 y5 : Value) :
    Blk ((((((w.setCell ⟨b, 0, none⟩ y0).setCell ⟨b, 1, none⟩ y1).setCell ⟨b, 2, none⟩ y2).setCell ⟨b, 3, none⟩ y3).setCell ⟨b, 4, none⟩ y4).setCell ⟨b, 5, none⟩ y5) b t #[y0, y1, y2, y3, y4, y5] := by
  have := (((((h.set_ 0 y0).set_ 1 y1).set_ 2 y2).set_ 3 y3).set_ 4 y4).set_ 5 y5
  simpa using this
theorem Blk.newE {w : World} {g : Nat} {t : TypeId} {cs : Array Value} (h : g = w.heap.size) : Blk (w.alloc (.cells cs t)) g t cs := h ▸ Blk.new w t cs
theorem Blk.belowS {w w' : World} {g : Nat} {t : TypeId} {cs : Array Value} (hb : Below w.heap.size w w') (h : Blk w g t cs) : Blk w' g t cs := h.below hb h.lt

/-- pairs that lie in a row of pairs -/
def Pl (w : World) (A : Option Addr) (l : List Pr) : Prop := l = [] ∨ ∃ g cur, A = some ⟨g, 0, none⟩ ∧ Blk w g 23 cur ∧ cur.toList.take (l.length * 2) = l.flatMap Pr.cells
section
variable {w w' : World} {A : Option Addr} {l : List Pr} {g : Nat}
theorem Pl.belowS (hb : Below w.heap.size w w') (h : Pl w A l) : Pl w' A l := by
  rcases h with h | ⟨g, cur, h1, h2, h3⟩
  · exact .inl h
  · exact .inr ⟨g, cur, h1, Blk.belowS hb h2, h3⟩
theorem Pl.alloc (o : Obj) (h : Pl w A l) : Pl (w.alloc o) A l := h.belowS ((Below.refl _ _).alloc (Nat.le_refl _) _)
theorem Pl.six {x0 x1 x2 x3 x4 x5 : Value} (y0 y1 y2 y3 y4 y5 : Value) (hb : Blk w g 28 #[x0, x1, x2, x3, x4, x5]) (h : Pl w A l) :
    Pl ((((((w.setCell ⟨g, 0, none⟩ y0).setCell ⟨g, 1, none⟩ y1).setCell ⟨g, 2, none⟩ y2).setCell ⟨g, 3, none⟩ y3).setCell ⟨g, 4, none⟩ y4).setCell ⟨g, 5, none⟩ y5) A l := by
  rcases h with h | ⟨k, cur, h1, h2, h3⟩
  · exact .inl h
  · have hne : k ≠ g := by
      rintro rfl
      have := h2.symm.trans hb
      simp at this
    exact .inr ⟨k, cur, h1, (((((h2.far (p := ⟨g, 0, none⟩) hne y0).far (p := ⟨g, 1, none⟩) hne y1).far (p := ⟨g, 2, none⟩) hne y2).far (p := ⟨g, 3, none⟩) hne y3).far (p := ⟨g, 4, none⟩) hne y4).far (p := ⟨g, 5, none⟩) hne y5, h3⟩
theorem Pl.sl (h : Pl w A l) : Sl w A (l.flatMap Pr.cells) := by
  rcases h with rfl | ⟨g, cur, rfl, hg, ht⟩
  · exact .inl rfl
  · refine hg.sl 0 _ fun j u hu => ?_
    rw [← ht, List.getElem?_take] at hu
    split at hu
    · simpa using hu
    · cases hu
theorem Pl.of_fr {B c : Nat} (h : Fr w B 23 A c l) : Pl w A l := by
  rcases h.2.2 with ⟨_, h, _⟩ | ⟨g, cur, h1, _, h2, h3, _⟩
  · exact .inl h
  · exact .inr ⟨g, cur, h1, h2, h3⟩
theorem full_pl {B : Nat} {v : Value} {X : Option Addr} (h1 : 0 < l.length → w'.ownsRow B 23 2 v (0 + l.length) ([] ++ l.flatMap Pr.cells)) (h2 : l.length = 0 → v = .slice X 0 0 ∧ w' = w) : ∃ A' c', v = .slice A' l.length c' ∧ l.length ≤ c' ∧ Pl w' A' l := by
  by_cases h : l.length = 0
  · exact ⟨X, 0, by rw [h]; exact (h2 h).1, by omega, .inl (List.eq_nil_of_length_eq_zero h)⟩
  · have ho := h1 (by omega)
    rw [Nat.zero_add, List.nil_append] at ho
    obtain ⟨A', c', rfl, hc, _⟩ := own_form ho
    exact ⟨A', c', rfl, hc, Pl.of_fr (Fr.of_own ho rfl)⟩
end

/-- the keys of pairs in new memory, whatever they are -/
def Ki (w : World) (B h : Nat) (A : Option Addr) (n : Nat) : Prop := n = 0 ∨ ∃ g t cs, A = some ⟨g, 0, none⟩ ∧ B ≤ g ∧ g ≠ h ∧ Blk w g t cs ∧ ∀ j, j < n → ∃ k, cs[j * 2]? = some (.int .i64 k)
section
variable {w w' : World} {B h : Nat} {A : Option Addr} {n : Nat}
theorem Ki.get (hk : Ki w B h A n) {j : Nat} (hj : j < n) : ∃ g k, A = some ⟨g, 0, none⟩ ∧ B ≤ g ∧ g ≠ h ∧ w.cell? ⟨g, j * 2, none⟩ = some (.int .i64 k) ∧ w.frozen? ⟨g, j * 2, none⟩ = false := by
  rcases hk with h0 | ⟨g, t, cs, h1, h2, h3, h4, h5⟩
  · omega
  · obtain ⟨k, hk⟩ := h5 j hj
    exact ⟨g, k, h1, h2, h3, (h4.cell _).trans hk, h4.frozen _⟩
theorem Ki.set (hk : Ki w B h A n) (g i : Nat) (k : Int) : Ki (w.setCell ⟨g, i, none⟩ (.int .i64 k)) B h A n := by
  rcases hk with h0 | ⟨g', t, cs, h1, h2, h3, h4, h5⟩
  · exact .inl h0
  · by_cases e : g' = g
    · subst e
      refine .inr ⟨g', t, _, h1, h2, h3, h4.set_ i _, fun j hj => ?_⟩
      obtain ⟨k', hk'⟩ := h5 j hj
      rw [Array.getElem?_setIfInBounds]
      by_cases e2 : i = j * 2
      · rw [if_pos e2]
        have hlt : i < cs.size := by rw [e2]; exact (Array.getElem?_eq_some_iff.1 hk').1
        rw [if_pos hlt]
        exact ⟨k, rfl⟩
      · rw [if_neg e2]
        exact ⟨k', hk'⟩
    · exact .inr ⟨g', t, cs, h1, h2, h3, h4.far (p := ⟨g, i, none⟩) e _, h5⟩
theorem Ki.of_fr {B' c : Nat} {l : List Pr} {cs : Array Value} (hf : Fr w B' 23 A c l) (hB : B ≤ B') (hh : Blk w h 30 cs) : Ki w B h A l.length := by
  rcases hf.2.2 with ⟨_, rfl, _⟩ | ⟨g, cur, h1, h2, h3, h4, h5⟩
  · exact .inl rfl
  · have hne : g ≠ h := by
      rintro rfl
      have := h3.symm.trans hh
      simp at this
    refine .inr ⟨g, _, cur, h1, Nat.le_trans hB h2, hne, h3, fun j hj => ⟨(l[j]'hj).key, ?_⟩⟩
    have hc := flat_get Pr.cells 2 Pr.cells_length l j 0 hj (by omega)
    rw [← h4, List.getElem?_take, if_pos (by omega)] at hc
    simpa [Pr.cells] using hc
theorem Ki.belowS (hb : Below w.heap.size w w') (hk : Ki w B h A n) : Ki w' B h A n := by
  rcases hk with h0 | ⟨g, t, cs, h1, h2, h3, h4, h5⟩
  · exact .inl h0
  · exact .inr ⟨g, t, cs, h1, h2, h3, Blk.belowS hb h4, h5⟩
end


set_option maxHeartbeats 1600000 in
theorem tells_e0 (n : Int) (A : Option Addr) (l : List Pr) (c : Nat) (o : Opn) (Ao : Option Addr) (co : Nat) (q : Answ) (Aq : Option Addr) (cq : Nat) (w : World) (_hA : Sl w A (l.flatMap Pr.cells)) (_hO : Sl w Ao (o.pairs.flatMap Pr.cells)) (_hQ : Sl w Aq (q.pairs.flatMap Pr.cells)) (_hlc : l.length ≤ c) (_hpc : o.pairs.length ≤ co) (_hb : ∀ x ∈ l, -9223372036854775808 ≤ x.key ∧ x.key ≤ 9223372036854775807) (h1 : 200 < l.length) :
    Calls Try.prog 4 #[.int .i64 n, .slice A l.length c, .agg #[.int .u8 o.kind, .int .i64 o.key, .int .i64 o.val, .int .i64 o.to, .int .i64 o.n, .slice Ao o.pairs.length co], .agg #[.int .i64 q.pair.key, .int .i64 q.pair.val, .int .i64 q.n, .slice Aq q.pairs.length cq]] w fun r w' => r = .returned (.bool true) ∧ Below w.heap.size w w' := by
  have hb0 : Below w.heap.size w ((w.alloc (.cells #[.int .u8 o.kind, .int .i64 o.key, .int .i64 o.val, .int .i64 o.to, .int .i64 o.n, .slice Ao o.pairs.length co] 28)).alloc (.cells #[.int .i64 q.pair.key, .int .i64 q.pair.val, .int .i64 q.n, .slice Aq q.pairs.length cq] 30)) := ((Below.refl _ _).alloc (Nat.le_refl _) _).alloc (by simp) _
  have bO0 : Blk ((w.alloc (.cells #[.int .u8 o.kind, .int .i64 o.key, .int .i64 o.val, .int .i64 o.to, .int .i64 o.n, .slice Ao o.pairs.length co] 28)).alloc (.cells #[.int .i64 q.pair.key, .int .i64 q.pair.val, .int .i64 q.n, .slice Aq q.pairs.length cq] 30)) w.heap.size 28 #[.int .u8 o.kind, .int .i64 o.key, .int .i64 o.val, .int .i64 o.to, .int .i64 o.n, .slice Ao o.pairs.length co] := (Blk.new w _ _).alloc _
  have bQ0 : Blk ((w.alloc (.cells #[.int .u8 o.kind, .int .i64 o.key, .int .i64 o.val, .int .i64 o.to, .int .i64 o.n, .slice Ao o.pairs.length co] 28)).alloc (.cells #[.int .i64 q.pair.key, .int .i64 q.pair.val, .int .i64 q.n, .slice Aq q.pairs.length cq] 30)) (w.heap.size + 1) 30 #[.int .i64 q.pair.key, .int .i64 q.pair.val, .int .i64 q.n, .slice Aq q.pairs.length cq] := by
    have := Blk.new (w.alloc (.cells #[.int .u8 o.kind, .int .i64 o.key, .int .i64 o.val, .int .i64 o.to, .int .i64 o.n, .slice Ao o.pairs.length co] 28)) 30 #[.int .i64 q.pair.key, .int .i64 q.pair.val, .int .i64 q.n, .slice Aq q.pairs.length cq]
    rwa [World.size_alloc] at this
  go_enter Try.func4, Try.ntmps4
  go_wp2
  go_ret
  exact ⟨rfl, hb0⟩


set_option maxHeartbeats 1600000 in
theorem tells_e1 (n : Int) (A : Option Addr) (l : List Pr) (c : Nat) (o : Opn) (Ao : Option Addr) (co : Nat) (q : Answ) (Aq : Option Addr) (cq : Nat) (w : World) (_hA : Sl w A (l.flatMap Pr.cells)) (_hO : Sl w Ao (o.pairs.flatMap Pr.cells)) (_hQ : Sl w Aq (q.pairs.flatMap Pr.cells)) (_hlc : l.length ≤ c) (_hpc : o.pairs.length ≤ co) (_hb : ∀ x ∈ l, -9223372036854775808 ≤ x.key ∧ x.key ≤ 9223372036854775807) (h1 : ¬ 200 < l.length) (h2 : 200 < o.pairs.length) :
    Calls Try.prog 4 #[.int .i64 n, .slice A l.length c, .agg #[.int .u8 o.kind, .int .i64 o.key, .int .i64 o.val, .int .i64 o.to, .int .i64 o.n, .slice Ao o.pairs.length co], .agg #[.int .i64 q.pair.key, .int .i64 q.pair.val, .int .i64 q.n, .slice Aq q.pairs.length cq]] w fun r w' => r = .returned (.bool true) ∧ Below w.heap.size w w' := by
  have hb0 : Below w.heap.size w ((w.alloc (.cells #[.int .u8 o.kind, .int .i64 o.key, .int .i64 o.val, .int .i64 o.to, .int .i64 o.n, .slice Ao o.pairs.length co] 28)).alloc (.cells #[.int .i64 q.pair.key, .int .i64 q.pair.val, .int .i64 q.n, .slice Aq q.pairs.length cq] 30)) := ((Below.refl _ _).alloc (Nat.le_refl _) _).alloc (by simp) _
  have bO0 : Blk ((w.alloc (.cells #[.int .u8 o.kind, .int .i64 o.key, .int .i64 o.val, .int .i64 o.to, .int .i64 o.n, .slice Ao o.pairs.length co] 28)).alloc (.cells #[.int .i64 q.pair.key, .int .i64 q.pair.val, .int .i64 q.n, .slice Aq q.pairs.length cq] 30)) w.heap.size 28 #[.int .u8 o.kind, .int .i64 o.key, .int .i64 o.val, .int .i64 o.to, .int .i64 o.n, .slice Ao o.pairs.length co] := (Blk.new w _ _).alloc _
  have bQ0 : Blk ((w.alloc (.cells #[.int .u8 o.kind, .int .i64 o.key, .int .i64 o.val, .int .i64 o.to, .int .i64 o.n, .slice Ao o.pairs.length co] 28)).alloc (.cells #[.int .i64 q.pair.key, .int .i64 q.pair.val, .int .i64 q.n, .slice Aq q.pairs.length cq] 30)) (w.heap.size + 1) 30 #[.int .i64 q.pair.key, .int .i64 q.pair.val, .int .i64 q.n, .slice Aq q.pairs.length cq] := by
    have := Blk.new (w.alloc (.cells #[.int .u8 o.kind, .int .i64 o.key, .int .i64 o.val, .int .i64 o.to, .int .i64 o.n, .slice Ao o.pairs.length co] 28)) 30 #[.int .i64 q.pair.key, .int .i64 q.pair.val, .int .i64 q.n, .slice Aq q.pairs.length cq]
    rwa [World.size_alloc] at this
  go_enter Try.func4, Try.ntmps4
  go_wp2
  go_ret
  exact ⟨rfl, hb0⟩


set_option maxHeartbeats 1600000 in
theorem tells_e2 (n : Int) (A : Option Addr) (l : List Pr) (c : Nat) (o : Opn) (Ao : Option Addr) (co : Nat) (q : Answ) (Aq : Option Addr) (cq : Nat) (w : World) (_hA : Sl w A (l.flatMap Pr.cells)) (_hO : Sl w Ao (o.pairs.flatMap Pr.cells)) (_hQ : Sl w Aq (q.pairs.flatMap Pr.cells)) (_hlc : l.length ≤ c) (_hpc : o.pairs.length ≤ co) (_hb : ∀ x ∈ l, -9223372036854775808 ≤ x.key ∧ x.key ≤ 9223372036854775807) (h1 : ¬ 200 < l.length) (h2 : ¬ 200 < o.pairs.length) (h3 : 200 < q.pairs.length) :
    Calls Try.prog 4 #[.int .i64 n, .slice A l.length c, .agg #[.int .u8 o.kind, .int .i64 o.key, .int .i64 o.val, .int .i64 o.to, .int .i64 o.n, .slice Ao o.pairs.length co], .agg #[.int .i64 q.pair.key, .int .i64 q.pair.val, .int .i64 q.n, .slice Aq q.pairs.length cq]] w fun r w' => r = .returned (.bool true) ∧ Below w.heap.size w w' := by
  have hb0 : Below w.heap.size w ((w.alloc (.cells #[.int .u8 o.kind, .int .i64 o.key, .int .i64 o.val, .int .i64 o.to, .int .i64 o.n, .slice Ao o.pairs.length co] 28)).alloc (.cells #[.int .i64 q.pair.key, .int .i64 q.pair.val, .int .i64 q.n, .slice Aq q.pairs.length cq] 30)) := ((Below.refl _ _).alloc (Nat.le_refl _) _).alloc (by simp) _
  have bO0 : Blk ((w.alloc (.cells #[.int .u8 o.kind, .int .i64 o.key, .int .i64 o.val, .int .i64 o.to, .int .i64 o.n, .slice Ao o.pairs.length co] 28)).alloc (.cells #[.int .i64 q.pair.key, .int .i64 q.pair.val, .int .i64 q.n, .slice Aq q.pairs.length cq] 30)) w.heap.size 28 #[.int .u8 o.kind, .int .i64 o.key, .int .i64 o.val, .int .i64 o.to, .int .i64 o.n, .slice Ao o.pairs.length co] := (Blk.new w _ _).alloc _
  have bQ0 : Blk ((w.alloc (.cells #[.int .u8 o.kind, .int .i64 o.key, .int .i64 o.val, .int .i64 o.to, .int .i64 o.n, .slice Ao o.pairs.length co] 28)).alloc (.cells #[.int .i64 q.pair.key, .int .i64 q.pair.val, .int .i64 q.n, .slice Aq q.pairs.length cq] 30)) (w.heap.size + 1) 30 #[.int .i64 q.pair.key, .int .i64 q.pair.val, .int .i64 q.n, .slice Aq q.pairs.length cq] := by
    have := Blk.new (w.alloc (.cells #[.int .u8 o.kind, .int .i64 o.key, .int .i64 o.val, .int .i64 o.to, .int .i64 o.n, .slice Ao o.pairs.length co] 28)) 30 #[.int .i64 q.pair.key, .int .i64 q.pair.val, .int .i64 q.n, .slice Aq q.pairs.length cq]
    rwa [World.size_alloc] at this
  go_enter Try.func4, Try.ntmps4
  go_wp2
  go_ret
  exact ⟨rfl, hb0⟩


set_option maxHeartbeats 4000000 in
theorem tells_main (n : Int) (A : Option Addr) (l : List Pr) (c : Nat) (o : Opn) (Ao : Option Addr) (co : Nat) (q : Answ) (Aq : Option Addr) (cq : Nat) (w : World) (hA : Sl w A (l.flatMap Pr.cells)) (hO : Sl w Ao (o.pairs.flatMap Pr.cells)) (hQ : Sl w Aq (q.pairs.flatMap Pr.cells)) (hlc : l.length ≤ c) (hpc : o.pairs.length ≤ co) (hb : ∀ x ∈ l, -9223372036854775808 ≤ x.key ∧ x.key ≤ 9223372036854775807) (h1 : l.length ≤ 200) (h2 : o.pairs.length ≤ 200) (h3 : q.pairs.length ≤ 200) :
    Calls Try.prog 4 #[.int .i64 n, .slice A l.length c, .agg #[.int .u8 o.kind, .int .i64 o.key, .int .i64 o.val, .int .i64 o.to, .int .i64 o.n, .slice Ao o.pairs.length co], .agg #[.int .i64 q.pair.key, .int .i64 q.pair.val, .int .i64 q.n, .slice Aq q.pairs.length cq]] w fun r w' => r = .returned (.bool true) ∧ Below w.heap.size w w' := by
  obtain ⟨ti0, hi, hz0, hz1, hz2⟩ := info_parts pr_info0
  have HI := Lib.hid (And.intro hi (And.intro hz0 (And.intro hz1 hz2)))
  clear hi hz0 hz1 hz2
  obtain ⟨C, hC⟩ : ∃ C, checkE n l = C := ⟨_, rfl⟩
  obtain ⟨E, hE⟩ : ∃ E, doE n l o = E := ⟨_, rfl⟩
  obtain ⟨X, hX⟩ : ∃ X, doL n l o = X := ⟨_, rfl⟩
  obtain ⟨a, ha⟩ : ∃ a, doA n l o = a := ⟨_, rfl⟩
  obtain ⟨D, hD⟩ : ∃ D, decide (a = q) = D := ⟨_, rfl⟩
  have hXl : X.length ≤ 401 := by have := do_len n l o; rw [hX] at this; omega
  have hal : a.pairs.length ≤ 200 := by have := doA_len n l o; rw [ha] at this; omega
  have HC := Lib.hid hC
  have HE := Lib.hid hE
  have HX := Lib.hid hX
  have HA := Lib.hid ha
  have HD := Lib.hid hD
  have HBb := Lib.hid hb
  clear hC hE hX ha hD hb
  have hb0 : Below w.heap.size w ((w.alloc (.cells #[.int .u8 o.kind, .int .i64 o.key, .int .i64 o.val, .int .i64 o.to, .int .i64 o.n, .slice Ao o.pairs.length co] 28)).alloc (.cells #[.int .i64 q.pair.key, .int .i64 q.pair.val, .int .i64 q.n, .slice Aq q.pairs.length cq] 30)) := ((Below.refl _ _).alloc (Nat.le_refl _) _).alloc (by simp) _
  have bO0 : Blk ((w.alloc (.cells #[.int .u8 o.kind, .int .i64 o.key, .int .i64 o.val, .int .i64 o.to, .int .i64 o.n, .slice Ao o.pairs.length co] 28)).alloc (.cells #[.int .i64 q.pair.key, .int .i64 q.pair.val, .int .i64 q.n, .slice Aq q.pairs.length cq] 30)) w.heap.size 28 #[.int .u8 o.kind, .int .i64 o.key, .int .i64 o.val, .int .i64 o.to, .int .i64 o.n, .slice Ao o.pairs.length co] := (Blk.new w _ _).alloc _
  have bQ0 : Blk ((w.alloc (.cells #[.int .u8 o.kind, .int .i64 o.key, .int .i64 o.val, .int .i64 o.to, .int .i64 o.n, .slice Ao o.pairs.length co] 28)).alloc (.cells #[.int .i64 q.pair.key, .int .i64 q.pair.val, .int .i64 q.n, .slice Aq q.pairs.length cq] 30)) (w.heap.size + 1) 30 #[.int .i64 q.pair.key, .int .i64 q.pair.val, .int .i64 q.n, .slice Aq q.pairs.length cq] := by
    have := Blk.new (w.alloc (.cells #[.int .u8 o.kind, .int .i64 o.key, .int .i64 o.val, .int .i64 o.to, .int .i64 o.n, .slice Ao o.pairs.length co] 28)) 30 #[.int .i64 q.pair.key, .int .i64 q.pair.val, .int .i64 q.n, .slice Aq q.pairs.length cq]
    rwa [World.size_alloc] at this
  have hA' := Lib.hid hA
  have hO' := Lib.hid hO
  have hQ' := Lib.hid hQ
  clear hA hO hQ
  go_enter Try.func4, Try.ntmps4
  go_upto_region 3 with fail
  obtain ⟨W, hW⟩ : ∃ W, ((w.alloc (.cells #[.int .u8 o.kind, .int .i64 o.key, .int .i64 o.val, .int .i64 o.to, .int .i64 o.n, .slice Ao o.pairs.length co] 28)).alloc (.cells #[.int .i64 q.pair.key, .int .i64 q.pair.val, .int .i64 q.n, .slice Aq q.pairs.length cq] 30)) = W := ⟨_, rfl⟩
  rw [hW] at hb0 bO0 bQ0
  rw [hW]
  clear hW
  have cO0 : W.cell? ⟨w.heap.size, 0, none⟩ = some (.int .u8 o.kind) := bO0.cell 0
  have cO1 : W.cell? ⟨w.heap.size, 1, none⟩ = some (.int .i64 o.key) := bO0.cell 1
  have cO2 : W.cell? ⟨w.heap.size, 2, none⟩ = some (.int .i64 o.val) := bO0.cell 2
  have cO3 : W.cell? ⟨w.heap.size, 3, none⟩ = some (.int .i64 o.to) := bO0.cell 3
  have cO4 : W.cell? ⟨w.heap.size, 4, none⟩ = some (.int .i64 o.n) := bO0.cell 4
  have cO5 : W.cell? ⟨w.heap.size, 5, none⟩ = some (.slice Ao o.pairs.length co) := bO0.cell 5
  have hWO : w.heap.size < W.heap.size := bO0.lt
  have hWQ : w.heap.size + 1 < W.heap.size := bQ0.lt
  go_cut [9, 10] from 35 to 39 (fun v9 v10 wx => ∃ A6 q6 A5 c5 g, v9 = .slice A6 l.length q6 ∧ v10 = .pointer (some ⟨g, 0, none⟩) ∧ l.length ≤ q6 ∧ Pl wx A6 l ∧ Pl wx A5 o.pairs ∧ Blk wx g 28 #[.int .u8 o.kind, .int .i64 o.key, .int .i64 o.val, .int .i64 o.to, .int .i64 o.n, .slice A5 o.pairs.length c5] ∧ Below W.heap.size W wx)
  case first =>
    go_region_held3 (fun w' => (∀ bq jq, bq < W.heap.size → w'.cell? ⟨bq, jq, none⟩ = W.cell? ⟨bq, jq, none⟩) ∧ (∀ bq jq, bq < W.heap.size → w'.frozen? ⟨bq, jq, none⟩ = W.frozen? ⟨bq, jq, none⟩) ∧ W.heap.size ≤ w'.heap.size ∧ Below W.heap.size W w') ((with_reducible first | exact SB.init | exact SB.alloc _ (by assumption) | exact SB.allocD _ (by assumption) | exact SB.below (by assumption) (by assumption) | assumption | exact SB.re _ (by first | omega | (simp; done) | (simp; omega)) (by assumption) | exact SB.reD _ (by first | omega | (simp; done) | (simp; omega)) (by assumption) | exact SB.six (by first | omega | (simp; done) | (simp; omega)) _ _ _ _ _ _ (by assumption)))
      (first
        | (go_at_call 14; refine (twinOp_any o Ao co _ (hO'.out.below (bext hb0 (SB.bel (by assumption)))) (by omega)).mono ?_; rintro e5 w5 ⟨A5, c5, rfl, hf5, hb5⟩; have hl5 := SB.le hb5 (by assumption); obtain ⟨hc5, hz5, hs5⟩ := wfacts hb5; have hp5 := Pl.of_fr hf5; (first | (have hp6 := Pl.belowS hb5 (by first | exact hp6 | exact Pl.alloc _ hp6)) | skip); (first | (have bg : Blk w5 _ 28 #[.int .u8 0, .int .i64 0, .int .i64 0, .int .i64 0, .int .i64 0, .slice none 0 0] := Blk.belowS hb5 (by first | exact bg | exact Blk.alloc bg _ | exact Blk.new _ _ _ | exact Blk.alloc (Blk.new _ _ _) _); (try simp only [World.size_alloc] at bg); have kg0 := bg.cell 0; have kg1 := bg.cell 1; have kg2 := bg.cell 2; have kg3 := bg.cell 3; have kg4 := bg.cell 4; have kg5 := bg.cell 5; have fg0 := bg.frozen 0; have fg1 := bg.frozen 1; have fg2 := bg.frozen 2; have fg3 := bg.frozen 3; have fg4 := bg.frozen 4; have fg5 := bg.frozen 5) | skip))
        | (refine step_append_full _ (by rfl) (.tmp 35) (.tmp 36) _ (by rfl) 23 ti0 _ 2 16 Try.underlying24 HI.out.1 HI.out.2.1 HI.out.2.2.1 HI.out.2.2.2 rfl (by omega) _ 0 [] (fun _ => rfl) (by rfl) (.inl rfl) (by simp) A l.length c (l.flatMap Pr.cells) (by rfl) (hA'.out.below (bext hb0 (SB.bel (by assumption)))) (prs_length _) (one_prs _) (by unfold maxLen; omega) (by omega) ?_; intro v6 w6 ho1 ho2 hg6; obtain ⟨A6, q6, rfl, hq6, hp6⟩ := full_pl ho1 ho2; have hb6 := (Below.refl _ _).grown hg6 (Nat.le_refl _) (fun k hk => by cases hk); have hl6 := SB.le hb6 (by assumption); obtain ⟨hc6, hz6, hs6⟩ := wfacts hb6; clear ho1 ho2 hg6; (first | (have hp5 := Pl.belowS hb6 (by first | exact hp5 | exact Pl.alloc _ hp5 | exact Pl.alloc _ (Pl.alloc _ hp5))) | skip); (first | (have bg : Blk w6 _ 28 #[.int .u8 0, .int .i64 0, .int .i64 0, .int .i64 0, .int .i64 0, .slice none 0 0] := Blk.belowS hb6 (by first | exact bg | exact Blk.alloc bg _ | exact Blk.new _ _ _ | exact Blk.alloc (Blk.new _ _ _) _); (try simp only [World.size_alloc] at bg); have kg0 := bg.cell 0; have kg1 := bg.cell 1; have kg2 := bg.cell 2; have kg3 := bg.cell 3; have kg4 := bg.cell 4; have kg5 := bg.cell 5; have fg0 := bg.frozen 0; have fg1 := bg.frozen 1; have fg2 := bg.frozen 2; have fg3 := bg.frozen 3; have fg4 := bg.frozen 4; have fg5 := bg.frozen 5) | skip))
        | fail "no arm")
    all_goals
      go_wp2_with fail
      go_meet
      refine ⟨A6, q6, A5, c5, _, rfl, rfl, hq6, ?pA, ?pB, ?pC, SB.bel (by assumption)⟩
      case pC => first | with_reducible exact Blk.six bg _ _ _ _ _ _ | exact Blk.newE (by first | rfl | simp)
      case pA => first | with_reducible exact Pl.six _ _ _ _ _ _ bg hp6 | exact Pl.alloc _ hp6
      case pB => first | with_reducible exact Pl.six _ _ _ _ _ _ bg hp5 | exact Pl.alloc _ hp5
  case rest =>
    obtain ⟨A6, q6, A5, c5, g, rfl, rfl, hq6, hp6, hp5, bG, hbc⟩ := hcut
    obtain ⟨U, hU⟩ : ∃ U : World, U = wc := ⟨_, rfl⟩
    subst hU
    have hb0c := bext hb0 hbc
    have bO := Blk.belowS hbc bO0
    have bQ := Blk.belowS hbc bQ0
    clear cO0 cO1 cO2 cO3 cO4 cO5 hWO hWQ bO0 bQ0 hbc hb0
    have HbG := Lib.hid bG
    have HbO := Lib.hid bO
    have hp6' := Lib.hid hp6
    have hp5' := Lib.hid hp5
    clear hp6 hp5
    have cG0 : U.cell? ⟨g, 0, none⟩ = some (.int .u8 o.kind) := bG.cell 0
    have cG1 : U.cell? ⟨g, 1, none⟩ = some (.int .i64 o.key) := bG.cell 1
    have cG2 : U.cell? ⟨g, 2, none⟩ = some (.int .i64 o.val) := bG.cell 2
    have cG3 : U.cell? ⟨g, 3, none⟩ = some (.int .i64 o.to) := bG.cell 3
    have cG4 : U.cell? ⟨g, 4, none⟩ = some (.int .i64 o.n) := bG.cell 4
    have cG5 : U.cell? ⟨g, 5, none⟩ = some (.slice A5 o.pairs.length c5) := bG.cell 5
    go_wp2_with fail
    refine (do_any n A6 l q6 o A5 c5 _ hp6'.out.sl hq6 (by omega) hp5'.out.sl (by omega)).mono ?_
    rw [HE.out, HX.out, HA.out]
    rintro e7 w7 ⟨A7, c7, A8, c8, rfl, hf7, hf8, hb7⟩
    have hb07 := bext hb0c hb7
    have bO7 := Blk.belowS hb7 bO
    have bQ7 := Blk.belowS hb7 bQ
    have bG7 := Blk.belowS hb7 bG
    have h7O := bO7.lt
    clear cG0 cG1 cG2 cG3 cG4 cG5 bO bQ bG
    have cO0 : w7.cell? ⟨w.heap.size, 0, none⟩ = some (.int .u8 o.kind) := bO7.cell 0
    have cO1 : w7.cell? ⟨w.heap.size, 1, none⟩ = some (.int .i64 o.key) := bO7.cell 1
    have cO2 : w7.cell? ⟨w.heap.size, 2, none⟩ = some (.int .i64 o.val) := bO7.cell 2
    have cO3 : w7.cell? ⟨w.heap.size, 3, none⟩ = some (.int .i64 o.to) := bO7.cell 3
    have cO4 : w7.cell? ⟨w.heap.size, 4, none⟩ = some (.int .i64 o.n) := bO7.cell 4
    have cO5 : w7.cell? ⟨w.heap.size, 5, none⟩ = some (.slice Ao o.pairs.length co) := bO7.cell 5
    have ba0 : Below w7.heap.size w7 (w7.alloc (.cells #[.int .i64 a.pair.key, .int .i64 a.pair.val, .int .i64 a.n, .slice A8 a.pairs.length c8] 30)) := (Below.refl _ _).alloc (Nat.le_refl _) _
    have b12 : Blk (w7.alloc (.cells #[.int .i64 a.pair.key, .int .i64 a.pair.val, .int .i64 a.n, .slice A8 a.pairs.length c8] 30)) w7.heap.size 30 #[.int .i64 a.pair.key, .int .i64 a.pair.val, .int .i64 a.n, .slice A8 a.pairs.length c8] := Blk.new _ _ _
    go_wp2_with fail
    refine (refdo_any n A l c o Ao co _ (hA'.out.below (bext hb07 ba0)) (hO'.out.below (bext hb07 ba0)) (by omega) (by omega) hlc hpc HBb.out).mono ?_
    rw [HE.out, HX.out, HA.out]
    rintro e9 w9 ⟨A9, c9, A10, c10, rfl, hf9, hf10, hb9⟩
    have hb79 := bext ba0 hb9
    have ba9 : Below w9.heap.size w9 (w9.alloc (.cells #[.int .i64 a.pair.key, .int .i64 a.pair.val, .int .i64 a.n, .slice A10 a.pairs.length c10] 30)) := (Below.refl _ _).alloc (Nat.le_refl _) _
    have hb72 := bext hb79 ba9
    have hb02 := bext hb07 hb72
    have bO2 := Blk.belowS hb72 bO7
    have bQ2 := Blk.belowS hb72 bQ7
    have bG2 := Blk.belowS hb72 bG7
    have b122 := Blk.belowS ba9 (Blk.belowS hb9 b12)
    have b152 : Blk (w9.alloc (.cells #[.int .i64 a.pair.key, .int .i64 a.pair.val, .int .i64 a.n, .slice A10 a.pairs.length c10] 30)) w9.heap.size 30 #[.int .i64 a.pair.key, .int .i64 a.pair.val, .int .i64 a.n, .slice A10 a.pairs.length c10] := Blk.new _ _ _
    have hf72 := hf7.below hb72
    have hf82 := hf8.below hb72
    have hf92 := hf9.below ba9
    have hf102 := hf10.below ba9
    have hbc2 := bext hb7 hb72
    go_upto_region 6 with fail
    obtain ⟨W2, hW2⟩ : ∃ W2, w9.alloc (.cells #[.int .i64 a.pair.key, .int .i64 a.pair.val, .int .i64 a.n, .slice A10 a.pairs.length c10] 30) = W2 := ⟨_, rfl⟩
    obtain ⟨g12, h12⟩ : ∃ g12, w7.heap.size = g12 := ⟨_, rfl⟩
    obtain ⟨g15, h15⟩ : ∃ g15, w9.heap.size = g15 := ⟨_, rfl⟩
    rw [hW2] at hb72 hb02 bO2 bQ2 bG2 b122 b152 hf72 hf82 hf92 hf102 hbc2
    rw [h12] at b122
    rw [h15] at b152
    rw [hW2, h12, h15]
    clear hW2 hb79 ba9 ba0 b12 hb9 hb7 hb07 bO7 bQ7 bG7 h7O cO0 cO1 cO2 cO3 cO4 cO5 hf7 hf8 hf9 hf10 hb72
    have hf72 := Lib.hid hf72
    have hf82 := Lib.hid hf82
    have hf92 := Lib.hid hf92
    have hf102 := Lib.hid hf102
    have hL := Lib.hid (hA'.out.below hb02)
    have hQ2 := Lib.hid (hQ'.out.below hb02)
    have hO2 := Lib.hid (hO'.out.below hb02)
    have hp62 := Lib.hid (hp6'.out.belowS hbc2)
    have hp52 := Lib.hid (hp5'.out.belowS hbc2)
    have hi12 : g12 < W2.heap.size := b122.lt
    have hi15 : g15 < W2.heap.size := b152.lt
    have hiQ : w.heap.size + 1 < W2.heap.size := bQ2.lt
    have cA0 : W2.cell? ⟨g12, 0, none⟩ = some (.int .i64 a.pair.key) := b122.cell 0
    have cA1 : W2.cell? ⟨g12, 1, none⟩ = some (.int .i64 a.pair.val) := b122.cell 1
    have cA2 : W2.cell? ⟨g12, 2, none⟩ = some (.int .i64 a.n) := b122.cell 2
    have cA3 : W2.cell? ⟨g12, 3, none⟩ = some (.slice A8 a.pairs.length c8) := b122.cell 3
    have cB0 : W2.cell? ⟨g15, 0, none⟩ = some (.int .i64 a.pair.key) := b152.cell 0
    have cB1 : W2.cell? ⟨g15, 1, none⟩ = some (.int .i64 a.pair.val) := b152.cell 1
    have cB2 : W2.cell? ⟨g15, 2, none⟩ = some (.int .i64 a.n) := b152.cell 2
    have cB3 : W2.cell? ⟨g15, 3, none⟩ = some (.slice A10 a.pairs.length c10) := b152.cell 3
    have cQ0 : W2.cell? ⟨w.heap.size + 1, 0, none⟩ = some (.int .i64 q.pair.key) := bQ2.cell 0
    have cQ1 : W2.cell? ⟨w.heap.size + 1, 1, none⟩ = some (.int .i64 q.pair.val) := bQ2.cell 1
    have cQ2 : W2.cell? ⟨w.heap.size + 1, 2, none⟩ = some (.int .i64 q.n) := bQ2.cell 2
    have cQ3 : W2.cell? ⟨w.heap.size + 1, 3, none⟩ = some (.slice Aq q.pairs.length cq) := bQ2.cell 3
    go_cut [17] from 56 to 86 (fun v wx => v = .bool true ∧ Below W2.heap.size W2 wx)
    case first =>
      go_region_held3 (fun w' => (∀ bq jq, bq < W2.heap.size → w'.cell? ⟨bq, jq, none⟩ = W2.cell? ⟨bq, jq, none⟩) ∧ (∀ bq jq, bq < W2.heap.size → w'.frozen? ⟨bq, jq, none⟩ = W2.frozen? ⟨bq, jq, none⟩) ∧ W2.heap.size ≤ w'.heap.size ∧ Below W2.heap.size W2 w') ((with_reducible first | exact SB.init | exact SB.below (by assumption) (by assumption) | assumption))
        (first
          | (go_at_call 13; refine (check_any n A6 l q6 _ (hp62.out.sl.below (SB.bel (by assumption))) (by omega)).mono ?_; rw [HC.out]; rintro e1 v1 ⟨rfl, hv1⟩; have hl1 := SB.le hv1 (by assumption); obtain ⟨hc1, hz1, hs1⟩ := wfacts hv1)
          | (go_at_call 17; refine (refCheck_any n A l c _ (hL.out.below (SB.bel (by assumption))) (by omega)).mono ?_; rw [HC.out]; rintro e2 v2 ⟨rfl, hv2⟩; have hl2 := SB.le hv2 (by assumption); obtain ⟨hc2, hz2, hs2⟩ := wfacts hv2)
          | (go_at_call 18; refine (samePairs_any A7 A9 X X c7 c9 _ (hf72.out.sl.below (SB.bel (by assumption))) (hf92.out.sl.below (SB.bel (by assumption))) (by omega) (by omega)).mono ?_; rw [decide_eq_true rfl]; rintro e3 v3 ⟨rfl, hv3⟩; have hl3 := SB.le hv3 (by assumption); obtain ⟨hc3, hz3, hs3⟩ := wfacts hv3)
          | (have hx := hv4; (go_at_call 19; refine (refSameAns_any a q A10 Aq c10 cq _ (hf102.out.sl.below (SB.bel (by assumption))) (hQ2.out.below (SB.bel (by assumption))) (by omega) (by omega)).mono ?_; rw [HD.out]; rintro e5 v5 ⟨rfl, hv5⟩; have hl5 := SB.le hv5 (by assumption); obtain ⟨hc5, hz5, hs5⟩ := wfacts hv5))
          | (go_at_call 19; refine (refSameAns_any a a A8 A10 c8 c10 _ (hf82.out.sl.below (SB.bel (by assumption))) (hf102.out.sl.below (SB.bel (by assumption))) (by omega) (by omega)).mono ?_; rw [decide_eq_true rfl]; rintro e4 v4 ⟨rfl, hv4⟩; have hl4 := SB.le hv4 (by assumption); obtain ⟨hc4, hz4, hs4⟩ := wfacts hv4)
          | (go_at_call 20; refine (sameAns_any a q A8 Aq c8 cq _ (hf82.out.sl.below (SB.bel (by assumption))) (hQ2.out.below (SB.bel (by assumption))) (by omega) (by omega)).mono ?_; rw [HD.out]; rintro e6 v6 ⟨rfl, hv6⟩; have hl6 := SB.le hv6 (by assumption); obtain ⟨hc6, hz6, hs6⟩ := wfacts hv6)
          | fail "no arm")
      all_goals
        go_wp2_with fail
        go_meet
        exact ⟨by simp, SB.bel (by assumption)⟩
    case rest =>
      obtain ⟨rfl, hbz⟩ := hcut
      have bz12 := Blk.belowS hbz b122
      have hk7 := Ki.belowS hbz (Ki.of_fr hf72.out (Nat.le_refl _) b122)
      have hk8 := Ki.belowS hbz (Ki.of_fr hf82.out (Nat.le_refl _) b122)
      have hUz := bext hbc2 hbz
      clear cA0 cA1 cA2 cA3 cB0 cB1 cB2 cB3 cQ0 cQ1 cQ2 cQ3 hf72 hf82 hf92 hf102 hL hQ2 hO2 hp62 hp52 hi12 hi15 hiQ bO2 bQ2 bG2 b122 b152 hbz hbc2 hb02
      go_wp2_with fail
      go_loopw [18] (fun i wr => ∃ k : Nat, k ≤ X.length ∧ i = .int .i64 k ∧ Below U.heap.size U wr ∧ Blk wr g12 30 #[.int .i64 a.pair.key, .int .i64 a.pair.val, .int .i64 a.n, .slice A8 a.pairs.length c8] ∧ Ki wr U.heap.size g12 A7 X.length ∧ Ki wr U.heap.size g12 A8 a.pairs.length) (fun i _ => X.length - (intOf i).toNat)
      case atStart => exact ⟨0, Nat.zero_le _, rfl, hUz, bz12, hk7, hk8⟩
      case round =>
        obtain ⟨k, hk, rfl, hbr, br, k7, k8⟩ := hrel
        by_cases hlt : k < X.length
        · obtain ⟨gx, kx, rfl, hgx, hne, cc, ff⟩ := k7.get hlt
          have i0 : (0 : Int) ≤ (k : Int) := by omega
          have i1 : (k : Int) < (X.length : Int) := by omega
          have HR := Lib.hid (And.intro hbr (And.intro br (And.intro k7 k8)))
          clear hbr br k7 k8 hk7 hk8 hUz bz12
          go_wp2
          go_roundw
          case rel => exact ⟨k + 1, by omega, by go_num, HR.out.1.setCell (p := ⟨gx, k * 2, none⟩) hgx _, HR.out.2.1.far (p := ⟨gx, k * 2, none⟩) hne.symm _, HR.out.2.2.1.set _ _ _, HR.out.2.2.2.set _ _ _⟩
          case measure => simp [intOf]; omega
        · clear hk7 hk8 hUz bz12
          have c12 : wr.cell? ⟨g12, 3, none⟩ = some (.slice A8 a.pairs.length c8) := br.cell 3
          clear c12
          go_wp2_with fail
          go_loopw [19] (fun i wr2 => ∃ k : Nat, k ≤ a.pairs.length ∧ i = .int .i64 k ∧ Below U.heap.size U wr2 ∧ Blk wr2 g12 30 #[.int .i64 a.pair.key, .int .i64 a.pair.val, .int .i64 a.n, .slice A8 a.pairs.length c8] ∧ Ki wr2 U.heap.size g12 A7 X.length ∧ Ki wr2 U.heap.size g12 A8 a.pairs.length) (fun i _ => a.pairs.length - (intOf i).toNat)
          case atStart => exact ⟨0, Nat.zero_le _, rfl, hbr, br, k7, k8⟩
          case round =>
            clear hbr br k7 k8
            obtain ⟨j, hj, rfl, hbr2, br2, j7, j8⟩ := hrel
            have c12 : wr.cell? ⟨g12, 3, none⟩ = some (.slice A8 a.pairs.length c8) := br2.cell 3
            have c12' : wr.cell? ⟨g12, 0 + 3, none⟩ = some (.slice A8 a.pairs.length c8) := br2.cell 3
            by_cases hlt2 : j < a.pairs.length
            · obtain ⟨gx, kx, rfl, hgx, hne, cc, ff⟩ := j8.get hlt2
              have i0 : (0 : Int) ≤ (j : Int) := by omega
              have i1 : (j : Int) < (a.pairs.length : Int) := by omega
              have HR := Lib.hid (And.intro hbr2 (And.intro br2 (And.intro j7 j8)))
              clear hbr2 br2 j7 j8
              go_wp2_with fail
              go_region
              all_goals
                go_wp2
                go_roundw
                case rel => exact ⟨j + 1, by omega, by go_num, (HR.out.1.setCell (p := ⟨gx, j * 2, none⟩) hgx _).drew, HR.out.2.1.far (p := ⟨gx, j * 2, none⟩) hne.symm _, HR.out.2.2.1.set _ _ _, HR.out.2.2.2.set _ _ _⟩
                case measure => simp [intOf]; omega
            · have hs6 := Lib.hid ((hp6'.out.belowS hbr2).sl)
              have hs1 := Lib.hid (hA'.out.below (bext hb0c hbr2))
              have hs5 := Lib.hid ((hp5'.out.belowS hbr2).sl)
              have hs0 := Lib.hid (hO'.out.below (bext hb0c hbr2))
              have hbw := bext hb0c hbr2
              have bG9 := Blk.belowS hbr2 HbG.out
              have bO9 := Blk.belowS hbr2 HbO.out
              clear br2 j7 j8 hbr2
              go_wp2_with fail
              refine (samePairs_any A6 A l l q6 c _ hs6.out hs1.out (by omega) (by omega)).mono ?_
              rw [decide_eq_true rfl]
              rintro e10 w10 ⟨rfl, hb10⟩
              have bG8 := Blk.belowS hb10 bG9
              have bO8 := Blk.belowS hb10 bO9
              clear c12 c12'
              have cG0 : w10.cell? ⟨g, 0, none⟩ = some (.int .u8 o.kind) := bG8.cell 0
              have cG1 : w10.cell? ⟨g, 1, none⟩ = some (.int .i64 o.key) := bG8.cell 1
              have cG2 : w10.cell? ⟨g, 2, none⟩ = some (.int .i64 o.val) := bG8.cell 2
              have cG3 : w10.cell? ⟨g, 3, none⟩ = some (.int .i64 o.to) := bG8.cell 3
              have cG4 : w10.cell? ⟨g, 4, none⟩ = some (.int .i64 o.n) := bG8.cell 4
              have cG5 : w10.cell? ⟨g, 5, none⟩ = some (.slice A5 o.pairs.length c5) := bG8.cell 5
              have cO0 : w10.cell? ⟨w.heap.size, 0, none⟩ = some (.int .u8 o.kind) := bO8.cell 0
              have cO1 : w10.cell? ⟨w.heap.size, 1, none⟩ = some (.int .i64 o.key) := bO8.cell 1
              have cO2 : w10.cell? ⟨w.heap.size, 2, none⟩ = some (.int .i64 o.val) := bO8.cell 2
              have cO3 : w10.cell? ⟨w.heap.size, 3, none⟩ = some (.int .i64 o.to) := bO8.cell 3
              have cO4 : w10.cell? ⟨w.heap.size, 4, none⟩ = some (.int .i64 o.n) := bO8.cell 4
              have cO5 : w10.cell? ⟨w.heap.size, 5, none⟩ = some (.slice Ao o.pairs.length co) := bO8.cell 5
              go_wp2_with fail
              refine (sameOp_any o A5 Ao c5 co _ (hs5.out.below hb10) (hs0.out.below hb10) (by omega)).mono ?_
              rintro e11 w11 ⟨rfl, hb11⟩
              go_wp2
              go_ret
              exact ⟨rfl, bext (bext hbw hb10) hb11⟩


theorem tells_any (n : Int) (A : Option Addr) (l : List Pr) (c : Nat) (o : Opn) (Ao : Option Addr) (co : Nat) (q : Answ) (Aq : Option Addr) (cq : Nat) (w : World) (hA : Sl w A (l.flatMap Pr.cells)) (hO : Sl w Ao (o.pairs.flatMap Pr.cells)) (hQ : Sl w Aq (q.pairs.flatMap Pr.cells)) (hlc : l.length ≤ c) (hpc : o.pairs.length ≤ co) (hb : ∀ x ∈ l, -9223372036854775808 ≤ x.key ∧ x.key ≤ 9223372036854775807) :
    Calls Try.prog 4 #[.int .i64 n, .slice A l.length c, .agg #[.int .u8 o.kind, .int .i64 o.key, .int .i64 o.val, .int .i64 o.to, .int .i64 o.n, .slice Ao o.pairs.length co], .agg #[.int .i64 q.pair.key, .int .i64 q.pair.val, .int .i64 q.n, .slice Aq q.pairs.length cq]] w fun r w' => r = .returned (.bool true) ∧ Below w.heap.size w w' := by
  by_cases h1 : 200 < l.length
  · exact tells_e0 n A l c o Ao co q Aq cq w hA hO hQ hlc hpc hb h1
  · by_cases h2 : 200 < o.pairs.length
    · exact tells_e1 n A l c o Ao co q Aq cq w hA hO hQ hlc hpc hb h1 h2
    · by_cases h3 : 200 < q.pairs.length
      · exact tells_e2 n A l c o Ao co q Aq cq w hA hO hQ hlc hpc hb h1 h2 h3
      · exact tells_main n A l c o Ao co q Aq cq w hA hO hQ hlc hpc hb (by omega) (by omega) (by omega)

set_option maxRecDepth 100000 in
theorem modelTells_lifted (os : Os) (started : os.Started) (H : Type) (enc : TypeId × Value → H) :
    ReturnsInHanded {} Try.checked os 4 .any (Rows.modelTellsSpec.pre6 enc Try.prog Try.f4 Rows.modelTellsRow.domain false)
      (Rows.modelTellsSpec.post enc Try.prog Try.f4 false true false false) := by
  refine returnsInHanded_of_change (C := Try.checked) own started (by kernel_rfl) Try.func4
    (ChangeSpec.witness6 (enc := enc) (C := Try.checked) false ⟨#[], #[.int .i64 0, .slice none 0 0, .agg #[.int .u8 0, .int .i64 0, .int .i64 0, .int .i64 0, .int .i64 0, .slice none 0 0], .agg #[.int .i64 0, .int .i64 0, .int .i64 0, .slice none 0 0]], []⟩ 8 (by kernel_rfl) (by kernel_rfl) (by kernel_rfl) (by kernel_rfl)) ?_
  intro W base args ds gs before hval0 hW _ _
  have hval : ∀ (j : Nat) t v, Try.f4.params[j]? = some t → args[j]? = some v → Value.okWide Try.prog W .any base t v := hval0
  have hW' := hW
  obtain ⟨p, q, hA0, hV, rfl, hfz, hnd⟩ := hW
  have hA : DataW.TrodAll enc Try.prog W 0 (fun _ => true) true Try.f4.params.toList args.toList ds p := hA0
  rw [Try.params4] at hA hval
  obtain ⟨v0, v1, v2, v3, d0, d1, d2, d3, p0, p1, p2, p3, rfl, rfl, rfl, h0, h1, h2, h3⟩ := trodAll_four hA
  obtain ⟨rfl, rfl⟩ := trodVars_none hV
  obtain ⟨n, rfl⟩ := okWide_int Try.underlying3 (hval 0 3 v0 rfl rfl)
  obtain ⟨A, l, c, rfl, hlc, _, hs, hb⟩ := read_prsw (hval 1 24 v1 rfl rfl) h1
  obtain ⟨o, Ao, co, rfl, hpc, _, hso, _⟩ := read_op (hval 2 28 v2 rfl rfl) h2
  obtain ⟨q, Aq, cq, rfl, _, _, hsq⟩ := read_ans (hval 3 30 v3 rfl rfl) h3
  refine (tells_any n A l c o Ao co q Aq cq W hs hso hsq hlc hpc hb).mono fun e W' ⟨he, hb⟩ => ?_
  subst he
  exact ⟨_, rfl, law_post (tb := 4) laidOut (by intro t ht; rw [Try.params4] at ht; simp at ht; rcases ht with rfl | rfl | rfl | rfl <;> exact ⟨by kernel_rfl, of_decide_eq_true (by kernel_rfl)⟩) rfl hW' rfl rfl rfl (by kernel_rfl) Try.underlying4 hb⟩

theorem modelTells_holds : Rows.ModelTellsSaid :=
  OpenClaim.holds_of_wide 4 Try.f4 rfl rfl rfl rfl rfl rfl rfl ⟨rfl, rfl, rfl, rfl, rfl⟩ rfl rfl rfl rfl rfl (by kernel_rfl) Try.func4 (by kernel_rfl)
    (of_decide_eq_true (by kernel_rfl)) (by unfold Func.isWrapper; first | (rw [if_pos (by decide +kernel)]; kernel_rfl) | (rw [if_neg (by decide +kernel)]; exact ⟨rfl, rfl⟩))
    (fun os started H enc _ => modelTells_lifted os started H enc)

end Go.Proofs.Ytibgpghlnfcilaa