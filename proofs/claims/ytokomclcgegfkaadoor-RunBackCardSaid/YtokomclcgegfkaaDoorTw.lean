/- Contracts: copies of runs. -/
import Derived.Test.YtokomclcgegfkaaDoorLg
namespace Go.Proofs.YtokomclcgegfkaaDoor
open Go Go.RowKit
set_option maxRecDepth 100000

theorem one_ents (l : List Ent) : ∀ u ∈ l.flatMap Ent.cells, u.oneCell' = true := by
  intro u hu; obtain ⟨e, _, he⟩ := List.mem_flatMap.1 hu; simp [Ent.cells] at he; rcases he with rfl | rfl | rfl <;> rfl
theorem ents_length (l : List Ent) : (l.flatMap Ent.cells).length = l.length * 3 := flat_length Ent.cells 3 Ent.cells_length l
theorem eql_nilE (A : Option Addr) (n c : Nat) (w : World) : (binOp .eql 22 (.slice A n c) (.slice none 0 0)).run Tryd.prog w = .ok (.bool A.isNone) w := Lib.run_eql_slice_nil w _ _ A n c _ _ Tryd.underlying22
theorem own_zeroE {w : World} {g B : Nat} (h : Blk w g 29 #[]) (hB : B ≤ g) : w.ownsRow B 29 3 (.slice (some ⟨g, 0, none⟩) 0 0) 0 [] :=
  ⟨rfl, .inr ⟨g, 0, _, rfl, hB, h, Nat.le_refl _, Nat.zero_le _, rfl, rfl⟩⟩
/-- hands back a run whose entries lie in new memory -/
def GivesTwin (l : List Ent) (w : World) (r : Ending) (w' : World) : Prop :=
  ∃ A c, r = .returned (.agg #[.slice A l.length c]) ∧ w'.ownsRow w.heap.size 29 3 (.slice A l.length c) l.length (l.flatMap Ent.cells) ∧ Below w.heap.size w w'

set_option maxHeartbeats 1000000 in
theorem cloneE_any (A : Option Addr) (l : List Ent) (c : Nat) (w : World) (hA : Sl w A (l.flatMap Ent.cells)) (hl : l.length ≤ 1000000) :
    Calls Tryd.prog 69 #[.slice A l.length c] w (GivesOwn 29 3 l.length (l.flatMap Ent.cells) w) := by
  obtain ⟨i0, hi, hz0, hz1, hz2⟩ := info_parts ent_info
  have hn := eql_nilE A l.length c w
  cases A with
  | none =>
    have hnil : l = [] := by
      rcases hA with h | ⟨b, off, h, _⟩
      · cases l with
        | nil => rfl
        | cons a l => simp [Ent.cells] at h
      · cases h
    subst hnil
    have hn2 : ∀ n, (binOp .eql 22 (.slice none n c) (.slice none 0 0)).run Tryd.prog w = .ok (.bool true) w := fun n => eql_nilE none n c w
    clear hn
    go_enter Tryd.func69, Tryd.ntmps69
    go_wp2
    go_ret
    exact ⟨none, 0, rfl, World.ownsRow_nil _ _ _ _, Below.refl _ _⟩
  | some a =>
    have hb0 : Below w.heap.size w (w.alloc (.cells #[] 29)) := (Below.refl _ _).alloc (Nat.le_refl _) _
    have hown0 : (w.alloc (.cells #[] 29)).ownsRow w.heap.size 29 3 (.slice (some ⟨w.heap.size, 0, none⟩) 0 0) 0 [] := own_zeroE (Blk.new _ _ _) (Nat.le_refl _)
    go_enter Tryd.func69, Tryd.ntmps69
    go_wp2_with (at_builtin; refine wpList_append_sl _ rfl (.tmp 5) (.tmp 6) _ rfl w.heap.size 29 i0 _ 3 24 Tryd.underlying22 hi hz0 hz1 hz2 rfl (by omega) (.slice (some ⟨w.heap.size, 0, none⟩) 0 0) 0 [] rfl hown0 (some a) l.length c (l.flatMap Ent.cells) rfl (hA.below hb0) (ents_length l) (one_ents l) (by unfold maxLen; omega) (by omega) (by simp) ?_; intro v1 w1 hown1 hg1; simp only [Nat.zero_add, List.nil_append] at hown1; obtain ⟨A1, c1, rfl, hlc1, hcm1⟩ := own_form hown1)
    go_ret
    exact ⟨A1, c1, rfl, hown1, hb0.grown hg1 (by simp) (fun k hk => (hown0.lt k hk).1)⟩
set_option maxHeartbeats 1000000 in
theorem twin_any (A : Option Addr) (l : List Ent) (c : Nat) (w : World) (hA : Sl w A (l.flatMap Ent.cells)) (hl : l.length ≤ 1000000) :
    Calls Tryd.prog 25 #[.agg #[.slice A l.length c]] w (GivesTwin l w) := by
  have hb0 : Below w.heap.size w ((w.alloc (.cells #[.slice A l.length c] 24)).alloc (.cells #[.slice none 0 0] 24)) := ((Below.refl _ _).alloc (Nat.le_refl _) _).alloc (by simp) _
  have bR : Blk ((w.alloc (.cells #[.slice A l.length c] 24)).alloc (.cells #[.slice none 0 0] 24)) (w.heap.size + 1) 24 #[.slice none 0 0] := by
    have := Blk.new (w.alloc (.cells #[.slice A l.length c] 24)) 24 #[.slice none 0 0]
    rwa [World.size_alloc] at this
  go_enter Tryd.func25, Tryd.ntmps25
  go_wp2_with fail
  refine (cloneE_any A l c _ (hA.below hb0) hl).mono ?_
  rintro e w1 ⟨A1, c1, rfl, ho1, hb1⟩
  have hb01 := bext hb0 hb1
  have bR1 := bR.below hb1 bR.lt
  have ho1 := own_mono ho1 (show w.heap.size + 1 + 1 ≤ _ by simp)
  have c0 : w1.cell? ⟨w.heap.size + 1, 0, none⟩ = some (.slice none 0 0) := bR1.cell 0
  have f0 : w1.frozen? ⟨w.heap.size + 1, 0, none⟩ = false := bR1.frozen 0
  go_wp2
  have e1 : (w1.setCell ⟨w.heap.size + 1, 0, none⟩ (.slice A1 l.length c1)).cell? ⟨w.heap.size + 1, 0, none⟩ = some (.slice A1 l.length c1) := (bR1.set_ 0 (.slice A1 l.length c1)).cell 0
  refine bodyPost_ret (v := .agg #[.slice A1 l.length c1]) (by simp [results, Tryd.results25, go_sem, e1]) rfl ?_
  refine ⟨A1, c1, rfl, own_far (own_mono ho1 (by omega)) ?_ _, hb01.setCell (p := ⟨w.heap.size + 1, 0, none⟩) (Nat.le_succ _) _⟩
  intro h
  have := (ho1.lt _ h).1
  simp at this
  omega
set_option maxHeartbeats 1000000 in
theorem refTwin_any (A : Option Addr) (l : List Ent) (c : Nat) (w : World) (hA : Sl w A (l.flatMap Ent.cells)) (hl : l.length ≤ 1000000) :
    Calls Tryd.prog 24 #[.agg #[.slice A l.length c]] w (GivesTwin l w) := by
  obtain ⟨ti0, hi, hz0, hz1, hz2⟩ := info_parts ent_info
  have HI := Lib.hid (And.intro hi (And.intro hz0 (And.intro hz1 hz2)))
  clear hi hz0 hz1 hz2
  obtain ⟨W, hW⟩ : ∃ W, ((w.alloc (.cells #[.slice A l.length c] 24)).alloc (.cells #[.slice none 0 0] 24)).alloc (.cells #[] 29) = W := ⟨_, rfl⟩
  have hb0 : Below w.heap.size w W := by rw [← hW]; exact (((Below.refl _ _).alloc (Nat.le_refl _) _).alloc (by simp) _).alloc (by simp; omega) _
  have hown0 : W.ownsRow (w.heap.size + 1 + 1) 29 3 (.slice (some ⟨w.heap.size + 1 + 1, 0, none⟩) 0 0) 0 [] := by
    rw [← hW]
    have := Blk.new ((w.alloc (.cells #[.slice A l.length c] 24)).alloc (.cells #[.slice none 0 0] 24)) 29 #[]
    rw [World.size_alloc, World.size_alloc] at this
    exact own_zeroE this (Nat.le_refl _)
  have bX : Blk W w.heap.size 24 #[.slice A l.length c] := by rw [← hW]; exact ((Blk.new _ _ _).alloc _).alloc _
  have bR : Blk W (w.heap.size + 1) 24 #[.slice none 0 0] := by
    rw [← hW]
    have := Blk.new (w.alloc (.cells #[.slice A l.length c] 24)) 24 #[.slice none 0 0]
    rw [World.size_alloc] at this
    exact this.alloc _
  have c5 : W.cell? ⟨w.heap.size, 0, none⟩ = some (.slice A l.length c) := bX.cell 0
  have hsz : W.heap.size = w.heap.size + 1 + 1 + 1 := by rw [← hW]; simp
  have HSZ := Lib.hid hsz
  clear hsz
  go_enter Tryd.func24, Tryd.ntmps24
  go_wp2_with (at_builtin; refine wpList_append_sl _ rfl (.tmp 3) (.tmp 5) _ rfl (w.heap.size + 1 + 1) 29 ti0 _ 3 24 Tryd.underlying22 HI.out.1 HI.out.2.1 HI.out.2.2.1 HI.out.2.2.2 rfl (by omega) (.slice (some ⟨w.heap.size + 1 + 1, 0, none⟩) 0 0) 0 [] rfl hown0 A l.length c (l.flatMap Ent.cells) rfl (hA.below hb0) (ents_length _) (one_ents _) (by unfold maxLen; omega) (by omega) (by have := HSZ.out; omega) ?_; intro v1 w1 hown1 hg1; simp only [Nat.zero_add, List.nil_append] at hown1; obtain ⟨A1, c1, rfl, hlc1, hcm1⟩ := own_form hown1; have bR1 : Blk w1 (w.heap.size + 1) 24 #[.slice none 0 0] := bR.of (hg1.block _ bR.lt (by simp [Value.ownBlock])); have r0 : w1.cell? ⟨w.heap.size + 1, 0, none⟩ = some (.slice none 0 0) := bR1.cell 0; have fr0 : w1.frozen? ⟨w.heap.size + 1, 0, none⟩ = false := bR1.frozen 0)
  have hb1 : Below w.heap.size w w1 := hb0.grown hg1 (by have := HSZ.out; omega) (fun k hk => by have := (hown0.lt k hk).1; omega)
  have e1 : (w1.setCell ⟨w.heap.size + 1, 0, none⟩ (.slice A1 l.length c1)).cell? ⟨w.heap.size + 1, 0, none⟩ = some (.slice A1 l.length c1) := (bR1.set_ 0 (.slice A1 l.length c1)).cell 0
  refine bodyPost_ret (v := .agg #[.slice A1 l.length c1]) (by simp [results, Tryd.results24, go_sem, e1]) rfl ?_
  refine ⟨A1, c1, rfl, own_far (own_mono hown1 (by omega)) ?_ _, hb1.setCell (p := ⟨w.heap.size + 1, 0, none⟩) (Nat.le_succ _) _⟩
  intro h
  have := (hown1.lt _ h).1
  simp at this
  omega

/-! ### keys that are written over -/
def Ki3 (w : World) (B h : Nat) (A : Option Addr) (n : Nat) : Prop := n = 0 ∨ ∃ g t cs, A = some ⟨g, 0, none⟩ ∧ B ≤ g ∧ g ≠ h ∧ Blk w g t cs ∧ ∀ j, j < n → ∃ k, cs[j * 3]? = some (.int .i64 k)
section
variable {w w' : World} {B h : Nat} {A : Option Addr} {n : Nat}
theorem Ki3.get (hk : Ki3 w B h A n) {j : Nat} (hj : j < n) : ∃ g k, A = some ⟨g, 0, none⟩ ∧ B ≤ g ∧ g ≠ h ∧ w.cell? ⟨g, j * 3, none⟩ = some (.int .i64 k) ∧ w.frozen? ⟨g, j * 3, none⟩ = false := by
  rcases hk with h0 | ⟨g, t, cs, h1, h2, h3, h4, h5⟩
  · omega
  · obtain ⟨k, hk⟩ := h5 j hj
    exact ⟨g, k, h1, h2, h3, (h4.cell _).trans hk, h4.frozen _⟩
theorem Ki3.set (hk : Ki3 w B h A n) (g i : Nat) (k : Int) : Ki3 (w.setCell ⟨g, i, none⟩ (.int .i64 k)) B h A n := by
  rcases hk with h0 | ⟨g', t, cs, h1, h2, h3, h4, h5⟩
  · exact .inl h0
  · by_cases e : g' = g
    · subst e
      refine .inr ⟨g', t, _, h1, h2, h3, h4.set_ i _, fun j hj => ?_⟩
      obtain ⟨k', hk'⟩ := h5 j hj
      rw [Array.getElem?_setIfInBounds]
      by_cases e2 : i = j * 3
      · rw [if_pos e2]
        have hlt : i < cs.size := by rw [e2]; exact (Array.getElem?_eq_some_iff.1 hk').1
        rw [if_pos hlt]
        exact ⟨k, rfl⟩
      · rw [if_neg e2]
        exact ⟨k', hk'⟩
    · exact .inr ⟨g', t, cs, h1, h2, h3, h4.far (p := ⟨g, i, none⟩) e _, h5⟩
theorem Ki3.of_own {B' c : Nat} {l : List Ent} {cs : Array Value} (hf : w.ownsRow B' 29 3 (.slice A l.length c) l.length (l.flatMap Ent.cells)) (hB : B ≤ B') (hh : Blk w h 24 cs) : Ki3 w B h A l.length := by
  by_cases h0 : l.length = 0
  · exact .inl h0
  · obtain ⟨g, cap, cur, hv, hg, hb, hn, _, hs, ht⟩ := own_blk hf (by omega)
    injection hv with h1 h2 h3
    have hne : g ≠ h := by
      rintro rfl
      have := hb.symm.trans hh
      simp at this
    refine .inr ⟨g, _, cur, h1, Nat.le_trans hB hg, hne, hb, fun j hj => ⟨(l[j]'hj).key, ?_⟩⟩
    have hc := flat_get Ent.cells 3 Ent.cells_length l j 0 hj (by omega)
    rw [← ht, List.getElem?_take, if_pos (by omega)] at hc
    simpa [Ent.cells] using hc
theorem Ki3.belowS (hb : Below w.heap.size w w') (hk : Ki3 w B h A n) : Ki3 w' B h A n := by
  rcases hk with h0 | ⟨g, t, cs, h1, h2, h3, h4, h5⟩
  · exact .inl h0
  · exact .inr ⟨g, t, cs, h1, h2, h3, h4.below hb h4.lt, h5⟩
end
end Go.Proofs.YtokomclcgegfkaaDoor
