/- What several operations do, on lists, and lists of operations and of answers in memory. No program in sight. -/
import Derived.Test.YtibgpghlnfcilaaPn
import Derived.Test.YtibgpghlnfcilaaFr
namespace Go.Proofs.Ytibgpghlnfcilaa
open Go Go.RowKit

def stepL (most : Int) (l : List Pr) (o : Opn) : List Pr := if doE most l o = 0 then doL most l o else l
def runL (most : Int) : List Pr → List Opn → List Pr
  | l, [] => l
  | l, o :: os => runL most (stepL most l o) os
def runA (most : Int) : List Pr → List Opn → List Answ
  | _, [] => []
  | l, o :: os => doA most l o :: runA most (stepL most l o) os
def runE (most : Int) : List Pr → List Opn → List Int
  | _, [] => []
  | l, o :: os => doE most l o :: runE most (stepL most l o) os
theorem runL_append (most : Int) : ∀ (os ps : List Opn) (l : List Pr), runL most l (os ++ ps) = runL most (runL most l os) ps
  | [], _, _ => rfl
  | o :: os, ps, l => runL_append most os ps (stepL most l o)
theorem runA_append (most : Int) : ∀ (os ps : List Opn) (l : List Pr), runA most l (os ++ ps) = runA most l os ++ runA most (runL most l os) ps
  | [], _, _ => rfl
  | o :: os, ps, l => by simp only [List.cons_append, runA, runL]; rw [runA_append most os ps]
theorem runE_append (most : Int) : ∀ (os ps : List Opn) (l : List Pr), runE most l (os ++ ps) = runE most l os ++ runE most (runL most l os) ps
  | [], _, _ => rfl
  | o :: os, ps, l => by simp only [List.cons_append, runE, runL]; rw [runE_append most os ps]
theorem runA_length (most : Int) : ∀ (os : List Opn) (l : List Pr), (runA most l os).length = os.length
  | [], _ => rfl
  | o :: os, l => by simp only [runA, List.length_cons]; rw [runA_length most os]
theorem runE_length (most : Int) : ∀ (os : List Opn) (l : List Pr), (runE most l os).length = os.length
  | [], _ => rfl
  | o :: os, l => by simp only [runE, List.length_cons]; rw [runE_length most os]

theorem do_err {most : Int} {l : List Pr} {o : Opn} (h : doE most l o ≠ 0) : doL most l o = [] ∧ doA most l o = noAns ∧ (checkE most l = 0 ∨ doE most l o = checkE most l) := by
  refine ⟨by simp [doL, h], by simp [doA, h], ?_⟩
  by_cases hc : checkE most l = 0
  · exact .inl hc
  · right; simp [doE, hc]
theorem do_ok_check {most : Int} {l : List Pr} {o : Opn} (h : doE most l o = 0) : checkE most l = 0 := by
  by_cases hc : checkE most l = 0
  · exact hc
  · simp [doE, hc] at h
theorem do_check {most : Int} {l : List Pr} {o : Opn} (h : doE most l o = 0) : checkE most (doL most l o) = 0 := by
  have hc := do_ok_check h
  obtain ⟨h1, h2, h3, h4⟩ := check_ok hc
  have hr := do_ris most l o
  have hlen : ((doL most l o).length : Int) ≤ most := by
    unfold doL
    rw [if_neg (by omega)]
    split
    · exact h3
    · rename_i hk
      have ht : turnE most l o = 0 := by simpa [doE, hc, hk] using h
      unfold turnL
      rw [if_pos ht]
      unfold turnE at ht
      repeat' split at ht
      all_goals first | omega | (simp at ht)
  unfold checkE
  rw [if_neg (by omega), if_neg (by rintro (h | h); omega; exact h hr)]
theorem step_check {most : Int} {l : List Pr} (h : checkE most l = 0) (o : Opn) : checkE most (stepL most l o) = 0 := by
  unfold stepL
  split
  · rename_i he; exact do_check he
  · exact h
theorem run_check {most : Int} : ∀ (os : List Opn) {l : List Pr}, checkE most l = 0 → checkE most (runL most l os) = 0
  | [], _, h => h
  | o :: os, _, h => run_check os (step_check h o)
theorem do_same {most : Int} {l : List Pr} {o : Opn} (h : doE most l o = 0) (n2 : ¬ o.kind = 2) (n3 : ¬ o.kind = 3) (n11 : ¬ o.kind = 11) (n12 : ¬ o.kind = 12) (n13 : ¬ o.kind = 13) : doL most l o = l := by
  have hc := do_ok_check h
  have hk : known o = true := by
    cases hk : known o
    · simp [doE, hc, hk, turnE, n2, n3, n11, n12, n13] at h
    · rfl
  simp [doL, h, hk]

/-! ### in memory -/
/-- an operation whose pairs lie at an address, with a capacity -/
structure OpM where
  o : Opn
  A : Option Addr
  c : Nat
/-- an answer, likewise -/
structure AnM where
  a : Answ
  A : Option Addr
  c : Nat
def OpM.cells (x : OpM) : List Value := [.int .u8 x.o.kind, .int .i64 x.o.key, .int .i64 x.o.val, .int .i64 x.o.to, .int .i64 x.o.n, .slice x.A x.o.pairs.length x.c]
def AnM.cells (x : AnM) : List Value := [.int .i64 x.a.pair.key, .int .i64 x.a.pair.val, .int .i64 x.a.n, .slice x.A x.a.pairs.length x.c]
theorem OpM.cells_length (x : OpM) : x.cells.length = 6 := rfl
theorem AnM.cells_length (x : AnM) : x.cells.length = 4 := rfl
def OpsAt (w : World) (A : Option Addr) (l : List OpM) : Prop := Sl w A (l.flatMap OpM.cells) ∧ ∀ x ∈ l, Sl w x.A (x.o.pairs.flatMap Pr.cells)
def AnsAt (w : World) (A : Option Addr) (l : List AnM) : Prop := Sl w A (l.flatMap AnM.cells) ∧ ∀ x ∈ l, Sl w x.A (x.a.pairs.flatMap Pr.cells)
theorem OpsAt.below {w w' : World} {A : Option Addr} {l : List OpM} (h : OpsAt w A l) (hb : Below w.heap.size w w') : OpsAt w' A l := ⟨h.1.below hb, fun x hx => (h.2 x hx).below hb⟩
theorem AnsAt.below {w w' : World} {A : Option Addr} {l : List AnM} (h : AnsAt w A l) (hb : Below w.heap.size w w') : AnsAt w' A l := ⟨h.1.below hb, fun x hx => (h.2 x hx).below hb⟩

theorem Sl.op {w : World} {A : Option Addr} {l : List OpM} (h : Sl w A (l.flatMap OpM.cells)) (i : Nat) (hi : i < l.length) :
    ∃ b off, A = some ⟨b, off, none⟩ ∧ b < w.heap.size ∧ ∀ j u, (l[i]'hi).cells[j]? = some u → w.cell? ⟨b, off + i * 6 + j, none⟩ = some u := by
  rcases h with h | ⟨b, off, hA, hlt, hc⟩
  · have := flat_length OpM.cells 6 OpM.cells_length l
    rw [h] at this
    simp at this
    omega
  · refine ⟨b, off, hA, hlt, fun j u hu => ?_⟩
    have hj : j < 6 := by
      have := (List.getElem?_eq_some_iff.1 hu).1
      simpa [OpM.cells_length] using this
    rw [Nat.add_assoc]
    exact hc _ _ ((flat_get OpM.cells 6 OpM.cells_length l i j hi hj).trans hu)
theorem Sl.an {w : World} {A : Option Addr} {l : List AnM} (h : Sl w A (l.flatMap AnM.cells)) (i : Nat) (hi : i < l.length) :
    ∃ b off, A = some ⟨b, off, none⟩ ∧ b < w.heap.size ∧ ∀ j u, (l[i]'hi).cells[j]? = some u → w.cell? ⟨b, off + i * 4 + j, none⟩ = some u := by
  rcases h with h | ⟨b, off, hA, hlt, hc⟩
  · have := flat_length AnM.cells 4 AnM.cells_length l
    rw [h] at this
    simp at this
    omega
  · refine ⟨b, off, hA, hlt, fun j u hu => ?_⟩
    have hj : j < 4 := by
      have := (List.getElem?_eq_some_iff.1 hu).1
      simpa [AnM.cells_length] using this
    rw [Nat.add_assoc]
    exact hc _ _ ((flat_get AnM.cells 4 AnM.cells_length l i j hi hj).trans hu)

theorem runL_succ {most : Int} {l : List Pr} {ops : List OpM} {k : Nat} (h : k < ops.length) : runL most l ((ops.take (k + 1)).map OpM.o) = stepL most (runL most l ((ops.take k).map OpM.o)) (ops[k]'h).o := by
  rw [List.take_succ_eq_append_getElem h, List.map_append, runL_append]; rfl
theorem runA_succ {most : Int} {l : List Pr} {ops : List OpM} {k : Nat} (h : k < ops.length) : runA most l ((ops.take (k + 1)).map OpM.o) = runA most l ((ops.take k).map OpM.o) ++ [doA most (runL most l ((ops.take k).map OpM.o)) (ops[k]'h).o] := by
  rw [List.take_succ_eq_append_getElem h, List.map_append, runA_append]; rfl
theorem runE_succ {most : Int} {l : List Pr} {ops : List OpM} {k : Nat} (h : k < ops.length) : runE most l ((ops.take (k + 1)).map OpM.o) = runE most l ((ops.take k).map OpM.o) ++ [doE most (runL most l ((ops.take k).map OpM.o)) (ops[k]'h).o] := by
  rw [List.take_succ_eq_append_getElem h, List.map_append, runE_append]; rfl

/-- what grows is a row of another type than that block's -/
theorem grown_blk {w w' : World} {base s n g : Nat} {e t : TypeId} {v : Value} {xs : List Value} {cs : Array Value} (hg : w.grownBy w' v.ownBlock) (ho : w.ownsRow base e s v n xs) (hb : Blk w g t cs) (hne : e ≠ t) : Blk w' g t cs := by
  refine hb.of (hg.block g hb.lt ?_)
  intro h
  rcases ho.2 with ⟨rfl, _⟩ | ⟨k, cap, cur, rfl, _, hk, _⟩
  · simp [Value.ownBlock] at h
  · simp [Value.ownBlock] at h
    subst h
    have := hk.symm.trans hb
    simp at this
    exact hne this.2
theorem grown_fr {w w' : World} {base s n B c : Nat} {e t : TypeId} {v : Value} {xs : List Value} {A : Option Addr} {l : List Pr} (hg : w.grownBy w' v.ownBlock) (ho : w.ownsRow base e s v n xs) (hb : Fr w B t A c l) (hne : e ≠ t) : Fr w' B t A c l := by
  refine ⟨hb.1, hb.2.1, ?_⟩
  rcases hb.2.2 with h1 | ⟨g, cur, h1, h2, h3, h4⟩
  · exact .inl h1
  · exact .inr ⟨g, cur, h1, h2, grown_blk hg ho h3 hne, h4⟩
theorem grown_own {w w' : World} {base base' s s' n n' : Nat} {e t : TypeId} {v v' : Value} {xs xs' : List Value} (hg : w.grownBy w' v.ownBlock) (ho : w.ownsRow base e s v n xs) (hb : w.ownsRow base' t s' v' n' xs') (hne : e ≠ t) : w'.ownsRow base' t s' v' n' xs' := by
  refine ⟨hb.1, ?_⟩
  rcases hb.2 with h1 | ⟨g, cap, cur, h1, h2, h3, h4⟩
  · exact .inl h1
  · exact .inr ⟨g, cap, cur, h1, h2, grown_blk hg ho h3 hne, h4⟩
end Go.Proofs.Ytibgpghlnfcilaa
