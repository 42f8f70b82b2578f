/- Slices of pairs that a call hands back in new memory, parts of slices, and append onto a part that is full. No program in sight. -/
import Derived.Test.YtibgpghlnfcilaaPm
import Derived.ArgAppend
namespace Go.Proofs.Ytibgpghlnfcilaa
open Go Go.RowKit

/-- pairs in memory that is new behind block B -/
def Fr (w : World) (B : Nat) (t : TypeId) (A : Option Addr) (c : Nat) (l : List Pr) : Prop :=
  l.length ≤ c ∧ c ≤ maxLen ∧ ((A = none ∧ l = [] ∧ c = 0) ∨ ∃ g cur, A = some ⟨g, 0, none⟩ ∧ B ≤ g ∧ Blk w g t cur ∧ cur.toList.take (l.length * 2) = l.flatMap Pr.cells ∧ c * 2 ≤ cur.size)

section
variable {w w' : World} {B : Nat} {t : TypeId} {A : Option Addr} {c : Nat} {l : List Pr}
theorem prs_length (l : List Pr) : (l.flatMap Pr.cells).length = l.length * 2 := flat_length Pr.cells 2 Pr.cells_length l
theorem Fr.nil : Fr w B t none 0 [] := ⟨Nat.le_refl _, by unfold maxLen; omega, .inl ⟨rfl, rfl, rfl⟩⟩
theorem Fr.of_own {n : Nat} (h : w.ownsRow B t 2 (.slice A n c) n (l.flatMap Pr.cells)) (hn : n = l.length) : Fr w B t A c l := by
  subst hn
  rcases h.2 with ⟨h1, h2⟩ | ⟨g, cap, cur, h1, h2, h3, h4, h5, h6, h7⟩
  · have : l = [] := List.eq_nil_of_length_eq_zero h2
    subst this
    injection h1 with e1 e2 e3
    subst e1 e3
    exact Fr.nil
  · injection h1 with e1 e2 e3
    subst e1 e3
    exact ⟨h4, h5, .inr ⟨g, cur, rfl, h2, h3, h7, by omega⟩⟩
theorem Fr.sl (h : Fr w B t A c l) : Sl w A (l.flatMap Pr.cells) := by
  rcases h.2.2 with ⟨_, rfl, _⟩ | ⟨g, cur, rfl, _, hg, ht, _⟩
  · exact .inl rfl
  · refine hg.sl 0 _ fun j u hu => ?_
    rw [← ht, List.getElem?_take] at hu
    split at hu
    · simpa using hu
    · cases hu
theorem Fr.below (h : Fr w B t A c l) (hb : Below w.heap.size w w') : Fr w' B t A c l := by
  refine ⟨h.1, h.2.1, ?_⟩
  rcases h.2.2 with h1 | ⟨g, cur, h1, h2, hg, h3⟩
  · exact .inl h1
  · exact .inr ⟨g, cur, h1, h2, hg.below hb hg.lt, h3⟩
theorem Fr.mono {B' : Nat} (h : Fr w B t A c l) (hB : B' ≤ B) : Fr w B' t A c l := by
  refine ⟨h.1, h.2.1, ?_⟩
  rcases h.2.2 with h1 | ⟨g, cur, h1, h2, h3⟩
  · exact .inl h1
  · exact .inr ⟨g, cur, h1, Nat.le_trans hB h2, h3⟩
/-- its first part, full -/
theorem Fr.take (h : Fr w B t A c l) (k : Nat) (hk : k ≤ l.length) (hA : A = none → k = 0) : Fr w B t A k (l.take k) := by
  have hkl : (l.take k).length = k := by simp; omega
  refine ⟨by omega, by have := h.1; have := h.2.1; omega, ?_⟩
  rcases h.2.2 with ⟨h1, h2, _⟩ | ⟨g, cur, h1, h2, h3, h4, h5⟩
  · subst h2; have := hA h1; subst this; exact .inl ⟨h1, rfl, rfl⟩
  · refine .inr ⟨g, cur, h1, h2, h3, ?_, by have := h.1; omega⟩
    rw [hkl]
    have : cur.toList.take (k * 2) = (cur.toList.take (l.length * 2)).take (k * 2) := by rw [List.take_take, Nat.min_eq_left (by omega)]
    rw [this, h4]
    have e : l.flatMap Pr.cells = (l.take k).flatMap Pr.cells ++ (l.drop k).flatMap Pr.cells := by rw [← List.flatMap_append, List.take_append_drop]
    rw [e, List.take_left' (by rw [prs_length, hkl])]

/-- the address of a part -/
def partA (A : Option Addr) (k m : Nat) : Option Addr := if m = k then A else A.map (·.add (k * 2))
theorem flat_take (l : List Pr) (k : Nat) : (l.flatMap Pr.cells).take (k * 2) = (l.take k).flatMap Pr.cells := by
  by_cases h : k ≤ l.length
  · have e : l.flatMap Pr.cells = (l.take k).flatMap Pr.cells ++ (l.drop k).flatMap Pr.cells := by rw [← List.flatMap_append, List.take_append_drop]
    rw [e, List.take_left' (by rw [prs_length]; simp; omega)]
  · rw [List.take_of_length_le (by rw [prs_length]; omega), List.take_of_length_le (by omega)]
theorem flat_drop (l : List Pr) (k : Nat) : (l.flatMap Pr.cells).drop (k * 2) = (l.drop k).flatMap Pr.cells := by
  by_cases h : k ≤ l.length
  · have e : l.flatMap Pr.cells = (l.take k).flatMap Pr.cells ++ (l.drop k).flatMap Pr.cells := by rw [← List.flatMap_append, List.take_append_drop]
    rw [e, List.drop_left' (by rw [prs_length]; simp; omega)]
  · rw [List.drop_eq_nil_of_le (by rw [prs_length]; omega), List.drop_eq_nil_of_le (by omega)]; rfl
theorem Sl.take (h : Sl w A (l.flatMap Pr.cells)) (k : Nat) : Sl w A ((l.take k).flatMap Pr.cells) := by
  rcases h with h | ⟨b, off, h1, h2, h3⟩
  · left; rw [← flat_take, h]; simp
  · refine .inr ⟨b, off, h1, h2, fun j u hu => h3 j u ?_⟩
    rw [← flat_take, List.getElem?_take] at hu
    split at hu
    · exact hu
    · cases hu
theorem Sl.drop (h : Sl w A (l.flatMap Pr.cells)) (k m : Nat) (hm : l.length ≤ m) : Sl w (partA A k m) ((l.drop k).flatMap Pr.cells) := by
  unfold partA
  split
  · rename_i e
    left
    rw [← flat_drop, List.drop_eq_nil_of_le (by rw [prs_length]; omega)]
  · rcases h with h | ⟨b, off, h1, h2, h3⟩
    · left; rw [← flat_drop, h]; simp
    · subst h1
      refine .inr ⟨b, off + k * 2, by simp [Addr.add_lit], h2, fun j u hu => ?_⟩
      rw [← flat_drop, List.getElem?_drop] at hu
      have := h3 _ u hu
      rwa [Nat.add_assoc]
end

/-- append onto a slice without room -/
theorem run_append_full {P : Program} (w : World) (t ty e : TypeId) (i : TypeInfo) (z : Value) (size bytes : Nat) (ht : P.underlying t = some (.slice e)) (hi : P.info? e = some i) (hz : i.zero = some z)
    (hsize : i.size = size) (hby : i.bytes = bytes) (hzs : z.cells.size = size) (hsz : 0 < size)
    (A : Option Addr) (n : Nat) (olds : List Value) (hA : A = none → n = 0) (ho : Sl w A olds) (hlo : olds.length = n * size)
    (A' : Option Addr) (m c : Nat) (news : List Value) (hr : Sl w A' news) (hl : news.length = m * size) (h1 : ∀ u ∈ news, u.oneCell' = true)
    (h63 : n + m ≤ maxLen) (hbytes : (n + m) * bytes ≤ 140737488355328) :
    ∃ v' w', (Builtin.append_ #[t, t] ty #[.slice A n n, .slice A' m c]).run P w = .ok v' w' ∧
      (0 < m → w'.ownsRow w.heap.size e size v' (n + m) (olds ++ news)) ∧ (m = 0 → v' = .slice A n n ∧ w' = w) ∧ w.grownBy w' none := by
  by_cases hm : m = 0
  · subst hm
    refine ⟨.slice A n n, w, ?_, by omega, fun _ => ⟨rfl, rfl⟩, World.grownBy.refl w _⟩
    cases A' with
    | none =>
      cases A with
      | none => have := hA rfl; subst this; simp [Builtin.append_, run_underlying ht, sizeOf, typeInfo, hi, Builtin.lenOf, Builtin.firstCells]
      | some a => simp [Builtin.append_, run_underlying ht, sizeOf, typeInfo, hi, Builtin.lenOf, Builtin.firstCells, storeCells]
    | some a' =>
      cases A with
      | none => have := hA rfl; subst this; simp [Builtin.append_, run_underlying ht, sizeOf, typeInfo, hi, Builtin.lenOf, Builtin.firstCells, loadCells, loadCellsFrom]
      | some a => simp [Builtin.append_, run_underlying ht, sizeOf, typeInfo, hi, Builtin.lenOf, Builtin.firstCells, storeCells, loadCells, loadCellsFrom]
  · have hr' : ∃ b off, A' = some ⟨b, off, none⟩ ∧ ∀ j u, news[j]? = some u → w.cell? ⟨b, off + j, none⟩ = some u := by
      rcases hr with hr | ⟨b, off, h1, _, h3⟩
      · subst hr
        rw [List.length_nil] at hl
        have := Nat.mul_pos (Nat.pos_of_ne_zero hm) hsz
        omega
      · exact ⟨b, off, h1, h3⟩
    obtain ⟨b, off, rfl, hnews⟩ := hr'
    by_cases hn : n = 0
    · subst hn
      have : olds = [] := List.eq_nil_of_length_eq_zero (by simpa using hlo)
      subst this
      cases A with
      | none =>
        obtain ⟨v', w', hrun, h2, h3, _⟩ := run_append_own (P := P) w w.heap.size t ty e i z size bytes ht hi hz hsize hby hzs hsz (.slice none 0 0) 0 [] (World.ownsRow_nil w _ e size) ⟨b, off, none⟩ m c news hl
          (fun j u hu => by rw [Addr.add_lit]; exact hnews j u hu) h1 h63 hbytes (Nat.le_refl _)
        exact ⟨v', w', hrun, fun _ => h2, fun h => absurd h hm, h3⟩
      | some a =>
        obtain ⟨v', w', hrun, h2, h3⟩ := run_append_arg_grows (P := P) w t ty e i z size bytes ht hi hz hsize hby hzs hsz a 0 0 [] (by simp) (by simp) ⟨b, off, none⟩ m c news hl
          (fun j u hu => by rw [Addr.add_lit]; exact hnews j u hu) (by omega) h63 hbytes
        exact ⟨v', w', hrun, fun _ => h2, fun h => absurd h hm, h3⟩
    · rcases ho with ho | ⟨b', off', rfl, _, holds⟩
      · subst ho
        rw [List.length_nil] at hlo
        have := Nat.mul_pos (Nat.pos_of_ne_zero hn) hsz
        omega
      · obtain ⟨v', w', hrun, h2, h3⟩ := run_append_arg_grows (P := P) w t ty e i z size bytes ht hi hz hsize hby hzs hsz ⟨b', off', none⟩ n n olds hlo (fun j u hu => by rw [Addr.add_lit]; exact holds j u hu) ⟨b, off, none⟩ m c news hl
          (fun j u hu => by rw [Addr.add_lit]; exact hnews j u hu) (by omega) h63 hbytes
        exact ⟨v', w', hrun, fun _ => h2, fun h => absurd h hm, h3⟩

theorem step_append_full {P : Program} (w : World) {ops : Array Oper} {o : Oper} {a : Act} {K : Act → World → Prop} {Q : Exit → Act → World → Prop} {E : Prop} (hgd : o.guard = none) (s x : Operand) (t : TypeId)
    (ho : o.op = .call { callee := .builtin .append, args := #[s, x], argTypes := #[t, t] })
    (e : TypeId) (i : TypeInfo) (z : Value) (size bytes : Nat) (ht : P.underlying t = some (.slice e)) (hi : P.info? e = some i) (hz : i.zero = some z)
    (hsize : i.size = size) (hby : i.bytes = bytes) (hzs : z.cells.size = size) (hsz : 0 < size)
    (A : Option Addr) (n : Nat) (olds : List Value) (hA : A = none → n = 0) (hs : a.eval s = .slice A n n) (hol : Sl w A olds) (hlo : olds.length = n * size)
    (A' : Option Addr) (m c : Nat) (news : List Value) (hx : a.eval x = .slice A' m c) (hr : Sl w A' news) (hl : news.length = m * size) (h1 : ∀ u ∈ news, u.oneCell' = true)
    (h63 : n + m ≤ maxLen) (hbytes : (n + m) * bytes ≤ 140737488355328)
    (h : ∀ v' w', (0 < m → w'.ownsRow w.heap.size e size v' (n + m) (olds ++ news)) → (m = 0 → v' = .slice A n n ∧ w' = w) → w.grownBy w' none → K (a.put o.dst v') w') :
    if Region.wanted o (yielded ops a.tmps) = true then Oper.wp P o a w K Q else E := by
  have hw : Region.wanted o (yielded ops a.tmps) = true := by simp [Region.wanted, hgd]
  rw [if_pos hw]
  obtain ⟨v', w', hrun, h2, h3, h4⟩ := run_append_full (P := P) w t o.type e i z size bytes ht hi hz hsize hby hzs hsz A n olds hA hol hlo A' m c news hr hl h1 h63 hbytes
  unfold Oper.wp execOp
  simp only [ho, resolve, invoke, builtin, Sem.run_bind, Sem.run_pure, Result.andThen_ok, List.map_toArray, List.map_cons, List.map_nil, hs, hx, hrun]
  exact h v' w' h2 h3 h4

/-- onto a new slice's full part: again new -/
theorem Fr.append {w w' : World} {B : Nat} {t : TypeId} {A _A' : Option Addr} {_c k : Nat} {l news : List Pr} {v' : Value} {n m : Nat} (h : Fr w B t A k l) (hn : n = l.length) (hkn : k = n) (hm : m = news.length) (hB : B ≤ w.heap.size)
    (h1 : 0 < m → w'.ownsRow w.heap.size t 2 v' (n + m) (l.flatMap Pr.cells ++ news.flatMap Pr.cells)) (h2 : m = 0 → v' = .slice A n n ∧ w' = w) :
    ∃ A2 c2, v' = .slice A2 (n + m) c2 ∧ Fr w' B t A2 c2 (l ++ news) := by
  subst hn hm hkn
  by_cases hm : news.length = 0
  · obtain ⟨rfl, rfl⟩ := h2 hm
    have : news = [] := List.eq_nil_of_length_eq_zero hm
    subst this
    exact ⟨A, l.length, rfl, by simpa using h⟩
  · have ho := h1 (by omega)
    obtain ⟨A2, c2, rfl, _, _⟩ := own_form ho
    rw [← List.flatMap_append] at ho
    exact ⟨A2, c2, rfl, (Fr.of_own ho (by simp)).mono hB⟩
end Go.Proofs.Ytibgpghlnfcilaa
