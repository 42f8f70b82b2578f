/- Pm Mr Fr Mp Rf Dc: texts of the claim, in this order. -/
import Derived.Test.YthbppblmecdekaaGreatDoorWg1
import Derived.Test.YthbppblmecdekaaGreatDoorProg
import Derived.Test.YthbppblmecdekaaGreatDoorWg2
import Derived.BigQuiet
import Derived.ArgAppend
import Derived.Lib.SliceRun
import Derived.Deep.RegionLaw
import Derived.Test.YthbppblmecdekaaGreatDoorWg18
/- What a map is, on lists of pairs: ranks, neighbours, and what operations do. No program in sight. -/
namespace Go.Proofs.YthbppblmecdekaaGreatDoor
open Go Go.RowKit

instance : Inhabited Pr := ⟨⟨0, 0⟩⟩
deriving instance DecidableEq for Pr

def keys (l : List Pr) : List Int := l.map Pr.key
def Ris (l : List Pr) : Prop := rises (keys l) = true
instance (l : List Pr) : Decidable (Ris l) := by unfold Ris; infer_instance
def bel (l : List Pr) (k : Int) : Nat := l.countP (fun p => decide (p.key < k))
def upk (l : List Pr) (k : Int) : Nat := l.countP (fun p => decide (p.key ≤ k))
def has (l : List Pr) (k : Int) : Bool := decide (bel l k < upk l k)

theorem ris_iff (l : List Pr) : Ris l ↔ l.Pairwise (fun a b => a.key < b.key) := by
  unfold Ris rises keys
  rw [decide_eq_true_iff, List.pairwise_map]
theorem Ris.nil : Ris [] := by rw [ris_iff]; exact List.Pairwise.nil
theorem ris_cons {p : Pr} {l : List Pr} : Ris (p :: l) ↔ (∀ q ∈ l, p.key < q.key) ∧ Ris l := by rw [ris_iff, ris_iff, List.pairwise_cons]
theorem Ris.sub {l m : List Pr} (h : Ris l) (hs : m.Sublist l) : Ris m := by rw [ris_iff] at h ⊢; exact h.sublist hs
theorem Ris.get {l : List Pr} (h : Ris l) {i j : Nat} (hij : i < j) (hj : j < l.length) : (l[i]'(by omega)).key < (l[j]'hj).key := by
  rw [ris_iff] at h
  exact (List.pairwise_iff_getElem.1 h) i j (by omega) hj hij

theorem bel_le (l : List Pr) (k : Int) : bel l k ≤ l.length := List.countP_le_length
theorem upk_le (l : List Pr) (k : Int) : upk l k ≤ l.length := List.countP_le_length
theorem bel_upk (l : List Pr) (k : Int) : bel l k ≤ upk l k := List.countP_mono_left (by intro p _ h; simp at h ⊢; omega)

theorem count_split (p : Pr → Bool) : ∀ (l : List Pr) (n : Nat), n ≤ l.length → (∀ i (h : i < l.length), i < n → p (l[i]'h) = true) → (∀ i (h : i < l.length), n ≤ i → p (l[i]'h) = false) → l.countP p = n
  | [], n, hn, _, _ => by simp at hn; simp [hn]
  | a :: l, 0, _, _, h2 => by
    rw [List.countP_eq_zero]
    intro x hx
    obtain ⟨i, hi, rfl⟩ := List.getElem_of_mem hx
    rw [h2 i hi (Nat.zero_le _)]
    simp
  | a :: l, n + 1, hn, h1, h2 => by
    rw [List.countP_cons_of_pos (show p a = true from h1 0 (by simp) (by omega)), count_split p l n (by simpa using hn) (fun i h hi => h1 (i + 1) (by simpa using h) (by omega)) (fun i h hi => h2 (i + 1) (by simpa using h) (by omega))]

/-- in a rising list the keys below one come first -/
theorem count_first (p : Pr → Bool) : ∀ (l : List Pr), (∀ i j (hi : i < j) (hj : j < l.length), p (l[j]'hj) = true → p (l[i]'(by omega)) = true) → ∀ i (hi : i < l.length), p (l[i]'hi) = true ↔ i < l.countP p
  | [], _, i, hi => by simp at hi
  | a :: l, h, i, hi => by
    have hl : ∀ i j (hi : i < j) (hj : j < l.length), p (l[j]'hj) = true → p (l[i]'(by omega)) = true := fun i j hij hj => by
      have := h (i + 1) (j + 1) (by omega) (by simpa using hj)
      simpa using this
    by_cases ha : p a = true
    · rw [List.countP_cons_of_pos ha]
      cases i with
      | zero => simp [ha]
      | succ i => simpa using count_first p l hl i (by simpa using hi)
    · have h0 : ∀ x ∈ a :: l, ¬ p x = true := by
        intro x hx hp
        obtain ⟨j, hj, rfl⟩ := List.getElem_of_mem hx
        cases j with
        | zero => exact ha (by simpa using hp)
        | succ j => exact ha (by simpa using h 0 (j + 1) (by omega) hj hp)
      rw [List.countP_eq_zero.2 h0]
      constructor
      · intro hp; exact absurd hp (h0 _ (List.getElem_mem hi))
      · omega

theorem bel_iff {l : List Pr} (h : Ris l) (k : Int) (i : Nat) (hi : i < l.length) : (l[i]'hi).key < k ↔ i < bel l k := by
  have := count_first (fun p => decide (p.key < k)) l (fun i j hij hj hp => by have := h.get hij hj; simp at hp ⊢; omega) i hi
  simpa [bel] using this
theorem upk_iff {l : List Pr} (h : Ris l) (k : Int) (i : Nat) (hi : i < l.length) : (l[i]'hi).key ≤ k ↔ i < upk l k := by
  have := count_first (fun p => decide (p.key ≤ k)) l (fun i j hij hj hp => by have := h.get hij hj; simp at hp ⊢; omega) i hi
  simpa [upk] using this
theorem upk_bel {l : List Pr} (h : Ris l) (k : Int) : upk l k ≤ bel l k + 1 := by
  by_cases h1 : bel l k + 1 < upk l k
  · have hu := upk_le l k
    have a := (upk_iff h k (bel l k + 1) (by omega)).2 h1
    have b := h.get (i := bel l k) (j := bel l k + 1) (by omega) (by omega)
    have c := (bel_iff h k (bel l k) (by omega)).1 (by omega)
    omega
  · omega
theorem has_iff {l : List Pr} (h : Ris l) (k : Int) : has l k = true ↔ ∃ hb : bel l k < l.length, (l[bel l k]'hb).key = k := by
  unfold has
  rw [decide_eq_true_iff]
  constructor
  · intro hlt
    have hu := upk_le l k
    refine ⟨by omega, ?_⟩
    have a := (upk_iff h k (bel l k) (by omega)).2 hlt
    have b := mt (bel_iff h k (bel l k) (by omega)).1 (by omega)
    omega
  · rintro ⟨hb, he⟩
    exact (upk_iff h k (bel l k) hb).1 (by omega)
theorem upk_has {l : List Pr} (h : Ris l) (k : Int) : upk l k = bel l k + (if has l k = true then 1 else 0) := by
  have h1 := upk_bel h k
  have h2 := bel_upk l k
  unfold has
  split <;> rename_i hh <;> simp at hh <;> omega

end Go.Proofs.YthbppblmecdekaaGreatDoor

/- Contracts: whether pairs rise, whether they may be a map's, and where keys stand. -/
namespace Go.Proofs.YthbppblmecdekaaGreatDoor
open Go Go.RowKit
set_option maxRecDepth 100000




/-- the order of a pair's key and a key -/
def cmpK (p : Pr) (k : Int) : Int := if p.key < k then -1 else if k < p.key then 1 else 0

theorem cmpK_neg {p : Pr} {k : Int} : cmpK p k < 0 ↔ p.key < k := by unfold cmpK; split <;> (try split) <;> omega
theorem cmpK_zero {p : Pr} {k : Int} : cmpK p k = 0 ↔ p.key = k := by unfold cmpK; split <;> (try split) <;> omega



end Go.Proofs.YthbppblmecdekaaGreatDoor

/- Slices of pairs that a call hands back in new memory, parts of slices, and append onto a part that is full. No program in sight. -/
namespace Go.Proofs.YthbppblmecdekaaGreatDoor
open Go Go.RowKit

/-- pairs in memory that is new behind block B -/
def Fr (w : World) (B : Nat) (t : TypeId) (A : Option Addr) (c : Nat) (l : List Pr) : Prop :=
  l.length ≤ c ∧ c ≤ maxLen ∧ ((A = none ∧ l = [] ∧ c = 0) ∨ ∃ g cur, A = some ⟨g, 0, none⟩ ∧ B ≤ g ∧ Blk w g t cur ∧ cur.toList.take (l.length * 2) = l.flatMap Pr.cells ∧ c * 2 ≤ cur.size)

section
variable {w w' : World} {B : Nat} {t : TypeId} {A : Option Addr} {c : Nat} {l : List Pr}
theorem prs_length (l : List Pr) : (l.flatMap Pr.cells).length = l.length * 2 := flat_length Pr.cells 2 Pr.cells_length l
theorem Fr.nil : Fr w B t none 0 [] := ⟨Nat.le_refl _, by unfold maxLen; omega, .inl ⟨rfl, rfl, rfl⟩⟩
theorem Fr.of_own {n : Nat} (h : w.ownsRow B t 2 (.slice A n c) n (l.flatMap Pr.cells)) (hn : n = l.length) : Fr w B t A c l := by
  subst hn
  rcases h.2 with ⟨h1, h2⟩ | ⟨g, cap, cur, h1, h2, h3, h4, h5, h6, h7⟩
  · have : l = [] := List.eq_nil_of_length_eq_zero h2
    subst this
    injection h1 with e1 e2 e3
    subst e1 e3
    exact Fr.nil
  · injection h1 with e1 e2 e3
    subst e1 e3
    exact ⟨h4, h5, .inr ⟨g, cur, rfl, h2, h3, h7, by omega⟩⟩
theorem Fr.sl (h : Fr w B t A c l) : Sl w A (l.flatMap Pr.cells) := by
  rcases h.2.2 with ⟨_, rfl, _⟩ | ⟨g, cur, rfl, _, hg, ht, _⟩
  · exact .inl rfl
  · refine hg.sl 0 _ fun j u hu => ?_
    rw [← ht, List.getElem?_take] at hu
    split at hu
    · simpa using hu
    · cases hu
theorem Fr.below (h : Fr w B t A c l) (hb : Below w.heap.size w w') : Fr w' B t A c l := by
  refine ⟨h.1, h.2.1, ?_⟩
  rcases h.2.2 with h1 | ⟨g, cur, h1, h2, hg, h3⟩
  · exact .inl h1
  · exact .inr ⟨g, cur, h1, h2, hg.below hb hg.lt, h3⟩
theorem Fr.mono {B' : Nat} (h : Fr w B t A c l) (hB : B' ≤ B) : Fr w B' t A c l := by
  refine ⟨h.1, h.2.1, ?_⟩
  rcases h.2.2 with h1 | ⟨g, cur, h1, h2, h3⟩
  · exact .inl h1
  · exact .inr ⟨g, cur, h1, Nat.le_trans hB h2, h3⟩
/-- its first part, full -/
theorem Fr.take (h : Fr w B t A c l) (k : Nat) (hk : k ≤ l.length) (hA : A = none → k = 0) : Fr w B t A k (l.take k) := by
  have hkl : (l.take k).length = k := by simp; omega
  refine ⟨by omega, by have := h.1; have := h.2.1; omega, ?_⟩
  rcases h.2.2 with ⟨h1, h2, _⟩ | ⟨g, cur, h1, h2, h3, h4, h5⟩
  · subst h2; have := hA h1; subst this; exact .inl ⟨h1, rfl, rfl⟩
  · refine .inr ⟨g, cur, h1, h2, h3, ?_, by have := h.1; omega⟩
    rw [hkl]
    have : cur.toList.take (k * 2) = (cur.toList.take (l.length * 2)).take (k * 2) := by rw [List.take_take, Nat.min_eq_left (by omega)]
    rw [this, h4]
    have e : l.flatMap Pr.cells = (l.take k).flatMap Pr.cells ++ (l.drop k).flatMap Pr.cells := by rw [← List.flatMap_append, List.take_append_drop]
    rw [e, List.take_left' (by rw [prs_length, hkl])]

/-- the address of a part -/
def partA (A : Option Addr) (k m : Nat) : Option Addr := if m = k then A else A.map (·.add (k * 2))
theorem flat_take (l : List Pr) (k : Nat) : (l.flatMap Pr.cells).take (k * 2) = (l.take k).flatMap Pr.cells := by
  by_cases h : k ≤ l.length
  · have e : l.flatMap Pr.cells = (l.take k).flatMap Pr.cells ++ (l.drop k).flatMap Pr.cells := by rw [← List.flatMap_append, List.take_append_drop]
    rw [e, List.take_left' (by rw [prs_length]; simp; omega)]
  · rw [List.take_of_length_le (by rw [prs_length]; omega), List.take_of_length_le (by omega)]
theorem flat_drop (l : List Pr) (k : Nat) : (l.flatMap Pr.cells).drop (k * 2) = (l.drop k).flatMap Pr.cells := by
  by_cases h : k ≤ l.length
  · have e : l.flatMap Pr.cells = (l.take k).flatMap Pr.cells ++ (l.drop k).flatMap Pr.cells := by rw [← List.flatMap_append, List.take_append_drop]
    rw [e, List.drop_left' (by rw [prs_length]; simp; omega)]
  · rw [List.drop_eq_nil_of_le (by rw [prs_length]; omega), List.drop_eq_nil_of_le (by omega)]; rfl
theorem Sl.take (h : Sl w A (l.flatMap Pr.cells)) (k : Nat) : Sl w A ((l.take k).flatMap Pr.cells) := by
  rcases h with h | ⟨b, off, h1, h2, h3⟩
  · left; rw [← flat_take, h]; simp
  · refine .inr ⟨b, off, h1, h2, fun j u hu => h3 j u ?_⟩
    rw [← flat_take, List.getElem?_take] at hu
    split at hu
    · exact hu
    · cases hu
theorem Sl.drop (h : Sl w A (l.flatMap Pr.cells)) (k m : Nat) (hm : l.length ≤ m) : Sl w (partA A k m) ((l.drop k).flatMap Pr.cells) := by
  unfold partA
  split
  · rename_i e
    left
    rw [← flat_drop, List.drop_eq_nil_of_le (by rw [prs_length]; omega)]
  · rcases h with h | ⟨b, off, h1, h2, h3⟩
    · left; rw [← flat_drop, h]; simp
    · subst h1
      refine .inr ⟨b, off + k * 2, by simp [Addr.add_lit], h2, fun j u hu => ?_⟩
      rw [← flat_drop, List.getElem?_drop] at hu
      have := h3 _ u hu
      rwa [Nat.add_assoc]
end

/-- append onto a slice without room -/
theorem run_append_full {P : Program} (w : World) (t ty e : TypeId) (i : TypeInfo) (z : Value) (size bytes : Nat) (ht : P.underlying t = some (.slice e)) (hi : P.info? e = some i) (hz : i.zero = some z)
    (hsize : i.size = size) (hby : i.bytes = bytes) (hzs : z.cells.size = size) (hsz : 0 < size)
    (A : Option Addr) (n : Nat) (olds : List Value) (hA : A = none → n = 0) (ho : Sl w A olds) (hlo : olds.length = n * size)
    (A' : Option Addr) (m c : Nat) (news : List Value) (hr : Sl w A' news) (hl : news.length = m * size) (h1 : ∀ u ∈ news, u.oneCell' = true)
    (h63 : n + m ≤ maxLen) (hbytes : (n + m) * bytes ≤ 140737488355328) :
    ∃ v' w', (Builtin.append_ #[t, t] ty #[.slice A n n, .slice A' m c]).run P w = .ok v' w' ∧
      (0 < m → w'.ownsRow w.heap.size e size v' (n + m) (olds ++ news)) ∧ (m = 0 → v' = .slice A n n ∧ w' = w) ∧ w.grownBy w' none := by
  by_cases hm : m = 0
  · subst hm
    refine ⟨.slice A n n, w, ?_, by omega, fun _ => ⟨rfl, rfl⟩, World.grownBy.refl w _⟩
    cases A' with
    | none =>
      cases A with
      | none => have := hA rfl; subst this; simp [Builtin.append_, run_underlying ht, sizeOf, typeInfo, hi, Builtin.lenOf, Builtin.firstCells]
      | some a => simp [Builtin.append_, run_underlying ht, sizeOf, typeInfo, hi, Builtin.lenOf, Builtin.firstCells, storeCells]
    | some a' =>
      cases A with
      | none => have := hA rfl; subst this; simp [Builtin.append_, run_underlying ht, sizeOf, typeInfo, hi, Builtin.lenOf, Builtin.firstCells, loadCells, loadCellsFrom]
      | some a => simp [Builtin.append_, run_underlying ht, sizeOf, typeInfo, hi, Builtin.lenOf, Builtin.firstCells, storeCells, loadCells, loadCellsFrom]
  · have hr' : ∃ b off, A' = some ⟨b, off, none⟩ ∧ ∀ j u, news[j]? = some u → w.cell? ⟨b, off + j, none⟩ = some u := by
      rcases hr with hr | ⟨b, off, h1, _, h3⟩
      · subst hr
        rw [List.length_nil] at hl
        have := Nat.mul_pos (Nat.pos_of_ne_zero hm) hsz
        omega
      · exact ⟨b, off, h1, h3⟩
    obtain ⟨b, off, rfl, hnews⟩ := hr'
    by_cases hn : n = 0
    · subst hn
      have : olds = [] := List.eq_nil_of_length_eq_zero (by simpa using hlo)
      subst this
      cases A with
      | none =>
        obtain ⟨v', w', hrun, h2, h3, _⟩ := run_append_own (P := P) w w.heap.size t ty e i z size bytes ht hi hz hsize hby hzs hsz (.slice none 0 0) 0 [] (World.ownsRow_nil w _ e size) ⟨b, off, none⟩ m c news hl
          (fun j u hu => by rw [Addr.add_lit]; exact hnews j u hu) h1 h63 hbytes (Nat.le_refl _)
        exact ⟨v', w', hrun, fun _ => h2, fun h => absurd h hm, h3⟩
      | some a =>
        obtain ⟨v', w', hrun, h2, h3⟩ := run_append_arg_grows (P := P) w t ty e i z size bytes ht hi hz hsize hby hzs hsz a 0 0 [] (by simp) (by simp) ⟨b, off, none⟩ m c news hl
          (fun j u hu => by rw [Addr.add_lit]; exact hnews j u hu) (by omega) h63 hbytes
        exact ⟨v', w', hrun, fun _ => h2, fun h => absurd h hm, h3⟩
    · rcases ho with ho | ⟨b', off', rfl, _, holds⟩
      · subst ho
        rw [List.length_nil] at hlo
        have := Nat.mul_pos (Nat.pos_of_ne_zero hn) hsz
        omega
      · obtain ⟨v', w', hrun, h2, h3⟩ := run_append_arg_grows (P := P) w t ty e i z size bytes ht hi hz hsize hby hzs hsz ⟨b', off', none⟩ n n olds hlo (fun j u hu => by rw [Addr.add_lit]; exact holds j u hu) ⟨b, off, none⟩ m c news hl
          (fun j u hu => by rw [Addr.add_lit]; exact hnews j u hu) (by omega) h63 hbytes
        exact ⟨v', w', hrun, fun _ => h2, fun h => absurd h hm, h3⟩

theorem step_append_full {P : Program} (w : World) {ops : Array Oper} {o : Oper} {a : Act} {K : Act → World → Prop} {Q : Exit → Act → World → Prop} {E : Prop} (hgd : o.guard = none) (s x : Operand) (t : TypeId)
    (ho : o.op = .call { callee := .builtin .append, args := #[s, x], argTypes := #[t, t] })
    (e : TypeId) (i : TypeInfo) (z : Value) (size bytes : Nat) (ht : P.underlying t = some (.slice e)) (hi : P.info? e = some i) (hz : i.zero = some z)
    (hsize : i.size = size) (hby : i.bytes = bytes) (hzs : z.cells.size = size) (hsz : 0 < size)
    (A : Option Addr) (n : Nat) (olds : List Value) (hA : A = none → n = 0) (hs : a.eval s = .slice A n n) (hol : Sl w A olds) (hlo : olds.length = n * size)
    (A' : Option Addr) (m c : Nat) (news : List Value) (hx : a.eval x = .slice A' m c) (hr : Sl w A' news) (hl : news.length = m * size) (h1 : ∀ u ∈ news, u.oneCell' = true)
    (h63 : n + m ≤ maxLen) (hbytes : (n + m) * bytes ≤ 140737488355328)
    (h : ∀ v' w', (0 < m → w'.ownsRow w.heap.size e size v' (n + m) (olds ++ news)) → (m = 0 → v' = .slice A n n ∧ w' = w) → w.grownBy w' none → K (a.put o.dst v') w') :
    if Region.wanted o (yielded ops a.tmps) = true then Oper.wp P o a w K Q else E := by
  have hw : Region.wanted o (yielded ops a.tmps) = true := by simp [Region.wanted, hgd]
  rw [if_pos hw]
  obtain ⟨v', w', hrun, h2, h3, h4⟩ := run_append_full (P := P) w t o.type e i z size bytes ht hi hz hsize hby hzs hsz A n olds hA hol hlo A' m c news hr hl h1 h63 hbytes
  unfold Oper.wp execOp
  simp only [ho, resolve, invoke, builtin, Sem.run_bind, Sem.run_pure, Result.andThen_ok, List.map_toArray, List.map_cons, List.map_nil, hs, hx, hrun]
  exact h v' w' h2 h3 h4

/-- onto a new slice's full part: again new -/
theorem Fr.append {w w' : World} {B : Nat} {t : TypeId} {A _A' : Option Addr} {_c k : Nat} {l news : List Pr} {v' : Value} {n m : Nat} (h : Fr w B t A k l) (hn : n = l.length) (hkn : k = n) (hm : m = news.length) (hB : B ≤ w.heap.size)
    (h1 : 0 < m → w'.ownsRow w.heap.size t 2 v' (n + m) (l.flatMap Pr.cells ++ news.flatMap Pr.cells)) (h2 : m = 0 → v' = .slice A n n ∧ w' = w) :
    ∃ A2 c2, v' = .slice A2 (n + m) c2 ∧ Fr w' B t A2 c2 (l ++ news) := by
  subst hn hm hkn
  by_cases hm : news.length = 0
  · obtain ⟨rfl, rfl⟩ := h2 hm
    have : news = [] := List.eq_nil_of_length_eq_zero hm
    subst this
    exact ⟨A, l.length, rfl, by simpa using h⟩
  · have ho := h1 (by omega)
    obtain ⟨A2, c2, rfl, _, _⟩ := own_form ho
    rw [← List.flatMap_append] at ho
    exact ⟨A2, c2, rfl, (Fr.of_own ho (by simp)).mono hB⟩
end Go.Proofs.YthbppblmecdekaaGreatDoor

/- Contracts: a copy in new memory, and a pair put in. -/
namespace Go.Proofs.YthbppblmecdekaaGreatDoor
open Go Go.RowKit
set_option maxRecDepth 100000

theorem pr_info0 : (Tryz.prog.info? 47).map (fun i => (i.zero, i.size, i.bytes)) = some (some (.agg #[.int .i64 0, .int .i64 0]), 2, 16) := by kernel_rfl
theorem one_prs (l : List Pr) : ∀ u ∈ l.flatMap Pr.cells, u.oneCell' = true := by
  intro u hu; obtain ⟨e, _, he⟩ := List.mem_flatMap.1 hu; simp [Pr.cells] at he; rcases he with rfl | rfl <;> rfl
theorem eql_nil (A : Option Addr) (n c : Nat) (w : World) : (binOp .eql 37 (.slice A n c) (.slice none 0 0)).run Tryz.prog w = .ok (.bool A.isNone) w := Lib.run_eql_slice_nil w _ _ A n c _ _ Tryz.underlying37

/-- hands back pairs in new memory -/
def GivesFr (l : List Pr) (w : World) (r : Ending) (w' : World) : Prop := ∃ A c, r = .returned (.slice A l.length c) ∧ Fr w' w.heap.size 47 A c l ∧ Below w.heap.size w w'

set_option maxHeartbeats 1000000 in
theorem clone_any (A : Option Addr) (l : List Pr) (c : Nat) (w : World) (hA : Sl w A (l.flatMap Pr.cells)) (hl : l.length ≤ 1000000) :
    Calls Tryz.prog 65 #[.slice A l.length c] w (GivesFr l w) := by
  obtain ⟨i0, hi, hz0, hz1, hz2⟩ := info_parts pr_info0
  have hn := eql_nil A l.length c w
  cases A with
  | none =>
    have hnil : l = [] := by
      rcases hA with h | ⟨b, off, h, _⟩
      · cases l with
        | nil => rfl
        | cons a l => simp [Pr.cells] at h
      · cases h
    subst hnil
    have hn2 : ∀ n, (binOp .eql 37 (.slice none n c) (.slice none 0 0)).run Tryz.prog w = .ok (.bool true) w := fun n => eql_nil none n c w
    clear hn
    go_enter Tryz.func65, Tryz.ntmps65
    go_wp2
    go_ret
    exact ⟨none, 0, rfl, Fr.nil, Below.refl _ _⟩
  | some a =>
    have hb0 : Below w.heap.size w (w.alloc (.cells #[] 47)) := (Below.refl _ _).alloc (Nat.le_refl _) _
    have hown0 : (w.alloc (.cells #[] 47)).ownsRow w.heap.size 47 2 (.slice (some ⟨w.heap.size, 0, none⟩) 0 0) 0 [] := World.ownsRow_made w #[] 0 (Nat.le_refl _) (Nat.zero_le _) rfl
    go_enter Tryz.func65, Tryz.ntmps65
    go_wp2_with (at_builtin; refine wpList_append_sl _ rfl (.tmp 5) (.tmp 6) _ rfl w.heap.size 47 i0 _ 2 16 Tryz.underlying37 hi hz0 hz1 hz2 rfl (by omega) (.slice (some ⟨w.heap.size, 0, none⟩) 0 0) 0 [] rfl hown0 (some a) l.length c (l.flatMap Pr.cells) rfl (hA.below hb0) (prs_length l) (one_prs l) (by unfold maxLen; omega) (by omega) (by simp) ?_; intro v1 w1 hown1 hg1; simp only [Nat.zero_add, List.nil_append] at hown1; obtain ⟨A1, c1, rfl, hlc1, hcm1⟩ := own_form hown1)
    go_ret
    exact ⟨A1, c1, rfl, Fr.of_own hown1 rfl, hb0.grown hg1 (by simp) (fun k hk => (hown0.lt k hk).1)⟩

end Go.Proofs.YthbppblmecdekaaGreatDoor

/- Contracts: the references' searches in pairs. -/
namespace Go.Proofs.YthbppblmecdekaaGreatDoor
open Go Go.RowKit
set_option maxRecDepth 100000

theorem bel_succ {l : List Pr} {k : Nat} (h : k < l.length) (key : Int) : bel (l.take (k + 1)) key = bel (l.take k) key + (if (l[k]'h).key < key then 1 else 0) := by
  unfold bel
  rw [List.take_succ_eq_append_getElem h, List.countP_append, List.countP_cons, List.countP_nil]
  simp

set_option maxHeartbeats 1000000 in
theorem refBelow_any (A : Option Addr) (l : List Pr) (c : Nat) (key : Int) (w : World) (hA : Sl w A (l.flatMap Pr.cells)) (hl : l.length ≤ 4611686018427387903) :
    Calls Tryz.prog 54 #[.slice A l.length c, .int .i64 key] w fun r w' => r = .returned (.int .i64 (bel l key)) ∧ Below w.heap.size w w' := by
  go_enter Tryz.func54, Tryz.ntmps54
  go_wp2
  go_loopw [5, 6] (fun n i wr => ∃ k : Nat, k ≤ l.length ∧ i = .int .i64 k ∧ n = .int .i64 (bel (l.take k) key) ∧ Below w.heap.size w wr) (fun _ i _ => l.length - (intOf i).toNat)
  case atStart => exact ⟨0, Nat.zero_le _, rfl, rfl, Below.refl _ _⟩
  case round =>
    obtain ⟨k, hk, rfl, rfl, hb⟩ := hrel
    have hle := bel_le (l.take k) key
    have hlt' : (l.take k).length ≤ k := List.length_take_le _ _
    by_cases hlt : k < l.length
    · obtain ⟨b, off, rfl, hbl, c1, c2⟩ := hA.prB hb k hlt
      have i0 : (0 : Int) ≤ (k : Int) := by omega
      have i1 : (k : Int) < (l.length : Int) := by omega
      have hs := bel_succ hlt key
      generalize (l[k]'hlt) = p at *
      clear hA c2
      by_cases hx : p.key < key
      · rw [if_pos hx] at hs
        have HS := Lib.hid hs
        clear hs
        go_wp2
        go_roundw
        case rel => exact ⟨k + 1, by omega, by go_num, by rw [HS.out]; go_num, hb⟩
        case measure => simp [intOf]; omega
      · rw [if_neg hx] at hs
        have HS := Lib.hid hs
        clear hs
        go_wp2
        go_roundw
        case rel => exact ⟨k + 1, by omega, by go_num, by rw [HS.out]; rfl, hb⟩
        case measure => simp [intOf]; omega
    · go_wp2
      go_ret
      exact ⟨ret_int (by rw [List.take_of_length_le (by omega)]), hb⟩

/-- hands back a pair and whether there is one -/
def GivesPB (p : Pr) (b : Bool) (w : World) (r : Ending) (w' : World) : Prop := r = .returned (.tuple #[.agg #[.int .i64 p.key, .int .i64 p.val], .bool b]) ∧ Below w.heap.size w w'
def ceilP (l : List Pr) (key : Int) : Pr := if bel l key < l.length then l[bel l key]! else ⟨0, 0⟩
def ceilB (l : List Pr) (key : Int) : Bool := decide (bel l key < l.length)
def floorP (l : List Pr) (key : Int) : Pr := if 0 < upk l key then l[upk l key - 1]! else ⟨0, 0⟩
def floorB (l : List Pr) (key : Int) : Bool := decide (0 < upk l key)

set_option maxHeartbeats 1000000 in
theorem ceilOf_any (A : Option Addr) (l : List Pr) (c : Nat) (key : Int) (w : World) (hA : Sl w A (l.flatMap Pr.cells)) (hl : l.length ≤ 4611686018427387903) (hr : Hid (Ris l)) :
    Calls Tryz.prog 50 #[.slice A l.length c, .int .i64 key] w (GivesPB (ceilP l key) (ceilB l key) w) := by
  have hb0 : Below w.heap.size w (w.alloc (.cells #[.int .i64 0, .int .i64 0] 47)) := (Below.refl _ _).alloc (Nat.le_refl _) _
  have bN := Blk.new w 47 #[.int .i64 0, .int .i64 0]
  go_enter Tryz.func50, Tryz.ntmps50
  go_wp2_with fail
  obtain ⟨W, hW⟩ : ∃ W, w.alloc (.cells #[.int .i64 0, .int .i64 0] 47) = W := ⟨_, rfl⟩
  rw [hW] at hb0 bN
  try rw [hW]
  clear hW
  go_loopw [6] (fun i wr => ∃ k : Nat, k ≤ l.length ∧ i = .int .i64 k ∧ Below W.heap.size W wr ∧ k ≤ bel l key) (fun i _ => l.length - (intOf i).toNat)
  case atStart => exact ⟨0, Nat.zero_le _, rfl, Below.refl _ _, Nat.zero_le _⟩
  case round =>
    obtain ⟨k, hk, rfl, hb, hkb⟩ := hrel
    have bNr := bN.below hb bN.lt
    have g0 : wr.cell? ⟨w.heap.size, 0, none⟩ = some (.int .i64 0) := bNr.cell 0
    have g1 : wr.cell? ⟨w.heap.size, 1, none⟩ = some (.int .i64 0) := bNr.cell 1
    have f0 : wr.frozen? ⟨w.heap.size, 0, none⟩ = false := bNr.frozen 0
    have f1 : wr.frozen? ⟨w.heap.size, 1, none⟩ = false := bNr.frozen 1
    have hb2 : ∀ x y : Value, Below w.heap.size w ((wr.setCell ⟨w.heap.size, 0, none⟩ x).setCell ⟨w.heap.size, 1, none⟩ y) := fun x y =>
      ((hb0.trans (hb.mono hb0.size)).setCell (p := ⟨w.heap.size, 0, none⟩) (Nat.le_refl _) x).setCell (p := ⟨w.heap.size, 1, none⟩) (Nat.le_refl _) y
    have e2 : ∀ x y : Value, Blk ((wr.setCell ⟨w.heap.size, 0, none⟩ x).setCell ⟨w.heap.size, 1, none⟩ y) w.heap.size 47 #[x, y] := fun x y => (bNr.set_ 0 x).set_ 1 y
    have hb2 := Lib.hid hb2
    have e2 := Lib.hid e2
    by_cases hlt : k < l.length
    · obtain ⟨b, off, rfl, hbl, c1, c2⟩ := (hA.below hb0).prB hb k hlt
      have i0 : (0 : Int) ≤ (k : Int) := by omega
      have i1 : (k : Int) < (l.length : Int) := by omega
      have hbi := bel_iff hr.out key k hlt
      by_cases hx : (l[k]'hlt).key < key
      · have hkb2 : k + 1 ≤ bel l key := hbi.1 hx
        clear hbi hA
        go_wp2
        go_roundw
        case rel => exact ⟨k + 1, by omega, by go_num, hb, hkb2⟩
        case measure => simp [intOf]; omega
      · have hkb2 : bel l key = k := by have := mt hbi.2 hx; omega
        have hP : ceilP l key = l[k]'hlt := by unfold ceilP; rw [hkb2, if_pos hlt, getElem!_pos l k hlt]
        have hB : ceilB l key = true := by unfold ceilB; rw [hkb2]; exact decide_eq_true hlt
        rw [hP, hB]
        generalize (l[k]'hlt) = p at *
        clear hbi hA hkb2 hP hB
        go_wp2_with fail
        have e := e2.out (.int .i64 p.key) (.int .i64 p.val)
        have h0 := e.cell 0
        have h1 := e.cell 1
        refine bodyPost_ret (v := .tuple #[.agg #[.int .i64 p.key, .int .i64 p.val], .bool true]) (by simp [results, Tryz.results50, go_sem, h0, h1]) rfl ?_
        exact ⟨rfl, hb2.out _ _⟩
    · have hkb2 : ¬ bel l key < l.length := by omega
      have hP : ceilP l key = ⟨0, 0⟩ := by unfold ceilP; rw [if_neg hkb2]
      have hB : ceilB l key = false := by unfold ceilB; exact decide_eq_false hkb2
      rw [hP, hB]
      clear hA
      go_wp2_with fail
      have e := e2.out (.int .i64 0) (.int .i64 0)
      have h0 := e.cell 0
      have h1 := e.cell 1
      refine bodyPost_ret (v := .tuple #[.agg #[.int .i64 0, .int .i64 0], .bool false]) (by simp [results, Tryz.results50, go_sem, h0, h1]) rfl ?_
      exact ⟨by rw [hP, hB], hb2.out _ _⟩

theorem sl_newP (W : World) (t : TypeId) (cs : Array Value) : Sl (W.alloc (.cells cs t)) (some ⟨W.heap.size, 0, none⟩) cs.toList :=
  (Blk.new W t cs).sl 0 _ (by intro j u hu; simpa using hu)

def withoutL (l : List Pr) (a b : Int) : List Pr := l.filter (fun p => decide (p.key < a) || decide (b < p.key))
theorem without_succ {l : List Pr} {k : Nat} (h : k < l.length) (a b : Int) : withoutL (l.take (k + 1)) a b = withoutL (l.take k) a b ++ (if (l[k]'h).key < a ∨ b < (l[k]'h).key then [l[k]'h] else []) := by
  unfold withoutL
  rw [List.take_succ_eq_append_getElem h, List.filter_append, List.filter_cons, List.filter_nil]
  by_cases h1 : (l[k]'h).key < a ∨ b < (l[k]'h).key
  · rw [if_pos h1, if_pos (by simpa using h1)]
  · rw [if_neg h1, if_neg (by simpa using h1)]
theorem without_len (l : List Pr) (a b : Int) : (withoutL l a b).length ≤ l.length := List.length_filter_le _ _

set_option maxHeartbeats 2000000 in
theorem without_any (A : Option Addr) (l : List Pr) (c : Nat) (x y : Int) (w : World) (hA : Sl w A (l.flatMap Pr.cells)) (hl : l.length ≤ 1000000) :
    Calls Tryz.prog 68 #[.slice A l.length c, .int .i64 x, .int .i64 y] w (GivesFr (withoutL l x y) w) := by
  obtain ⟨ti0, hi, hz0, hz1, hz2⟩ := info_parts pr_info0
  have HI := Lib.hid (And.intro hi (And.intro hz0 (And.intro hz1 hz2)))
  clear hi hz0 hz1 hz2
  go_enter Tryz.func68, Tryz.ntmps68
  go_wp2
  go_loopw [7, 8] (fun v i wr => ∃ k : Nat, k ≤ l.length ∧ i = .int .i64 k ∧ Below w.heap.size w wr ∧ ∃ A' c', v = .slice A' (withoutL (l.take k) x y).length c' ∧
      wr.ownsRow w.heap.size 47 2 (.slice A' (withoutL (l.take k) x y).length c') (withoutL (l.take k) x y).length ((withoutL (l.take k) x y).flatMap Pr.cells)) (fun _ i _ => l.length - (intOf i).toNat)
  case atStart => exact ⟨0, Nat.zero_le _, rfl, Below.refl _ _, none, 0, rfl, World.ownsRow_nil _ _ _ _⟩
  case round =>
    obtain ⟨k, hk, rfl, hb, A', c', rfl, hown⟩ := hrel
    have hwl := without_len (l.take k) x y
    have htl : (l.take k).length ≤ k := List.length_take_le _ _
    by_cases hlt : k < l.length
    · obtain ⟨b, off, rfl, hbl, c1, c2⟩ := hA.prB hb k hlt
      have i0 : (0 : Int) ≤ (k : Int) := by omega
      have i1 : (k : Int) < (l.length : Int) := by omega
      have hbs := hb.size
      have hs := without_succ hlt x y
      generalize (l[k]'hlt) = p at *
      generalize withoutL (l.take k) x y = L at *
      clear hbl hA
      by_cases h : p.key < x ∨ y < p.key
      · rw [if_pos h] at hs
        have HS := Lib.hid hs
        clear hs
        have hb0 : Below wr.heap.size wr (wr.alloc (.cells #[.int .i64 p.key, .int .i64 p.val] 47)) := (Below.refl _ _).alloc (Nat.le_refl _) _
        by_cases h' : p.key < x
        · clear h
          go_wp2_with (at_builtin; refine wpList_append_sl _ rfl (.tmp 31) (.tmp 36) _ rfl w.heap.size 47 ti0 _ 2 16 Tryz.underlying37 HI.out.1 HI.out.2.1 HI.out.2.2.1 HI.out.2.2.2 rfl (by omega) (.slice A' L.length c') L.length _ rfl (hown.alloc _) _ 1 _ p.cells rfl (by exact sl_newP _ _ _) rfl (by simp [Pr.cells, Value.oneCell']) (by unfold maxLen; omega) (by omega) (by simp; omega) ?_; intro v2 w2 hown2 hg2; obtain ⟨A2, q2, rfl, hle2, hmx2⟩ := own_form hown2)
          go_roundw
          case rel =>
            have hl2 : (L ++ [p]).length = L.length + 1 := by simp
            refine ⟨k + 1, by omega, by go_num, (hb.alloc hbs _).grown hg2 (by simp; omega) (fun k hk => (hown.lt k hk).1), A2, q2, by rw [HS.out, hl2], ?_⟩
            rw [HS.out, hl2, List.flatMap_append]
            simpa using hown2
          case measure => simp [intOf]; omega
        · have h'' : y < p.key := by omega
          clear h
          go_wp2_with (at_builtin; refine wpList_append_sl _ rfl (.tmp 31) (.tmp 36) _ rfl w.heap.size 47 ti0 _ 2 16 Tryz.underlying37 HI.out.1 HI.out.2.1 HI.out.2.2.1 HI.out.2.2.2 rfl (by omega) (.slice A' L.length c') L.length _ rfl (hown.alloc _) _ 1 _ p.cells rfl (by exact sl_newP _ _ _) rfl (by simp [Pr.cells, Value.oneCell']) (by unfold maxLen; omega) (by omega) (by simp; omega) ?_; intro v2 w2 hown2 hg2; obtain ⟨A2, q2, rfl, hle2, hmx2⟩ := own_form hown2)
          go_roundw
          case rel =>
            have hl2 : (L ++ [p]).length = L.length + 1 := by simp
            refine ⟨k + 1, by omega, by go_num, (hb.alloc hbs _).grown hg2 (by simp; omega) (fun k hk => (hown.lt k hk).1), A2, q2, by rw [HS.out, hl2], ?_⟩
            rw [HS.out, hl2, List.flatMap_append]
            simpa using hown2
          case measure => simp [intOf]; omega
      · rw [if_neg h, List.append_nil] at hs
        have HS := Lib.hid hs
        clear hs
        have h1 : ¬ p.key < x := by omega
        have h2 : ¬ y < p.key := by omega
        go_wp2
        go_roundw
        case rel => exact ⟨k + 1, by omega, by go_num, hb, A', c', by rw [HS.out], by rw [HS.out]; exact hown⟩
        case measure => simp [intOf]; omega
    · go_wp2
      go_ret
      rw [List.take_of_length_le (by omega)] at hown ⊢
      exact ⟨A', c', rfl, Fr.of_own hown rfl, hb⟩
def runOfL (l : List Pr) (a b : Int) (N : Nat) : List Pr := (l.filter (fun p => decide (a ≤ p.key) && decide (p.key ≤ b))).take N
theorem runOf_succ {l : List Pr} {k : Nat} (h : k < l.length) (a b : Int) (N : Nat) : runOfL (l.take (k + 1)) a b N = runOfL (l.take k) a b N ++ (if a ≤ (l[k]'h).key ∧ (l[k]'h).key ≤ b ∧ (runOfL (l.take k) a b N).length < N then [l[k]'h] else []) := by
  unfold runOfL
  rw [List.take_succ_eq_append_getElem h, List.filter_append, List.filter_cons, List.filter_nil]
  by_cases h1 : a ≤ (l[k]'h).key ∧ (l[k]'h).key ≤ b
  · rw [if_pos (by simpa using h1), List.take_append]
    simp only [List.length_take]
    by_cases h2 : ((l.take k).filter (fun p => decide (a ≤ p.key) && decide (p.key ≤ b))).length < N
    · rw [if_pos ⟨h1.1, h1.2, by omega⟩]
      congr 1
      rw [List.take_of_length_le (by simp; omega)]
    · rw [if_neg (by omega), show N - ((l.take k).filter (fun p => decide (a ≤ p.key) && decide (p.key ≤ b))).length = 0 by omega, List.take_zero]
  · rw [if_neg (by simpa using h1), List.append_nil, if_neg (by omega), List.append_nil]
theorem runOf_len (l : List Pr) (a b : Int) (N : Nat) : (runOfL l a b N).length ≤ l.length := by
  unfold runOfL
  rw [List.length_take]
  have := List.length_filter_le (fun p : Pr => decide (a ≤ p.key) && decide (p.key ≤ b)) l
  omega

end Go.Proofs.YthbppblmecdekaaGreatDoor

/- Plain facts: neighbours in levels. No program in sight. -/
namespace Go.Proofs.YthbppblmecdekaaGreatDoor
open Go
/-- an order of keys, upward or downward -/
structure Ord (lt : Int → Int → Bool) : Prop where
  tr : ∀ a b c, lt a b = true → lt b c = true → lt a c = true
  tr2 : ∀ a b c, lt a b = true → lt c b = false → lt a c = true
  irr : ∀ a, lt a a = false
def ltN (a b : Int) : Bool := decide (a < b)
def ltL (a b : Int) : Bool := decide (b < a)
theorem ord_N : Ord ltN := ⟨fun a b c h1 h2 => by unfold ltN at *; rw [decide_eq_true_iff] at *; omega, fun a b c h1 h2 => by unfold ltN at *; rw [decide_eq_true_iff] at *; rw [decide_eq_false_iff_not] at h2; omega, fun a => by unfold ltN; rw [decide_eq_false_iff_not]; omega⟩
theorem ord_L : Ord ltL := ⟨fun a b c h1 h2 => by unfold ltL at *; rw [decide_eq_true_iff] at *; omega, fun a b c h1 h2 => by unfold ltL at *; rw [decide_eq_true_iff] at *; rw [decide_eq_false_iff_not] at h2; omega, fun a => by unfold ltL; rw [decide_eq_false_iff_not]; omega⟩
/-- what a run has next, on a side -/
structure AskOk (ok : Int → Bool) (lt : Int → Int → Bool) (l : List Ent) (E : Int) (X : Ent) : Prop where
  vals : E = 0 ∨ E = 6
  mem : E = 0 → X ∈ l ∧ ok X.key = true
  best : E = 0 → ∀ e ∈ l, ok e.key = true → lt e.key X.key = false
  none : E = 6 → ∀ e ∈ l, ok e.key = false
def stepB (lt : Int → Int → Bool) (o : Option Ent) (E : Int) (X : Ent) : Option Ent := if E = 0 ∧ (o = none ∨ lt X.key (o.getD zeroE).key = true) then some X else o
structure BestOk (ok : Int → Bool) (lt : Int → Int → Bool) (rs : Lv) (o : Option Ent) : Prop where
  none : o = none → ∀ l ∈ rs, ∀ e ∈ l, ok e.key = false
  mem : ∀ x, o = some x → ok x.key = true ∧ ∃ l ∈ rs, x ∈ l
  best : ∀ x, o = some x → ∀ l ∈ rs, ∀ e ∈ l, ok e.key = true → lt e.key x.key = false
theorem best_nil (ok : Int → Bool) (lt : Int → Int → Bool) : BestOk ok lt [] none := ⟨fun _ l hl => absurd hl (by simp), fun x hx => (by cases hx), fun x hx => (by cases hx)⟩
theorem best_step {ok : Int → Bool} {lt : Int → Int → Bool} (ho : Ord lt) {rs : Lv} {o : Option Ent} {l : List Ent} {E : Int} {X : Ent} (h : BestOk ok lt rs o) (ha : AskOk ok lt l E X) : BestOk ok lt (rs ++ [l]) (stepB lt o E X) := by
  unfold stepB
  rcases ha.vals with h0 | h6
  · obtain ⟨m1, m2⟩ := ha.mem h0
    have hb := ha.best h0
    cases o with
    | none =>
      rw [if_pos ⟨h0, .inl rfl⟩]
      refine ⟨fun h => (by cases h), fun x hx => ?_, fun x hx q hq e he hok => ?_⟩
      · cases hx; exact ⟨m2, l, by simp, m1⟩
      · cases hx
        rcases List.mem_append.1 hq with hq | hq
        · rw [h.none rfl q hq e he] at hok; cases hok
        · obtain rfl : q = l := by simpa using hq
          exact hb e he hok
    | some b =>
      by_cases hlt : lt X.key b.key = true
      · rw [if_pos ⟨h0, .inr hlt⟩]
        refine ⟨fun h => (by cases h), fun x hx => ?_, fun x hx q hq e he hok => ?_⟩
        · cases hx; exact ⟨m2, l, by simp, m1⟩
        · cases hx
          rcases List.mem_append.1 hq with hq | hq
          · cases hc : lt e.key X.key with
            | false => rfl
            | true =>
              have h1 := h.best b rfl q hq e he hok
              rw [ho.tr _ _ _ hc hlt] at h1; cases h1
          · obtain rfl : q = l := by simpa using hq
            exact hb e he hok
      · have hlf : lt X.key b.key = false := by simpa using hlt
        rw [if_neg (fun h => by rcases h.2 with h | h; · cases h
                                · exact hlt h)]
        refine ⟨fun h => (by cases h), fun x hx => ?_, fun x hx q hq e he hok => ?_⟩
        · cases hx
          obtain ⟨k1, q, k2, k3⟩ := h.mem b rfl
          exact ⟨k1, q, by simp [k2], k3⟩
        · cases hx
          rcases List.mem_append.1 hq with hq | hq
          · exact h.best b rfl q hq e he hok
          · obtain rfl : q = l := by simpa using hq
            cases hc : lt e.key b.key with
            | false => rfl
            | true =>
              have h1 := hb e he hok
              rw [ho.tr2 _ _ _ hc hlf] at h1; cases h1
  · rw [if_neg (fun h => by rw [h6] at h; exact absurd h.1 (by decide))]
    refine ⟨fun hn q hq e he => ?_, fun x hx => ?_, fun x hx q hq e he hok => ?_⟩
    · rcases List.mem_append.1 hq with hq | hq
      · exact h.none hn q hq e he
      · obtain rfl : q = l := by simpa using hq
        exact ha.none h6 e he
    · obtain ⟨k1, q, k2, k3⟩ := h.mem x hx
      exact ⟨k1, q, by simp [k2], k3⟩
    · rcases List.mem_append.1 hq with hq | hq
      · exact h.best x hx q hq e he hok
      · obtain rfl : q = l := by simpa using hq
        rw [ha.none h6 e he] at hok; cases hok
theorem ask_next {l : List Ent} (h : chkE l = 0) (key : Int) : AskOk (fun k => decide (key ≤ k)) ltN l (nxE l key) (nxX l key) := by
  have hr := chk_ris h
  have hp := inL_perm l
  by_cases hB : belK (inL l) key < (inL l).length
  · obtain ⟨h1, h2⟩ := nx_yes h hB
    rw [h1, h2]
    refine ⟨.inl rfl, fun _ => ⟨hp.mem_iff.1 (List.getElem_mem hB), decide_eq_true (ris_at hr hB)⟩, fun _ e he hok => ?_, fun h => (by cases h)⟩
    obtain ⟨j, hj, he2⟩ := List.getElem_of_mem (hp.mem_iff.2 he)
    have h3 := ris_count key hr j hj
    have h4 := of_decide_eq_true hok
    rw [he2] at h3
    have h5 : belK (inL l) key ≤ j := by
      by_cases hx : j < belK (inL l) key
      · have := h3.2 hx; omega
      · omega
    have h6 := ris_le hr h5 hj
    rw [he2] at h6
    unfold ltN
    exact decide_eq_false (by omega)
  · rw [(nx_no h hB).1]
    refine ⟨.inr rfl, fun h => (by cases h), fun h => (by cases h), fun _ e he => ?_⟩
    obtain ⟨j, hj, he2⟩ := List.getElem_of_mem (hp.mem_iff.2 he)
    have h3 := (ris_count key hr j hj).2 (by omega)
    rw [he2] at h3
    exact decide_eq_false (by omega)
theorem ask_last {l : List Ent} (h : chkE l = 0) (key : Int) : AskOk (fun k => decide (k < key)) ltL l (lsE l key) (lsX l key) := by
  have hr := chk_ris h
  have hp := inL_perm l
  have hBl := belK_le (inL l) key
  by_cases hB : 0 < belK (inL l) key
  · obtain ⟨h1, h2⟩ := ls_yes h hB
    have hlt : belK (inL l) key - 1 < (inL l).length := by omega
    rw [h1, h2]
    refine ⟨.inl rfl, fun _ => ⟨hp.mem_iff.1 (List.getElem_mem hlt), decide_eq_true ((ris_count key hr _ hlt).2 (by omega))⟩, fun _ e he hok => ?_, fun h => (by cases h)⟩
    obtain ⟨j, hj, he2⟩ := List.getElem_of_mem (hp.mem_iff.2 he)
    have h3 := ris_count key hr j hj
    rw [he2] at h3
    have h4 := h3.1 (of_decide_eq_true hok)
    have h6 := ris_le hr (show j ≤ belK (inL l) key - 1 by omega) hlt
    rw [he2] at h6
    unfold ltL
    exact decide_eq_false (by omega)
  · rw [ls_no h hB]
    refine ⟨.inr rfl, fun h => (by cases h), fun h => (by cases h), fun _ e he => ?_⟩
    obtain ⟨j, hj, he2⟩ := List.getElem_of_mem (hp.mem_iff.2 he)
    have h3 := ris_count key hr j hj
    rw [he2] at h3
    refine decide_eq_false fun h4 => ?_
    have := h3.1 h4
    omega
theorem near_find {ok : Int → Bool} {lt : Int → Int → Bool} : ∀ {l : List Ent} {z : Ent}, l.Pairwise (fun a b => lt a.key b.key = true) → z ∈ l → ok z.key = true → (∀ e ∈ l, ok e.key = true → lt e.key z.key = false) → l.find? (fun e => ok e.key) = some z
  | [], z, _, hz, _, _ => by simp at hz
  | a :: t, z, hp, hz, hok, h => by
    rcases List.mem_cons.1 hz with rfl | hz
    · rw [List.find?_cons, hok]
    · have h1 := (List.pairwise_cons.1 hp).1 z hz
      have h2 : ok a.key = false := by
        cases hc : ok a.key with
        | false => rfl
        | true =>
          have h3 := h a (by simp) hc
          rw [h1] at h3; cases h3
      rw [List.find?_cons, h2]
      exact near_find (List.pairwise_cons.1 hp).2 hz hok (fun e he => h e (by simp [he]))
theorem find_congr {p q : Ent → Bool} : ∀ {l : List Ent}, (∀ e ∈ l, p e = q e) → l.find? p = l.find? q
  | [], _ => rfl
  | a :: t, h => by
    rw [List.find?_cons, List.find?_cons, h a (by simp), find_congr (fun e he => h e (by simp [he]))]
theorem newest_lv : ∀ {rs : Lv} {k : Int} {e : Ent}, newest rs k = some e → e.key = k ∧ ∃ l ∈ rs, e ∈ l
  | [], k, e, h => by cases h
  | r :: rs, k, e, h => by
    unfold newest at h
    rw [List.findSome?_cons] at h
    cases hl : look r k with
    | some y =>
      rw [hl] at h
      cases h
      exact ⟨(look_key hl).1, r, by simp, (look_key hl).2⟩
    | none =>
      rw [hl] at h
      obtain ⟨h1, l, h2, h3⟩ := newest_lv (rs := rs) h
      exact ⟨h1, l, by simp [h2], h3⟩
theorem newest_of {rs : Lv} {e : Ent} {l : List Ent} (hl : l ∈ rs) (he : e ∈ l) : ∃ z, newest rs e.key = some z ∧ z.key = e.key := by
  cases h : newest rs e.key with
  | some z => exact ⟨z, rfl, (newest_lv h).1⟩
  | none =>
    unfold newest at h
    rw [List.findSome?_eq_none_iff] at h
    exact absurd rfl (look_isNone (h l hl) e he)
/-- the nearest live entry -/
def nxO (L : Lv) (key : Int) : Option Ent := (allL L).find? (fun e => decide (key ≤ e.key))
def lsO (L : Lv) (key : Int) : Option Ent := (allL L).reverse.find? (fun e => decide (e.key < key))
theorem all_in {L : Lv} (h : May L) {e : Ent} (he : e ∈ allL L) : ∃ l ∈ L, e ∈ l := by
  have h1 := look_mem (allL_ris h) he
  rw [allL_look h.mE] at h1
  exact (newest_lv (lv_some h1).1).2
theorem all_live_in {L : Lv} (h : May L) {z : Ent} {k : Int} (hz : newest L k = some z) (hd : z.dead = false) : z ∈ allL L ∧ z.key = k := by
  have h1 := allL_look h.mE k
  rw [hz] at h1
  have h2 : lvO (some z) = some z := by unfold lvO; simp [hd]
  rw [h2] at h1
  exact ⟨(look_key h1).2, (look_key h1).1⟩
theorem all_dead_no {L : Lv} (h : May L) {z : Ent} {k : Int} (hz : newest L k = some z) (hd : z.dead = true) {e : Ent} (he : e ∈ allL L) : e.key ≠ k := by
  intro hk
  have h1 := look_mem (allL_ris h) he
  rw [hk, allL_look h.mE, hz] at h1
  have h2 : lvO (some z) = none := by unfold lvO; simp [hd]
  rw [h2] at h1
  cases h1
theorem nx_none {L : Lv} (h : May L) {key : Int} (hb : BestOk (fun k => decide (key ≤ k)) ltN L none) : nxO L key = none := by
  unfold nxO
  rw [List.find?_eq_none]
  intro e he
  obtain ⟨l, hl, he2⟩ := all_in h he
  have := hb.none rfl l hl e he2
  simpa using this
theorem nx_some {L : Lv} (h : May L) {key : Int} {x z : Ent} (hb : BestOk (fun k => decide (key ≤ k)) ltN L (some x)) (hz : newest L x.key = some z) (hd : z.dead = false) : nxO L key = some z := by
  obtain ⟨h1, h2⟩ := all_live_in h hz hd
  refine near_find (lt := ltN) (ok := fun k => decide (key ≤ k)) ?_ h1 ?_ ?_
  · exact (allL_ris h).imp (fun {a b} hab => decide_eq_true hab)
  · rw [h2]; exact (hb.mem x rfl).1
  · intro e he hok
    obtain ⟨l, hl, he2⟩ := all_in h he
    rw [h2]
    exact hb.best x rfl l hl e he2 hok
theorem nx_skip {L : Lv} (h : May L) {key : Int} {x z : Ent} (hb : BestOk (fun k => decide (key ≤ k)) ltN L (some x)) (hz : newest L x.key = some z) (hd : z.dead = true) : nxO L key = nxO L (x.key + 1) := by
  unfold nxO
  refine find_congr fun e he => ?_
  have h1 := all_dead_no h hz hd he
  obtain ⟨l, hl, he2⟩ := all_in h he
  have h3 := of_decide_eq_true (hb.mem x rfl).1
  by_cases hk : key ≤ e.key
  · have h2 := hb.best x rfl l hl e he2 (decide_eq_true hk)
    unfold ltN at h2
    have h4 := of_decide_eq_false h2
    rw [decide_eq_true hk, decide_eq_true (by omega)]
  · rw [decide_eq_false hk, decide_eq_false (by omega)]
theorem ls_none {L : Lv} (h : May L) {key : Int} (hb : BestOk (fun k => decide (k < key)) ltL L none) : lsO L key = none := by
  unfold lsO
  rw [List.find?_eq_none]
  intro e he
  obtain ⟨l, hl, he2⟩ := all_in h (List.mem_reverse.1 he)
  have := hb.none rfl l hl e he2
  simpa using this
theorem ls_some {L : Lv} (h : May L) {key : Int} {x z : Ent} (hb : BestOk (fun k => decide (k < key)) ltL L (some x)) (hz : newest L x.key = some z) (hd : z.dead = false) : lsO L key = some z := by
  obtain ⟨h1, h2⟩ := all_live_in h hz hd
  refine near_find (lt := ltL) (ok := fun k => decide (k < key)) ?_ (List.mem_reverse.2 h1) ?_ ?_
  · rw [List.pairwise_reverse]
    exact (allL_ris h).imp (fun {a b} hab => decide_eq_true hab)
  · rw [h2]; exact (hb.mem x rfl).1
  · intro e he hok
    obtain ⟨l, hl, he2⟩ := all_in h (List.mem_reverse.1 he)
    rw [h2]
    exact hb.best x rfl l hl e he2 hok
theorem ls_skip {L : Lv} (h : May L) {key : Int} {x z : Ent} (hb : BestOk (fun k => decide (k < key)) ltL L (some x)) (hz : newest L x.key = some z) (hd : z.dead = true) : lsO L key = lsO L x.key := by
  unfold lsO
  refine find_congr fun e he => ?_
  have he' := List.mem_reverse.1 he
  have h1 := all_dead_no h hz hd he'
  obtain ⟨l, hl, he2⟩ := all_in h he'
  have h3 := of_decide_eq_true (hb.mem x rfl).1
  by_cases hk : e.key < key
  · have h2 := hb.best x rfl l hl e he2 (decide_eq_true hk)
    unfold ltL at h2
    have h4 := of_decide_eq_false h2
    rw [decide_eq_true hk, decide_eq_true (by omega)]
  · rw [decide_eq_false hk, decide_eq_false (by omega)]
/-- how many entries lie on the side: it falls from round to round -/
def sideN (L : Lv) (ok : Int → Bool) : Nat := L.flatten.countP (fun e => ok e.key)
theorem side_lt {L : Lv} {p q : Int → Bool} (hpq : ∀ k, p k = true → q k = true) {l : List Ent} {x : Ent} (hl : l ∈ L) (hx : x ∈ l) (h1 : q x.key = true) (h2 : p x.key = false) : sideN L p < sideN L q := by
  have hm : x ∈ L.flatten := List.mem_flatten.2 ⟨l, hl, hx⟩
  unfold sideN
  revert hm
  generalize L.flatten = F
  intro hm
  induction F with
  | nil => exact absurd hm (by simp)
  | cons a t ih =>
    have hle : t.countP (fun e => p e.key) ≤ t.countP (fun e => q e.key) := List.countP_mono_left (fun e _ he => hpq e.key he)
    rw [List.countP_cons, List.countP_cons]
    rcases List.mem_cons.1 hm with rfl | hm
    · rw [h1, h2]
      simp
      omega
    · have := ih hm
      by_cases hp : p a.key = true
      · rw [if_pos hp, if_pos (hpq _ hp)]; omega
      · rw [if_neg hp]; split <;> omega
end Go.Proofs.YthbppblmecdekaaGreatDoor
