/- Plain facts: sorted lists of entries in one; heaps. No program in sight. -/
import Derived.Test.YtokomclcgegfkaaDoorLib
namespace Go.Proofs.YtokomclcgegfkaaDoor
open Go

def RisE (l : List Ent) : Prop := l.Pairwise (fun a b => a.key < b.key)
theorem RisE.cons {a : Ent} {l : List Ent} : RisE (a :: l) ↔ (∀ e ∈ l, a.key < e.key) ∧ RisE l := List.pairwise_cons
theorem RisE.nil : RisE [] := List.Pairwise.nil
def look (l : List Ent) (k : Int) : Option Ent := l.find? (fun e => e.key == k)
theorem look_cons (a : Ent) (l : List Ent) (k : Int) : look (a :: l) k = if a.key = k then some a else look l k := by
  unfold look
  rw [List.find?_cons]
  by_cases h : a.key = k
  · simp [h]
  · have h2 : (a.key == k) = false := by simpa using h
    rw [if_neg h, h2]
theorem look_none {l : List Ent} {k : Int} (h : ∀ e ∈ l, k < e.key) : look l k = none := by
  unfold look
  rw [List.find?_eq_none]
  intro e he
  have := h e he
  simp; omega
theorem look_key {l : List Ent} {k : Int} {e : Ent} (h : look l k = some e) : e.key = k ∧ e ∈ l := by
  unfold look at h
  exact ⟨by simpa using List.find?_some h, List.mem_of_find?_eq_some h⟩
theorem look_mem {l : List Ent} (hr : RisE l) {e : Ent} (h : e ∈ l) : look l e.key = some e := by
  induction l with
  | nil => simp at h
  | cons a l ih =>
    obtain ⟨h1, h2⟩ := RisE.cons.1 hr
    rw [look_cons]
    rcases List.mem_cons.1 h with rfl | h
    · rw [if_pos rfl]
    · have := h1 e h
      rw [if_neg (by omega), ih h2 h]
theorem look_append (l m : List Ent) (k : Int) : look (l ++ m) k = (look l k).or (look m k) := by unfold look; rw [List.find?_append]
/-- rising lists that answer alike are the same -/
theorem look_ext : ∀ {x y : List Ent}, RisE x → RisE y → (∀ k, look x k = look y k) → x = y
  | [], [], _, _, _ => rfl
  | a :: x, [], _, _, h => by have := h a.key; rw [look_cons, if_pos rfl] at this; cases this
  | [], b :: y, _, _, h => by have := h b.key; rw [look_cons, if_pos rfl] at this; cases this
  | a :: x, b :: y, hx, hy, h => by
    obtain ⟨a1, a2⟩ := RisE.cons.1 hx
    obtain ⟨b1, b2⟩ := RisE.cons.1 hy
    have ha := h a.key
    have hb := h b.key
    rw [look_cons, if_pos rfl, look_cons] at ha
    rw [look_cons, look_cons, if_pos rfl] at hb
    have hk : a.key = b.key := by
      rcases Int.lt_trichotomy a.key b.key with hlt | heq | hgt
      · rw [if_neg (by omega), look_none (fun e he => by have := b1 e he; omega)] at ha; cases ha
      · exact heq
      · rw [if_neg (by omega), look_none (fun e he => by have := a1 e he; omega)] at hb; cases hb
    rw [if_pos hk.symm] at ha
    have hab : a = b := by simpa using ha
    subst hab
    congr 1
    refine look_ext a2 b2 fun k => ?_
    have hk2 := h k
    rw [look_cons, look_cons] at hk2
    by_cases e : a.key = k
    · subst e; rw [look_none a1, look_none b1]
    · rwa [if_neg e, if_neg e] at hk2

/-- two lists, the first one's where both have a key -/
def bothE : List Ent → List Ent → List Ent
  | [], b => b
  | x :: a, [] => x :: a
  | x :: a, y :: b => if x.key < y.key then x :: bothE a (y :: b) else if x.key = y.key then x :: bothE a b else y :: bothE (x :: a) b
termination_by a b => a.length + b.length
theorem bothE_gt (K : Int) : ∀ (n : Nat) (a b : List Ent), a.length + b.length ≤ n → (∀ e ∈ a, K < e.key) → (∀ e ∈ b, K < e.key) → ∀ e ∈ bothE a b, K < e.key := by
  intro n
  induction n with
  | zero => intro a b h ha hb; cases a <;> cases b <;> simp at h; simp [bothE]
  | succ n ih =>
    intro a b h ha hb
    cases a with
    | nil => rw [bothE]; exact hb
    | cons x a =>
      cases b with
      | nil => rw [bothE]; exact ha
      | cons y b =>
        simp only [List.length_cons] at h
        have hx := ha x (by simp)
        have hy := hb y (by simp)
        have ha' : ∀ e ∈ a, K < e.key := fun e he => ha e (by simp [he])
        have hb' : ∀ e ∈ b, K < e.key := fun e he => hb e (by simp [he])
        rw [bothE]
        split
        · intro e he
          rcases List.mem_cons.1 he with rfl | he
          · exact hx
          · exact ih a (y :: b) (by simp; omega) ha' hb e he
        · split
          · intro e he
            rcases List.mem_cons.1 he with rfl | he
            · exact hx
            · exact ih a b (by omega) ha' hb' e he
          · intro e he
            rcases List.mem_cons.1 he with rfl | he
            · exact hy
            · exact ih (x :: a) b (by simp; omega) ha hb' e he
theorem bothE_law : ∀ (n : Nat) (a b : List Ent), a.length + b.length ≤ n → RisE a → RisE b → RisE (bothE a b) ∧ ∀ k, look (bothE a b) k = (look a k).or (look b k) := by
  intro n
  induction n with
  | zero => intro a b h ha hb; cases a <;> cases b <;> simp at h; simp [bothE, RisE, look]
  | succ n ih =>
    intro a b h ha hb
    cases a with
    | nil => rw [bothE]; exact ⟨hb, fun k => by simp [look]⟩
    | cons x a =>
      cases b with
      | nil => rw [bothE]; exact ⟨ha, fun k => by simp [look]⟩
      | cons y b =>
        simp only [List.length_cons] at h
        obtain ⟨a1, a2⟩ := RisE.cons.1 ha
        obtain ⟨b1, b2⟩ := RisE.cons.1 hb
        rw [bothE]
        split
        · rename_i hlt
          obtain ⟨r1, r2⟩ := ih a (y :: b) (by simp; omega) a2 hb
          refine ⟨RisE.cons.2 ⟨bothE_gt x.key _ a (y :: b) (Nat.le_refl _) a1 (fun e he => ?_), r1⟩, fun k => ?_⟩
          · rcases List.mem_cons.1 he with rfl | he
            · exact hlt
            · have := b1 e he; omega
          · rw [look_cons, look_cons x a, r2]
            split <;> simp
        · rename_i hlt
          split
          · rename_i heq
            obtain ⟨r1, r2⟩ := ih a b (by omega) a2 b2
            refine ⟨RisE.cons.2 ⟨bothE_gt x.key _ a b (Nat.le_refl _) a1 (fun e he => by have := b1 e he; omega), r1⟩, fun k => ?_⟩
            rw [look_cons, look_cons x a, look_cons y b, r2]
            by_cases e : x.key = k
            · rw [if_pos e, if_pos e]; simp
            · rw [if_neg e, if_neg e, if_neg (by omega)]
          · rename_i hne
            obtain ⟨r1, r2⟩ := ih (x :: a) b (by simp; omega) ha b2
            refine ⟨RisE.cons.2 ⟨bothE_gt y.key _ (x :: a) b (Nat.le_refl _) (fun e he => ?_) b1, r1⟩, fun k => ?_⟩
            · rcases List.mem_cons.1 he with rfl | he
              · omega
              · have := a1 e he; omega
            · rw [look_cons, look_cons y b, r2]
              by_cases e : y.key = k
              · rw [if_pos e, if_pos e, look_none (l := x :: a)]
                · rfl
                · intro q hq
                  rcases List.mem_cons.1 hq with rfl | hq
                  · omega
                  · have := a1 q hq; omega
              · rw [if_neg e, if_neg e]
theorem bothE_ris {a b : List Ent} (ha : RisE a) (hb : RisE b) : RisE (bothE a b) := (bothE_law _ a b (Nat.le_refl _) ha hb).1
theorem bothE_look {a b : List Ent} (ha : RisE a) (hb : RisE b) (k : Int) : look (bothE a b) k = (look a k).or (look b k) := (bothE_law _ a b (Nat.le_refl _) ha hb).2 k
theorem bothE_len : ∀ (n : Nat) (a b : List Ent), a.length + b.length ≤ n → (bothE a b).length ≤ a.length + b.length := by
  intro n
  induction n with
  | zero => intro a b h; cases a <;> cases b <;> simp at h; simp [bothE]
  | succ n ih =>
    intro a b h
    cases a with
    | nil => rw [bothE]; simp
    | cons x a =>
      cases b with
      | nil => rw [bothE]; simp
      | cons y b =>
        simp only [List.length_cons] at h ⊢
        rw [bothE]
        split
        · have := ih a (y :: b) (by simp; omega); simp at this ⊢; omega
        · split
          · have := ih a b (by omega); simp at this ⊢; omega
          · have := ih (x :: a) b (by simp; omega); simp at this ⊢; omega

/-- what the newest run that has a key has -/
def newest (rs : List (List Ent)) (k : Int) : Option Ent := rs.findSome? (fun r => look r k)
theorem newest_cons (r : List Ent) (rs : List (List Ent)) (k : Int) : newest (r :: rs) k = (look r k).or (newest rs k) := by
  unfold newest
  rw [List.findSome?_cons]
  cases look r k <;> rfl
/-- all runs in one, the newest first -/
def allE (rs : List (List Ent)) : List Ent := rs.foldl bothE []
theorem fold_law : ∀ (rs : List (List Ent)) {acc : List Ent}, RisE acc → (∀ r ∈ rs, RisE r) → RisE (rs.foldl bothE acc) ∧ ∀ k, look (rs.foldl bothE acc) k = (look acc k).or (newest rs k)
  | [], acc, ha, _ => ⟨ha, fun k => by simp [newest]⟩
  | r :: rs, acc, ha, hr => by
    have h1 := hr r (by simp)
    obtain ⟨g1, g2⟩ := fold_law rs (bothE_ris ha h1) (fun q hq => hr q (by simp [hq]))
    refine ⟨g1, fun k => ?_⟩
    rw [List.foldl_cons, g2, bothE_look ha h1, newest_cons, Option.or_assoc]
theorem all_unique {rs : List (List Ent)} (hr : ∀ r ∈ rs, RisE r) {out : List Ent} (ho : RisE out) (h : ∀ k, look out k = newest rs k) : out = allE rs := by
  obtain ⟨g1, g2⟩ := fold_law rs RisE.nil hr
  exact look_ext ho g1 fun k => by rw [h]; unfold allE; have := g2 k; rw [this]; simp [look]
theorem fold_len : ∀ (rs : List (List Ent)) (acc : List Ent), (rs.foldl bothE acc).length ≤ acc.length + (rs.map List.length).sum
  | [], acc => by simp
  | r :: rs, acc => by
    have h1 := fold_len rs (bothE acc r)
    have h2 := bothE_len _ acc r (Nat.le_refl _)
    simp only [List.foldl_cons, List.map_cons, List.sum_cons]
    omega

/-! ### heaps -/
/-- what is left of a run, and its age -/
structure Hd where
  e : Ent
  rest : List Ent
  age : Nat
def hlt (a b : Hd) : Bool := if a.e.key = b.e.key then decide (a.age < b.age) else decide (a.e.key < b.e.key)
def hle (a b : Hd) : Prop := a.e.key < b.e.key ∨ (a.e.key = b.e.key ∧ a.age ≤ b.age)
theorem hlt_iff (a b : Hd) : hlt a b = true ↔ (a.e.key < b.e.key ∨ (a.e.key = b.e.key ∧ a.age < b.age)) := by
  unfold hlt
  split
  · rename_i h; simp [h]
  · rename_i h; simp [h]
theorem hle_of_not {a b : Hd} (h : hlt a b = false) : hle b a := by
  have := mt (hlt_iff a b).2 (by rw [h]; simp)
  unfold hle
  omega
theorem hle_of_lt {a b : Hd} (h : hlt a b = true) : hle a b := by
  have := (hlt_iff a b).1 h
  unfold hle
  omega
theorem hle_trans {a b c : Hd} (h1 : hle a b) (h2 : hle b c) : hle a c := by unfold hle at *; omega
theorem hle_refl (a : Hd) : hle a a := by unfold hle; omega

/-- from a place on, no thing is greater than those under it -/
def HeapFrom (H : List Hd) (i0 : Nat) : Prop := ∀ j c (hc : c < H.length) (hj : j < c), i0 ≤ j → (c = 2 * j + 1 ∨ c = 2 * j + 2) → hle (H[j]'(by omega)) (H[c]'hc)
/-- the same, but for one place, that sinks -/
def Sinks (H : List Hd) (i0 i : Nat) : Prop :=
  (∀ j c (hc : c < H.length) (hj : j < c), i0 ≤ j → j ≠ i → (c = 2 * j + 1 ∨ c = 2 * j + 2) → hle (H[j]'(by omega)) (H[c]'hc)) ∧
  (∀ p c (hc : c < H.length) (hp : p < c), i0 ≤ p → (i = 2 * p + 1 ∨ i = 2 * p + 2) → (c = 2 * i + 1 ∨ c = 2 * i + 2) → hle (H[p]'(by omega)) (H[c]'hc))
theorem Sinks.start {H : List Hd} {i0 : Nat} (h : HeapFrom H (i0 + 1)) : Sinks H i0 i0 :=
  ⟨fun j c hc hj h0 hne hcc => h j c hc hj (by omega) hcc, fun p c hc hp h0 hi hcc => by omega⟩
theorem Sinks.done {H : List Hd} {i0 i : Nat} (h : Sinks H i0 i) (hd : ∀ c (hc : c < H.length) (hi : i < c), (c = 2 * i + 1 ∨ c = 2 * i + 2) → hle (H[i]'(by omega)) (H[c]'hc)) : HeapFrom H i0 := by
  intro j c hc hj h0 hcc
  by_cases e : j = i
  · subst e; exact hd c hc hj hcc
  · exact h.1 j c hc hj h0 e hcc
def swapL (H : List Hd) (i k : Nat) (hi : i < H.length) (hk : k < H.length) : List Hd := (H.set i (H[k]'hk)).set k (H[i]'hi)
theorem swap_length (H : List Hd) (i k : Nat) (hi : i < H.length) (hk : k < H.length) : (swapL H i k hi hk).length = H.length := by simp [swapL]
theorem swap_get {H : List Hd} {i k : Nat} (hi : i < H.length) (hk : k < H.length) (_hik : i ≠ k) (j : Nat) (hj : j < (swapL H i k hi hk).length) :
    (swapL H i k hi hk)[j]'hj = if j = k then H[i]'hi else if j = i then H[k]'hk else H[j]'(by rw [swap_length] at hj; exact hj) := by
  have hg : ∀ hj2 : j < ((H.set i (H[k]'hk)).set k (H[i]'hi)).length, ((H.set i (H[k]'hk)).set k (H[i]'hi))[j]'hj2 = if j = k then H[i]'hi else if j = i then H[k]'hk else H[j]'(by rw [swap_length] at hj; exact hj) := by
    intro hj2
    rw [List.getElem_set]
    by_cases h1 : k = j
    · rw [if_pos h1, if_pos h1.symm]
    · rw [if_neg h1, if_neg (fun e => h1 e.symm), List.getElem_set]
      by_cases h2 : i = j
      · rw [if_pos h2, if_pos h2.symm]
      · rw [if_neg h2, if_neg (fun e => h2 e.symm)]
  exact hg hj
theorem swap_perm {H : List Hd} {i k : Nat} (hi : i < H.length) (hk : k < H.length) : (swapL H i k hi hk).Perm H := by
  unfold swapL
  exact List.set_set_perm hi hk
theorem Sinks.step {H : List Hd} {i0 i k : Nat} (h : Sinks H i0 i) (h0 : i0 ≤ i) (hi : i < H.length) (hk : k < H.length) (hkc : k = 2 * i + 1 ∨ k = 2 * i + 2) (hlt' : hlt (H[k]'hk) (H[i]'hi) = true)
    (hmin : ∀ c (hc : c < H.length), (c = 2 * i + 1 ∨ c = 2 * i + 2) → hle (H[k]'hk) (H[c]'hc)) : Sinks (swapL H i k hi hk) i0 k := by
  have hik : i ≠ k := by omega
  have hki := hle_of_lt hlt'
  constructor
  · intro j c hc hj hj0 hne hcc
    have hc' : c < H.length := by rwa [swap_length] at hc
    rw [swap_get hi hk hik, swap_get hi hk hik, if_neg hne]
    by_cases e1 : j = i
    · rw [if_pos e1]
      by_cases e2 : c = k
      · rw [if_pos e2]; exact hki
      · rw [if_neg e2, if_neg (by omega)]; exact hmin c hc' (by omega)
    · rw [if_neg e1, if_neg (by omega)]
      by_cases e3 : c = i
      · rw [if_pos e3]
        exact h.2 j k hk (by omega) hj0 (by omega) hkc
      · rw [if_neg e3]
        exact h.1 j c hc' hj hj0 e1 hcc
  · intro p c hc hp hp0 hkp hcc
    have hc' : c < H.length := by rwa [swap_length] at hc
    have hpi : p = i := by omega
    subst hpi
    rw [swap_get hi hk hik, swap_get hi hk hik, if_neg hik, if_pos rfl, if_neg (by omega), if_neg (by omega)]
    exact h.1 k c hc' (by omega) (by omega) (by omega) hcc
theorem heap_top {H : List Hd} (h : HeapFrom H 0) : ∀ j (hj : j < H.length), hle (H[0]'(by omega)) (H[j]'hj) := by
  intro j
  induction j using Nat.strongRecOn with
  | _ j ih =>
    intro hj
    by_cases e : j = 0
    · subst e; exact hle_refl _
    · have hp : (j - 1) / 2 < j := by omega
      exact hle_trans (ih _ hp (by omega)) (h ((j - 1) / 2) j hj hp (Nat.zero_le _) (by omega))
theorem heap_leaves {H : List Hd} {i : Nat} (h : H.length / 2 ≤ i) : HeapFrom H i := by
  intro j c hc hj h0 hcc
  omega
end Go.Proofs.YtokomclcgegfkaaDoor
