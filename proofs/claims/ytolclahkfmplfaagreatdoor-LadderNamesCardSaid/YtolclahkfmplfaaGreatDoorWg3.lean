/- Kp Km Kc Ks: texts of the claim, in this order. -/
import Derived.Test.YtolclahkfmplfaaGreatDoorWg1
import Derived.Test.YtolclahkfmplfaaGreatDoorProg
import Derived.Test.YtolclahkfmplfaaGreatDoorWg2
import Derived.BigRegion
import Derived.Deep.CutRange
import Derived.Deep.RegionHeld3
import Derived.IntWalk
/- Plain facts: sorted lists of entries in one; heaps. No program in sight. -/
namespace Go.Proofs.YtolclahkfmplfaaGreatDoor
open Go

def RisE (l : List Ent) : Prop := l.Pairwise (fun a b => a.key < b.key)
theorem RisE.cons {a : Ent} {l : List Ent} : RisE (a :: l) ↔ (∀ e ∈ l, a.key < e.key) ∧ RisE l := List.pairwise_cons
theorem RisE.nil : RisE [] := List.Pairwise.nil
def look (l : List Ent) (k : Int) : Option Ent := l.find? (fun e => e.key == k)
theorem look_cons (a : Ent) (l : List Ent) (k : Int) : look (a :: l) k = if a.key = k then some a else look l k := by
  unfold look
  rw [List.find?_cons]
  by_cases h : a.key = k
  · simp [h]
  · have h2 : (a.key == k) = false := by simpa using h
    rw [if_neg h, h2]
theorem look_none {l : List Ent} {k : Int} (h : ∀ e ∈ l, k < e.key) : look l k = none := by
  unfold look
  rw [List.find?_eq_none]
  intro e he
  have := h e he
  simp; omega
theorem look_key {l : List Ent} {k : Int} {e : Ent} (h : look l k = some e) : e.key = k ∧ e ∈ l := by
  unfold look at h
  exact ⟨by simpa using List.find?_some h, List.mem_of_find?_eq_some h⟩
theorem look_mem {l : List Ent} (hr : RisE l) {e : Ent} (h : e ∈ l) : look l e.key = some e := by
  induction l with
  | nil => simp at h
  | cons a l ih =>
    obtain ⟨h1, h2⟩ := RisE.cons.1 hr
    rw [look_cons]
    rcases List.mem_cons.1 h with rfl | h
    · rw [if_pos rfl]
    · have := h1 e h
      rw [if_neg (by omega), ih h2 h]
theorem look_append (l m : List Ent) (k : Int) : look (l ++ m) k = (look l k).or (look m k) := by unfold look; rw [List.find?_append]
/-- rising lists that answer alike are the same -/
theorem look_ext : ∀ {x y : List Ent}, RisE x → RisE y → (∀ k, look x k = look y k) → x = y
  | [], [], _, _, _ => rfl
  | a :: x, [], _, _, h => by have := h a.key; rw [look_cons, if_pos rfl] at this; cases this
  | [], b :: y, _, _, h => by have := h b.key; rw [look_cons, if_pos rfl] at this; cases this
  | a :: x, b :: y, hx, hy, h => by
    obtain ⟨a1, a2⟩ := RisE.cons.1 hx
    obtain ⟨b1, b2⟩ := RisE.cons.1 hy
    have ha := h a.key
    have hb := h b.key
    rw [look_cons, if_pos rfl, look_cons] at ha
    rw [look_cons, look_cons, if_pos rfl] at hb
    have hk : a.key = b.key := by
      rcases Int.lt_trichotomy a.key b.key with hlt | heq | hgt
      · rw [if_neg (by omega), look_none (fun e he => by have := b1 e he; omega)] at ha; cases ha
      · exact heq
      · rw [if_neg (by omega), look_none (fun e he => by have := a1 e he; omega)] at hb; cases hb
    rw [if_pos hk.symm] at ha
    have hab : a = b := by simpa using ha
    subst hab
    congr 1
    refine look_ext a2 b2 fun k => ?_
    have hk2 := h k
    rw [look_cons, look_cons] at hk2
    by_cases e : a.key = k
    · subst e; rw [look_none a1, look_none b1]
    · rwa [if_neg e, if_neg e] at hk2

/-- two lists, the first one's where both have a key -/
def bothE : List Ent → List Ent → List Ent
  | [], b => b
  | x :: a, [] => x :: a
  | x :: a, y :: b => if x.key < y.key then x :: bothE a (y :: b) else if x.key = y.key then x :: bothE a b else y :: bothE (x :: a) b
termination_by a b => a.length + b.length
theorem bothE_gt (K : Int) : ∀ (n : Nat) (a b : List Ent), a.length + b.length ≤ n → (∀ e ∈ a, K < e.key) → (∀ e ∈ b, K < e.key) → ∀ e ∈ bothE a b, K < e.key := by
  intro n
  induction n with
  | zero => intro a b h ha hb; cases a <;> cases b <;> simp at h; simp [bothE]
  | succ n ih =>
    intro a b h ha hb
    cases a with
    | nil => rw [bothE]; exact hb
    | cons x a =>
      cases b with
      | nil => rw [bothE]; exact ha
      | cons y b =>
        simp only [List.length_cons] at h
        have hx := ha x (by simp)
        have hy := hb y (by simp)
        have ha' : ∀ e ∈ a, K < e.key := fun e he => ha e (by simp [he])
        have hb' : ∀ e ∈ b, K < e.key := fun e he => hb e (by simp [he])
        rw [bothE]
        split
        · intro e he
          rcases List.mem_cons.1 he with rfl | he
          · exact hx
          · exact ih a (y :: b) (by simp; omega) ha' hb e he
        · split
          · intro e he
            rcases List.mem_cons.1 he with rfl | he
            · exact hx
            · exact ih a b (by omega) ha' hb' e he
          · intro e he
            rcases List.mem_cons.1 he with rfl | he
            · exact hy
            · exact ih (x :: a) b (by simp; omega) ha hb' e he
theorem bothE_law : ∀ (n : Nat) (a b : List Ent), a.length + b.length ≤ n → RisE a → RisE b → RisE (bothE a b) ∧ ∀ k, look (bothE a b) k = (look a k).or (look b k) := by
  intro n
  induction n with
  | zero => intro a b h ha hb; cases a <;> cases b <;> simp at h; simp [bothE, RisE, look]
  | succ n ih =>
    intro a b h ha hb
    cases a with
    | nil => rw [bothE]; exact ⟨hb, fun k => by simp [look]⟩
    | cons x a =>
      cases b with
      | nil => rw [bothE]; exact ⟨ha, fun k => by simp [look]⟩
      | cons y b =>
        simp only [List.length_cons] at h
        obtain ⟨a1, a2⟩ := RisE.cons.1 ha
        obtain ⟨b1, b2⟩ := RisE.cons.1 hb
        rw [bothE]
        split
        · rename_i hlt
          obtain ⟨r1, r2⟩ := ih a (y :: b) (by simp; omega) a2 hb
          refine ⟨RisE.cons.2 ⟨bothE_gt x.key _ a (y :: b) (Nat.le_refl _) a1 (fun e he => ?_), r1⟩, fun k => ?_⟩
          · rcases List.mem_cons.1 he with rfl | he
            · exact hlt
            · have := b1 e he; omega
          · rw [look_cons, look_cons x a, r2]
            split <;> simp
        · rename_i hlt
          split
          · rename_i heq
            obtain ⟨r1, r2⟩ := ih a b (by omega) a2 b2
            refine ⟨RisE.cons.2 ⟨bothE_gt x.key _ a b (Nat.le_refl _) a1 (fun e he => by have := b1 e he; omega), r1⟩, fun k => ?_⟩
            rw [look_cons, look_cons x a, look_cons y b, r2]
            by_cases e : x.key = k
            · rw [if_pos e, if_pos e]; simp
            · rw [if_neg e, if_neg e, if_neg (by omega)]
          · rename_i hne
            obtain ⟨r1, r2⟩ := ih (x :: a) b (by simp; omega) ha b2
            refine ⟨RisE.cons.2 ⟨bothE_gt y.key _ (x :: a) b (Nat.le_refl _) (fun e he => ?_) b1, r1⟩, fun k => ?_⟩
            · rcases List.mem_cons.1 he with rfl | he
              · omega
              · have := a1 e he; omega
            · rw [look_cons, look_cons y b, r2]
              by_cases e : y.key = k
              · rw [if_pos e, if_pos e, look_none (l := x :: a)]
                · rfl
                · intro q hq
                  rcases List.mem_cons.1 hq with rfl | hq
                  · omega
                  · have := a1 q hq; omega
              · rw [if_neg e, if_neg e]
theorem bothE_ris {a b : List Ent} (ha : RisE a) (hb : RisE b) : RisE (bothE a b) := (bothE_law _ a b (Nat.le_refl _) ha hb).1
theorem bothE_look {a b : List Ent} (ha : RisE a) (hb : RisE b) (k : Int) : look (bothE a b) k = (look a k).or (look b k) := (bothE_law _ a b (Nat.le_refl _) ha hb).2 k
theorem bothE_len : ∀ (n : Nat) (a b : List Ent), a.length + b.length ≤ n → (bothE a b).length ≤ a.length + b.length := by
  intro n
  induction n with
  | zero => intro a b h; cases a <;> cases b <;> simp at h; simp [bothE]
  | succ n ih =>
    intro a b h
    cases a with
    | nil => rw [bothE]; simp
    | cons x a =>
      cases b with
      | nil => rw [bothE]; simp
      | cons y b =>
        simp only [List.length_cons] at h ⊢
        rw [bothE]
        split
        · have := ih a (y :: b) (by simp; omega); simp at this ⊢; omega
        · split
          · have := ih a b (by omega); simp at this ⊢; omega
          · have := ih (x :: a) b (by simp; omega); simp at this ⊢; omega

/-- what the newest run that has a key has -/
def newest (rs : List (List Ent)) (k : Int) : Option Ent := rs.findSome? (fun r => look r k)
theorem newest_cons (r : List Ent) (rs : List (List Ent)) (k : Int) : newest (r :: rs) k = (look r k).or (newest rs k) := by
  unfold newest
  rw [List.findSome?_cons]
  cases look r k <;> rfl
/-- all runs in one, the newest first -/
def allE (rs : List (List Ent)) : List Ent := rs.foldl bothE []
theorem fold_law : ∀ (rs : List (List Ent)) {acc : List Ent}, RisE acc → (∀ r ∈ rs, RisE r) → RisE (rs.foldl bothE acc) ∧ ∀ k, look (rs.foldl bothE acc) k = (look acc k).or (newest rs k)
  | [], acc, ha, _ => ⟨ha, fun k => by simp [newest]⟩
  | r :: rs, acc, ha, hr => by
    have h1 := hr r (by simp)
    obtain ⟨g1, g2⟩ := fold_law rs (bothE_ris ha h1) (fun q hq => hr q (by simp [hq]))
    refine ⟨g1, fun k => ?_⟩
    rw [List.foldl_cons, g2, bothE_look ha h1, newest_cons, Option.or_assoc]
theorem all_unique {rs : List (List Ent)} (hr : ∀ r ∈ rs, RisE r) {out : List Ent} (ho : RisE out) (h : ∀ k, look out k = newest rs k) : out = allE rs := by
  obtain ⟨g1, g2⟩ := fold_law rs RisE.nil hr
  exact look_ext ho g1 fun k => by rw [h]; unfold allE; have := g2 k; rw [this]; simp [look]
theorem fold_len : ∀ (rs : List (List Ent)) (acc : List Ent), (rs.foldl bothE acc).length ≤ acc.length + (rs.map List.length).sum
  | [], acc => by simp
  | r :: rs, acc => by
    have h1 := fold_len rs (bothE acc r)
    have h2 := bothE_len _ acc r (Nat.le_refl _)
    simp only [List.foldl_cons, List.map_cons, List.sum_cons]
    omega

/-! ### heaps -/
/-- what is left of a run, and its age -/
structure Hd where
  e : Ent
  rest : List Ent
  age : Nat
def hlt (a b : Hd) : Bool := if a.e.key = b.e.key then decide (a.age < b.age) else decide (a.e.key < b.e.key)
def hle (a b : Hd) : Prop := a.e.key < b.e.key ∨ (a.e.key = b.e.key ∧ a.age ≤ b.age)
theorem hlt_iff (a b : Hd) : hlt a b = true ↔ (a.e.key < b.e.key ∨ (a.e.key = b.e.key ∧ a.age < b.age)) := by
  unfold hlt
  split
  · rename_i h; simp [h]
  · rename_i h; simp [h]
theorem hle_of_not {a b : Hd} (h : hlt a b = false) : hle b a := by
  have := mt (hlt_iff a b).2 (by rw [h]; simp)
  unfold hle
  omega
theorem hle_of_lt {a b : Hd} (h : hlt a b = true) : hle a b := by
  have := (hlt_iff a b).1 h
  unfold hle
  omega
theorem hle_trans {a b c : Hd} (h1 : hle a b) (h2 : hle b c) : hle a c := by unfold hle at *; omega
theorem hle_refl (a : Hd) : hle a a := by unfold hle; omega

/-- from a place on, no thing is greater than those under it -/
def HeapFrom (H : List Hd) (i0 : Nat) : Prop := ∀ j c (hc : c < H.length) (hj : j < c), i0 ≤ j → (c = 2 * j + 1 ∨ c = 2 * j + 2) → hle (H[j]'(by omega)) (H[c]'hc)
/-- the same, but for one place, that sinks -/
def Sinks (H : List Hd) (i0 i : Nat) : Prop :=
  (∀ j c (hc : c < H.length) (hj : j < c), i0 ≤ j → j ≠ i → (c = 2 * j + 1 ∨ c = 2 * j + 2) → hle (H[j]'(by omega)) (H[c]'hc)) ∧
  (∀ p c (hc : c < H.length) (hp : p < c), i0 ≤ p → (i = 2 * p + 1 ∨ i = 2 * p + 2) → (c = 2 * i + 1 ∨ c = 2 * i + 2) → hle (H[p]'(by omega)) (H[c]'hc))
theorem Sinks.start {H : List Hd} {i0 : Nat} (h : HeapFrom H (i0 + 1)) : Sinks H i0 i0 :=
  ⟨fun j c hc hj h0 hne hcc => h j c hc hj (by omega) hcc, fun p c hc hp h0 hi hcc => by omega⟩
theorem Sinks.done {H : List Hd} {i0 i : Nat} (h : Sinks H i0 i) (hd : ∀ c (hc : c < H.length) (hi : i < c), (c = 2 * i + 1 ∨ c = 2 * i + 2) → hle (H[i]'(by omega)) (H[c]'hc)) : HeapFrom H i0 := by
  intro j c hc hj h0 hcc
  by_cases e : j = i
  · subst e; exact hd c hc hj hcc
  · exact h.1 j c hc hj h0 e hcc
def swapL (H : List Hd) (i k : Nat) (hi : i < H.length) (hk : k < H.length) : List Hd := (H.set i (H[k]'hk)).set k (H[i]'hi)
theorem swap_length (H : List Hd) (i k : Nat) (hi : i < H.length) (hk : k < H.length) : (swapL H i k hi hk).length = H.length := by simp [swapL]
theorem swap_get {H : List Hd} {i k : Nat} (hi : i < H.length) (hk : k < H.length) (_hik : i ≠ k) (j : Nat) (hj : j < (swapL H i k hi hk).length) :
    (swapL H i k hi hk)[j]'hj = if j = k then H[i]'hi else if j = i then H[k]'hk else H[j]'(by rw [swap_length] at hj; exact hj) := by
  have hg : ∀ hj2 : j < ((H.set i (H[k]'hk)).set k (H[i]'hi)).length, ((H.set i (H[k]'hk)).set k (H[i]'hi))[j]'hj2 = if j = k then H[i]'hi else if j = i then H[k]'hk else H[j]'(by rw [swap_length] at hj; exact hj) := by
    intro hj2
    rw [List.getElem_set]
    by_cases h1 : k = j
    · rw [if_pos h1, if_pos h1.symm]
    · rw [if_neg h1, if_neg (fun e => h1 e.symm), List.getElem_set]
      by_cases h2 : i = j
      · rw [if_pos h2, if_pos h2.symm]
      · rw [if_neg h2, if_neg (fun e => h2 e.symm)]
  exact hg hj
theorem swap_perm {H : List Hd} {i k : Nat} (hi : i < H.length) (hk : k < H.length) : (swapL H i k hi hk).Perm H := by
  unfold swapL
  exact List.set_set_perm hi hk
theorem Sinks.step {H : List Hd} {i0 i k : Nat} (h : Sinks H i0 i) (h0 : i0 ≤ i) (hi : i < H.length) (hk : k < H.length) (hkc : k = 2 * i + 1 ∨ k = 2 * i + 2) (hlt' : hlt (H[k]'hk) (H[i]'hi) = true)
    (hmin : ∀ c (hc : c < H.length), (c = 2 * i + 1 ∨ c = 2 * i + 2) → hle (H[k]'hk) (H[c]'hc)) : Sinks (swapL H i k hi hk) i0 k := by
  have hik : i ≠ k := by omega
  have hki := hle_of_lt hlt'
  constructor
  · intro j c hc hj hj0 hne hcc
    have hc' : c < H.length := by rwa [swap_length] at hc
    rw [swap_get hi hk hik, swap_get hi hk hik, if_neg hne]
    by_cases e1 : j = i
    · rw [if_pos e1]
      by_cases e2 : c = k
      · rw [if_pos e2]; exact hki
      · rw [if_neg e2, if_neg (by omega)]; exact hmin c hc' (by omega)
    · rw [if_neg e1, if_neg (by omega)]
      by_cases e3 : c = i
      · rw [if_pos e3]
        exact h.2 j k hk (by omega) hj0 (by omega) hkc
      · rw [if_neg e3]
        exact h.1 j c hc' hj hj0 e1 hcc
  · intro p c hc hp hp0 hkp hcc
    have hc' : c < H.length := by rwa [swap_length] at hc
    have hpi : p = i := by omega
    subst hpi
    rw [swap_get hi hk hik, swap_get hi hk hik, if_neg hik, if_pos rfl, if_neg (by omega), if_neg (by omega)]
    exact h.1 k c hc' (by omega) (by omega) (by omega) hcc
theorem heap_top {H : List Hd} (h : HeapFrom H 0) : ∀ j (hj : j < H.length), hle (H[0]'(by omega)) (H[j]'hj) := by
  intro j
  induction j using Nat.strongRecOn with
  | _ j ih =>
    intro hj
    by_cases e : j = 0
    · subst e; exact hle_refl _
    · have hp : (j - 1) / 2 < j := by omega
      exact hle_trans (ih _ hp (by omega)) (h ((j - 1) / 2) j hj hp (Nat.zero_le _) (by omega))
theorem heap_leaves {H : List Hd} {i : Nat} (h : H.length / 2 ≤ i) : HeapFrom H i := by
  intro j c hc hj h0 hcc
  omega
end Go.Proofs.YtolclahkfmplfaaGreatDoor

/- Plain facts: merging runs by a heap of what is left of each. No program in sight. -/
namespace Go.Proofs.YtolclahkfmplfaaGreatDoor
open Go

/-- what stands while runs are merged -/
def MInv (rs : List (List Ent)) (out : List Ent) (H : List Hd) : Prop :=
  RisE out ∧ (∀ e ∈ out, newest rs e.key = some e) ∧
  (∀ h ∈ H, ∃ r, rs[h.age]? = some r ∧ ∃ c, r = c ++ h.e :: h.rest ∧ ∀ e ∈ c, ∃ o ∈ out, o.key = e.key) ∧
  (∀ a r, rs[a]? = some r → (∃ h ∈ H, h.age = a) ∨ (∀ e ∈ r, ∃ o ∈ out, o.key = e.key)) ∧
  (∀ h ∈ H, ∀ o ∈ out, o.key ≤ h.e.key)
theorem MInv.perm {rs : List (List Ent)} {out : List Ent} {H H' : List Hd} (h : MInv rs out H) (hp : H'.Perm H) : MInv rs out H' := by
  obtain ⟨h1, h2, h3, h4, h5⟩ := h
  refine ⟨h1, h2, fun x hx => h3 x (hp.mem_iff.1 hx), fun a r hr => ?_, fun x hx => h5 x (hp.mem_iff.1 hx)⟩
  rcases h4 a r hr with ⟨x, hx, e⟩ | h
  · exact .inl ⟨x, hp.mem_iff.2 hx, e⟩
  · exact .inr h
theorem newest_at : ∀ {rs : List (List Ent)} {a : Nat} {r : List Ent} {k : Int} {e : Ent}, rs[a]? = some r → look r k = some e → (∀ b, b < a → ∀ r', rs[b]? = some r' → look r' k = none) → newest rs k = some e
  | [], _, _, _, _, h, _, _ => by simp at h
  | r0 :: rs, 0, r, k, e, h, hl, _ => by
    have : r0 = r := by simpa using h
    subst this
    rw [newest_cons, hl]; rfl
  | r0 :: rs, a + 1, r, k, e, h, hl, hb => by
    rw [newest_cons, hb 0 (by omega) r0 rfl, newest_at (rs := rs) (a := a) (by simpa using h) hl (fun b hlt r' hr' => hb (b + 1) (by omega) r' (by simpa using hr'))]
    rfl
theorem newest_mem : ∀ {rs : List (List Ent)} {k : Int} {e : Ent}, newest rs k = some e → ∃ (a : Nat) (r : List Ent), rs[a]? = some r ∧ e ∈ r ∧ e.key = k
  | [], _, _, h => by simp [newest] at h
  | r :: rs, k, e, h => by
    rw [newest_cons] at h
    cases hl : look r k with
    | some x =>
      rw [hl] at h
      have : x = e := by simpa using h
      subst this
      exact ⟨0, r, rfl, (look_key hl).2, (look_key hl).1⟩
    | none =>
      rw [hl] at h
      obtain ⟨a, r', h1, h2⟩ := newest_mem (rs := rs) (by simpa using h)
      exact ⟨a + 1, r', by simpa using h1, h2⟩
theorem ris_part {c l : List Ent} {e : Ent} (h : RisE (c ++ e :: l)) : ∀ x ∈ l, e.key < x.key := by
  have := (List.pairwise_append.1 h).2.1
  exact (List.pairwise_cons.1 this).1
/-- is the least key not yet out? -/
def fresh (out : List Ent) (k : Int) : Bool := match out.getLast? with | none => true | some o => !(o.key == k)
theorem fresh_no {out : List Ent} {k : Int} (hr : RisE out) (hle : ∀ o ∈ out, o.key ≤ k) (h : fresh out k = true) : ∀ o ∈ out, o.key < k := by
  intro o ho
  rcases List.eq_nil_or_concat out with rfl | ⟨l, z, rfl⟩
  · simp at ho
  · rw [List.concat_eq_append] at *
    unfold fresh at h
    rw [List.getLast?_append] at h
    have hz : z.key ≠ k := by simpa using h
    have hz2 := hle z (by simp)
    rcases List.mem_append.1 ho with ho | ho
    · have := (List.pairwise_append.1 hr).2.2 o ho z (by simp)
      omega
    · obtain rfl : o = z := by simpa using ho
      omega
theorem fresh_has {out : List Ent} {k : Int} (h : fresh out k = false) : ∃ o ∈ out, o.key = k := by
  unfold fresh at h
  cases hg : out.getLast? with
  | none => rw [hg] at h; cases h
  | some z =>
    rw [hg] at h
    exact ⟨z, List.mem_of_getLast? hg, by simpa using h⟩
def outOf (out : List Ent) (e : Ent) : List Ent := if fresh out e.key = true then out ++ [e] else out
def nextHd (t : Hd) : List Hd := match t.rest with | [] => [] | e :: l => [⟨e, l, t.age⟩]
theorem MInv.step {rs : List (List Ent)} (hrs : ∀ r ∈ rs, RisE r) {out : List Ent} {t : Hd} {H : List Hd} (h : MInv rs out (t :: H)) (ht : ∀ x ∈ H, hle t x) : MInv rs (outOf out t.e) (nextHd t ++ H) := by
  obtain ⟨h1, h2, h3, h4, h5⟩ := h
  obtain ⟨r, hr, c, hc, hcov⟩ := h3 t (by simp)
  have hrr : RisE r := hrs r (List.mem_of_getElem? hr)
  have hlo := h5 t (by simp)
  have hsub : ∀ o ∈ out, o ∈ outOf out t.e := by
    intro o ho
    unfold outOf
    split
    · exact List.mem_append_left _ ho
    · exact ho
  have hcov' : ∃ o ∈ outOf out t.e, o.key = t.e.key := by
    unfold outOf
    cases hf : fresh out t.e.key
    · rw [if_neg (by simp)]; exact fresh_has hf
    · rw [if_pos rfl]; exact ⟨t.e, by simp, rfl⟩
  have hall : ∀ x ∈ c ++ [t.e], ∃ o ∈ outOf out t.e, o.key = x.key := by
    intro x hx
    rcases List.mem_append.1 hx with hx | hx
    · obtain ⟨o, ho, e⟩ := hcov x hx
      exact ⟨o, hsub o ho, e⟩
    · obtain rfl : x = t.e := by simpa using hx
      exact hcov'
  have hmemo : ∀ o ∈ outOf out t.e, o ∈ out ∨ (o = t.e ∧ fresh out t.e.key = true) := by
    intro o ho
    unfold outOf at ho
    split at ho
    · rename_i hf
      rcases List.mem_append.1 ho with ho | ho
      · exact .inl ho
      · exact .inr ⟨by simpa using ho, hf⟩
    · exact .inl ho
  refine ⟨?_, ?_, ?_, ?_, ?_⟩
  · unfold outOf
    split
    · rename_i hf
      refine List.pairwise_append.2 ⟨h1, List.pairwise_singleton _ _, fun o ho x hx => ?_⟩
      have hx' : x = t.e := by simpa using hx
      rw [hx']
      exact fresh_no h1 hlo hf o ho
    · exact h1
  · intro o ho
    rcases hmemo o ho with ho | ⟨rfl, hf⟩
    · exact h2 o ho
    · have hno := fresh_no h1 hlo hf
      refine newest_at hr (look_mem hrr (by rw [hc]; simp)) ?_
      intro b hb r' hr'
      cases hl : look r' t.e.key with
      | none => rfl
      | some x =>
        exfalso
        obtain ⟨hxk, hxr⟩ := look_key hl
        rcases h4 b r' hr' with ⟨g, hg, hga⟩ | hcovd
        · obtain ⟨r2, hr2, c2, hc2, hcov2⟩ := h3 g hg
          rw [hga, hr'] at hr2
          obtain rfl : r' = r2 := by simpa using hr2
          rw [hc2] at hxr
          rcases List.mem_append.1 hxr with hx | hx
          · obtain ⟨o', ho', e⟩ := hcov2 x hx
            have := hno o' ho'
            omega
          · have hge : g.e.key ≤ x.key := by
              rcases List.mem_cons.1 hx with rfl | hx
              · exact Int.le_refl _
              · have := ris_part (hc2 ▸ hrs r' (List.mem_of_getElem? hr')) x hx
                omega
            rcases List.mem_cons.1 hg with rfl | hg
            · omega
            · have := ht g hg
              unfold hle at this
              omega
        · obtain ⟨o', ho', e⟩ := hcovd x hxr
          have := hno o' ho'
          omega
  · intro g hg
    rcases List.mem_append.1 hg with hg | hg
    · unfold nextHd at hg
      cases hrest : t.rest with
      | nil => rw [hrest] at hg; simp at hg
      | cons e2 l2 =>
        rw [hrest] at hg
        obtain rfl : g = ⟨e2, l2, t.age⟩ := by simpa using hg
        exact ⟨r, hr, c ++ [t.e], by rw [hc, hrest]; simp, hall⟩
    · obtain ⟨r2, hr2, c2, hc2, hcov2⟩ := h3 g (by simp [hg])
      exact ⟨r2, hr2, c2, hc2, fun x hx => by obtain ⟨o, ho, e⟩ := hcov2 x hx; exact ⟨o, hsub o ho, e⟩⟩
  · intro a r' hr'
    rcases h4 a r' hr' with ⟨g, hg, hga⟩ | hcovd
    · rcases List.mem_cons.1 hg with rfl | hg
      · cases hrest : g.rest with
        | nil =>
          right
          rw [hga, hr'] at hr
          obtain rfl : r' = r := by simpa using hr
          rw [hc, hrest]
          exact hall
        | cons e2 l2 =>
          left
          refine ⟨⟨e2, l2, g.age⟩, ?_, hga⟩
          unfold nextHd
          rw [hrest]
          simp
      · exact .inl ⟨g, by simp [hg], hga⟩
    · exact .inr fun x hx => by obtain ⟨o, ho, e⟩ := hcovd x hx; exact ⟨o, hsub o ho, e⟩
  · intro g hg o ho
    have hto : o.key ≤ t.e.key := by
      rcases hmemo o ho with ho | ⟨rfl, _⟩
      · exact hlo o ho
      · exact Int.le_refl _
    rcases List.mem_append.1 hg with hg | hg
    · unfold nextHd at hg
      cases hrest : t.rest with
      | nil => rw [hrest] at hg; simp at hg
      | cons e2 l2 =>
        rw [hrest] at hg
        obtain rfl : g = ⟨e2, l2, t.age⟩ := by simpa using hg
        have := ris_part (hc ▸ hrr) e2 (by rw [hrest]; simp)
        show o.key ≤ e2.key
        omega
    · have h6 := ht g hg
      unfold Go.Proofs.YtolclahkfmplfaaGreatDoor.hle at h6
      omega
theorem MInv.done {rs : List (List Ent)} (hrs : ∀ r ∈ rs, RisE r) {out : List Ent} (h : MInv rs out []) : out = allE rs := by
  obtain ⟨h1, h2, h3, h4, h5⟩ := h
  refine all_unique hrs h1 fun k => ?_
  cases hl : look out k with
  | some e =>
    obtain ⟨hk, hm⟩ := look_key hl
    rw [← hk, h2 e hm]
  | none =>
    cases hn : newest rs k with
    | none => rfl
    | some e =>
      obtain ⟨a, r, hr, her, hk⟩ := newest_mem hn
      rcases h4 a r hr with ⟨g, hg, _⟩ | hcov
      · simp at hg
      · obtain ⟨o, ho, e2⟩ := hcov e her
        have := look_mem h1 ho
        rw [e2, hk, hl] at this
        cases this

/-- the heads of runs, by age -/
def headsE : Nat → List (List Ent) → List Hd
  | _, [] => []
  | i, [] :: rs => headsE (i + 1) rs
  | i, (e :: l) :: rs => ⟨e, l, i⟩ :: headsE (i + 1) rs
theorem heads_append : ∀ (rs qs : List (List Ent)) (i : Nat), headsE i (rs ++ qs) = headsE i rs ++ headsE (i + rs.length) qs
  | [], qs, i => rfl
  | [] :: rs, qs, i => by rw [List.cons_append, headsE, headsE, heads_append rs qs (i + 1)]; simp; congr 1; omega
  | (e :: l) :: rs, qs, i => by rw [List.cons_append, headsE, headsE, heads_append rs qs (i + 1)]; simp; congr 1; omega
theorem heads_mem : ∀ {rs : List (List Ent)} {i : Nat} {h : Hd}, h ∈ headsE i rs → i ≤ h.age ∧ rs[h.age - i]? = some (h.e :: h.rest)
  | [], _, _, hm => by simp [headsE] at hm
  | [] :: rs, i, h, hm => by
    rw [headsE] at hm
    obtain ⟨h1, h2⟩ := heads_mem hm
    refine ⟨by omega, ?_⟩
    rw [show h.age - i = (h.age - (i + 1)) + 1 by omega]
    simpa using h2
  | (e :: l) :: rs, i, h, hm => by
    rw [headsE] at hm
    rcases List.mem_cons.1 hm with rfl | hm
    · exact ⟨Nat.le_refl _, by simp⟩
    · obtain ⟨h1, h2⟩ := heads_mem hm
      refine ⟨by omega, ?_⟩
      rw [show h.age - i = (h.age - (i + 1)) + 1 by omega]
      simpa using h2
theorem heads_all : ∀ {rs : List (List Ent)} {i a : Nat} {e : Ent} {l : List Ent}, rs[a]? = some (e :: l) → (⟨e, l, i + a⟩ : Hd) ∈ headsE i rs
  | [], _, _, _, _, h => by simp at h
  | r :: rs, i, 0, e, l, h => by
    have : r = e :: l := by simpa using h
    subst this
    rw [headsE]; simp
  | r :: rs, i, a + 1, e, l, h => by
    have h2 := heads_all (rs := rs) (i := i + 1) (a := a) (by simpa using h)
    rw [show i + 1 + a = i + (a + 1) by omega] at h2
    cases r with
    | nil => rw [headsE]; exact h2
    | cons x y => rw [headsE]; simp [h2]
theorem MInv.start (rs : List (List Ent)) : MInv rs [] (headsE 0 rs) := by
  refine ⟨RisE.nil, by simp, ?_, ?_, by simp⟩
  · intro h hh
    obtain ⟨_, h2⟩ := heads_mem hh
    exact ⟨_, by simpa using h2, [], rfl, by simp⟩
  · intro a r hr
    cases r with
    | nil => exact .inr (by simp)
    | cons e l =>
      have := heads_all (i := 0) hr
      rw [Nat.zero_add] at this
      exact .inl ⟨_, this, rfl⟩
end Go.Proofs.YtolclahkfmplfaaGreatDoor

/- Contracts of kway's pile of heads: less, down, settle, pop. -/
namespace Go.Proofs.YtolclahkfmplfaaGreatDoor
open Go Go.RowKit
set_option maxRecDepth 100000

/-- a head in memory: what is left of a run as a slice, and its age -/
structure Hm where
  h : Hd
  A : Option Addr
  n : Nat
  c : Nat
def Hm.cells (m : Hm) : List Value := [.slice m.A m.n m.c, .int .i64 m.h.age]
theorem Hm.cells_length (m : Hm) : m.cells.length = 2 := rfl
/-- what it leans on stands in the base world -/
structure Hm.Ok (w0 : World) (m : Hm) : Prop where
  sl : Sl w0 m.A ((m.h.e :: m.h.rest).flatMap Ent.cells)
  n : m.n = m.h.rest.length + 1
  nc : m.n ≤ m.c
  c : m.c ≤ maxLen
theorem Hm.Ok.at0 {w0 w : World} {m : Hm} (h : m.Ok w0) (hb : Below w0.heap.size w0 w) : ∃ b off, m.A = some ⟨b, off, none⟩ ∧ b < w0.heap.size ∧ w.cell? ⟨b, off, none⟩ = some (.int .i64 m.h.e.key) ∧
    w.cell? ⟨b, off + 1, none⟩ = some (.int .i64 m.h.e.val) ∧ w.cell? ⟨b, off + 2, none⟩ = some (.bool m.h.e.dead) := by
  obtain ⟨b, off, h1, h2, h3, h4, h5⟩ := h.sl.entB hb 0 (by simp)
  exact ⟨b, off, h1, h2, by simpa using h3, by simpa using h4, by simpa using h5⟩

set_option maxHeartbeats 1000000 in
theorem less_any (w0 w : World) (a b : Hm) (ha : a.Ok w0) (hb : b.Ok w0) (hB : Below w0.heap.size w0 w) :
    Calls Tryz.prog 88 #[.agg #[.slice a.A a.n a.c, .int .i64 a.h.age], .agg #[.slice b.A b.n b.c, .int .i64 b.h.age]] w
      fun r w' => r = .returned (.bool (hlt a.h b.h)) ∧ Below w.heap.size w w' := by
  obtain ⟨W, hW⟩ : ∃ W, (w.alloc (.cells #[.slice a.A a.n a.c, .int .i64 a.h.age] 141)).alloc (.cells #[.slice b.A b.n b.c, .int .i64 b.h.age] 141) = W := ⟨_, rfl⟩
  have hbW : Below w.heap.size w W := by rw [← hW]; exact ((Below.refl _ _).alloc (Nat.le_refl _) _).alloc (by simp) _
  have b1 : Blk W w.heap.size 141 #[.slice a.A a.n a.c, .int .i64 a.h.age] := by rw [← hW]; exact (Blk.new w _ _).alloc _
  have b2 : Blk W (w.heap.size + 1) 141 #[.slice b.A b.n b.c, .int .i64 b.h.age] := by
    rw [← hW]; have := Blk.new (w.alloc (.cells #[.slice a.A a.n a.c, .int .i64 a.h.age] 141)) 141 #[.slice b.A b.n b.c, .int .i64 b.h.age]
    rwa [World.size_alloc] at this
  have hBW := bext hB (hbW.mono (Nat.le_refl _))
  obtain ⟨ba, oa, eA, la, ka, _, _⟩ := ha.at0 hBW
  obtain ⟨bb, ob, eB, lb, kb, _, _⟩ := hb.at0 hBW
  obtain ⟨h, A, n, c⟩ := a
  obtain ⟨h', A', n', c'⟩ := b
  obtain ⟨e, rest, age⟩ := h
  obtain ⟨e', rest', age'⟩ := h'
  dsimp only at *
  subst eA eB
  have na := ha.n
  have nb := hb.n
  dsimp only at na nb
  have i1 : (0 : Int) < (n : Int) := by omega
  have i2 : (0 : Int) < (n' : Int) := by omega
  have c1 : W.cell? ⟨w.heap.size, 0, none⟩ = some (.slice (some ⟨ba, oa, none⟩) n c) := b1.cell 0
  have c2 : W.cell? ⟨w.heap.size, 1, none⟩ = some (.int .i64 (age : Nat)) := b1.cell 1
  have c3 : W.cell? ⟨w.heap.size + 1, 0, none⟩ = some (.slice (some ⟨bb, ob, none⟩) n' c') := b2.cell 0
  have c4 : W.cell? ⟨w.heap.size + 1, 1, none⟩ = some (.int .i64 (age' : Nat)) := b2.cell 1
  clear ha hb na nb b1 b2 la lb hB hBW
  obtain ⟨E, hE⟩ : ∃ E, hlt ⟨e, rest, age⟩ ⟨e', rest', age'⟩ = E := ⟨_, rfl⟩
  rw [hE]
  by_cases hk : e.key = e'.key
  · have HE : Hid (decide (age < age') = E) := by
      show _ = _
      rw [← hE]; unfold hlt; rw [if_pos hk]
    clear hE
    rw [hk] at ka
    go_enter Tryz.func88, Tryz.ntmps88
    go_wp2_with fail
    try rw [hW]
    go_quiet (fail)
    go_wp2
    go_ret
    exact ⟨ret_bool HE.out, bdrew hbW _⟩
  · have HE : Hid (decide (e.key < e'.key) = E) := by
      show _ = _
      rw [← hE]; unfold hlt; rw [if_neg hk]
    clear hE
    go_enter Tryz.func88, Tryz.ntmps88
    go_wp2_with fail
    try rw [hW]
    go_quiet (fail)
    go_wp2
    go_quiet (fail)
    go_wp2
    go_ret
    exact ⟨ret_bool HE.out, bdrew (bdrew hbW _) _⟩

/-- the heads in memory -/
def HeadsAt (w : World) (g : Nat) (Hs : List Hm) : Prop := ∃ cur, Blk w g 141 cur ∧ cur.toList.take (Hs.length * 2) = Hs.flatMap Hm.cells ∧ Hs.length * 2 ≤ cur.size
theorem HeadsAt.lt {w : World} {g : Nat} {Hs : List Hm} (h : HeadsAt w g Hs) : g < w.heap.size := by obtain ⟨cur, hb, _⟩ := h; exact hb.lt
theorem HeadsAt.mod {S : Nat → Prop} {w w' : World} {g : Nat} {Hs : List Hm} (h : HeadsAt w g Hs) (hm : Mod S w w') (hn : ¬ S g) : HeadsAt w' g Hs := by
  obtain ⟨cur, hb, r⟩ := h; exact ⟨cur, hb.mod hm hn, r⟩
theorem HeadsAt.below {B : Nat} {w w' : World} {g : Nat} {Hs : List Hm} (h : HeadsAt w g Hs) (hm : Below B w w') (hn : g < B) : HeadsAt w' g Hs := by
  obtain ⟨cur, hb, r⟩ := h; exact ⟨cur, hb.below hm hn, r⟩
theorem HeadsAt.frozen {w : World} {g : Nat} {Hs : List Hm} (h : HeadsAt w g Hs) (i : Nat) : w.frozen? ⟨g, i, none⟩ = false := by obtain ⟨cur, hb, _⟩ := h; exact hb.frozen i
theorem HeadsAt.cells {w : World} {g : Nat} {Hs : List Hm} (h : HeadsAt w g Hs) (i : Nat) (hi : i < Hs.length) :
    w.cell? ⟨g, i * 2, none⟩ = some (.slice (Hs[i]'hi).A (Hs[i]'hi).n (Hs[i]'hi).c) ∧ w.cell? ⟨g, i * 2 + 1, none⟩ = some (.int .i64 (Hs[i]'hi).h.age) := by
  obtain ⟨cur, hb, ht, hs⟩ := h
  have hg : ∀ j, j < 2 → cur[i * 2 + j]? = ((Hs[i]'hi).cells)[j]? := by
    intro j hj
    have := flat_get Hm.cells 2 Hm.cells_length Hs i j hi hj
    rw [← ht, List.getElem?_take, if_pos (by omega)] at this
    rw [← this]; simp
  exact ⟨(hb.cell _).trans ((hg 0 (by omega)).trans rfl), (hb.cell _).trans ((hg 1 (by omega)).trans rfl)⟩
theorem take_put {cur : Array Value} {Hs : List Hm} (ht : cur.toList.take (Hs.length * 2) = Hs.flatMap Hm.cells) (hs : Hs.length * 2 ≤ cur.size) (i : Nat) (hi : i < Hs.length) (m : Hm) :
    ((cur.setIfInBounds (i * 2) (.slice m.A m.n m.c)).setIfInBounds (i * 2 + 1) (.int .i64 m.h.age)).toList.take ((Hs.set i m).length * 2) = (Hs.set i m).flatMap Hm.cells := by
  rw [List.length_set]
  simp only [Array.toList_setIfInBounds]
  refine List.ext_getElem? fun j => ?_
  rw [List.getElem?_take]
  by_cases hj : j < Hs.length * 2
  · rw [if_pos hj]
    obtain ⟨q, r, rfl, hr⟩ : ∃ q r, j = q * 2 + r ∧ r < 2 := ⟨j / 2, j % 2, by omega, by omega⟩
    have hq : q < Hs.length := by omega
    rw [flat_get Hm.cells 2 Hm.cells_length (Hs.set i m) q r (by simpa using hq) hr]
    have ho := flat_get Hm.cells 2 Hm.cells_length Hs q r hq hr
    rw [← ht, List.getElem?_take, if_pos hj] at ho
    by_cases h1 : i = q
    · subst h1
      rw [List.getElem_set_self]
      have h2 : r = 0 ∨ r = 1 := by omega
      rcases h2 with rfl | rfl
      · rw [List.getElem?_set_ne (by omega), Nat.add_zero, List.getElem?_set_self (by simp; omega)]; rfl
      · rw [List.getElem?_set_self (by simp; omega)]; rfl
    · rw [List.getElem?_set_ne (by omega), List.getElem?_set_ne (by omega), List.getElem_set_ne h1, ho]
  · rw [if_neg hj, List.getElem?_eq_none]
    rw [flat_length Hm.cells 2 Hm.cells_length, List.length_set]; omega
theorem HeadsAt.put {w : World} {g : Nat} {Hs : List Hm} (h : HeadsAt w g Hs) (i : Nat) (hi : i < Hs.length) (m : Hm) :
    HeadsAt ((w.setCell ⟨g, i * 2, none⟩ (.slice m.A m.n m.c)).setCell ⟨g, i * 2 + 1, none⟩ (.int .i64 m.h.age)) g (Hs.set i m) := by
  obtain ⟨cur, hb, ht, hs⟩ := h
  exact ⟨_, (hb.set_ _ _).set_ _ _, take_put ht hs i hi m, by simpa using hs⟩
theorem HeadsAt.take {w : World} {g : Nat} {Hs : List Hm} (h : HeadsAt w g Hs) (k : Nat) : HeadsAt w g (Hs.take k) := by
  obtain ⟨cur, hb, ht, hs⟩ := h
  refine ⟨cur, hb, ?_, by simp; omega⟩
  refine List.ext_getElem? fun j => ?_
  rw [List.getElem?_take]
  by_cases hj : j < (Hs.take k).length * 2
  · rw [if_pos hj]
    obtain ⟨q, r, rfl, hr⟩ : ∃ q r, j = q * 2 + r ∧ r < 2 := ⟨j / 2, j % 2, by omega, by omega⟩
    have hq : q < (Hs.take k).length := by omega
    have hq2 : q < Hs.length := by simp at hq; omega
    rw [flat_get Hm.cells 2 Hm.cells_length (Hs.take k) q r hq hr]
    have ho := flat_get Hm.cells 2 Hm.cells_length Hs q r hq2 hr
    rw [← ht, List.getElem?_take, if_pos (by omega)] at ho
    rw [ho, List.getElem_take]
  · rw [if_neg hj, List.getElem?_eq_none]
    rw [flat_length Hm.cells 2 Hm.cells_length]; omega

/-- the function value that tells which head is less -/
abbrev lessV : Value := .func (.func 88) #[] #[]

/-- what down leaves -/
def Sunk (_p g : Nat) (Hs : List Hm) (i0 : Nat) (w : World) (r : Ending) (w' : World) : Prop :=
  (∃ v, r = .returned v) ∧ ∃ Hs', Hs'.Perm Hs ∧ HeapFrom (Hs'.map Hm.h) i0 ∧ HeadsAt w' g Hs' ∧ Mod (fun b => b = g) w w'

set_option maxHeartbeats 4000000 in
theorem down_any (w0 w : World) (p g c n i i0 : Nat) (Hs : List Hm) (hn : Hs.length = n) (hmx : n ≤ 1099511627776) (hi : i ≤ n) (h0 : i0 ≤ i)
    (hp : Blk w p 145 #[.slice (some ⟨g, 0, none⟩) n c, lessV]) (hg : HeadsAt w g Hs) (hpg : p ≠ g) (hok : ∀ m ∈ Hs, m.Ok w0) (hB : Below w0.heap.size w0 w)
    (hgB : w0.heap.size ≤ g) (_hpB : w0.heap.size ≤ p) (hs : Sinks (Hs.map Hm.h) i0 i) :
    Calls Tryz.prog 91 #[.pointer (some ⟨p, 0, none⟩), .int .i64 i] w (Sunk p g Hs i0 w) := by
  have hbl := hB.size
  go_enter Tryz.func91, Tryz.ntmps91
  go_wp2
  go_loopw [1] (fun v wr => ∃ (k : Nat) (H : List Hm), k ≤ n ∧ i0 ≤ k ∧ v = .int .i64 k ∧ H.Perm Hs ∧ Mod (fun b => b = g) w wr ∧ HeadsAt wr g H ∧ Hid (Sinks (H.map Hm.h) i0 k)) (fun v _ => n - (intOf v).toNat)
  case atStart => exact ⟨i, Hs, hi, h0, rfl, List.Perm.refl _, Mod.refl _ _, hg, hs⟩
  case round =>
    obtain ⟨k, H, hk, h0k, rfl, hperm, hm, hH, hsk⟩ := hrel
    have hHn : H.length = n := hperm.length_eq.trans hn
    have hokH : ∀ m ∈ H, m.Ok w0 := fun m hm => hok m (hperm.mem_iff.1 hm)
    have hBr : Below w0.heap.size w0 wr := hB.trans (hm.below hbl (by intro k h; omega))
    have hpr := hp.mod hm (by omega)
    have p0 : wr.cell? ⟨p, 0, none⟩ = some (.slice (some ⟨g, 0, none⟩) n c) := hpr.cell 0
    have p1 : wr.cell? ⟨p, 1, none⟩ = some lessV := hpr.cell 1
    have HP := Lib.hid hperm
    have HO := Lib.hid hokH
    have HN := Lib.hid hHn
    clear hperm hokH hok hHn hpr
    by_cases hlt : 2 * k + 1 < n
    · obtain ⟨q, hq⟩ : ∃ q, q = 2 * k + 1 := ⟨_, rfl⟩
      have hqi : 2 * (k : Int) + 1 = (q : Int) := by omega
      have hqn : q < n := by omega
      have q0 : (0 : Int) ≤ (q : Int) := by omega
      have q1 : (q : Int) < (n : Int) := by omega
      have k0 : (0 : Int) ≤ (k : Int) := by omega
      have k1 : (k : Int) < (n : Int) := by omega
      have hqH : q < H.length := by rw [HN.out]; exact hqn
      have hkH : k < H.length := by rw [HN.out]; omega
      have HH := Lib.hid hH
      have HB := Lib.hid hBr
      have HQ := Lib.hid hq
      have gl := hH.lt
      have pl : p < wr.heap.size := Nat.lt_of_not_le fun hle => by rw [World.cell?, Array.getElem?_eq_none hle] at p0; cases p0
      clear hH hBr hq hlt
      have hnq : decide (n ≤ q) = false := decide_eq_false (by omega)
      go_upto_region 2 with fail
      go_cut [44] from 15 to 44 (fun v wx => ∃ E : Bool, v = .bool E ∧ Hid (∀ (hr : q + 1 < H.length), hlt (H[q + 1]'hr).h (H[q]'hqH).h = E) ∧ Hid (E = true → q + 1 < H.length) ∧ Below wr.heap.size wr wx)
      case first =>
        obtain ⟨a1, a2⟩ := HH.out.cells q hqH
        obtain ⟨mq, hmq⟩ : ∃ m, H[q]'hqH = m := ⟨_, rfl⟩
        rw [hmq] at a1 a2
        have HMQ := Lib.hid hmq
        have OQ := Lib.hid (HO.out _ (hmq ▸ List.getElem_mem hqH))
        clear hmq
        by_cases h2 : q + 1 < n
        · obtain ⟨r, hr⟩ : ∃ r, r = q + 1 := ⟨_, rfl⟩
          have hri : (q : Int) + 1 = (r : Int) := by omega
          have hwr : IntKind.i64.wrap (r : Int) = (r : Int) := IntWalk.i64_in _ (by omega)
          have r0 : (0 : Int) ≤ (r : Int) := by omega
          have r1 : (r : Int) < (n : Int) := by omega
          have hrH : r < H.length := by rw [HN.out]; omega
          obtain ⟨c1, c2⟩ := HH.out.cells r hrH
          obtain ⟨mr, hmr⟩ : ∃ m, H[r]'hrH = m := ⟨_, rfl⟩
          rw [hmr] at c1 c2
          have HMR := Lib.hid hmr
          have HR := Lib.hid hr
          have OR := Lib.hid (HO.out _ (hmr ▸ List.getElem_mem hrH))
          have hrl : decide ((r : Int) < (n : Int)) = true := decide_eq_true r1
          obtain ⟨E, hE⟩ : ∃ E, hlt mr.h mq.h = E := ⟨_, rfl⟩
          have HE := Lib.hid hE
          have HEE : Hid (∀ (hr : q + 1 < H.length), hlt (H[q + 1]'hr).h (H[q]'hqH).h = E) := by
            show ∀ _, _
            intro hr2
            subst hr
            rw [hmr, HMQ.out]; exact hE
          clear hE hmr hr h2
          go_region_held3 (fun w' => (∀ bq jq, bq < wr.heap.size → w'.cell? ⟨bq, jq, none⟩ = wr.cell? ⟨bq, jq, none⟩) ∧ (∀ bq jq, bq < wr.heap.size → w'.frozen? ⟨bq, jq, none⟩ = wr.frozen? ⟨bq, jq, none⟩) ∧ wr.heap.size ≤ w'.heap.size ∧ Below wr.heap.size wr w') ((with_reducible first | exact SB.init | exact SB.init0 | exact SB.below (by assumption) (by assumption) | assumption))
            (first
                | (go_at_call 88; refine (less_any w0 _ mr mq OR.out OQ.out (bext HB.out (SB.bel (by assumption)))).mono ?_; rw [HE.out]; rintro e21 v21 ⟨rfl, hv21⟩; have hl21 := SB.le hv21 (by assumption); obtain ⟨hc21, hz21, hs21⟩ := wfacts hv21)
                | fail "no arm")
          all_goals
            go_wp2_with fail
            go_meet
            exact ⟨E, by simp, HEE, fun _ => by have := HR.out; omega, SB.bel (by assumption)⟩
        · have hwr : IntKind.i64.wrap ((q : Int) + 1) = (n : Int) := (IntWalk.i64_in _ (by omega)).trans (by omega)
          have hrl : decide ((n : Int) < (n : Int)) = false := decide_eq_false (by omega)
          go_quiet (fail)
          go_wp2_with fail
          go_meet
          exact ⟨false, by simp, fun hr => absurd hr (by have := HN.out; omega), fun h => (by cases h), bdrew (Below.refl _ _) _⟩
      case rest =>
       obtain ⟨E, rfl, hE1, hE2, hbz⟩ := hcut
       go_upto_if 44 with fail
       go_cut [4] from 45 to 46 (fun v wx => ∃ z : Nat, v = .int .i64 z ∧ Hid (∃ hz : z < H.length, (z = 2 * k + 1 ∨ z = 2 * k + 2) ∧ ∀ ci (hc : ci < H.length), (ci = 2 * k + 1 ∨ ci = 2 * k + 2) → hle (H[z]'hz).h (H[ci]'hc).h) ∧ Below wr.heap.size wr wx)
       case first =>
        cases E
        · go_wp2_with fail
          go_meet
          refine ⟨q, by simp, ⟨hqH, .inl HQ.out, fun ci hc hcc => ?_⟩, hbz⟩
          have e1 := HQ.out
          rcases (show ci = q ∨ ci = q + 1 by omega) with rfl | rfl
          · exact hle_refl _
          · exact hle_of_not (hE1.out hc)
        · have hr := hE2.out rfl
          have hri : IntKind.i64.wrap ((q : Int) + 1) = (q : Int) + 1 := IntWalk.i64_in _ (by omega)
          go_wp2_with fail
          go_meet
          refine ⟨q + 1, by simp, ⟨hr, .inr (by have := HQ.out; omega), fun ci hc hcc => ?_⟩, hbz⟩
          have e1 := HQ.out
          rcases (show ci = q ∨ ci = q + 1 by omega) with rfl | rfl
          · exact hle_of_lt (hE1.out hr)
          · exact hle_refl _
       case rest =>
        clear hbz hE1 hE2
        obtain ⟨z, rfl, hz, hbz⟩ := hcut
        obtain ⟨hzH, hzk, hzm⟩ := hz.out
        have hHc := HH.out.below hbz gl
        have p0' : wc.cell? ⟨p, 0, none⟩ = some (.slice (some ⟨g, 0, none⟩) n c) := ((bcell hbz).1 p _ pl).trans p0
        have p1' : wc.cell? ⟨p, 1, none⟩ = some lessV := ((bcell hbz).1 p _ pl).trans p1
        obtain ⟨a1, a2⟩ := hHc.cells z hzH
        obtain ⟨b1, b2⟩ := hHc.cells k hkH
        obtain ⟨mz, hmz⟩ : ∃ m, H[z]'hzH = m := ⟨_, rfl⟩
        obtain ⟨mk, hmk⟩ : ∃ m, H[k]'hkH = m := ⟨_, rfl⟩
        rw [hmz] at a1 a2
        rw [hmk] at b1 b2
        have HMZ := Lib.hid hmz
        have HMK := Lib.hid hmk
        have OZ := Lib.hid (HO.out _ (hmz ▸ List.getElem_mem hzH))
        have OK := Lib.hid (HO.out _ (hmk ▸ List.getElem_mem hkH))
        have z0 : (0 : Int) ≤ (z : Int) := by omega
        have z1 : (z : Int) < (n : Int) := by have := HN.out; omega
        have HB2 := Lib.hid (bext HB.out hbz)
        have HZK := Lib.hid hzk
        have HZM := Lib.hid hzm
        have HHC := Lib.hid hHc
        have gl2 := hHc.lt
        have pl2 : p < wc.heap.size := Nat.lt_of_lt_of_le pl hbz.size
        have HM := Lib.hid (hm.ext hbz)
        obtain ⟨E, hE⟩ : ∃ E, hlt mz.h mk.h = E := ⟨_, rfl⟩
        have HE := Lib.hid hE
        clear hE hmz hmk hzk hzm hHc p0 p1 hbz hz
        go_upto_region 4 with fail
        cases E
        · go_region_held3 (fun w' => (∀ bq jq, bq < wc.heap.size → w'.cell? ⟨bq, jq, none⟩ = wc.cell? ⟨bq, jq, none⟩) ∧ (∀ bq jq, bq < wc.heap.size → w'.frozen? ⟨bq, jq, none⟩ = wc.frozen? ⟨bq, jq, none⟩) ∧ wc.heap.size ≤ w'.heap.size ∧ Below wc.heap.size wc w') ((with_reducible first | exact SB.init | exact SB.init0 | exact SB.below (by assumption) (by assumption) | assumption))
            (first
              | (go_at_call 88; refine (less_any w0 _ mz mk OZ.out OK.out (bext HB2.out (SB.bel (by assumption)))).mono ?_; rw [HE.out]; rintro e31 v31 ⟨rfl, hv31⟩; have hl31 := SB.le hv31 (by assumption); obtain ⟨hc31, hz31, hs31⟩ := wfacts hv31)
              | fail "no arm")
          all_goals
            go_wp2_with fail
            refine bodyPost_ret (results_none rfl _ _ _) rfl ?_
            refine ⟨⟨_, rfl⟩, H, HP.out, hsk.out.done fun ci hc hi' hcc => ?_, HHC.out.below (SB.bel (by assumption)) gl2, HM.out.ext (SB.bel (by assumption))⟩
            simp at hc
            have h1 : hle mk.h mz.h := hle_of_not HE.out
            have h2 := HZM.out ci hc hcc
            rw [HMZ.out] at h2
            rw [List.getElem_map, List.getElem_map, HMK.out]
            exact hle_trans h1 h2
        · go_region_held3 (fun w' => (∀ bq jq, bq < wc.heap.size → w'.cell? ⟨bq, jq, none⟩ = wc.cell? ⟨bq, jq, none⟩) ∧ (∀ bq jq, bq < wc.heap.size → w'.frozen? ⟨bq, jq, none⟩ = wc.frozen? ⟨bq, jq, none⟩) ∧ wc.heap.size ≤ w'.heap.size ∧ Below wc.heap.size wc w') ((with_reducible first | exact SB.init | exact SB.init0 | exact SB.below (by assumption) (by assumption) | assumption))
            (first
              | (go_at_call 88; refine (less_any w0 _ mz mk OZ.out OK.out (bext HB2.out (SB.bel (by assumption)))).mono ?_; rw [HE.out]; rintro e31 v31 ⟨rfl, hv31⟩; have hl31 := SB.le hv31 (by assumption); obtain ⟨hc31, hz31, hs31⟩ := wfacts hv31)
              | fail "no arm")
          all_goals
            have hbv : Below wc.heap.size wc v31 := SB.bel (by assumption)
            have P0 : v31.cell? ⟨p, 0, none⟩ = some (.slice (some ⟨g, 0, none⟩) n c) := ((bcell hbv).1 p _ pl2).trans p0'
            have A1 := ((bcell hbv).1 g _ gl2).trans a1
            have A2 := ((bcell hbv).1 g _ gl2).trans a2
            have B1 := ((bcell hbv).1 g _ gl2).trans b1
            have B2 := ((bcell hbv).1 g _ gl2).trans b2
            have hHv := HHC.out.below hbv gl2
            have F1 := hHv.frozen (z * 2)
            have F2 := hHv.frozen (z * 2 + 1)
            have F3 := hHv.frozen (k * 2)
            have F4 := hHv.frozen (k * 2 + 1)
            have HHV := Lib.hid hHv
            have HMV := Lib.hid (HM.out.ext hbv)
            have n1 : ¬ z = k := by have := HZK.out; omega
            have n2 : ¬ k = z := by have := HZK.out; omega
            have n3 : ¬ z * 2 = k * 2 + 1 := by omega
            have n4 : ¬ z * 2 + 1 = k * 2 := by omega
            have n5 : ¬ k * 2 = z * 2 + 1 := by omega
            have n6 : ¬ k * 2 + 1 = z * 2 := by omega
            rename_i hHd
            clear hHd p0' p1' a1 a2 b1 b2 hc31 hz31 hs31 hl31 hv31 hbv hHv
            go_upto_region 5 with fail
            go_region
            all_goals
              go_wp2_with fail
              refine ⟨⟨z, (H.set k mz).set z mk, by omega, by have := HZK.out; omega, rfl, ?_, ?_, ?_, ?_⟩, by simp [intOf]; have := HZK.out; omega⟩
              · refine List.Perm.trans ?_ HP.out
                rw [← HMZ.out, ← HMK.out]
                exact List.set_set_perm hkH hzH
              · exact ((((HMV.out.setCell (p := ⟨g, k * 2, none⟩) rfl _).setCell (p := ⟨g, k * 2 + 1, none⟩) rfl _).setCell (p := ⟨g, z * 2, none⟩) rfl _).setCell (p := ⟨g, z * 2 + 1, none⟩) rfl _).drew
              · exact (HHV.out.put k hkH mz).put z (by simpa using hzH) mk
              · have hk' : k < (H.map Hm.h).length := by simpa using hkH
                have hz' : z < (H.map Hm.h).length := by simpa using hzH
                have h1 := hsk.out.step h0k hk' hz' HZK.out (by rw [List.getElem_map, List.getElem_map, HMZ.out, HMK.out]; exact HE.out) (fun ci hc hcc => by
                  rw [List.getElem_map, List.getElem_map]
                  exact HZM.out ci (by simpa using hc) hcc)
                have h2 : swapL (H.map Hm.h) k z hk' hz' = ((H.set k mz).set z mk).map Hm.h := by
                  unfold swapL
                  rw [List.map_set, List.map_set, List.getElem_map, List.getElem_map, HMZ.out, HMK.out]
                rw [h2] at h1
                exact h1
    · go_wp2
      refine bodyPost_ret (results_none rfl _ _ _) rfl ?_
      refine ⟨⟨_, rfl⟩, H, HP.out, hsk.out.done fun c hc hi' hcc => ?_, hH, hm⟩
      simp [HN.out] at hc
      omega
end Go.Proofs.YtolclahkfmplfaaGreatDoor

/- Contracts of kway's pile of heads: settle, pop. -/
namespace Go.Proofs.YtolclahkfmplfaaGreatDoor
open Go Go.RowKit
set_option maxRecDepth 100000

set_option maxHeartbeats 1000000 in
theorem settle_any (w0 w : World) (p g c n : Nat) (Hs : List Hm) (hn : Hs.length = n) (hmx : n ≤ 1099511627776)
    (hp : Blk w p 145 #[.slice (some ⟨g, 0, none⟩) n c, lessV]) (hg : HeadsAt w g Hs) (hpg : p ≠ g) (hok : ∀ m ∈ Hs, m.Ok w0) (hB : Below w0.heap.size w0 w)
    (hgB : w0.heap.size ≤ g) (hpB : w0.heap.size ≤ p) :
    Calls Tryz.prog 89 #[.pointer (some ⟨p, 0, none⟩)] w (Sunk p g Hs 0 w) := by
  have hbl := hB.size
  have c0 : w.cell? ⟨p, 0, none⟩ = some (.slice (some ⟨g, 0, none⟩) n c) := hp.cell 0
  obtain ⟨hf, hhf⟩ : ∃ hf, hf = n / 2 := ⟨_, rfl⟩
  have H2 := Lib.hid hhf
  clear hhf
  go_enter Tryz.func89, Tryz.ntmps89
  go_wp2
  go_loopw [2] (fun v wr => ∃ (k : Nat) (H : List Hm), k ≤ hf ∧ v = .int .i64 ((k : Int) - 1) ∧ H.Perm Hs ∧ Mod (fun b => b = g) w wr ∧ HeadsAt wr g H ∧ Hid (HeapFrom (H.map Hm.h) k)) (fun v _ => (intOf v + 1).toNat)
  case atStart => exact ⟨hf, Hs, Nat.le_refl _, by congr 1; have := H2.out; omega, List.Perm.refl _, Mod.refl _ _, hg, heap_leaves (by have := H2.out; simp; omega)⟩
  case round =>
    obtain ⟨k, H, hk, rfl, hperm, hm, hH, hsk⟩ := hrel
    by_cases h0 : k = 0
    · subst h0
      go_wp2
      refine bodyPost_end (results_none rfl _ _ _) rfl ?_
      exact ⟨⟨_, rfl⟩, H, hperm, hsk.out, hH, hm⟩
    · obtain ⟨j, rfl⟩ : ∃ j, k = j + 1 := ⟨k - 1, by omega⟩
      have e1 : ((j + 1 : Nat) : Int) - 1 = (j : Int) := by omega
      rw [e1]
      have j0 : (0 : Int) ≤ (j : Int) := by omega
      have j1 : (j : Int) ≤ 1099511627776 := by have := H2.out; omega
      have HK := Lib.hid hk
      have HP := Lib.hid hperm
      clear e1 h0 hk hperm
      go_wp2_with fail
      refine (down_any w0 wr p g c n j j H (HP.out.length_eq.trans hn) hmx (by have := HK.out; have := H2.out; omega) (Nat.le_refl _) (hp.mod hm (by omega)) hH hpg (fun m hmm => hok m (HP.out.mem_iff.1 hmm)) (hB.trans (hm.below hbl (by intro k h; omega))) hgB hpB (Sinks.start hsk.out)).mono ?_
      rintro e w1 ⟨⟨v, rfl⟩, H', hp', hh', hH', hm'⟩
      go_wp2
      go_roundw
      case rel => exact ⟨j, H', by have := HK.out; omega, by go_num, hp'.trans HP.out, hm.trans hm', hH', hh'⟩
      case measure => first | (simp [intOf]; omega) | simp [intOf]

set_option maxHeartbeats 1000000 in
theorem settle_nil (w : World) (p : Nat) (F : Value) (hp : Blk w p 145 #[.slice none 0 0, F]) :
    Calls Tryz.prog 89 #[.pointer (some ⟨p, 0, none⟩)] w (fun r w' => (∃ v, r = .returned v) ∧ w' = w) := by
  have c0 : w.cell? ⟨p, 0, none⟩ = some (.slice none 0 0) := hp.cell 0
  go_enter Tryz.func89, Tryz.ntmps89
  go_wp2
  go_loopw [2] (fun v wr => v = .int .i64 (-1) ∧ wr = w) (fun v _ => (intOf v + 1).toNat)
  case atStart => exact ⟨by go_num, rfl⟩
  case round =>
    obtain ⟨rfl, rfl⟩ := hrel
    go_wp2
    refine bodyPost_end (results_none rfl _ _ _) rfl ?_
    exact ⟨⟨_, rfl⟩, rfl⟩

/-- what pop leaves -/
def Popped (p g c : Nat) (Hs : List Hm) (w : World) (r : Ending) (w' : World) : Prop :=
  (∃ v, r = .returned v) ∧ ∃ Hs', Hs'.Perm (Hs.drop 1) ∧ HeapFrom (Hs'.map Hm.h) 0 ∧ HeadsAt w' g Hs' ∧ Blk w' p 145 #[.slice (some ⟨g, 0, none⟩) (Hs.length - 1) c, lessV] ∧ Mod (fun b => b = g ∨ b = p) w w'
set_option maxHeartbeats 2000000 in
theorem pop_any (w0 w : World) (p g c n : Nat) (Hs : List Hm) (hn : Hs.length = n + 1) (hmx : n + 1 ≤ 1099511627776) (hc : n + 1 ≤ c)
    (hp : Blk w p 145 #[.slice (some ⟨g, 0, none⟩) (n + 1) c, lessV]) (hg : HeadsAt w g Hs) (hpg : p ≠ g) (hok : ∀ m ∈ Hs.drop 1, m.Ok w0) (hB : Below w0.heap.size w0 w)
    (hgB : w0.heap.size ≤ g) (hpB : w0.heap.size ≤ p) (hh : HeapFrom (Hs.map Hm.h) 0) :
    Calls Tryz.prog 90 #[.pointer (some ⟨p, 0, none⟩)] w (Popped p g c Hs w) := by
  have hbl := hB.size
  have c0 : w.cell? ⟨p, 0, none⟩ = some (.slice (some ⟨g, 0, none⟩) (n + 1) c) := hp.cell 0
  have hnH : n < Hs.length := by omega
  have h0H : 0 < Hs.length := by omega
  obtain ⟨a1, a2⟩ := hg.cells n hnH
  obtain ⟨b1, b2⟩ := hg.cells 0 h0H
  have f1 := hg.frozen 0
  have f2 := hg.frozen 1
  have f3 := hp.frozen 0
  rw [Nat.zero_mul] at b1 b2
  have b1 : w.cell? ⟨g, 0, none⟩ = some (.slice (Hs[0]'h0H).A (Hs[0]'h0H).n (Hs[0]'h0H).c) := b1
  have b2 : w.cell? ⟨g, 1, none⟩ = some (.int .i64 (Hs[0]'h0H).h.age) := b2
  obtain ⟨ml, hml⟩ : ∃ m, Hs[n]'hnH = m := ⟨_, rfl⟩
  obtain ⟨m0, hm0⟩ : ∃ m, Hs[0]'h0H = m := ⟨_, rfl⟩
  rw [hml] at a1 a2
  rw [hm0] at b1 b2
  obtain ⟨N, hN⟩ : ∃ N, N = n + 1 := ⟨_, rfl⟩
  rw [← hN] at c0
  have n0 : (0 : Int) ≤ (n : Int) := by omega
  have n1 : (n : Int) < (N : Int) := by omega
  have n2 : (0 : Int) < (N : Int) := by omega
  have n3 : (N : Int) - 1 = (n : Int) := by omega
  have n4 : n ≤ c := by omega
  have HHG := Lib.hid hg
  go_enter Tryz.func90, Tryz.ntmps90
  go_wp2_with fail
  go_region
  all_goals
    obtain ⟨W, hW⟩ : ∃ W, (((w.setCell ⟨g, 0, none⟩ (.slice ml.A ml.n ml.c)).setCell ⟨g, 1, none⟩ (.int .i64 ml.h.age)).setCell ⟨p, 0, none⟩ (.slice (some ⟨g, 0, none⟩) n c)).drew = W := ⟨_, rfl⟩
    have hHW : HeadsAt W g ((Hs.set 0 ml).take n) := by
      rw [← hW]
      have h1 : HeadsAt ((w.setCell ⟨g, 0, none⟩ (.slice ml.A ml.n ml.c)).setCell ⟨g, 1, none⟩ (.int .i64 ml.h.age)) g (Hs.set 0 ml) := by
        have := HHG.out.put 0 h0H ml
        simpa using this
      obtain ⟨cur, h2, h3⟩ := h1.take n
      exact ⟨cur, (h2.far (p := ⟨p, 0, none⟩) (fun e => hpg e.symm) _), h3⟩
    have hpW : Blk W p 145 #[.slice (some ⟨g, 0, none⟩) n c, lessV] := by
      rw [← hW]
      have h1 := ((hp.far (p := ⟨g, 0, none⟩) hpg (.slice ml.A ml.n ml.c)).far (p := ⟨g, 1, none⟩) hpg (.int .i64 ml.h.age)).set_ 0 (.slice (some ⟨g, 0, none⟩) n c)
      exact h1
    have hmW : Mod (fun b => b = g ∨ b = p) w W := by
      rw [← hW]
      exact ((((Mod.refl _ w).setCell (p := ⟨g, 0, none⟩) (.inl rfl) _).setCell (p := ⟨g, 1, none⟩) (.inl rfl) _).setCell (p := ⟨p, 0, none⟩) (.inr rfl) _).drew
    have hperm : ((Hs.set 0 ml).take n).Perm (Hs.drop 1) := by
      cases Hs with
      | nil => simp at h0H
      | cons a l =>
        have hl : l.length = n := by simpa using hn
        rcases List.eq_nil_or_concat l with rfl | ⟨l', z, rfl⟩
        · simp at hl; subst hl; simp
        · simp at hl
          subst hl
          rw [← hml]
          simp
          exact (List.perm_append_comm (l₁ := [z]) (l₂ := l'))
    have hsk : Sinks ((((Hs.set 0 ml).take n)).map Hm.h) 0 0 := by
      refine Sinks.start ?_
      intro j ci hci hj h1 hcc
      have := hh j ci (by simp at hci ⊢; omega) hj (by omega) hcc
      simp only [List.getElem_map, List.getElem_take] at this ⊢
      rw [List.getElem_set_ne (by omega), List.getElem_set_ne (by omega)]
      exact this
    have HW := Lib.hid hW
    have HL := Lib.hid (show ((Hs.set 0 ml).take n).length = n by simp; omega)
    clear hW
    have HPP := Lib.hid hperm
    clear hperm
    have hmx' : n ≤ 1099511627776 := by omega
    have hlen : Hs.length - 1 = n := by omega
    go_wp2_with fail
    rw [HW.out]
    refine (down_any w0 W p g c n 0 0 ((Hs.set 0 ml).take n) HL.out hmx' (Nat.zero_le _) (Nat.le_refl _) hpW hHW hpg (fun m hm => hok m (HPP.out.mem_iff.1 hm)) (hB.trans (hmW.below hbl (by intro k h; omega))) hgB hpB hsk).mono ?_
    rintro e w1 ⟨⟨v, rfl⟩, H', hp', hh', hH', hm'⟩
    go_wp2
    refine bodyPost_end (results_none rfl _ _ _) rfl ?_
    exact ⟨⟨_, rfl⟩, H', hp'.trans HPP.out, hh', hH', by rw [hlen]; exact hpW.mod hm' (by omega), hmW.trans (hm'.mono (fun _ _ h => .inl h))⟩
end Go.Proofs.YtolclahkfmplfaaGreatDoor
