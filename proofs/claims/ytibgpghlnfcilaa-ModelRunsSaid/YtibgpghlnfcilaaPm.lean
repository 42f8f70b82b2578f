/- What a map is, on lists of pairs: ranks, neighbours, and what operations do. No program in sight. -/
import Derived.Test.YtibgpghlnfcilaaLib
namespace Go.Proofs.Ytibgpghlnfcilaa
open Go Go.RowKit

instance : Inhabited Pr := ⟨⟨0, 0⟩⟩
deriving instance DecidableEq for Pr

def keys (l : List Pr) : List Int := l.map Pr.key
def Ris (l : List Pr) : Prop := rises (keys l) = true
instance (l : List Pr) : Decidable (Ris l) := by unfold Ris; infer_instance
def bel (l : List Pr) (k : Int) : Nat := l.countP (fun p => decide (p.key < k))
def upk (l : List Pr) (k : Int) : Nat := l.countP (fun p => decide (p.key ≤ k))
def has (l : List Pr) (k : Int) : Bool := decide (bel l k < upk l k)

theorem ris_iff (l : List Pr) : Ris l ↔ l.Pairwise (fun a b => a.key < b.key) := by
  unfold Ris rises keys
  rw [decide_eq_true_iff, List.pairwise_map]
theorem Ris.nil : Ris [] := by rw [ris_iff]; exact List.Pairwise.nil
theorem ris_cons {p : Pr} {l : List Pr} : Ris (p :: l) ↔ (∀ q ∈ l, p.key < q.key) ∧ Ris l := by rw [ris_iff, ris_iff, List.pairwise_cons]
theorem Ris.sub {l m : List Pr} (h : Ris l) (hs : m.Sublist l) : Ris m := by rw [ris_iff] at h ⊢; exact h.sublist hs
theorem Ris.get {l : List Pr} (h : Ris l) {i j : Nat} (hij : i < j) (hj : j < l.length) : (l[i]'(by omega)).key < (l[j]'hj).key := by
  rw [ris_iff] at h
  exact (List.pairwise_iff_getElem.1 h) i j (by omega) hj hij

theorem bel_le (l : List Pr) (k : Int) : bel l k ≤ l.length := List.countP_le_length
theorem upk_le (l : List Pr) (k : Int) : upk l k ≤ l.length := List.countP_le_length
theorem bel_upk (l : List Pr) (k : Int) : bel l k ≤ upk l k := List.countP_mono_left (by intro p _ h; simp at h ⊢; omega)

theorem count_split (p : Pr → Bool) : ∀ (l : List Pr) (n : Nat), n ≤ l.length → (∀ i (h : i < l.length), i < n → p (l[i]'h) = true) → (∀ i (h : i < l.length), n ≤ i → p (l[i]'h) = false) → l.countP p = n
  | [], n, hn, _, _ => by simp at hn; simp [hn]
  | a :: l, 0, _, _, h2 => by
    rw [List.countP_eq_zero]
    intro x hx
    obtain ⟨i, hi, rfl⟩ := List.getElem_of_mem hx
    rw [h2 i hi (Nat.zero_le _)]
    simp
  | a :: l, n + 1, hn, h1, h2 => by
    rw [List.countP_cons_of_pos (show p a = true from h1 0 (by simp) (by omega)), count_split p l n (by simpa using hn) (fun i h hi => h1 (i + 1) (by simpa using h) (by omega)) (fun i h hi => h2 (i + 1) (by simpa using h) (by omega))]

/-- in a rising list the keys below one come first -/
theorem count_first (p : Pr → Bool) : ∀ (l : List Pr), (∀ i j (hi : i < j) (hj : j < l.length), p (l[j]'hj) = true → p (l[i]'(by omega)) = true) → ∀ i (hi : i < l.length), p (l[i]'hi) = true ↔ i < l.countP p
  | [], _, i, hi => by simp at hi
  | a :: l, h, i, hi => by
    have hl : ∀ i j (hi : i < j) (hj : j < l.length), p (l[j]'hj) = true → p (l[i]'(by omega)) = true := fun i j hij hj => by
      have := h (i + 1) (j + 1) (by omega) (by simpa using hj)
      simpa using this
    by_cases ha : p a = true
    · rw [List.countP_cons_of_pos ha]
      cases i with
      | zero => simp [ha]
      | succ i => simpa using count_first p l hl i (by simpa using hi)
    · have h0 : ∀ x ∈ a :: l, ¬ p x = true := by
        intro x hx hp
        obtain ⟨j, hj, rfl⟩ := List.getElem_of_mem hx
        cases j with
        | zero => exact ha (by simpa using hp)
        | succ j => exact ha (by simpa using h 0 (j + 1) (by omega) hj hp)
      rw [List.countP_eq_zero.2 h0]
      constructor
      · intro hp; exact absurd hp (h0 _ (List.getElem_mem hi))
      · omega

theorem bel_iff {l : List Pr} (h : Ris l) (k : Int) (i : Nat) (hi : i < l.length) : (l[i]'hi).key < k ↔ i < bel l k := by
  have := count_first (fun p => decide (p.key < k)) l (fun i j hij hj hp => by have := h.get hij hj; simp at hp ⊢; omega) i hi
  simpa [bel] using this
theorem upk_iff {l : List Pr} (h : Ris l) (k : Int) (i : Nat) (hi : i < l.length) : (l[i]'hi).key ≤ k ↔ i < upk l k := by
  have := count_first (fun p => decide (p.key ≤ k)) l (fun i j hij hj hp => by have := h.get hij hj; simp at hp ⊢; omega) i hi
  simpa [upk] using this
theorem upk_bel {l : List Pr} (h : Ris l) (k : Int) : upk l k ≤ bel l k + 1 := by
  by_cases h1 : bel l k + 1 < upk l k
  · have hu := upk_le l k
    have a := (upk_iff h k (bel l k + 1) (by omega)).2 h1
    have b := h.get (i := bel l k) (j := bel l k + 1) (by omega) (by omega)
    have c := (bel_iff h k (bel l k) (by omega)).1 (by omega)
    omega
  · omega
theorem has_iff {l : List Pr} (h : Ris l) (k : Int) : has l k = true ↔ ∃ hb : bel l k < l.length, (l[bel l k]'hb).key = k := by
  unfold has
  rw [decide_eq_true_iff]
  constructor
  · intro hlt
    have hu := upk_le l k
    refine ⟨by omega, ?_⟩
    have a := (upk_iff h k (bel l k) (by omega)).2 hlt
    have b := mt (bel_iff h k (bel l k) (by omega)).1 (by omega)
    omega
  · rintro ⟨hb, he⟩
    exact (upk_iff h k (bel l k) hb).1 (by omega)
theorem upk_has {l : List Pr} (h : Ris l) (k : Int) : upk l k = bel l k + (if has l k = true then 1 else 0) := by
  have h1 := upk_bel h k
  have h2 := bel_upk l k
  unfold has
  split <;> rename_i hh <;> simp at hh <;> omega

/-- an operation, as data -/
structure Opn where
  kind : Int
  key : Int
  val : Int
  to : Int
  n : Int
  pairs : List Pr
/-- an answer -/
structure Answ where
  pair : Pr
  n : Int
  pairs : List Pr
def noAns : Answ := ⟨⟨0, 0⟩, 0, []⟩

def checkE (most : Int) (l : List Pr) : Int := if most < 1 ∨ 16384 < most then 2 else if most < l.length ∨ ¬ Ris l then 8 else 0
/-- a pair by its number -/
def oneA (l : List Pr) (k : Int) : Answ := if 0 ≤ k ∧ k < l.length then ⟨l[k.toNat]!, 0, []⟩ else noAns
def oneE (l : List Pr) (k : Int) : Int := if 0 ≤ k ∧ k < l.length then 0 else 6
def scanL (l : List Pr) (key to n : Int) : List Pr := ((l.drop (bel l key)).take (upk l to - bel l key)).take n.toNat
def askA (l : List Pr) (o : Opn) : Answ :=
  if o.kind = 1 then oneA l (if has l o.key = true then bel l o.key else -1)
  else if o.kind = 5 then oneA l (bel l o.key)
  else if o.kind = 4 then oneA l (upk l o.key - 1)
  else if o.kind = 6 then oneA l 0
  else if o.kind = 7 then oneA l (l.length - 1)
  else if o.kind = 8 then ⟨⟨0, 0⟩, bel l o.key, []⟩
  else if o.kind = 9 then oneA l o.n
  else if o.kind = 10 then (if o.n < 0 ∨ 1000 < o.n then noAns else ⟨⟨0, 0⟩, 0, scanL l o.key o.to o.n⟩)
  else if o.kind = 15 then ⟨⟨0, 0⟩, l.length, []⟩
  else noAns
def askE (l : List Pr) (o : Opn) : Int :=
  if o.kind = 1 then oneE l (if has l o.key = true then bel l o.key else -1)
  else if o.kind = 5 then oneE l (bel l o.key)
  else if o.kind = 4 then oneE l (upk l o.key - 1)
  else if o.kind = 6 then oneE l 0
  else if o.kind = 7 then oneE l (l.length - 1)
  else if o.kind = 8 then 0
  else if o.kind = 9 then (if oneE l o.n = 0 then 0 else 290)
  else if o.kind = 10 then (if o.n < 0 ∨ 1000 < o.n then 2 else 0)
  else if o.kind = 15 ∨ o.kind = 14 then 0
  else 291
def known (o : Opn) : Bool := o.kind == 1 || o.kind == 5 || o.kind == 4 || o.kind == 6 || o.kind == 7 || o.kind == 8 || o.kind == 9 || o.kind == 10 || o.kind == 15 || o.kind == 14

/-- a pair put in -/
def putL (l : List Pr) (p : Pr) : List Pr := l.take (bel l p.key) ++ p :: l.drop (upk l p.key)
/-- the pairs that are left, whatever the room -/
def leftL (l : List Pr) (o : Opn) : List Pr :=
  if o.kind = 2 then putL l ⟨o.key, o.val⟩
  else if o.kind = 3 then l.take (bel l o.key) ++ l.drop (bel l o.key + 1)
  else if o.kind = 11 then l.take (bel l o.key) ++ l.drop (max (bel l o.key) (upk l o.to))
  else if o.kind = 12 then o.pairs
  else o.pairs.foldl putL l
def turnE (most : Int) (l : List Pr) (o : Opn) : Int :=
  if o.kind = 3 ∧ has l o.key = false then 6
  else if (o.kind = 12 ∨ o.kind = 13) ∧ ¬ Ris o.pairs then 130
  else if ¬ (o.kind = 2 ∨ o.kind = 3 ∨ o.kind = 11 ∨ o.kind = 12 ∨ o.kind = 13) then 291
  else if most < (leftL l o).length then 9 else 0
def turnL (most : Int) (l : List Pr) (o : Opn) : List Pr := if turnE most l o = 0 then leftL l o else []
def turnN (most : Int) (l : List Pr) (o : Opn) : Int :=
  if turnE most l o = 0 then (if o.kind = 11 then (max (bel l o.key) (upk l o.to) : Nat) - (bel l o.key : Nat) else if o.kind = 13 then (leftL l o).length else 0) else 0

def doE (most : Int) (l : List Pr) (o : Opn) : Int := if checkE most l ≠ 0 then checkE most l else if known o = true then askE l o else turnE most l o
def doL (most : Int) (l : List Pr) (o : Opn) : List Pr := if doE most l o ≠ 0 then [] else if known o = true then l else turnL most l o
def doA (most : Int) (l : List Pr) (o : Opn) : Answ := if doE most l o ≠ 0 then noAns else if known o = true then askA l o else ⟨⟨0, 0⟩, turnN most l o, []⟩

theorem known_of_ok (l : List Pr) (o : Opn) (h : askE l o = 0) : known o = true := by
  unfold askE at h
  unfold known
  repeat' split at h
  all_goals first | (simp_all; done) | (cases h)
end Go.Proofs.Ytibgpghlnfcilaa
