/- G1 G4 Cb Cc Cd: texts of the claim, in this order. -/
import Derived.Test.YtolclahkfmplfaaGreatWz7
import Derived.Test.YtolclahkfmplfaaGreatWz6
import Derived.Lib.BitFns
import Derived.Lib.Strings
import Derived.Lib.Slices
import Derived.Lib.Small
import Derived.Test.YtolclahkfmplfaaGreatWz2
import Derived.WalkMore
import Derived.ScopeJumps
import Derived.Deep.CutRange
import Derived.Deep.RegionHeld3
import Derived.BigQuiet
/- Plain facts on levels of runs: which may be, how an entry is let in. No program in sight. -/
namespace Go.Proofs.YtolclahkfmplfaaGreat
open Go

def up (n : Nat) : Nat := if n ≤ 1 then 0 else Nat.log2 (n - 1) + 1
theorem up_spec {n : Nat} (_h : 0 < n) : n ≤ 2 ^ up n ∧ (0 < up n → 2 ^ (up n - 1) < n) := by
  unfold up
  split
  · exact ⟨by simp; omega, fun h => by omega⟩
  · have h1 := Nat.log2_self_le (n := n - 1) (by omega)
    have h2 := Nat.lt_log2_self (n := n - 1)
    rw [Nat.add_sub_cancel]
    exact ⟨by omega, fun _ => by omega⟩
theorem up_eq {n k : Nat} (h0 : 0 < n) (h1 : n ≤ 2 ^ k) (h2 : 0 < k → 2 ^ (k - 1) < n) : up n = k := by
  obtain ⟨a, b⟩ := up_spec h0
  rcases Nat.lt_trichotomy (up n) k with h | h | h
  · have h3 := h2 (by omega)
    have h4 : 2 ^ up n ≤ 2 ^ (k - 1) := Nat.pow_le_pow_right (by omega) (by omega)
    omega
  · exact h
  · have h3 := b (by omega)
    have h4 : 2 ^ k ≤ 2 ^ (up n - 1) := Nat.pow_le_pow_right (by omega) (by omega)
    omega
theorem up_le {n k : Nat} (h : n ≤ 2 ^ k) : up n ≤ k := by
  rcases Nat.eq_zero_or_pos n with rfl | h0
  · simp [up]
  · obtain ⟨_, b⟩ := up_spec h0
    rcases Nat.lt_or_ge k (up n) with h1 | h1
    · have h3 := b (by omega)
      have h4 : 2 ^ k ≤ 2 ^ (up n - 1) := Nat.pow_le_pow_right (by omega) (by omega)
      omega
    · exact h1
theorem up_mono {n m : Nat} (h : n ≤ m) : up n ≤ up m := by
  rcases Nat.eq_zero_or_pos m with rfl | h0
  · rw [show n = 0 by omega]; exact Nat.le_refl _
  · exact up_le (Nat.le_trans h (up_spec h0).1)
theorem up_16 {n : Nat} (h : n ≤ 65536) : up n ≤ 16 := up_le (by omega)

abbrev Lv := List (List Ent)
def lev (rs : Lv) (j : Nat) : List Ent := rs.getD j []
theorem lev_lt {rs : Lv} {j : Nat} (h : j < rs.length) : lev rs j = rs[j]'h := by simp [lev, h]
theorem lev_ge {rs : Lv} {j : Nat} (h : rs.length ≤ j) : lev rs j = [] := by unfold lev; rw [List.getD_eq_getElem?_getD, List.getElem?_eq_none h]; rfl
theorem lev_nil (j : Nat) : lev [] j = [] := lev_ge (Nat.zero_le _)
theorem lev_mem {rs : Lv} {j : Nat} (h : lev rs j ≠ []) : j < rs.length ∧ lev rs j ∈ rs := by
  rcases Nat.lt_or_ge j rs.length with h1 | h1
  · exact ⟨h1, by rw [lev_lt h1]; exact List.getElem_mem h1⟩
  · exact absurd (lev_ge h1) h
theorem lev_of_mem {rs : Lv} {l : List Ent} (h : l ∈ rs) : ∃ j, j < rs.length ∧ lev rs j = l := by
  obtain ⟨j, hj, e⟩ := List.getElem_of_mem h
  exact ⟨j, hj, by rw [lev_lt hj, e]⟩
def Top (rs : Lv) : Prop := rs = [] ∨ lev rs (rs.length - 1) ≠ []
theorem canon_le {a b : Lv} (ha : Top a) (h : ∀ j, lev a j = lev b j) : a.length ≤ b.length := by
  rcases ha with rfl | ha
  · simp
  · rcases Nat.lt_or_ge (a.length - 1) b.length with h1 | h1
    · omega
    · rw [h, lev_ge h1] at ha; exact absurd rfl ha
/-- levels without empty ones at the end are the same if each level is -/
theorem canon_ext {a b : Lv} (ha : Top a) (hb : Top b) (h : ∀ j, lev a j = lev b j) : a = b := by
  have hl := Nat.le_antisymm (canon_le ha h) (canon_le hb fun j => (h j).symm)
  refine List.ext_getElem hl fun i h1 h2 => ?_
  have := h i
  rwa [lev_lt h1, lev_lt h2] at this

/-! ### a run at its level -/
def padTo (rs : Lv) (m : Nat) : Lv := rs ++ List.replicate (m - rs.length) []
theorem pad_len (rs : Lv) (m : Nat) : (padTo rs m).length = max rs.length m := by simp [padTo]; omega
theorem lev_pad (rs : Lv) (m j : Nat) : lev (padTo rs m) j = lev rs j := by
  unfold padTo lev
  rw [List.getD_eq_getElem?_getD, List.getD_eq_getElem?_getD]
  rcases Nat.lt_or_ge j rs.length with h | h
  · rw [List.getElem?_append_left h]
  · rw [List.getElem?_append_right h, List.getElem?_eq_none h, List.getElem?_replicate]
    split <;> rfl
theorem pad_step (rs : Lv) {m : Nat} (h : rs.length ≤ m) : padTo rs (m + 1) = padTo rs m ++ [[]] := by
  unfold padTo
  rw [show m + 1 - rs.length = (m - rs.length) + 1 by omega, List.replicate_succ', List.append_assoc]
theorem pad_same (rs : Lv) {m : Nat} (h : m ≤ rs.length) : padTo rs m = rs := by unfold padTo; rw [show m - rs.length = 0 by omega]; simp
theorem lev_set {rs : Lv} {k : Nat} (r : List Ent) (h : k < rs.length) (j : Nat) : lev (rs.set k r) j = if j = k then r else lev rs j := by
  unfold lev
  rw [List.getD_eq_getElem?_getD, List.getD_eq_getElem?_getD, List.getElem?_set]
  by_cases e : k = j
  · subst e; simp [h]
  · rw [if_neg e, if_neg (fun x => e x.symm)]
theorem lev_set_nil (rs : Lv) (k j : Nat) : lev (rs.set k []) j = if j = k then [] else lev rs j := by
  rcases Nat.lt_or_ge k rs.length with h | h
  · exact lev_set [] h j
  · rw [List.set_eq_of_length_le h]
    split
    · rename_i e; subst e; exact lev_ge h
    · rfl
def standL (rs : Lv) (r : List Ent) : Lv := if r = [] then rs else (padTo rs (up r.length + 1)).set (up r.length) r
theorem stand_nil (rs : Lv) : standL rs [] = rs := by simp [standL]
theorem lev_stand (rs : Lv) (r : List Ent) (j : Nat) : lev (standL rs r) j = if r ≠ [] ∧ j = up r.length then r else lev rs j := by
  unfold standL
  by_cases h : r = []
  · rw [if_pos h, if_neg (fun x => x.1 h)]
  · rw [if_neg h, lev_set r (by rw [pad_len]; omega), lev_pad]
    by_cases e : j = up r.length
    · rw [if_pos e, if_pos ⟨h, e⟩]
    · rw [if_neg e, if_neg (fun x => e x.2)]
theorem stand_len (rs : Lv) (r : List Ent) : (standL rs r).length = if r = [] then rs.length else max rs.length (up r.length + 1) := by
  unfold standL
  split
  · rfl
  · rw [List.length_set, pad_len]
theorem stand_top {rs : Lv} {r : List Ent} (h : Top rs) : Top (standL rs r) := by
  by_cases e : r = []
  · subst e; rwa [stand_nil]
  · right
    rw [stand_len, if_neg e, lev_stand]
    split
    · exact e
    · rename_i h2
      have h3 : up r.length + 1 < rs.length := by
        rcases Nat.lt_or_ge (up r.length + 1) rs.length with h4 | h4
        · exact h4
        · exact absurd ⟨e, by omega⟩ h2
      rcases h with rfl | h
      · simp at h3
      · rw [show max rs.length (up r.length + 1) = rs.length by omega]; exact h

/-! ### the empty ones at the end are cut off -/
def cutN (rs : Lv) : Nat → Nat
  | 0 => 0
  | n + 1 => if lev rs n = [] then cutN rs n else n + 1
theorem cutN_le (rs : Lv) : ∀ n, cutN rs n ≤ n
  | 0 => Nat.le_refl _
  | n + 1 => by
    unfold cutN
    have := cutN_le rs n
    split <;> omega
theorem cutN_above (rs : Lv) : ∀ n j, cutN rs n ≤ j → j < n → lev rs j = []
  | 0, j, _, h => by omega
  | n + 1, j, h1, h2 => by
    unfold cutN at h1
    split at h1
    · rename_i e
      by_cases h3 : j = n
      · subst h3; exact e
      · exact cutN_above rs n j h1 (by omega)
    · omega
theorem cutN_top (rs : Lv) : ∀ n, cutN rs n = 0 ∨ lev rs (cutN rs n - 1) ≠ []
  | 0 => .inl rfl
  | n + 1 => by
    unfold cutN
    split
    · exact cutN_top rs n
    · rename_i e; exact .inr e
def cutL (rs : Lv) : Lv := rs.take (cutN rs rs.length)
theorem lev_take (rs : Lv) (n j : Nat) : lev (rs.take n) j = if j < n then lev rs j else [] := by
  unfold lev
  rw [List.getD_eq_getElem?_getD, List.getD_eq_getElem?_getD, List.getElem?_take]
  split <;> rfl
theorem lev_cut (rs : Lv) (j : Nat) : lev (cutL rs) j = lev rs j := by
  unfold cutL
  rw [lev_take]
  split
  · rfl
  · rename_i h
    rcases Nat.lt_or_ge j rs.length with h1 | h1
    · exact (cutN_above rs rs.length j (by omega) h1).symm
    · exact (lev_ge h1).symm
theorem cut_top (rs : Lv) : Top (cutL rs) := by
  have h1 := cutN_le rs rs.length
  rcases cutN_top rs rs.length with h | h
  · left; unfold cutL; rw [h]; rfl
  · by_cases h0 : cutN rs rs.length = 0
    · left; unfold cutL; rw [h0]; rfl
    · right
      unfold cutL
      rw [List.length_take, lev_take, Nat.min_eq_left h1, if_pos (by omega)]
      exact h
theorem cut_id {rs : Lv} (h : Top rs) : cutL rs = rs := canon_ext (cut_top rs) h (lev_cut rs)
theorem cut_len (rs : Lv) : (cutL rs).length ≤ rs.length := by unfold cutL; rw [List.length_take]; omega

/-! ### all runs, each at its level -/
def ofL (all : Lv) : Lv := all.foldl standL []
theorem of_snoc (all : Lv) (r : List Ent) : ofL (all ++ [r]) = standL (ofL all) r := by simp [ofL, List.foldl_append]
/-- each run stands at its level -/
def Stood (rs : Lv) : Prop := ∀ j, lev rs j = [] ∨ up (lev rs j).length = j
theorem of_top : ∀ all : Lv, Top (ofL all) := by
  intro all
  have h : ∀ (l acc : Lv), Top acc → Top (l.foldl standL acc) := by
    intro l
    induction l with
    | nil => exact fun acc h => h
    | cons x l ih => exact fun acc h => ih _ (stand_top h)
  exact h all [] (.inl rfl)
theorem of_take {rs : Lv} (h : Stood rs) : ∀ m, m ≤ rs.length → ∀ j, lev (ofL (rs.take m)) j = if j < m then lev rs j else []
  | 0, _, j => by simp [ofL, lev_nil]
  | m + 1, hm, j => by
    rw [List.take_add_one, List.getElem?_eq_getElem (by omega), Option.toList_some, of_snoc, lev_stand, of_take h m (by omega) j, ← lev_lt (by omega : m < rs.length)]
    rcases h m with e | e
    · rw [if_neg (fun x => x.1 e)]
      by_cases h1 : j < m
      · rw [if_pos h1, if_pos (by omega)]
      · rw [if_neg h1]
        by_cases h2 : j = m
        · subst h2; rw [if_pos (by omega), e]
        · rw [if_neg (by omega)]
    · by_cases h2 : j = m
      · subst h2
        by_cases h3 : lev rs j = []
        · rw [if_neg (fun x => x.1 h3), if_neg (by omega), if_pos (by omega), h3]
        · rw [if_pos ⟨h3, e.symm⟩, if_pos (by omega)]
      · rw [if_neg (fun x => h2 (by rw [x.2, e]))]
        by_cases h1 : j < m
        · rw [if_pos h1, if_pos (by omega)]
        · rw [if_neg h1, if_neg (by omega)]
theorem lev_of {rs : Lv} (h : Stood rs) (j : Nat) : lev (ofL rs) j = lev rs j := by
  have := of_take h rs.length (Nat.le_refl _) j
  rw [List.take_length] at this
  rw [this]
  split
  · rfl
  · rename_i h1; exact (lev_ge (by omega)).symm
theorem of_levels {rs : Lv} (r : List Ent) (h : Stood rs) : ofL (rs ++ [r]) = cutL (standL rs r) := by
  refine canon_ext (of_top _) (cut_top _) fun j => ?_
  rw [lev_cut, of_snoc, lev_stand, lev_stand, lev_of h]
theorem of_one (r : List Ent) : ofL [r] = standL [] r := rfl

/-! ### sizes -/
def tot (rs : Lv) : Nat := (rs.map List.length).sum
theorem tot_cons (l : List Ent) (rs : Lv) : tot (l :: rs) = l.length + tot rs := by simp [tot]
theorem tot_snoc (rs : Lv) (l : List Ent) : tot (rs ++ [l]) = tot rs + l.length := by simp [tot]
theorem tot_set_nil : ∀ (rs : Lv) (k : Nat), tot (rs.set k []) + (lev rs k).length = tot rs
  | [], k => by simp [tot, lev_nil]
  | l :: rs, 0 => by simp [tot, lev, Nat.add_comm]
  | l :: rs, k + 1 => by
    have := tot_set_nil rs k
    rw [List.set_cons_succ, tot_cons, tot_cons]
    have e : lev (l :: rs) (k + 1) = lev rs k := by simp [lev]
    rw [e]; omega
theorem tot_pad (rs : Lv) (m : Nat) : tot (padTo rs m) = tot rs := by simp [tot, padTo]
theorem tot_set {rs : Lv} {k : Nat} (r : List Ent) (h : k < rs.length) (e : lev rs k = []) : tot (rs.set k r) = tot rs + r.length := by
  induction rs generalizing k with
  | nil => simp at h
  | cons l rs ih =>
    cases k with
    | zero =>
      have : l = [] := by simpa [lev] using e
      subst this
      simp [tot, Nat.add_comm]
    | succ k =>
      rw [List.set_cons_succ, tot_cons, tot_cons, ih (by simpa using h) (by simpa [lev] using e)]
      omega
theorem tot_stand {rs : Lv} {r : List Ent} (e : r = [] ∨ lev rs (up r.length) = []) : tot (standL rs r) = tot rs + r.length := by
  unfold standL
  by_cases h : r = []
  · subst h; simp
  · rw [if_neg h, tot_set r (by rw [pad_len]; omega) (by rw [lev_pad]; exact e.resolve_left h), tot_pad]
theorem tot_take (rs : Lv) : ∀ n, (∀ j, n ≤ j → lev rs j = []) → tot (rs.take n) = tot rs := by
  induction rs with
  | nil => intro n _; simp
  | cons l rs ih =>
    intro n h
    cases n with
    | zero =>
      have h0 : l = [] := by simpa [lev] using h 0 (Nat.le_refl _)
      have := ih 0 (fun j _ => by simpa [lev] using h (j + 1) (Nat.zero_le _))
      rw [tot_cons, h0, ← this]; simp [tot]
    | succ n =>
      rw [List.take_succ_cons, tot_cons, tot_cons, ih n (fun j hj => by simpa [lev] using h (j + 1) (by omega))]
theorem tot_cut (rs : Lv) : tot (cutL rs) = tot rs := by
  refine tot_take rs _ fun j hj => ?_
  rcases Nat.lt_or_ge j rs.length with h1 | h1
  · exact cutN_above rs rs.length j hj h1
  · exact lev_ge h1
theorem tot_lev (rs : Lv) (j : Nat) : (lev rs j).length ≤ tot rs := by have := tot_set_nil rs j; omega

/-! ### which levels may be -/
def deadE (l : List Ent) : Bool := l.any (fun e => e.dead)
def okLv (n i : Nat) (l : List Ent) : Bool := decide (chkE l = 0) && (decide (l = []) || decide (up l.length = i)) && (decide (i + 1 ≠ n) || !deadE l)
def endOk (rs : Lv) : Bool := decide (rs.length ≤ 17) && (decide (rs.length = 0) || decide (lev rs (rs.length - 1) ≠ []))
def allOk (rs : Lv) (k : Nat) : Bool := decide (∀ i, i < k → okLv rs.length i (lev rs i) = true)
theorem allOk_succ (rs : Lv) (k : Nat) : allOk rs (k + 1) = (allOk rs k && okLv rs.length k (lev rs k)) := by
  unfold allOk
  rw [Bool.eq_iff_iff]
  simp only [decide_eq_true_eq, Bool.and_eq_true]
  constructor
  · exact fun h => ⟨fun i hi => h i (by omega), h k (by omega)⟩
  · intro ⟨h1, h2⟩ i hi
    by_cases e : i = k
    · subst e; exact h2
    · exact h1 i (by omega)
def mayB (rs : Lv) : Bool := endOk rs && allOk rs rs.length && decide (tot rs ≤ 65536)
def chkR (rs : Lv) : Int := if mayB rs = true then 0 else 8
structure May (rs : Lv) : Prop where
  len : rs.length ≤ 17
  top : Top rs
  chk : ∀ j, chkE (lev rs j) = 0
  stood : Stood rs
  last : ∀ j, j + 1 = rs.length → deadE (lev rs j) = false
  size : tot rs ≤ 65536
theorem chk_nil : chkE [] = 0 := by
  have h : inL [] = [] := by unfold inL; simp [inord]
  unfold chkE; rw [h]; decide
theorem may_iff (rs : Lv) : mayB rs = true ↔ May rs := by
  unfold mayB endOk allOk okLv
  simp only [Bool.and_eq_true, Bool.or_eq_true, decide_eq_true_eq, Bool.not_eq_true']
  constructor
  · rintro ⟨⟨⟨h1, h2⟩, h3⟩, h4⟩
    refine ⟨h1, ?_, fun j => ?_, fun j => ?_, fun j hj => ?_, h4⟩
    · rcases h2 with h2 | h2
      · exact .inl (List.eq_nil_of_length_eq_zero h2)
      · exact .inr h2
    · rcases Nat.lt_or_ge j rs.length with h | h
      · exact (h3 j h).1.1
      · rw [lev_ge h]; exact chk_nil
    · rcases Nat.lt_or_ge j rs.length with h | h
      · exact (h3 j h).1.2
      · exact .inl (lev_ge h)
    · rcases (h3 j (by omega)).2 with h | h
      · exact absurd hj h
      · exact h
  · intro h
    refine ⟨⟨⟨h.len, ?_⟩, fun i hi => ⟨⟨h.chk i, h.stood i⟩, ?_⟩⟩, h.size⟩
    · rcases h.top with e | e
      · left; rw [e]; rfl
      · exact .inr e
    · by_cases e : i + 1 = rs.length
      · exact .inr (h.last i e)
      · exact .inl e
theorem chkR_zero {rs : Lv} : chkR rs = 0 ↔ May rs := by
  rw [← may_iff]
  unfold chkR
  split <;> simp_all
theorem May.chkAll {rs : Lv} (h : May rs) : chkAllE rs = 0 := chkAll_zero fun r hr => by
  obtain ⟨j, _, e⟩ := lev_of_mem hr
  rw [← e]; exact h.chk j
theorem May.mE {rs : Lv} (h : May rs) : mE rs = 0 := mE_of h.chkAll h.size
end Go.Proofs.YtolclahkfmplfaaGreat

/- Contracts: the level of a run: math/bits.Len, frac.Up, rungs.level; the document's Log and Ceil. -/
namespace Go.Proofs.YtolclahkfmplfaaGreat
open Go Go.RowKit

theorem bitLen_log (x : Nat) (h : x < 2 ^ 64) : Lib.bitLen x = if x = 0 then 0 else Nat.log2 x + 1 := by
  induction x using Nat.strongRecOn with
  | _ x ih =>
    by_cases h0 : x = 0
    · subst h0; rfl
    · rw [Lib.bitLen_half x h0 h, ih (x / 2) (by omega) (by omega), if_neg h0, Nat.log2_def x]
      by_cases h2 : 2 ≤ x
      · rw [if_pos h2, if_neg (by omega)]; omega
      · obtain rfl : x = 1 := by omega
        simp
theorem bitLen_up {n : Nat} (h : n ≤ 65536) : Lib.bitLen (n - 1) = up n := by
  rw [bitLen_log _ (by omega)]
  unfold up
  by_cases h1 : n ≤ 1
  · rw [if_pos h1, if_pos (by omega)]
  · rw [if_neg h1, if_neg (by omega)]

set_option maxRecDepth 100000 in
set_option maxHeartbeats 4000000 in
theorem len64_any (x : Int) (w : World) (h0 : 0 ≤ x) (h1 : x ≤ 65535) : Calls Tryz.prog 111 #[.int .u64 x] w fun e w' => e = .returned (.int .i64 (Lib.bitLen x.toNat)) ∧ w' = w := by
  have g1 : ¬ 4294967296 ≤ x := by omega
  have g2 : ¬ 65536 ≤ x := by omega
  by_cases h2 : x ≤ 255
  · have g3 : ¬ 256 ≤ x := by omega
    go_enter Tryz.func111, Tryz.ntmps111
    go_wp2
    go_ret
    refine ⟨congrArg Ending.returned (congrArg (Value.int IntKind.i64) ?_), rfl⟩
    rw [Lib.len8_of x h0 h2]
    have l := Lib.bitLen_le8' x h0 h2
    unfold wrap64
    omega
  · have g3 : 256 ≤ x := by omega
    have g4 : 0 ≤ x / 256 := by omega
    have g5 : x / 256 ≤ 255 := by omega
    go_enter Tryz.func111, Tryz.ntmps111
    go_wp2
    go_ret
    refine ⟨congrArg Ending.returned (congrArg (Value.int IntKind.i64) ?_), rfl⟩
    rw [Lib.len8_of (x / 256) g4 g5]
    have e : (x / 256).toNat = x.toNat / 256 := by omega
    have l := Lib.bitLen_le8' (x / 256) g4 g5
    have s := Lib.bitLen_shift8 x.toNat (by omega) (by omega)
    rw [e] at l ⊢
    unfold wrap64
    omega
theorem len_any (x : Int) (w : World) (h0 : 0 ≤ x) (h1 : x ≤ 65535) : Calls Tryz.prog 109 #[.int .u64 x] w fun e w' => e = .returned (.int .i64 (Lib.bitLen x.toNat)) ∧ w' = w := by
  go_enter Tryz.func109, Tryz.ntmps109
  go_wp2_with fail
  refine (len64_any x _ h0 h1).mono ?_
  rintro e w' ⟨rfl, rfl⟩
  go_wp2
  go_ret
  exact ⟨rfl, rfl⟩
/-- the logarithm upward -/
theorem up_any (n : Nat) (w : World) (h0 : 0 < n) (h1 : n ≤ 65536) : Calls Tryz.prog 101 #[.int .i64 (n : Nat)] w fun e w' => e = .returned (.tuple #[.int .i64 (up n : Nat), .int .i64 0]) ∧ w' = w := by
  have g : decide ((n : Int) < 1) = false := decide_eq_false (by omega)
  have e1 : IntKind.i64.wrap ((n : Int) - 1) = ((n - 1 : Nat) : Int) := (IntWalk.i64_in _ (by omega)).trans (by omega)
  have e2 : ((n - 1 : Nat) : Int).toNat = n - 1 := by omega
  have e3 := bitLen_up h1
  obtain ⟨m, hm⟩ : ∃ m, n - 1 = m := ⟨_, rfl⟩
  rw [hm] at e1 e2 e3
  have hm0 : (0 : Int) ≤ (m : Int) := by omega
  have hm1 : (m : Int) ≤ 65535 := by omega
  have HM := Lib.hid hm
  have H2 := Lib.hid e2
  have H3 := Lib.hid e3
  clear hm e2 e3
  go_enter Tryz.func101, Tryz.ntmps101
  go_wp2_with fail
  refine (len_any (m : Int) _ hm0 hm1).mono ?_
  rw [H2.out, H3.out]
  rintro e w' ⟨rfl, rfl⟩
  go_wp2
  refine bodyPost_ret (v := .tuple #[.int .i64 (up n : Nat), .int .i64 0]) (by simp [results, Tryz.results101, go_sem]) rfl ?_
  exact ⟨rfl, rfl⟩
/-- the level of a run that has entries -/
theorem level_any (A : Option Addr) (n c : Nat) (w : World) (h0 : 0 < n) (h1 : n ≤ 65536) : Calls Tryz.prog 78 #[.agg #[.slice A n c]] w fun e w' => e = .returned (.int .i64 (up n : Nat)) ∧ Below w.heap.size w w' := by
  have hb : Below w.heap.size w (w.alloc (.cells #[.slice A n c] 58)) := (Below.refl _ _).alloc (Nat.le_refl _) _
  go_enter Tryz.func78, Tryz.ntmps78
  go_wp2_with fail
  refine (up_any n _ h0 h1).mono ?_
  rintro e w' ⟨rfl, rfl⟩
  go_wp2
  go_ret
  exact ⟨rfl, hb⟩
theorem log2_half {n : Nat} (h : 2 ≤ n) : Nat.log2 n = Nat.log2 (n / 2) + 1 := by rw [Nat.log2_def n, if_pos h]
theorem log2_le {n : Nat} (h : n ≤ 65536) : Nat.log2 n ≤ 16 := by
  by_cases h0 : n = 0
  · subst h0; decide
  · have := Nat.log2_self_le h0
    rcases Nat.lt_or_ge 16 (Nat.log2 n) with h1 | h1
    · have h2 : 2 ^ 17 ≤ 2 ^ Nat.log2 n := Nat.pow_le_pow_right (by omega) h1
      omega
    · exact h1
set_option maxHeartbeats 1000000 in
theorem log_any (n : Nat) (w : World) (h1 : n ≤ 65536) : Calls Tryz.prog 80 #[.int .i64 (n : Nat)] w fun e w' => e = .returned (.int .i64 (Nat.log2 n : Nat)) ∧ w' = w := by
  have hl := log2_le h1
  go_enter Tryz.func80, Tryz.ntmps80
  go_wp2
  go_loopw [0, 3] (fun x i wr => ∃ m k : Nat, x = .int .i64 (m : Nat) ∧ i = .int .i64 (k : Nat) ∧ m ≤ n ∧ k ≤ 16 ∧ Hid (k + Nat.log2 m = Nat.log2 n) ∧ wr = w) (fun x _ _ => (intOf x).toNat)
  case atStart => exact ⟨n, 0, rfl, rfl, Nat.le_refl _, Nat.zero_le _, by show _ = _; omega, rfl⟩
  case round =>
    obtain ⟨m, k, rfl, rfl, hm, hk, hs, rfl⟩ := hrel
    by_cases h2 : 2 ≤ m
    · have g : decide ((m : Int) > 1) = true := decide_eq_true (by omega)
      have hh := log2_half h2
      have hk2 : k + 1 ≤ 16 := by have := hs.out; omega
      have HH := Lib.hid hh
      clear hh
      go_wp2
      go_roundw
      case rel => exact ⟨m / 2, k + 1, by go_num, by go_num, by omega, hk2, by show _ = _; have := hs.out; have := HH.out; omega, by first | rfl | trivial⟩
      case measure => simp [intOf]; omega
    · have g : decide ((m : Int) > 1) = false := decide_eq_false (by omega)
      have h0 : Nat.log2 m = 0 := by
        rw [Nat.log2_def, if_neg h2]
      have e0 : k = Nat.log2 n := by have := hs.out; omega
      have H0 := Lib.hid e0
      clear h0 e0
      go_wp2
      go_ret
      exact ⟨ret_int (by rw [H0.out]), by first | rfl | trivial⟩
theorem ceil_any (n : Nat) (w : World) (h0 : 0 < n) (h1 : n ≤ 65536) : Calls Tryz.prog 59 #[.int .i64 (n : Nat)] w fun e w' => e = .returned (.int .i64 (up n : Nat)) ∧ w' = w := by
  by_cases h2 : n = 1
  · subst h2
    go_enter Tryz.func59, Tryz.ntmps59
    go_wp2
    go_ret
    exact ⟨rfl, rfl⟩
  · have g : decide ((n : Int) = 1) = false := decide_eq_false (by omega)
    have g2 : ((n : Int) == 1) = false := by simpa using g
    have e1 : IntKind.i64.wrap ((n : Int) - 1) = ((n - 1 : Nat) : Int) := (IntWalk.i64_in _ (by omega)).trans (by omega)
    have e3 : up n = Nat.log2 (n - 1) + 1 := by unfold up; rw [if_neg (by omega)]
    obtain ⟨m, hm⟩ : ∃ m, n - 1 = m := ⟨_, rfl⟩
    rw [hm] at e1 e3
    have hm1 : m ≤ 65536 := by omega
    have hl := log2_le hm1
    have H3 := Lib.hid e3
    have HM := Lib.hid hm
    clear e3 hm
    go_enter Tryz.func59, Tryz.ntmps59
    go_wp2_with fail
    refine (log_any m _ hm1).mono ?_
    rintro e w' ⟨rfl, rfl⟩
    go_wp2
    go_ret
    exact ⟨ret_int (by rw [H3.out]; go_num), rfl⟩
end Go.Proofs.YtolclahkfmplfaaGreat

/- Contracts: conf.all, conf.power, frac.Power, frac.Down. -/
namespace Go.Proofs.YtolclahkfmplfaaGreat
open Go Go.RowKit
set_option maxRecDepth 100000
def bv (b : Bool) : Value := .bool b
set_option maxHeartbeats 1000000 in
theorem allc_any (A : Option Addr) (l : List Bool) (c : Nat) (w : World) (hA : Sl w A (l.map bv)) (hl : l.length ≤ 1000000) :
    Calls Tryz.prog 48 #[.slice A l.length c] w fun r w' => r = .returned (.bool (l.all id)) ∧ w' = w := by
  have HA := Lib.hid hA
  obtain ⟨V, hV⟩ : ∃ V, l.all id = V := ⟨_, rfl⟩
  rw [hV]
  have HV := Lib.hid hV
  clear hA hV
  go_enter Tryz.func48, Tryz.ntmps48
  go_wp2
  go_loopw [7] (fun i wr => ∃ k : Nat, k ≤ l.length ∧ i = .int .i64 k ∧ wr = w ∧ Hid ((l.drop k).all id = V)) (fun i _ => l.length - (intOf i).toNat)
  case atStart => exact ⟨0, Nat.zero_le _, rfl, rfl, by show _ = _; rw [List.drop_zero]; exact HV.out⟩
  case round =>
    obtain ⟨k, hk, rfl, hw, hd⟩ := hrel
    have hw2 := hw.symm
    subst hw2
    by_cases hlt : k < l.length
    · obtain ⟨b, off, rfl, hbl, cp⟩ := HA.out.oneB (Below.refl _ _) k hlt
      have hdr : (l.drop k).all id = (l[k]'hlt && (l.drop (k + 1)).all id) := by rw [List.drop_eq_getElem_cons hlt, List.all_cons]; rfl
      obtain ⟨e, he⟩ : ∃ e, l[k]'hlt = e := ⟨_, rfl⟩
      rw [he] at cp hdr
      have cp1 : w.cell? ⟨b, off + k, none⟩ = some (.bool e) := cp
      have HDR := Lib.hid hdr
      have i0 : (0 : Int) ≤ (k : Int) := by omega
      have i1 : (k : Int) < (l.length : Int) := by omega
      clear cp hdr he
      cases e with
      | true =>
        go_wp2
        go_roundw
        case rel => exact ⟨k + 1, by omega, by go_num, by first | trivial | rfl, by have := hd.out; rw [HDR.out] at this; exact this⟩
        case measure => simp [intOf]; omega
      | false =>
        have HF : Hid (V = false) := by show _ = _; rw [← hd.out, HDR.out]; rfl
        go_wp2
        go_ret
        exact ⟨by rw [HF.out]; rfl, rfl⟩
    · have HF : Hid (V = true) := by show _ = _; rw [← hd.out, List.drop_eq_nil_of_le (by omega)]; rfl
      go_wp2
      go_ret
      exact ⟨by rw [HF.out]; rfl, rfl⟩
def powB (n a b : Int) : Bool := decide (a ≤ n) && decide (n ≤ b) && pow2 n.toNat
theorem bits_pow : ∀ m : Nat, m ≤ 256 → 0 < m → (bits .and .i64 (m : Int) ((m : Int) - 1) == 0) = pow2 m := by decide +kernel
theorem powerF_any (n : Int) (w : World) (h1 : n ≤ 256) : Calls Tryz.prog 74 #[.int .i64 n] w fun r w' => r = .returned (.bool (pow2 n.toNat)) ∧ w' = w := by
  by_cases hz : 0 < n
  · have hb := bits_pow n.toNat (by omega) (by omega)
    rw [Int.toNat_of_nonneg (by omega)] at hb
    have HB := Lib.hid hb
    clear hb
    go_enter Tryz.func74, Tryz.ntmps74
    go_wp2
    go_ret
    exact ⟨by rw [← HB.out]; rfl, rfl⟩
  · have hn : n.toNat = 0 := by omega
    rw [hn]
    clear hn
    go_enter Tryz.func74, Tryz.ntmps74
    go_wp2
    go_ret
    exact ⟨rfl, rfl⟩
theorem powerC_any (n a b : Int) (w : World) (h1 : b ≤ 256) : Calls Tryz.prog 49 #[.int .i64 n, .int .i64 a, .int .i64 b] w fun r w' => r = .returned (.bool (powB n a b)) ∧ w' = w := by
  obtain ⟨V, hV⟩ : ∃ V, powB n a b = V := ⟨_, rfl⟩
  rw [hV]
  have HV := Lib.hid hV
  clear hV
  by_cases g1 : a ≤ n
  · by_cases g2 : n ≤ b
    · have HC := Lib.hid (fun w => powerF_any n w (by omega))
      have HP : Hid (V = pow2 n.toNat) := by show _ = _; rw [← HV.out]; unfold powB; rw [decide_eq_true g1, decide_eq_true g2]; rfl
      go_enter Tryz.func49, Tryz.ntmps49
      go_wp2_with fail
      refine (HC.out _).mono ?_
      rw [← HP.out]
      rintro e w1 ⟨rfl, hw⟩
      subst hw
      go_wp2
      go_ret
      exact ⟨rfl, rfl⟩
    · have HP : Hid (V = false) := by show _ = _; rw [← HV.out]; unfold powB; rw [decide_eq_true g1, decide_eq_false g2]; rfl
      go_enter Tryz.func49, Tryz.ntmps49
      go_wp2_with fail
      go_ret
      exact ⟨by rw [HP.out]; rfl, rfl⟩
  · have HP : Hid (V = false) := by show _ = _; rw [← HV.out]; unfold powB; rw [decide_eq_false g1]; rfl
    go_enter Tryz.func49, Tryz.ntmps49
    go_wp2_with fail
    go_ret
    exact ⟨by rw [HP.out]; rfl, rfl⟩
def DownI (n0 : Nat) (w : World) (g : Nat) (a : Act) (wr : World) : Prop :=
  ∃ (m k : Nat) (u1 u4 u5 u6 u7 u8 u9 u10 u11 u12 : Value), a = ⟨#[.int .i64 (m : Int), u1, .int .i64 (k : Int), .int .i64 0, u4, u5, u6, u7, u8, u9, u10, u11, u12], []⟩ ∧ wr = w ∧ g = m ∧ 0 < m ∧ m ≤ 65536 ∧ Hid (Nat.log2 m + k = Nat.log2 n0)
set_option maxHeartbeats 1000000 in
theorem downF_any (n : Nat) (w : World) (h0 : 0 < n) (h1 : n ≤ 65536) : Calls Tryz.prog 75 #[.int .i64 (n : Nat)] w fun r w' => r = .returned (.tuple #[.int .i64 (Nat.log2 n : Nat), .int .i64 0]) ∧ w' = w := by
  have g0 : ¬ (n : Int) < 1 := by omega
  have HI0 : Hid (DownI n w n ⟨#[.int .i64 (n : Int), undef, .int .i64 ((0 : Nat) : Int), .int .i64 0, .int .i64 (n : Int), .bool false, undef, undef, undef, undef, undef, undef, undef], []⟩ w) := ⟨n, 0, _, _, _, _, _, _, _, _, _, _, rfl, rfl, rfl, h0, h1, rfl⟩
  have HL16 := Lib.hid (log2_le h1)
  have HH := Lib.hid h0
  clear h0
  go_enter Tryz.func75, Tryz.ntmps75
  go_wp2
  refine wp_scope_ghost 0 (DownI n w) rfl ?pass ?first
  case pass =>
    clear HI0
    rintro m a' wr ⟨m', k, u1, u4, u5, u6, u7, u8, u9, u10, u11, u12, rfl, hw, rfl, hm0, hm6, hg⟩ K hK
    have hw2 := hw.symm
    subst hw2
    have HK := Lib.hid hK
    clear hK hw
    have hk16 : k ≤ 16 := by have h1 := hg.out; have h2 := HL16.out; omega
    by_cases h2 : 2 ≤ m
    · have g1 : (1 : Int) < (m : Int) := by omega
      have g2 : (m : Int).tdiv 2 = ((m / 2 : Nat) : Int) := by rw [Int.tdiv_eq_ediv_of_nonneg (by omega)]; omega
      have g3 : IntKind.i64.wrap ((k : Int) + 1) = ((k + 1 : Nat) : Int) := (IntWalk.i64_in _ (by omega)).trans (by omega)
      have g4 : IntKind.i64.wrap ((m / 2 : Nat) : Int) = ((m / 2 : Nat) : Int) := IntWalk.i64_in _ (by omega)
      have HG : Hid (Nat.log2 (m / 2) + (k + 1) = Nat.log2 n) := by show _ = _; rw [← hg.out, log2_half h2]; omega
      have H2 := Lib.hid h2
      clear h2
      go_wp2
      go_step3
      refine ⟨rfl, HK.out (m / 2) _ _ ?_ ⟨m / 2, k + 1, u1, u4, u5, .int .i64 (m : Int), .bool true, .int .i64 (m : Int), .int .i64 ((m : Int) / 2), .int .i64 (k : Int), .int .i64 ((k : Int) + 1), u12, ?_, rfl, rfl, ?_, ?_, HG.out⟩⟩
      · have := H2.out; omega
      · simp
      · have := H2.out; omega
      · omega
    · have g1 : ¬ (1 : Int) < (m : Int) := by omega
      have HG : Hid (Nat.log2 n = k) := by
        show _ = _
        have h3 : m = 1 := by omega
        subst h3
        rw [← hg.out]
        simp [Nat.log2_def]
      clear h2
      go_wp2
      simp only [Exit.jump]
      refine bodyPost_ret (v := .tuple #[.int .i64 (k : Int), .int .i64 0]) (by simp [results, Tryz.results75, go_sem]) rfl ?_
      exact ⟨by rw [HG.out], rfl⟩
  case first =>
    rintro K hK
    have HK := Lib.hid hK
    clear hK
    go_wp2
    go_step3
    rename_i hk
    exact hk _ _ (HK.out _ _ _ ⟨n, 0, _, _, _, _, _, _, _, _, _, _, rfl, rfl, rfl, HH.out, h1, rfl⟩)
end Go.Proofs.YtolclahkfmplfaaGreat

/- Contracts: conf.takes, conf.height. -/
namespace Go.Proofs.YtolclahkfmplfaaGreat
open Go Go.RowKit
set_option maxRecDepth 100000
abbrev Cfg.row (c : Cfg) : Array Value := #[.int .u8 c.tag, .int .i64 c.most, .int .i64 c.seg, .int .i64 c.least, .int .i64 c.den, .int .i64 c.leafLow, .int .i64 c.rootLow, .int .i64 c.rootHigh, .int .i64 c.leafHigh]
structure TakeS (c : Cfg) (n d h l : Nat) : Prop where
  den : c.den = d
  high : c.rootHigh = h
  least : c.least = l
  n1 : 0 < n
  n2 : n ≤ 16384
  d1 : 0 < d
  d2 : d ≤ 64
  dh : d ≤ 2 * h
  h2 : h ≤ 64
  l1 : 4 ≤ l
  l2 : l ≤ 256
theorem sm_nat {x : Nat} (h : x ≤ 65536) : smallN (x : Int) = true := by unfold smallN; rw [decide_eq_true (by omega), decide_eq_true (by omega)]; rfl
theorem over_is (n s h d : Nat) : decide (0 < sgn ((n : Int) * (d : Int) - (s : Int) * (h : Int))) = decide (h * s < n * d) := by
  have e1 : ((n : Int) * (d : Int)) = ((n * d : Nat) : Int) := by simp
  have e2 : ((s : Int) * (h : Int)) = ((h * s : Nat) : Int) := by rw [Nat.mul_comm h s]; simp
  rw [e1, e2]
  generalize n * d = p
  generalize h * s = q
  unfold sgn
  by_cases hq : q < p
  · rw [if_pos (by omega), decide_eq_true hq]; rfl
  · rw [if_neg (by omega), decide_eq_false hq]
    split <;> rfl
def TakesI (c : Cfg) (n T : Nat) (w : World) (g : Nat) (a : Act) (wr : World) : Prop :=
  ∃ (s : Nat) (u3 u6 u7 u8 u9 u10 u11 u12 u13 u14 u15 u16 u17 u18 u19 u20 u21 u22 u23 u24 : Value), a = ⟨#[.agg #[.int .u8 c.tag, .int .i64 c.most, .int .i64 c.seg, .int .i64 c.least, .int .i64 c.den, .int .i64 c.leafLow, .int .i64 c.rootLow, .int .i64 c.rootHigh, .int .i64 c.leafHigh], .int .i64 (n : Int), .pointer (some ⟨w.heap.size, 0, none⟩), u3, .int .i64 0, .int .i64 (s : Int), u6, u7, u8, u9, u10, u11, u12, u13, u14, u15, u16, u17, u18, u19, u20, u21, u22, u23, u24], []⟩ ∧ Below w.heap.size w wr ∧ Blk wr w.heap.size 23 c.row ∧ Hid (∃ d h l, TakeS c n d h l ∧ Fits n d h g s ∧ takesF n d h g s = T)
set_option maxHeartbeats 4000000 in
theorem takes_any (c : Cfg) (n d h l : Nat) (w : World) (hs : TakeS c n d h l) :
    Calls Tryz.prog 51 #[.agg c.row, .int .i64 (n : Nat)] w fun r w' => r = .returned (.int .i64 (takesN n d h l : Nat)) ∧ Below w.heap.size w w' := by
  obtain ⟨T, hT⟩ : ∃ T, takesN n d h l = T := ⟨_, rfl⟩
  rw [hT]
  have HT : Hid (∃ d' h' l', TakeS c n d' h' l' ∧ Fits n d' h' 16 l ∧ takesF n d' h' 16 l = T) := ⟨d, h, l, hs, fits_start hs.n2 hs.dh (by have := hs.l1; omega) hs.l2, hT⟩
  have HLE := Lib.hid (show c.least = (l : Int) from hs.least)
  clear hT hs
  obtain ⟨W0, hW0⟩ : ∃ W0, w.alloc (.cells c.row 23) = W0 := ⟨_, rfl⟩
  have hb0 : Below w.heap.size w W0 := by rw [← hW0]; exact (Below.refl _ _).alloc (Nat.le_refl _) _
  have b0 : Blk W0 w.heap.size 23 c.row := by rw [← hW0]; exact Blk.new _ _ _
  have HW0 := Lib.hid hW0
  clear hW0
  go_enter Tryz.func51, Tryz.ntmps51
  go_wp2
  rw [HW0.out]
  refine wp_scope_ghost 0 (TakesI c n T w) rfl ?pass ?first
  case pass =>
    clear HT
    rintro g a' wr ⟨s, u3, u6, u7, u8, u9, u10, u11, u12, u13, u14, u15, u16, u17, u18, u19, u20, u21, u22, u23, u24, rfl, hb, bC, hI⟩ K hK
    have HK := Lib.hid hK
    obtain ⟨d, h, l, hs, hf, hTT⟩ := hI.out
    have HS := Lib.hid hs
    have HF := Lib.hid hf
    have HTT := Lib.hid hTT
    have c4 : wr.cell? ⟨w.heap.size, 4, none⟩ = some (.int .i64 (d : Int)) := (bC.cell 4).trans (by rw [← hs.den]; rfl)
    have c7 : wr.cell? ⟨w.heap.size, 7, none⟩ = some (.int .i64 (h : Int)) := (bC.cell 7).trans (by rw [← hs.high]; rfl)
    have hx := fun W => cross_any (n : Int) (s : Int) (h : Int) (d : Int) W (sm_nat (by have := hs.n2; omega)) (sm_nat hf.le) (sm_nat (by have := hs.h2; omega)) (sm_nat (by have := hs.d2; omega))
    have ho := over_is n s h d
    obtain ⟨V, hV⟩ : ∃ V, sgn ((n : Int) * (d : Int) - (s : Int) * (h : Int)) = V := ⟨_, rfl⟩
    rw [hV] at ho hx
    have HX := Lib.hid hx
    have hs6 := hf.le
    have HO := Lib.hid ho
    have HB := Lib.hid hb
    have HC := Lib.hid bC
    clear hK hI hx hs hf hTT ho hV hb bC
    go_wp2_with fail
    refine (HX.out _).mono ?_
    rintro e w1 ⟨rfl, hb1⟩
    have HB1 := Lib.hid (bext HB.out hb1)
    have HC1 := Lib.hid (HC.out.below hb1 HC.out.lt)
    clear c4 c7 hb1
    by_cases hgo : h * s < n * d
    · have g1 : (0 : Int) < V := by have := HO.out; rw [decide_eq_true hgo] at this; exact of_decide_eq_true this
      have g2 : IntKind.i64.wrap ((s : Int) * 2) = ((2 * s : Nat) : Int) := (IntWalk.i64_in _ (by omega)).trans (by omega)
      obtain ⟨k', hk', ht', hf'⟩ := takes_step HF.out hgo HS.out.n2 HS.out.dh
      have HK2 : Hid (k' < g) := by show _ < _; omega
      have HN : Hid (∃ d h l, TakeS c n d h l ∧ Fits n d h k' (2 * s) ∧ takesF n d h k' (2 * s) = T) := ⟨d, h, l, HS.out, hf', by rw [← ht', HTT.out]⟩
      clear hgo hk' ht' hf'
      go_wp2_with fail
      go_step3
      refine ⟨rfl, HK.out k' _ _ HK2.out ⟨2 * s, u3, .int .i64 V, .int .i64 0, u8, u9, .tuple #[.int .i64 V, .int .i64 0], .int .i64 (n : Int), .int .i64 (s : Int), .pointer (some ⟨w.heap.size, 7, none⟩), .int .i64 (h : Int), .pointer (some ⟨w.heap.size, 4, none⟩), .int .i64 (d : Int), .tuple #[.int .i64 V, .int .i64 0], .int .i64 V, .int .i64 0, .int .i64 V, .bool true, .int .i64 (s : Int), .int .i64 (2 * (s : Int)), u24, ?_, HB1.out, HC1.out, HN⟩⟩
      simp
    · have g1 : ¬ (0 : Int) < V := by have := HO.out; rw [decide_eq_false hgo] at this; exact of_decide_eq_false this
      have HV : Hid (T = s) := by show _ = _; rw [← HTT.out, takes_end hgo]
      clear hgo
      go_wp2_with fail
      simp only [Exit.jump]
      refine bodyPost_ret (v := .int .i64 (s : Int)) (by simp [results, Tryz.results51, go_sem]) rfl ?_
      exact ⟨by rw [HV.out], HB1.out⟩
  case first =>
    rintro K hK
    have HK := Lib.hid hK
    have c3 : W0.cell? ⟨w.heap.size, 3, none⟩ = some (.int .i64 (l : Int)) := (b0.cell 3).trans (by rw [← HLE.out]; rfl)
    have HB0 := Lib.hid hb0
    have HC0 := Lib.hid b0
    clear hK b0 hb0
    go_wp2_with fail
    go_step3
    rename_i hk
    exact hk _ _ (HK.out 16 _ _ ⟨l, _, _, _, _, _, _, _, _, _, _, _, _, _, _, _, _, _, _, _, _, rfl, HB0.out, HC0.out, HT⟩)
theorem height_any (c : Cfg) (s g : Nat) (w : World) (hg : c.seg = (g : Int)) (hs : s ≤ 65536) (h0 : 0 < g) (h1 : g ≤ s) :
    Calls Tryz.prog 50 #[.agg c.row, .int .i64 (s : Nat)] w fun r w' => r = .returned (.int .i64 (Nat.log2 (s / g) : Nat)) ∧ Below w.heap.size w w' := by
  obtain ⟨W0, hW0⟩ : ∃ W0, w.alloc (.cells c.row 23) = W0 := ⟨_, rfl⟩
  have hb0 : Below w.heap.size w W0 := by rw [← hW0]; exact (Below.refl _ _).alloc (Nat.le_refl _) _
  have b0 : Blk W0 w.heap.size 23 c.row := by rw [← hW0]; exact Blk.new _ _ _
  have HW0 := Lib.hid hW0
  have c2 : W0.cell? ⟨w.heap.size, 2, none⟩ = some (.int .i64 (g : Int)) := (b0.cell 2).trans (by rw [← hg]; rfl)
  have hq : (s : Int).tdiv (g : Int) = ((s / g : Nat) : Int) := by rw [Int.tdiv_eq_ediv_of_nonneg (by omega)]; exact (Int.natCast_ediv s g).symm
  have hd1 : 0 < s / g := Nat.div_pos h1 h0
  have hd2 : s / g ≤ s := Nat.div_le_self s g
  have hz : ¬ (g : Int) = 0 := by omega
  obtain ⟨Q, hQ⟩ : ∃ Q, s / g = Q := ⟨_, rfl⟩
  rw [hQ] at hq hd1 hd2 ⊢
  have hw : IntKind.i64.wrap (Q : Int) = (Q : Int) := IntWalk.i64_in _ (by omega)
  have HD := Lib.hid (fun W => downF_any Q W hd1 (by omega))
  clear hW0 hQ b0 hg h1
  go_enter Tryz.func50, Tryz.ntmps50
  go_upto_region 1 with fail
  rw [HW0.out]
  go_wp2_with fail
  refine (HD.out _).mono ?_
  rintro e w1 ⟨rfl, hw1⟩
  subst hw1
  go_wp2
  go_ret
  exact ⟨rfl, hb0⟩
end Go.Proofs.YtolclahkfmplfaaGreat

/- Contract: conf.Check. -/
namespace Go.Proofs.YtolclahkfmplfaaGreat
open Go Go.RowKit
set_option maxRecDepth 100000
def sizesL (c : Cfg) : List Bool := [decide (1 ≤ c.tag), decide (c.tag ≤ 3), decide (1 ≤ c.most), decide (c.most ≤ 16384), powB c.seg 4 64, powB c.least c.seg 256, decide (1 ≤ c.den), decide (c.den ≤ 64)]
def partsL (c : Cfg) : List Bool := [decide (0 ≤ c.leafLow), decide (c.leafLow < c.rootLow), decide (c.rootLow < c.rootHigh), decide (c.rootHigh < c.leafHigh), decide (c.leafHigh ≤ c.den)]
def roomL (c : Cfg) : List Bool := [decide (c.den ≤ 2 * c.rootHigh), decide (8 * c.rootLow ≤ c.den), decide (2 * c.den ≤ c.rootLow * c.least)]
def tallB (c : Cfg) : Bool := decide (c.den * (c.tall : Int) ≤ (c.leafHigh - c.rootHigh) * c.seg)
def okC (c : Cfg) : Bool := (sizesL c).all id && (partsL c).all id && (roomL c).all id && tallB c
def errC (c : Cfg) : Int := if okC c = true then 0 else 50
theorem allB_any (A : Option Addr) (l : List Bool) (c : Nat) (w : World) (hA : Sl w A (l.map bv)) (hl : l.length ≤ 1000000) :
    Calls Tryz.prog 48 #[.slice A l.length c] w fun r w' => r = .returned (.bool (l.all id)) ∧ Below w.heap.size w w' :=
  (allc_any A l c w hA hl).mono (fun _ _ h => ⟨h.1, h.2 ▸ Below.refl _ _⟩)
set_option maxHeartbeats 16000000 in
theorem checkC_any (c : Cfg) (w : World) : Calls Tryz.prog 31 #[.agg c.row] w fun r w' => r = .returned (.int .i64 (errC c)) ∧ Below w.heap.size w w' := by
  obtain ⟨W0, hW0⟩ : ∃ W0, w.alloc (.cells c.row 23) = W0 := ⟨_, rfl⟩
  have hb0 : Below w.heap.size w W0 := by rw [← hW0]; exact (Below.refl _ _).alloc (Nat.le_refl _) _
  have b0 : Blk W0 w.heap.size 23 c.row := by rw [← hW0]; exact Blk.new _ _ _
  have HW0 := Lib.hid hW0
  have HB0 := Lib.hid hb0
  have HC0 := Lib.hid b0
  have hp1 := fun W => (powerC_any c.seg 4 64 W (by omega)).mono (R' := fun r w' => r = .returned (.bool (powB c.seg 4 64)) ∧ Below W.heap.size W w') (fun r w' h => ⟨h.1, h.2 ▸ Below.refl _ _⟩)
  have hp2 := fun W => (powerC_any c.least c.seg 256 W (by omega)).mono (R' := fun r w' => r = .returned (.bool (powB c.least c.seg 256)) ∧ Below W.heap.size W w') (fun r w' h => ⟨h.1, h.2 ▸ Below.refl _ _⟩)
  obtain ⟨t4, h4⟩ : ∃ t, powB c.seg 4 64 = t := ⟨_, rfl⟩
  obtain ⟨t5, h5⟩ : ∃ t, powB c.least c.seg 256 = t := ⟨_, rfl⟩
  rw [h4] at hp1
  rw [h5] at hp2
  have HS1 := Lib.hid (show [decide (1 ≤ c.tag), decide (c.tag ≤ 3), decide (1 ≤ c.most), decide (c.most ≤ 16384), t4, t5, decide (1 ≤ c.den), decide (c.den ≤ 64)].all id = (sizesL c).all id by unfold sizesL; rw [h4, h5])
  obtain ⟨S1, hS1⟩ : ∃ S, (sizesL c).all id = S := ⟨_, rfl⟩
  rw [hS1] at HS1
  have HZ1 := Lib.hid hS1
  have HP1 := Lib.hid hp1
  have HP2 := Lib.hid hp2
  have H4 := Lib.hid h4
  have H5 := Lib.hid h5
  clear hW0 hb0 hp1 hp2 h4 h5 hS1
  have q0 : W0.cell? ⟨w.heap.size, 0, none⟩ = some (.int .u8 c.tag) := b0.cell 0
  have q1 : W0.cell? ⟨w.heap.size, 1, none⟩ = some (.int .i64 c.most) := b0.cell 1
  have q2 : W0.cell? ⟨w.heap.size, 2, none⟩ = some (.int .i64 c.seg) := b0.cell 2
  have q3 : W0.cell? ⟨w.heap.size, 3, none⟩ = some (.int .i64 c.least) := b0.cell 3
  have q4 : W0.cell? ⟨w.heap.size, 4, none⟩ = some (.int .i64 c.den) := b0.cell 4
  have q5 : W0.cell? ⟨w.heap.size, 5, none⟩ = some (.int .i64 c.leafLow) := b0.cell 5
  have q6 : W0.cell? ⟨w.heap.size, 6, none⟩ = some (.int .i64 c.rootLow) := b0.cell 6
  have q7 : W0.cell? ⟨w.heap.size, 7, none⟩ = some (.int .i64 c.rootHigh) := b0.cell 7
  have q8 : W0.cell? ⟨w.heap.size, 8, none⟩ = some (.int .i64 c.leafHigh) := b0.cell 8
  have i0 := b0.lt
  clear b0
  go_enter Tryz.func31, Tryz.ntmps31
  go_upto_region 1 with fail
  rw [HW0.out]
  go_cut [3] from 5 to 32 (fun v wx => v = .bool S1 ∧ Below W0.heap.size W0 wx)
  case first =>
    go_region_held3 (fun w' => (∀ bq jq, bq < W0.heap.size → w'.cell? ⟨bq, jq, none⟩ = W0.cell? ⟨bq, jq, none⟩) ∧ (∀ bq jq, bq < W0.heap.size → w'.frozen? ⟨bq, jq, none⟩ = W0.frozen? ⟨bq, jq, none⟩) ∧ W0.heap.size ≤ w'.heap.size ∧ Below W0.heap.size W0 w') ((with_reducible first | exact SB.init | exact SB.init0 | exact SB.alloc _ (by assumption) | exact SB.allocD _ (by assumption) | exact SB.below (by assumption) (by assumption) | assumption))
      (first
        | (have hx := hv21; go_at_call 49; refine (HP2.out _).mono ?_; rintro e22 v22 ⟨rfl, hv22⟩; have hl22 := SB.le hv22 (by assumption); obtain ⟨hc22, hz22, hs22⟩ := wfacts hv22)
        | (go_at_call 49; refine (HP1.out _).mono ?_; rintro e21 v21 ⟨rfl, hv21⟩; have hl21 := SB.le hv21 (by assumption); obtain ⟨hc21, hz21, hs21⟩ := wfacts hv21)
        | (go_at_call 49; refine (HP2.out _).mono ?_; rintro e23 v23 ⟨rfl, hv23⟩; have hl23 := SB.le hv23 (by assumption); obtain ⟨hc23, hz23, hs23⟩ := wfacts hv23)
        | (go_at_call 48; refine (allB_any _ [decide (1 ≤ c.tag), decide (c.tag ≤ 3), decide (1 ≤ c.most), decide (c.most ≤ 16384), t4, t5, decide (1 ≤ c.den), decide (c.den ≤ 64)] 8 _ (by exact sl_new1 _ _ _) (by simp)).mono ?_; rw [HS1.out]; rintro e24 v24 ⟨rfl, hv24⟩; have hl24 := SB.le hv24 (by assumption); obtain ⟨hc24, hz24, hs24⟩ := wfacts hv24)
        | fail "no arm")
    all_goals
      go_wp2_with fail
      go_meet
      exact ⟨by simp, SB.bel (by assumption)⟩
  case rest =>
    obtain ⟨rfl, hb1⟩ := hcut
    rename_i hk
    refine hk _ _ ?_
    have HB1 := Lib.hid (bext HB0.out hb1)
    have bC1 := HC0.out.below hb1 HC0.out.lt
    have HC1 := Lib.hid bC1
    clear hk hb1 q0 q1 q2 q3 q4 q5 q6 q7 q8 i0 HP1 HP2 HS1
    have q0 : wc.cell? ⟨w.heap.size, 0, none⟩ = some (.int .u8 c.tag) := bC1.cell 0
    have q1 : wc.cell? ⟨w.heap.size, 1, none⟩ = some (.int .i64 c.most) := bC1.cell 1
    have q2 : wc.cell? ⟨w.heap.size, 2, none⟩ = some (.int .i64 c.seg) := bC1.cell 2
    have q3 : wc.cell? ⟨w.heap.size, 3, none⟩ = some (.int .i64 c.least) := bC1.cell 3
    have q4 : wc.cell? ⟨w.heap.size, 4, none⟩ = some (.int .i64 c.den) := bC1.cell 4
    have q5 : wc.cell? ⟨w.heap.size, 5, none⟩ = some (.int .i64 c.leafLow) := bC1.cell 5
    have q6 : wc.cell? ⟨w.heap.size, 6, none⟩ = some (.int .i64 c.rootLow) := bC1.cell 6
    have q7 : wc.cell? ⟨w.heap.size, 7, none⟩ = some (.int .i64 c.rootHigh) := bC1.cell 7
    have q8 : wc.cell? ⟨w.heap.size, 8, none⟩ = some (.int .i64 c.leafHigh) := bC1.cell 8
    clear bC1
    go_wp2_with fail
    refine (allB_any _ [decide (0 ≤ c.leafLow), decide (c.leafLow < c.rootLow), decide (c.rootLow < c.rootHigh), decide (c.rootHigh < c.leafHigh), decide (c.leafHigh ≤ c.den)] 5 _ (by exact sl_new1 _ _ _) (by simp)).mono ?_
    obtain ⟨S2, hS2⟩ : ∃ S, (partsL c).all id = S := ⟨_, rfl⟩
    have hS2' := hS2
    unfold partsL at hS2'
    rw [hS2']
    have HZ2 := Lib.hid hS2
    clear hS2 hS2'
    have ha1 : Below wc.heap.size wc (wc.alloc (.cells #[.bool (decide (0 ≤ c.leafLow)), .bool (decide (c.leafLow < c.rootLow)), .bool (decide (c.rootLow < c.rootHigh)), .bool (decide (c.rootHigh < c.leafHigh)), .bool (decide (c.leafHigh ≤ c.den))] 4)) := (Below.refl _ _).alloc (Nat.le_refl _) _
    rintro e w2 ⟨rfl, hb2⟩
    have HB2 := Lib.hid (bext HB1.out (bext ha1 hb2))
    have HC2 := Lib.hid (HC1.out.below (bext ha1 hb2) HC1.out.lt)
    clear ha1 hb2 q0 q1 q2 q3 q4 q5 q6 q7 q8
    cases hs1 : S1 with
    | false =>
      have HE : Hid (errC c = 50) := by show _ = _; unfold errC okC; rw [HZ1.out, hs1]; rfl
      go_wp2_with fail
      go_ret
      exact ⟨by rw [HE.out]; rfl, HB2.out⟩
    | true =>
    subst hs1
    cases hs2 : S2 with
    | false =>
      have HE : Hid (errC c = 50) := by show _ = _; unfold errC okC; rw [HZ1.out, HZ2.out, hs2]; rfl
      go_wp2_with fail
      go_ret
      exact ⟨by rw [HE.out]; rfl, HB2.out⟩
    | true =>
    subst hs2
    have hb := HZ1.out
    have hb' := HZ2.out
    simp only [sizesL, partsL, powB, List.all_cons, List.all_nil, id, Bool.and_eq_true, decide_eq_true_eq, Bool.and_true] at hb hb'
    obtain ⟨hx1, hx2, hx3, hx4, ⟨⟨hx5, hx6⟩, hx7⟩, ⟨⟨hx8, hx9⟩, hx10⟩, hx11, hx12⟩ := hb
    obtain ⟨hy1, hy2, hy3, hy4, hy5⟩ := hb'
    have hz1 : IntKind.i64.wrap (2 * c.rootHigh) = 2 * c.rootHigh := IntWalk.i64_in _ (by omega)
    have hz2 : IntKind.i64.wrap (8 * c.rootLow) = 8 * c.rootLow := IntWalk.i64_in _ (by omega)
    have hz3 : IntKind.i64.wrap (2 * c.den) = 2 * c.den := IntWalk.i64_in _ (by omega)
    have hm : 0 ≤ c.rootLow * c.least ∧ c.rootLow * c.least ≤ 16384 := by
      have h1 : 0 ≤ c.rootLow := by omega
      have h2 : c.rootLow ≤ 64 := by omega
      refine ⟨Int.mul_nonneg h1 (by omega), ?_⟩
      have := Int.mul_le_mul h2 hx9 (by omega) (by omega)
      omega
    have hz4 : IntKind.i64.wrap (c.rootLow * c.least) = c.rootLow * c.least := IntWalk.i64_in _ (by omega)
    have HX := Lib.hid (show (1 ≤ c.most ∧ c.most ≤ 16384) ∧ (4 ≤ c.seg ∧ c.seg ≤ 64) ∧ (c.seg ≤ c.least ∧ c.least ≤ 256) ∧ (1 ≤ c.den ∧ c.den ≤ 64) from ⟨⟨hx3, hx4⟩, ⟨hx5, hx6⟩, ⟨hx8, hx9⟩, hx11, hx12⟩)
    have HY := Lib.hid (show 0 ≤ c.leafLow ∧ c.leafLow < c.rootLow ∧ c.rootLow < c.rootHigh ∧ c.rootHigh < c.leafHigh ∧ c.leafHigh ≤ c.den from ⟨hy1, hy2, hy3, hy4, hy5⟩)
    clear hx1 hx2 hx3 hx4 hx5 hx6 hx7 hx8 hx9 hx10 hx11 hx12 hy1 hy2 hy3 hy4 hy5 hm
    have bC2 := HC2.out
    have q0 : w2.cell? ⟨w.heap.size, 0, none⟩ = some (.int .u8 c.tag) := bC2.cell 0
    have q1 : w2.cell? ⟨w.heap.size, 1, none⟩ = some (.int .i64 c.most) := bC2.cell 1
    have q2 : w2.cell? ⟨w.heap.size, 2, none⟩ = some (.int .i64 c.seg) := bC2.cell 2
    have q3 : w2.cell? ⟨w.heap.size, 3, none⟩ = some (.int .i64 c.least) := bC2.cell 3
    have q4 : w2.cell? ⟨w.heap.size, 4, none⟩ = some (.int .i64 c.den) := bC2.cell 4
    have q5 : w2.cell? ⟨w.heap.size, 5, none⟩ = some (.int .i64 c.leafLow) := bC2.cell 5
    have q6 : w2.cell? ⟨w.heap.size, 6, none⟩ = some (.int .i64 c.rootLow) := bC2.cell 6
    have q7 : w2.cell? ⟨w.heap.size, 7, none⟩ = some (.int .i64 c.rootHigh) := bC2.cell 7
    have q8 : w2.cell? ⟨w.heap.size, 8, none⟩ = some (.int .i64 c.leafHigh) := bC2.cell 8
    clear bC2
    go_wp2_with fail
    refine (allB_any _ [decide (c.den ≤ 2 * c.rootHigh), decide (8 * c.rootLow ≤ c.den), decide (2 * c.den ≤ c.rootLow * c.least)] 3 _ (by exact sl_new1 _ _ _) (by simp)).mono ?_
    obtain ⟨S3, hS3⟩ : ∃ S, (roomL c).all id = S := ⟨_, rfl⟩
    have hS3' := hS3
    unfold roomL at hS3'
    rw [hS3']
    have HZ3 := Lib.hid hS3
    clear hS3 hS3' hz1 hz2 hz3 hz4
    have ha1 : Below w2.heap.size w2 (w2.alloc (.cells #[.bool (decide (c.den ≤ 2 * c.rootHigh)), .bool (decide (8 * c.rootLow ≤ c.den)), .bool (decide (2 * c.den ≤ c.rootLow * c.least))] 4)) := (Below.refl _ _).alloc (Nat.le_refl _) _
    rintro e w3 ⟨rfl, hb3⟩
    have HB3 := Lib.hid (bext HB2.out (bext ha1 hb3))
    have HC3 := Lib.hid (HC2.out.below (bext ha1 hb3) HC2.out.lt)
    clear ha1 hb3 q0 q1 q2 q3 q4 q5 q6 q7 q8
    cases hs3 : S3 with
    | false =>
      have HE : Hid (errC c = 50) := by show _ = _; unfold errC okC; rw [HZ1.out, HZ2.out, HZ3.out, hs3]; rfl
      go_wp2_with fail
      go_ret
      exact ⟨by rw [HE.out]; rfl, HB3.out⟩
    | true =>
    subst hs3
    have hb := HZ3.out
    simp only [roomL, List.all_cons, List.all_nil, id, Bool.and_eq_true, decide_eq_true_eq, Bool.and_true] at hb
    obtain ⟨hr1, hr2, hr3⟩ := hb
    obtain ⟨⟨hx3, hx4⟩, ⟨hx5, hx6⟩, ⟨hx8, hx9⟩, hx11, hx12⟩ := HX.out
    obtain ⟨hy1, hy2, hy3, hy4, hy5⟩ := HY.out
    have hts : TakeS c c.most.toNat c.den.toNat c.rootHigh.toNat c.least.toNat := ⟨(Int.toNat_of_nonneg (by omega)).symm, (Int.toNat_of_nonneg (by omega)).symm, (Int.toNat_of_nonneg (by omega)).symm, by omega, by omega, by omega, by omega, by omega, by omega, by omega, by omega⟩
    have htl := takes_le (n := c.most.toNat) (den := c.den.toNat) (high := c.rootHigh.toNat) hts.n2 hts.dh (fits_start (s := c.least.toNat) hts.n2 hts.dh (by have := hts.l1; omega) hts.l2)
    have htk := fun W => takes_any c c.most.toNat c.den.toNat c.rootHigh.toNat c.least.toNat W hts
    have htall : c.tall = Nat.log2 (takesN c.most.toNat c.den.toNat c.rootHigh.toNat c.least.toNat / c.seg.toNat) := rfl
    have htl2 : takesN c.most.toNat c.den.toNat c.rootHigh.toNat c.least.toNat ≤ 65536 ∧ c.least.toNat ≤ takesN c.most.toNat c.den.toNat c.rootHigh.toNat c.least.toNat := htl
    obtain ⟨T, hT⟩ : ∃ T, takesN c.most.toNat c.den.toNat c.rootHigh.toNat c.least.toNat = T := ⟨_, rfl⟩
    rw [hT] at htk htall htl2
    rw [Int.toNat_of_nonneg (by omega : 0 ≤ c.most)] at htk
    have hht := fun W => height_any c T c.seg.toNat W (Int.toNat_of_nonneg (by omega)).symm htl2.1 (by omega) (by omega)
    rw [← htall] at hht
    obtain ⟨t, ht⟩ : ∃ t, c.tall = t := ⟨_, rfl⟩
    rw [ht] at hht htall
    have ht16 : t ≤ 16 := by
      rw [htall]
      exact log2_le (Nat.le_trans (Nat.div_le_self _ _) htl2.1)
    have hm1 : 0 ≤ c.den * (t : Int) ∧ c.den * (t : Int) ≤ 1024 := by
      refine ⟨Int.mul_nonneg (by omega) (by omega), ?_⟩
      have := Int.mul_le_mul hx12 (show (t : Int) ≤ 16 by omega) (by omega) (by omega)
      omega
    have hm2 : 0 ≤ (c.leafHigh - c.rootHigh) * c.seg ∧ (c.leafHigh - c.rootHigh) * c.seg ≤ 4096 := by
      refine ⟨Int.mul_nonneg (by omega) (by omega), ?_⟩
      have := Int.mul_le_mul (show c.leafHigh - c.rootHigh ≤ 64 by omega) hx6 (by omega) (by omega)
      omega
    have hz1 : IntKind.i64.wrap (c.leafHigh - c.rootHigh) = c.leafHigh - c.rootHigh := IntWalk.i64_in _ (by omega)
    have hz2 : IntKind.i64.wrap ((c.leafHigh - c.rootHigh) * c.seg) = (c.leafHigh - c.rootHigh) * c.seg := IntWalk.i64_in _ (by omega)
    have hz3 : IntKind.i64.wrap (c.den * (t : Int)) = c.den * (t : Int) := IntWalk.i64_in _ (by omega)
    have HE : Hid (errC c = if (c.leafHigh - c.rootHigh) * c.seg < c.den * (t : Int) then 50 else 0) := by
      show _ = _
      unfold errC okC tallB
      rw [HZ1.out, HZ2.out, HZ3.out, ht]
      by_cases h : (c.leafHigh - c.rootHigh) * c.seg < c.den * (t : Int)
      · rw [if_pos h, decide_eq_false (by omega)]; rfl
      · rw [if_neg h, decide_eq_true (by omega)]; rfl
    have HTK := Lib.hid htk
    have HHT := Lib.hid hht
    clear hts htl htk htall htl2 hT hht ht hr1 hr2 hr3 hx3 hx4 hx5 hx6 hx8 hx9 hx11 hx12 hy1 hy2 hy3 hy4 hy5 hm1 hm2 ht16
    have bC3 := HC3.out
    have q0 : w3.cell? ⟨w.heap.size, 0, none⟩ = some (.int .u8 c.tag) := bC3.cell 0
    have q1 : w3.cell? ⟨w.heap.size, 1, none⟩ = some (.int .i64 c.most) := bC3.cell 1
    have q2 : w3.cell? ⟨w.heap.size, 2, none⟩ = some (.int .i64 c.seg) := bC3.cell 2
    have q3 : w3.cell? ⟨w.heap.size, 3, none⟩ = some (.int .i64 c.least) := bC3.cell 3
    have q4 : w3.cell? ⟨w.heap.size, 4, none⟩ = some (.int .i64 c.den) := bC3.cell 4
    have q5 : w3.cell? ⟨w.heap.size, 5, none⟩ = some (.int .i64 c.leafLow) := bC3.cell 5
    have q6 : w3.cell? ⟨w.heap.size, 6, none⟩ = some (.int .i64 c.rootLow) := bC3.cell 6
    have q7 : w3.cell? ⟨w.heap.size, 7, none⟩ = some (.int .i64 c.rootHigh) := bC3.cell 7
    have q8 : w3.cell? ⟨w.heap.size, 8, none⟩ = some (.int .i64 c.leafHigh) := bC3.cell 8
    have i3 := bC3.lt
    clear bC3
    go_upto_region 5 with fail
    go_cut [107] from 90 to 107 (fun v wx => v = .bool (decide ((c.leafHigh - c.rootHigh) * c.seg < c.den * (t : Int))) ∧ Below w3.heap.size w3 wx)
    case first =>
      go_region_held3 (fun w' => (∀ bq jq, bq < w3.heap.size → w'.cell? ⟨bq, jq, none⟩ = w3.cell? ⟨bq, jq, none⟩) ∧ (∀ bq jq, bq < w3.heap.size → w'.frozen? ⟨bq, jq, none⟩ = w3.frozen? ⟨bq, jq, none⟩) ∧ w3.heap.size ≤ w'.heap.size ∧ Below w3.heap.size w3 w') ((with_reducible first | exact SB.init | exact SB.init0 | exact SB.alloc _ (by assumption) | exact SB.allocD _ (by assumption) | exact SB.below (by assumption) (by assumption) | assumption))
        (first
          | (go_at_call 51; refine (HTK.out _).mono ?_; rintro e21 v21 ⟨rfl, hv21⟩; have hl21 := SB.le hv21 (by assumption); obtain ⟨hc21, hz21, hs21⟩ := wfacts hv21)
          | (go_at_call 50; refine (HHT.out _).mono ?_; rintro e22 v22 ⟨rfl, hv22⟩; have hl22 := SB.le hv22 (by assumption); obtain ⟨hc22, hz22, hs22⟩ := wfacts hv22)
          | fail "no arm")
      all_goals
        go_wp2_with fail
        go_meet
        exact ⟨by simp, SB.bel (by assumption)⟩
    case rest =>
      obtain ⟨rfl, hb4⟩ := hcut
      have HB4 := Lib.hid (bext HB3.out hb4)
      clear hb4 q0 q1 q2 q3 q4 q5 q6 q7 q8
      by_cases hlt : (c.leafHigh - c.rootHigh) * c.seg < c.den * (t : Int)
      · rw [decide_eq_true hlt]
        have HV : Hid (errC c = 50) := by show _ = _; rw [HE.out, if_pos hlt]
        clear hlt
        go_wp2_with fail
        go_ret
        exact ⟨by rw [HV.out]; rfl, HB4.out⟩
      · rw [decide_eq_false hlt]
        have HV : Hid (errC c = 0) := by show _ = _; rw [HE.out, if_neg hlt]
        clear hlt
        go_wp2_with fail
        go_ret
        exact ⟨by rw [HV.out]; rfl, HB4.out⟩
end Go.Proofs.YtolclahkfmplfaaGreat
