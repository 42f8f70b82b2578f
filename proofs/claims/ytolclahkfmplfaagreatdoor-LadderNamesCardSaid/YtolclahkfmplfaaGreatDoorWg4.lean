/- Eytz Wey Eref Bld: texts of the claim, in this order. -/
import Derived.Test.YtolclahkfmplfaaGreatDoorProg
import Derived.Test.YtolclahkfmplfaaGreatDoorWg2
import Derived.Test.YtolclahkfmplfaaGreatDoorWg1
import Derived.Deep.RegionHeld3
import Derived.Deep.AppendLies
import Derived.Deep.RegionLaw
/- Eytzinger's layout as plain mathematics: the places in order, the way from each to the next, that they are just the places below n. -/
namespace Go.Proofs.YtolclahkfmplfaaGreatDoor

def inord (n a : Nat) : List Nat := if _h : a < n then inord n (2 * a + 1) ++ a :: inord n (2 * a + 2) else []
termination_by n - a
decreasing_by all_goals omega

def lm (n a : Nat) : Nat := if h : 2 * a + 1 < n then lm n (2 * a + 1) else a
termination_by n - a
decreasing_by omega

def upo (a : Nat) : Option Nat := if a = 0 then none else if a % 2 = 1 then some ((a - 1) / 2) else upo ((a - 1) / 2)
termination_by a
decreasing_by omega

def nx (n a : Nat) : Option Nat := if 2 * a + 2 < n then some (lm n (2 * a + 2)) else upo a

theorem inord_in {n a : Nat} (h : a < n) : inord n a = inord n (2 * a + 1) ++ a :: inord n (2 * a + 2) := by rw [inord]; simp [h]
theorem inord_out {n a : Nat} (h : ¬ a < n) : inord n a = [] := by rw [inord]; simp [h]
theorem lm_in {n a : Nat} (h : 2 * a + 1 < n) : lm n a = lm n (2 * a + 1) := by rw [lm]; simp [h]
theorem lm_out {n a : Nat} (h : ¬ 2 * a + 1 < n) : lm n a = a := by rw [lm]; simp [h]
theorem upo_zero : upo 0 = none := by rw [upo]; simp
theorem upo_odd {a : Nat} (h : a % 2 = 1) : upo a = some ((a - 1) / 2) := by rw [upo, if_neg (by omega), if_pos h]
theorem upo_even {a : Nat} (h0 : a ≠ 0) (h : a % 2 ≠ 1) : upo a = upo ((a - 1) / 2) := by rw [upo, if_neg h0, if_neg h]

theorem inord_ne {n a : Nat} (h : a < n) : inord n a ≠ [] := by rw [inord_in h]; simp

theorem inord_head (n a : Nat) (h : a < n) : (inord n a).head? = some (lm n a) := by
  induction a using lm.induct (n := n) with
  | case1 a h1 ih =>
    rw [inord_in h, lm_in h1, List.head?_append, ih h1]
    rfl
  | case2 a h1 =>
    rw [inord_in h, lm_out h1, inord_out h1]
    rfl

theorem inord_zero_get {n a : Nat} (h : a < n) (h0 : 0 < (inord n a).length) : (inord n a)[0]'h0 = lm n a := by
  have := inord_head n a h
  rw [List.head?_eq_getElem?, List.getElem?_eq_getElem h0] at this
  exact Option.some.inj this

/-- from each place under a the way leads to the next one under a, or out of it, upward -/
theorem nx_under (n : Nat) : ∀ (m a : Nat), n - a ≤ m → a < n → ∀ (k : Nat) (x : Nat), (inord n a)[k]? = some x → nx n x = ((inord n a)[k + 1]?).or (upo a) := by
  intro m
  induction m with
  | zero => intro a hm h; omega
  | succ m ih =>
    intro a hm h k x hx
    have hl : ∀ k x, (inord n (2 * a + 1))[k]? = some x → nx n x = ((inord n (2 * a + 1))[k + 1]?).or (some a) := by
      intro k x hx
      by_cases h1 : 2 * a + 1 < n
      · have := ih (2 * a + 1) (by omega) h1 k x hx
        rw [this, upo_odd (by omega)]
        congr 2
        omega
      · rw [inord_out h1] at hx; simp at hx
    have hr : ∀ k x, (inord n (2 * a + 2))[k]? = some x → nx n x = ((inord n (2 * a + 2))[k + 1]?).or (upo a) := by
      intro k x hx
      by_cases h1 : 2 * a + 2 < n
      · have := ih (2 * a + 2) (by omega) h1 k x hx
        rw [this, upo_even (a := 2 * a + 2) (by omega) (by omega)]
        congr 2
        omega
      · rw [inord_out h1] at hx; simp at hx
    rw [inord_in h] at hx ⊢
    rcases Nat.lt_trichotomy k (inord n (2 * a + 1)).length with hk | hk | hk
    · rw [List.getElem?_append_left hk] at hx
      rw [hl k x hx]
      by_cases hk1 : k + 1 < (inord n (2 * a + 1)).length
      · rw [List.getElem?_append_left hk1, List.getElem?_eq_getElem hk1]; rfl
      · have : k + 1 = (inord n (2 * a + 1)).length := by omega
        rw [List.getElem?_append_right (by omega), this, Nat.sub_self, List.getElem?_eq_none (by omega)]
        rfl
    · rw [List.getElem?_append_right (by omega), hk, Nat.sub_self] at hx
      simp at hx
      subst hx
      rw [List.getElem?_append_right (by omega), hk]
      have : (inord n (2 * a + 1)).length + 1 - (inord n (2 * a + 1)).length = 1 := by omega
      rw [this]
      simp only [List.getElem?_cons_succ]
      unfold nx
      by_cases h2 : 2 * a + 2 < n
      · rw [if_pos h2]
        have h0 : 0 < (inord n (2 * a + 2)).length := by
          have := inord_ne h2
          cases hh : inord n (2 * a + 2) with
          | nil => exact absurd hh this
          | cons => simp
        rw [List.getElem?_eq_getElem h0, inord_zero_get h2 h0]
        rfl
      · rw [if_neg h2, inord_out h2]
        rfl
    · rw [List.getElem?_append_right (by omega)] at hx
      obtain ⟨j, rfl⟩ : ∃ j, k = (inord n (2 * a + 1)).length + 1 + j := ⟨k - (inord n (2 * a + 1)).length - 1, by omega⟩
      have e1 : (inord n (2 * a + 1)).length + 1 + j - (inord n (2 * a + 1)).length = j + 1 := by omega
      have e2 : (inord n (2 * a + 1)).length + 1 + j + 1 - (inord n (2 * a + 1)).length = j + 1 + 1 := by omega
      rw [e1, List.getElem?_cons_succ] at hx
      rw [List.getElem?_append_right (by omega), e2, List.getElem?_cons_succ]
      exact hr j x hx

theorem nx_next {n k x : Nat} (hx : (inord n 0)[k]? = some x) : nx n x = (inord n 0)[k + 1]? := by
  by_cases h : 0 < n
  · rw [nx_under n n 0 (by omega) h k x hx, upo_zero, Option.or_none]
  · rw [inord_out h] at hx; simp at hx

/-! ### they are just the places below n -/

theorem mem_inord (n : Nat) : ∀ (m a : Nat), n - a ≤ m → ∀ x, x ∈ inord n a ↔ x < n ∧ ∃ d, (x + 1) / 2 ^ d = a + 1 := by
  intro m
  induction m with
  | zero =>
    intro a hm x
    rw [inord_out (by omega)]
    simp only [List.not_mem_nil, false_iff, not_and, not_exists]
    intro hx d he
    have := Nat.div_le_self (x + 1) (2 ^ d)
    omega
  | succ m ih =>
    intro a hm x
    by_cases h : a < n
    · rw [inord_in h, List.mem_append, List.mem_cons, ih (2 * a + 1) (by omega), ih (2 * a + 2) (by omega)]
      constructor
      · rintro (⟨hx, d, he⟩ | rfl | ⟨hx, d, he⟩)
        · refine ⟨hx, d + 1, ?_⟩
          rw [Nat.pow_succ, ← Nat.div_div_eq_div_mul, he]; omega
        · exact ⟨h, 0, by simp⟩
        · refine ⟨hx, d + 1, ?_⟩
          rw [Nat.pow_succ, ← Nat.div_div_eq_div_mul, he]; omega
      · rintro ⟨hx, d, he⟩
        cases d with
        | zero => right; left; simp at he; exact he
        | succ d =>
          rw [Nat.pow_succ, ← Nat.div_div_eq_div_mul] at he
          have : (x + 1) / 2 ^ d = 2 * a + 1 + 1 ∨ (x + 1) / 2 ^ d = 2 * a + 2 + 1 := by omega
          rcases this with h1 | h1
          · exact .inl ⟨hx, d, h1⟩
          · exact .inr (.inr ⟨hx, d, h1⟩)
    · rw [inord_out h]
      simp only [List.not_mem_nil, false_iff, not_and, not_exists]
      intro hx d he
      have := Nat.div_le_self (x + 1) (2 ^ d)
      omega

theorem reach_one (x : Nat) : ∃ d, (x + 1) / 2 ^ d = 1 := by
  induction x using Nat.strongRecOn with
  | _ x ih =>
    cases x with
    | zero => exact ⟨0, rfl⟩
    | succ x =>
      obtain ⟨d, hd⟩ := ih ((x + 2) / 2 - 1) (by omega)
      refine ⟨d + 1, ?_⟩
      rw [Nat.pow_succ, Nat.mul_comm, ← Nat.div_div_eq_div_mul]
      rw [show (x + 2) / 2 - 1 + 1 = (x + 2) / 2 by omega] at hd
      exact hd

theorem mem_inord_zero (n x : Nat) : x ∈ inord n 0 ↔ x < n := by
  rw [mem_inord n n 0 (by omega)]
  exact ⟨fun h => h.1, fun h => ⟨h, reach_one x⟩⟩

theorem far_div {y d e c : Nat} (hde : d < e) (h1 : y / 2 ^ d = c) : y / 2 ^ e ≤ c / 2 := by
  obtain ⟨j, rfl⟩ : ∃ j, e = d + 1 + j := ⟨e - d - 1, by omega⟩
  rw [Nat.pow_add, Nat.pow_succ, ← Nat.div_div_eq_div_mul, ← Nat.div_div_eq_div_mul, h1]
  exact Nat.div_le_self _ _

theorem nodup_inord (n : Nat) : ∀ (m a : Nat), n - a ≤ m → (inord n a).Nodup := by
  intro m
  induction m with
  | zero => intro a hm; rw [inord_out (by omega)]; exact List.nodup_nil
  | succ m ih =>
    intro a hm
    by_cases h : a < n
    · rw [inord_in h, List.nodup_append]
      refine ⟨ih _ (by omega), List.nodup_cons.2 ⟨?_, ih _ (by omega)⟩, ?_⟩
      · rw [mem_inord n m _ (by omega)]
        rintro ⟨_, d, he⟩
        have := Nat.div_le_self (a + 1) (2 ^ d)
        omega
      · intro x hx y hy hxy
        subst hxy
        rw [mem_inord n m _ (by omega)] at hx
        obtain ⟨_, d, hd⟩ := hx
        rcases List.mem_cons.1 hy with rfl | hy
        · have := Nat.div_le_self (x + 1) (2 ^ d)
          omega
        · rw [mem_inord n m _ (by omega)] at hy
          obtain ⟨_, e, he⟩ := hy
          rcases Nat.lt_trichotomy d e with hde | hde | hde
          · have := far_div hde hd; omega
          · subst hde; omega
          · have := far_div hde he; omega
    · rw [inord_out h]; exact List.nodup_nil

theorem inord_perm (n : Nat) : (inord n 0).Perm (List.range n) := by
  rw [List.perm_ext_iff_of_nodup (nodup_inord n n 0 (by omega)) List.nodup_range]
  intro x
  rw [mem_inord_zero, List.mem_range]

theorem inord_length (n : Nat) : (inord n 0).length = n := by rw [(inord_perm n).length_eq, List.length_range]

theorem inord_lt {n x : Nat} (h : x ∈ inord n 0) : x < n := (mem_inord_zero n x).1 h

theorem inord_sub (n : Nat) : ∀ a, (inord n a).Sublist (inord n 0) := by
  intro a
  induction a using Nat.strongRecOn with
  | _ a ih =>
    by_cases h0 : a = 0
    · subst h0; exact List.Sublist.refl _
    · refine List.Sublist.trans ?_ (ih ((a - 1) / 2) (by omega))
      by_cases hp : (a - 1) / 2 < n
      · rw [inord_in hp]
        rcases Nat.mod_two_eq_zero_or_one a with h | h
        · rw [show 2 * ((a - 1) / 2) + 2 = a by omega]
          exact (List.sublist_cons_self _ _).trans (List.sublist_append_right _ _)
        · rw [show 2 * ((a - 1) / 2) + 1 = a by omega]
          exact List.sublist_append_left _ _
      · rw [inord_out (a := a) (by omega)]; exact List.nil_sublist _
theorem inord_le (n a : Nat) : (inord n a).length ≤ n := by have := (inord_sub n a).length_le; rwa [inord_length] at this

/-- of each place the rank of what stands there -/
def ranks (n : Nat) : List Nat := (List.range n).map fun at_ => (inord n 0).idxOf at_
theorem ranks_length (n : Nat) : (ranks n).length = n := by simp [ranks]
theorem ranks_get {n a : Nat} (h : a < n) : (ranks n)[a]'(by rw [ranks_length]; exact h) = (inord n 0).idxOf a := by simp [ranks]
theorem ranks_lt {n a : Nat} (h : a < n) : (inord n 0).idxOf a < n := by
  have := List.idxOf_lt_length_iff.2 ((mem_inord_zero n a).2 h)
  rwa [inord_length] at this
theorem inord_idx {n a : Nat} (h : a < n) : (inord n 0)[(inord n 0).idxOf a]'(by rw [inord_length]; exact ranks_lt h) = a := List.getElem_idxOf _
theorem idx_inord {n k : Nat} (h : k < (inord n 0).length) : (inord n 0).idxOf ((inord n 0)[k]'h) = k := (nodup_inord n n 0 (by omega)).idxOf_getElem k h
end Go.Proofs.YtolclahkfmplfaaGreatDoor

/- Contracts of eytz: asked, leftmost, next, places and what they yield, Order. -/
namespace Go.Proofs.YtolclahkfmplfaaGreatDoor
open Go Go.RowKit Go.Shelf
set_option maxRecDepth 100000

def askedE (n : Int) : Int := if n < 0 then 2 else if n > 65536 then 4 else 0

set_option maxHeartbeats 400000 in
theorem asked_any (n : Int) (w : World) :
    Calls Tryz.prog 94 #[.int .i64 n] w fun r w' => r = .returned (.int .i64 (askedE n)) ∧ w = w' := by
  go_enter Tryz.func94, Tryz.ntmps94
  go_wp2
  all_goals
    go_ret
    refine ⟨ret_int ?_, rfl⟩
    unfold askedE
    first | (rw [if_pos (by assumption)]) | (rw [if_neg (by omega), if_pos (by assumption)]) | (rw [if_neg (by omega), if_neg (by omega)])

set_option maxHeartbeats 400000 in
theorem leftmost_any (n a : Nat) (N Z : Int) (hN : N = n) (hZ : Z = a) (hn : n ≤ 65536) (ha : a ≤ 200000) (w : World) :
    Calls Tryz.prog 100 #[.int .i64 N, .int .i64 Z] w fun r w' => r = .returned (.int .i64 (lm n a : Nat)) ∧ w = w' := by
  subst hN hZ
  go_enter Tryz.func100, Tryz.ntmps100
  go_wp2
  go_loop [1] (fun i => ∃ b : Nat, b ≤ 200000 ∧ i = .int .i64 b ∧ Hid (lm n b = lm n a)) (fun i => n - (intOf i).toNat)
  case atStart => exact ⟨a, ha, rfl, rfl⟩
  case round =>
    obtain ⟨b, hb, rfl, hl⟩ := hrel
    by_cases hlt : 2 * b + 1 < n
    · go_wp2
      go_round
      case rel => exact ⟨2 * b + 1, by omega, by go_num, by rw [← hl.out, ← lm_in hlt]; rfl⟩
      case measure => simp [intOf]; omega
    · go_wp2
      go_ret
      exact ⟨ret_int (by rw [← hl.out, lm_out hlt]), rfl⟩

def nxI (n a : Nat) : Int := match nx n a with | some x => (x : Int) | none => -1

set_option maxHeartbeats 400000 in
theorem next_any (n a : Nat) (N Z : Int) (hN : N = n) (hZ : Z = a) (hn : n ≤ 65536) (ha : a < n) (w : World) :
    Calls Tryz.prog 101 #[.int .i64 N, .int .i64 Z] w fun r w' => r = .returned (.int .i64 (nxI n a)) ∧ w = w' := by
  subst hN hZ
  by_cases h2 : 2 * a + 2 < n
  · go_enter Tryz.func101, Tryz.ntmps101
    go_wp2
    go_step3
    go_wp2_with (go_at_call 100; refine (leftmost_any n (2 * a + 2) _ _ rfl (by omega) hn (by omega) _).mono ?_; rintro e w1 ⟨rfl, rfl⟩)
    rw [Exit.noGoto_ret]
    go_ret
    exact ⟨ret_int (by simp [nxI, nx, h2]), rfl⟩
  · go_enter Tryz.func101, Tryz.ntmps101
    go_wp2
    go_step3
    go_wp2
    go_step3
    go_wp2
    go_loop [1] (fun i => ∃ b : Nat, b ≤ a ∧ i = .int .i64 b ∧ Hid (upo b = upo a)) (fun i => (intOf i).toNat)
    case atStart => exact ⟨a, Nat.le_refl _, rfl, rfl⟩
    case round =>
      obtain ⟨b, hb, rfl, hl⟩ := hrel
      by_cases h0 : b = 0
      · have hz : (((b : Nat) : Int) == 0) = true := by simp [h0]
        have hr : Hid (nxI n a = -1) := by unfold nxI nx; rw [if_neg h2, ← hl.out, h0, upo_zero]; rfl
        clear h0
        go_wp2
        go_ret
        exact ⟨ret_int hr.out.symm, rfl⟩
      · have hz : (((b : Nat) : Int) == 0) = false := by simp [h0]
        by_cases h1 : b % 2 = 1
        · have hz1 : (((b : Nat) : Int) % 2 == 1) = true := by simp; omega
          have hr : Hid (nxI n a = ((b - 1) / 2 : Nat)) := by unfold nxI nx; rw [if_neg h2, ← hl.out, upo_odd h1]; rfl
          have h1' : 1 ≤ b := by omega
          clear h1 h0
          go_wp2
          go_ret
          exact ⟨ret_int (by rw [hr.out]; omega), rfl⟩
        · have hz1 : (((b : Nat) : Int) % 2 == 1) = false := by simp; omega
          have hr : Hid (upo ((b - 1) / 2) = upo a) := by rw [← upo_even h0 h1]; exact hl.out
          have h1' : 1 ≤ b := by omega
          clear h1 h0
          go_wp2
          go_round
          case rel => exact ⟨(b - 1) / 2, by omega, by congr 1; omega, hr⟩
          case measure => simp [intOf]; omega

attribute [local go_sem] Oper.semAt_some

/-- what eytz.places(n) yields: k and the k-th place -/
def placesX (n k : Nat) : Array Value := #[.int .i64 (k : Nat), .int .i64 ((inord n 0).getD k 0 : Nat)]
theorem placesX_get {n k x : Nat} (hx : (inord n 0)[k]? = some x) : placesX n k = #[.int .i64 (k : Nat), .int .i64 (x : Nat)] := by
  simp [placesX, List.getD, hx]

theorem nxI_some {n k x y : Nat} (hx : (inord n 0)[k]? = some x) (hy : (inord n 0)[k + 1]? = some y) : nxI n x = (y : Nat) := by
  unfold nxI; rw [nx_next hx, hy]
theorem nxI_none {n k x : Nat} (hx : (inord n 0)[k]? = some x) (hy : (inord n 0)[k + 1]? = none) : nxI n x = -1 := by
  unfold nxI; rw [nx_next hx, hy]

set_option maxHeartbeats 1000000 in
theorem places1_in (n B : Nat) (hn : n ≤ 65536) (w : World)
    (hc : w.cell? ⟨B, 0, none⟩ = some (.int .i64 (n : Nat))) :
    Yields Fence.wide Tryz.prog 99 #[.pointer (some ⟨B, 0, none⟩)] n (placesX n) (fun b => b = B) (fun _ => False) w := by
  intro l I X W hsz hKp hI hX hY h0
  have hcW : W.cell? ⟨B, 0, none⟩ = some (.int .i64 (n : Nat)) := (World.cell?_of_block (hKp B rfl)).trans hc
  have hdd : ∀ k : Nat, (Fence.wide.depth.isSome = true → 1 ≤ k) := fun k h => by cases h
  have hwf : ∀ f, Fence.wide.fn f := fun _ => trivial
  have hdp : Fence.wide.depth = none := rfl
  have hro : Fence.wide.round = none := rfl
  refine callsIn_of_wp Tryz.func99 rfl (hwf _) ?_ hro
  simp only [Tryz.ntmps99, List.size_toArray, List.length_cons, List.length_nil, Nat.reduceAdd, Nat.reduceSub, Array.replicate_succ, Array.replicate_zero, List.push_toArray, List.append_toArray, List.nil_append, List.cons_append]
  refine wpIn_scope_jumps 0 (fun a' w' => ∃ (k x : Nat) (v2 v5 v6 v7 v8 v9 v10 v11 v12 v13 v14 v15 v16 v17 v18 v19 v20 : Value), (inord n 0)[k]? = some x ∧
      a' = { tmps := #[.func (.yield l) #[] #[], .pointer (some ⟨B, 0, none⟩), v2, .int .i64 (k : Nat), .int .i64 (x : Nat), v5, v6, v7, v8, v9, v10, v11, v12, v13, v14, v15, v16, v17, v18, v19, v20], defers := [] } ∧
      I k w' ∧ w'.cell? ⟨B, 0, none⟩ = some (.int .i64 (n : Nat)))
    (fun a' _ => n - (intOf (a'.tmps.getD 3 undef)).toNat) rfl ?first ?pass
  case first =>
    by_cases hn0 : n = 0
    · have hz : (((n : Nat) : Int) == 0) = true := by simp [hn0]
      have hHl := Lib.hid (show 0 = n from hn0.symm)
      clear hn0 hY hKp hI hX
      gi_wp2
      simp only [Exit.jump]
      refine bodyPost_ret (results_none rfl _ _ _) rfl ?_
      exact ⟨⟨_, rfl⟩, .inl (hHl.out ▸ h0)⟩
    · have hz : (((n : Nat) : Int) == 0) = false := by simp [hn0]
      have hx : (inord n 0)[0]? = some (lm n 0) := by
        have h1 : 0 < n := by omega
        have h2 : 0 < (inord n 0).length := by rw [inord_length]; exact h1
        rw [List.getElem?_eq_getElem h2, inord_zero_get h1 h2]
      have hY' := hY 0 W (by omega) h0
      rw [placesX_get hx, show ((0 : Nat) : Int) = 0 from rfl] at hY'
      obtain ⟨fn, tmps, assign, body, hy, hR⟩ := hY'
      clear hY hKp hI hX hn0
      gi_wp2_with ((try refine ⟨hdd _, ?_⟩); gi_at_call 100; refine (callsIn_wide.2 (leftmost_any n 0 _ _ rfl rfl hn (by omega) _)).mono ?_; rintro e w1 ⟨rfl, rfl⟩)
      refine wpIn_label ?_
      gi_wp2
      refine hR.mono ?_
      clear hR hy
      rintro e W2 (⟨rfl, hi2, hs2, hk2⟩ | ⟨rfl, hx2⟩)
      · have hcw2 : W2.cell? ⟨B, 0, none⟩ = some (.int .i64 (n : Nat)) := (World.cell?_of_block (hk2 B rfl)).trans hcW
        have hxn := inord_lt (List.mem_of_getElem? hx)
        clear hk2
        rcases hnext : (inord n 0)[0 + 1]? with _ | y
        · have hH := Lib.hid (nxI_none hx hnext)
          have hlen : 0 + 1 = n := by
            have h1 := (List.getElem?_eq_none_iff.1 hnext)
            have h2 := (List.getElem?_eq_some_iff.1 hx).1
            rw [inord_length] at h1 h2
            omega
          have hHl := Lib.hid hlen
          have hHx := Lib.hid hx
          clear hnext hlen hx
          gi_wp2_with ((try refine ⟨hdd _, ?_⟩); gi_at_call 101; refine (callsIn_wide.2 (next_any n (lm n 0) _ _ rfl rfl hn hxn _)).mono ?_; rw [hH.out]; rintro e w1 ⟨rfl, rfl⟩)
          simp only [Exit.jump]
          refine bodyPost_end (results_none rfl _ _ _) rfl ?_
          exact ⟨⟨_, rfl⟩, .inl (hHl.out ▸ hi2)⟩
        · have hH := Lib.hid (nxI_some hx hnext)
          have hkn : 0 + 1 < n := by have := (List.getElem?_eq_some_iff.1 hnext).1; rwa [inord_length] at this
          have hHl := Lib.hid hnext
          have hHx := Lib.hid hx
          clear hnext hx
          gi_wp2_with ((try refine ⟨hdd _, ?_⟩); gi_at_call 101; refine (callsIn_wide.2 (next_any n (lm n 0) _ _ rfl rfl hn hxn _)).mono ?_; rw [hH.out]; rintro e w1 ⟨rfl, rfl⟩)
          refine wpIn_goto ?_
          refine ⟨rfl, ⟨1, y, _, _, _, _, _, _, _, _, _, _, _, _, _, _, _, _, _, hHl.out, rfl, hi2, hcw2⟩⟩
      · gi_wp2
        simp only [Exit.jump]
        refine bodyPost_ret (results_none rfl _ _ _) rfl ?_
        exact ⟨⟨_, rfl⟩, .inr hx2⟩
  case pass =>
    rintro a' w' ⟨k, x, v2, v5, v6, v7, v8, v9, v10, v11, v12, v13, v14, v15, v16, v17, v18, v19, v20, hx, rfl, hi, hcw⟩
    have hk : k < n := by rw [← inord_length n]; exact (List.getElem?_eq_some_iff.1 hx).1
    have hY' := hY k w' hk hi
    rw [placesX_get hx] at hY'
    obtain ⟨fn, tmps, assign, body, hy, hR⟩ := hY'
    clear hY hKp hI hX
    gi_wp2
    refine hR.mono ?_
    clear hR hy
    rintro e W2 (⟨rfl, hi2, hs2, hk2⟩ | ⟨rfl, hx2⟩)
    · have hcw2 : W2.cell? ⟨B, 0, none⟩ = some (.int .i64 (n : Nat)) := (World.cell?_of_block (hk2 B rfl)).trans hcw
      have hxn := inord_lt (List.mem_of_getElem? hx)
      clear hk2
      rcases hnext : (inord n 0)[k + 1]? with _ | y
      · have hH := Lib.hid (nxI_none hx hnext)
        have hlen : k + 1 = n := by
          have h1 := (List.getElem?_eq_none_iff.1 hnext)
          have h2 := (List.getElem?_eq_some_iff.1 hx).1
          rw [inord_length] at h1 h2
          omega
        have hHl := Lib.hid hlen
        clear hnext hlen
        gi_wp2_with ((try refine ⟨hdd _, ?_⟩); gi_at_call 101; refine (callsIn_wide.2 (next_any n x _ _ rfl rfl hn hxn _)).mono ?_; rw [hH.out]; rintro e w1 ⟨rfl, rfl⟩)
        simp only [Exit.jump]
        refine bodyPost_end (results_none rfl _ _ _) rfl ?_
        exact ⟨⟨_, rfl⟩, .inl (hHl.out ▸ hi2)⟩
      · have hH := Lib.hid (nxI_some hx hnext)
        have hkn : k + 1 < n := by have := (List.getElem?_eq_some_iff.1 hnext).1; rwa [inord_length] at this
        have hHl := Lib.hid hnext
        clear hnext
        gi_wp2_with ((try refine ⟨hdd _, ?_⟩); gi_at_call 101; refine (callsIn_wide.2 (next_any n x _ _ rfl rfl hn hxn _)).mono ?_; rw [hH.out]; rintro e w1 ⟨rfl, rfl⟩)
        refine wpIn_goto ?_
        refine ⟨rfl, ⟨k + 1, y, _, _, _, _, _, _, _, _, _, _, _, _, _, _, _, _, _, hHl.out, rfl, hi2, hcw2⟩, ?_⟩
        show n - (((k : Int) + 1)).toNat < n - ((k : Int)).toNat
        omega
    · gi_wp2
      simp only [Exit.jump]
      refine bodyPost_ret (results_none rfl _ _ _) rfl ?_
      exact ⟨⟨_, rfl⟩, .inr hx2⟩

set_option maxHeartbeats 400000 in
theorem places_any (n : Nat) (w : World) :
    Calls Tryz.prog 82 #[.int .i64 (n : Nat)] w fun r w' =>
      r = .returned (.func (.func 99) #[] #[.pointer (some ⟨w.heap.size, 0, none⟩)]) ∧ w' = w.alloc (.cells #[.int .i64 (n : Nat)] 3) := by
  go_enter Tryz.func82, Tryz.ntmps82
  go_wp2
  go_ret
  exact ⟨rfl, rfl⟩

theorem int_info : (Tryz.prog.info? 3).map (fun i => (i.zero, i.size, i.bytes)) = some (some (.int .i64 0), 1, 8) := by kernel_rfl

set_option maxHeartbeats 1000000 in
theorem order_ok (n : Nat) (hn : n ≤ 65536) (w : World) :
    Calls Tryz.prog 74 #[.int .i64 (n : Nat)] w fun r w' => r = .returned (.tuple #[.slice (some ⟨w.heap.size, 0, none⟩) n n, .int .i64 0]) ∧
      Blk w' w.heap.size 3 ((ranks n).map fun k => Value.int .i64 (k : Nat)).toArray ∧ Below w.heap.size w w' := by
  refine calls_of_in (_F := Fence.wide) ?_
  have hdd : ∀ k : Nat, (Fence.wide.depth.isSome = true → 1 ≤ k) := fun k h => by cases h
  have hwf : ∀ f, Fence.wide.fn f := fun _ => trivial
  have hdp : Fence.wide.depth = none := rfl
  have hro : Fence.wide.round = none := rfl
  obtain ⟨i0, hi, hz0, hz1, hz2⟩ := info_parts int_info
  have hmk := fun W => run_make_rowN (P := Tryz.prog) 117 3 i0 (.int .i64 0) Tryz.underlying117 hi hz0 n (by rw [hz2]; omega) (by omega) W
  rw [hz1] at hmk
  clear hi hz0 hz1 hz2
  refine callsIn_of_wp_marks Tryz.func74 rfl (hwf _) ?_ hro
  simp only [Tryz.ntmps74, List.size_toArray, List.length_cons, List.length_nil, Nat.reduceAdd, Nat.reduceSub, Array.replicate_succ, Array.replicate_zero, List.push_toArray, List.append_toArray, List.nil_append, List.cons_append]
  have hask := Lib.hid (show askedE (n : Nat) = 0 by unfold askedE; rw [if_neg (by omega), if_neg (by omega)])
  gi_wp2_with (first
    | ((try refine ⟨hdd _, ?_⟩); gi_at_call 94; refine (callsIn_wide.2 (asked_any _ _)).mono ?_; rw [hask.out]; rintro e w1 ⟨rfl, rfl⟩)
    | ((try refine ⟨hdd _, ?_⟩); gi_at_call 82; refine (callsIn_wide.2 (places_any _ _)).mono ?_; rintro e w1 ⟨rfl, rfl⟩))
  obtain ⟨g, hg⟩ : ∃ g, w.heap.size = g := ⟨_, rfl⟩
  obtain ⟨W0, hW0⟩ : ∃ W0, (((w.alloc (Obj.cells (madeCells #[Value.int IntKind.i64 0] n) 3)).alloc (Obj.cells #[Value.slice (some { block := w.heap.size, off := 0 }) n n] 117)).alloc (Obj.cells #[Value.int IntKind.i64 (n : Nat)] 3)) = W0 := ⟨_, rfl⟩
  rw [hW0]
  have b0 : Blk W0 w.heap.size 3 (madeCells #[Value.int IntKind.i64 0] n) := by rw [← hW0]; exact ((Blk.new w _ _).alloc _).alloc _
  have b1 : Blk W0 (w.heap.size + 1) 117 #[Value.slice (some { block := w.heap.size, off := 0 }) n n] := by
    rw [← hW0]; have := Blk.new (w.alloc (Obj.cells (madeCells #[Value.int IntKind.i64 0] n) 3)) 117 #[Value.slice (some { block := w.heap.size, off := 0 }) n n]
    rw [World.size_alloc] at this
    exact this.alloc _
  have b2 : Blk W0 (w.heap.size + 1 + 1) 3 #[Value.int IntKind.i64 (n : Nat)] := by
    rw [← hW0]; have := Blk.new ((w.alloc (Obj.cells (madeCells #[Value.int IntKind.i64 0] n) 3)).alloc (Obj.cells #[Value.slice (some { block := w.heap.size, off := 0 }) n n] 117)) 3 #[Value.int IntKind.i64 (n : Nat)]
    rwa [World.size_alloc, World.size_alloc] at this
  have hb0 : Below w.heap.size w W0 := by
    rw [← hW0]; exact (((Below.refl _ w).alloc (Nat.le_refl _) _).alloc (by simp) _).alloc (by simp; omega) _
  have hs0 : W0.heap.size = w.heap.size + 3 := by rw [← hW0]; simp
  clear hW0 hmk
  rw [hg] at b0 b1 b2 hb0 hs0 ⊢
  refine wpIn_rangeS hdp hwf hro rfl (enters_of Tryz.func99 (by kernel_rfl) rfl)
    (places1_in n (g + 1 + 1) hn W0 (b2.cell 0)) (by rintro b rfl; omega) (fun _ h => h.elim) (fun _ => rfl)
    (fun k W => ∃ cur : Array Value, cur.size = n ∧ Blk W g 3 cur ∧ Blk W (g + 1) 117 #[Value.slice (some { block := g, off := 0 }) n n] ∧ Below g w W ∧
      ∀ j x, j < k → (inord n 0)[j]? = some x → cur[x]? = some (.int .i64 (j : Nat)))
    (fun _ _ => False)
    (fun k => [(17, .int .i64 (k : Nat)), (18, .int .i64 ((inord n 0).getD k 0 : Nat)), (6, .int .i64 (k : Nat)), (7, .int .i64 ((inord n 0).getD k 0 : Nat))])
    ?stab (fun _ _ _ h _ => h) ⟨_, by simp [madeCells], b0, b1, hb0, by omega⟩ ?assign ?body ?done (fun _ _ h _ => h.elim)
  case stab =>
    rintro k A B ⟨cur, hcs, hB0, hB1, hbl, hc⟩ hm
    refine ⟨cur, hcs, hB0.mod hm (by simp; omega), hB1.mod hm (by simp; omega), ?_, hc⟩
    exact hbl.trans (hm.below (by have := hB0.lt; omega) (by rintro k (h | h | h) <;> first | exact h.elim | omega))
  case assign =>
    intro l k hk A C hC
    simp only [placesX]
    gi_wp2
    exact hC
  case body =>
    rintro l k hk A ⟨cur, hcs, hB0, hB1, hbl, hc⟩ hsA
    have hkl : k < (inord n 0).length := by rw [inord_length]; exact hk
    obtain ⟨x, hx⟩ : ∃ x, (inord n 0)[k]? = some x := ⟨_, List.getElem?_eq_getElem hkl⟩
    have hxn : x < n := inord_lt (List.mem_of_getElem? hx)
    rw [show (inord n 0).getD k 0 = x by simp [List.getD, hx]]
    have hc1 : A.cell? ⟨g + 1, 0, none⟩ = some (.slice (some ⟨g, 0, none⟩) n n) := hB1.cell 0
    obtain ⟨vx, hcx⟩ : ∃ vx, A.cell? ⟨g, x, none⟩ = some vx := ⟨_, (hB0.cell x).trans (Array.getElem?_eq_getElem (show x < cur.size by omega))⟩
    have hfx : A.frozen? ⟨g, x, none⟩ = false := hB0.frozen x
    have hxi : (0 : Int) ≤ (x : Int) := by omega
    have hH := Lib.hid hx
    have hHc := Lib.hid hc
    have hHs := Lib.hid hcs
    clear hx hc hcs
    simp only [rt, List.foldl_cons, List.foldl_nil]
    gi_wp2
    refine ⟨(Mod.refl _ _).setCell (p := ⟨g, x, none⟩) (by simp; omega) _, _, ?_, hB0.set_ x _, hB1.far (p := ⟨g, x, none⟩) (by simp) _, hbl.setCell (p := ⟨g, x, none⟩) (Nat.le_refl _) _, ?_⟩
    · simpa using hHs.out
    · intro j y hj hy
      have hcs := hHs.out
      by_cases hjk : j = k
      · subst hjk
        rw [hH.out] at hy
        obtain rfl := Option.some.inj hy
        simp [hcs, hxn]
      · have hy' := hHc.out j y (by omega) hy
        have hne : x ≠ y := by
          intro e
          subst e
          have h1 := List.getElem?_eq_some_iff.1 hy
          have h2 := List.getElem?_eq_some_iff.1 hH.out
          have e1 := idx_inord h1.1
          have e2 := idx_inord h2.1
          rw [h1.2] at e1
          rw [h2.2] at e2
          exact hjk (e1.symm.trans e2)
        rw [Array.getElem?_setIfInBounds_ne hne]
        exact hy'
  case done =>
    rintro W ⟨cur, hcs, hB0, hB1, hbl, hc⟩ hD
    have hc1 : W.cell? ⟨g + 1, 0, none⟩ = some (.slice (some ⟨g, 0, none⟩) n n) := hB1.cell 0
    have hHc := Lib.hid hc
    have hHs := Lib.hid hcs
    clear hc hcs
    gi_wp2
    subst hg
    refine postM_ret2 rfl hD ⟨rfl, ?_, ?_⟩
    · have hcur : cur = ((ranks n).map fun k => Value.int .i64 (k : Nat)).toArray := by
        have hcs := hHs.out
        refine Array.ext (by simp [ranks_length, hcs]) fun i h1 h2 => ?_
        have hi : i < n := by omega
        have h := hHc.out _ i (ranks_lt hi) (by rw [List.getElem?_eq_getElem (by rw [inord_length]; exact ranks_lt hi), inord_idx hi])
        rw [Array.getElem?_eq_getElem h1] at h
        simp [Option.some.inj h, ranks_get hi]
      rw [← hcur]
      exact hB0.of (World.putObj_heap_other (by have := hB0.lt; omega))
    · exact hbl.trans ⟨rfl, rfl, rfl, by simp [World.putObj], fun k hk => World.putObj_heap_other (by omega)⟩
end Go.Proofs.YtolclahkfmplfaaGreatDoor

/- Contracts of the references: places, ranks, runs that are laid, and whether entries are the same. -/
namespace Go.Proofs.YtolclahkfmplfaaGreatDoor
open Go Go.RowKit
set_option maxRecDepth 100000

/-- the answer is a slice of the call's own with these cells -/
def GivesOwn (e : TypeId) (s n : Nat) (xs : List Value) (w : World) (r : Ending) (w' : World) : Prop :=
  ∃ A c, r = .returned (.slice A n c) ∧ w'.ownsRow w.heap.size e s (.slice A n c) n xs ∧ Below w.heap.size w w'



theorem ent_info : (Tryz.prog.info? 46).map (fun i => (i.zero, i.size, i.bytes)) = some (some (.agg #[.int .i64 0, .int .i64 0, .bool false]), 3, 24) := by kernel_rfl

def entAt (l : List Ent) (i : Nat) : Ent := l.getD i ⟨0, 0, false⟩
theorem entAt_get {l : List Ent} {i : Nat} (h : i < l.length) : entAt l i = l[i] := by simp [entAt, List.getD, h]
/-- the entries, place by place -/
def laid (l : List Ent) : List Ent := (ranks l.length).map (entAt l)
theorem laid_length (l : List Ent) : (laid l).length = l.length := by simp [laid, ranks_length]




end Go.Proofs.YtolclahkfmplfaaGreatDoor

/- Contracts of bound.Build and of the reference's, and of shelfmarkref23.Same. -/
namespace Go.Proofs.YtolclahkfmplfaaGreatDoor
open Go Go.RowKit
set_option maxRecDepth 100000

/-- the error of Build -/
def buildE (l : List Ent) : Int := if l.length > 65536 then 4 else if l.any badEnt then 8 else if rises (l.map Ent.key) then 0 else 130
/-- the entries of the run that it gives -/
def buildL (l : List Ent) : List Ent := if buildE l = 0 then laid l else []

/-- the answer is a run of the call's own with these entries, and an error -/
def GivesRun (t : TypeId) (m : List Ent) (e : Int) (w : World) (r : Ending) (w' : World) : Prop :=
  ∃ A c, r = .returned (.tuple #[.agg #[.slice A m.length c], .int .i64 e]) ∧ w'.ownsRow w.heap.size t 3 (.slice A m.length c) m.length (m.flatMap Ent.cells) ∧ Below w.heap.size w w'

theorem gives_none {t : TypeId} {e : Int} {w w' : World} (h : Below w.heap.size w w') {m : List Ent} (hm : m = []) : GivesRun t m e w (.returned (.tuple #[.agg #[.slice none 0 0], .int .i64 e])) w' := by
  subst hm; exact ⟨none, 0, rfl, World.ownsRow_nil _ _ _ _, h⟩


theorem fairE_bad {l : List Ent} (h1 : ¬ l.length > 65536) (h2 : l.any badEnt = true) : fairE l = 8 := by unfold fairE; rw [if_neg h1, if_pos h2]
theorem fairE_ok {l : List Ent} (h1 : ¬ l.length > 65536) (h2 : l.any badEnt = false) : fairE l = 0 := by unfold fairE; rw [if_neg h1, h2]; rfl

set_option maxRecDepth 100000 in
set_option maxHeartbeats 2000000 in
theorem build_no (A : Option Addr) (l : List Ent) (c : Nat) (w : World) (hA : Sl w A (l.flatMap Ent.cells)) (hl : l.length ≤ 4611686018427387903) (hno : buildE l ≠ 0) :
    Calls Tryz.prog 53 #[.slice A l.length c] w (GivesRun 46 (buildL l) (buildE l) w) := by
  have hL : buildL l = [] := by unfold buildL; rw [if_neg hno]
  have hb0 : Below w.heap.size w (w.alloc (.cells #[.slice none 0 0] 49)) := (Below.refl _ _).alloc (Nat.le_refl _) _
  have hA0 : Sl (w.alloc (.cells #[.slice none 0 0] 49)) A (l.flatMap Ent.cells) := hA.below hb0
  rw [hL]
  by_cases hf : fairE l = 0
  · have h1 : ¬ l.length > 65536 := by intro h; unfold fairE at hf; rw [if_pos h] at hf; cases hf
    have h2 : l.any badEnt = false := by
      cases h : l.any badEnt with
      | false => rfl
      | true => rw [fairE_bad h1 h] at hf; cases hf
    have h3 : rises (l.map Ent.key) = false := by
      cases h : rises (l.map Ent.key) with
      | false => rfl
      | true => exact absurd (show buildE l = 0 by unfold buildE; rw [if_neg h1, h2, h]; rfl) hno
    have he : buildE l = 130 := by unfold buildE; rw [if_neg h1, h2, h3]; rfl
    have H3 := Lib.hid (show riseE l = 130 by unfold riseE; rw [h3]; rfl)
    have HF := Lib.hid hf
    rw [he]
    clear he h2 h3 hf hL hno
    go_enter Tryz.func53, Tryz.ntmps53
    go_wp2_with fail
    refine (fair_any A l c _ hA0 hl).mono ?_
    rw [HF.out]
    rintro e w1 ⟨rfl, hb1⟩
    have hb01 : Below w.heap.size w w1 := bext hb0 hb1
    have hA1 := hA0.below hb1
    go_wp2_with fail
    refine (rising_any A l c _ hA1 hl).mono ?_
    rw [H3.out]
    rintro e w2 ⟨rfl, hb2⟩
    have hb02 : Below w.heap.size w w2 := bext hb01 hb2
    have hx : Blk w2 w.heap.size 49 #[.slice none 0 0] := ((Blk.new w _ _).below hb1 (by simp)).below hb2 (by have := hb1.size; simp at this; omega)
    have hc2 : w2.cell? ⟨w.heap.size, 0, none⟩ = some (.slice none 0 0) := hx.cell 0
    have hf2 : w2.frozen? ⟨w.heap.size, 0, none⟩ = false := hx.frozen 0
    go_wp2
    refine bodyPost_ret (v := .tuple #[.agg #[.slice none 0 0], .int .i64 130]) (by simp [results, Tryz.results53, go_sem, hc2]) rfl (gives_none ?_ rfl)
    exact hb02.setCell (p := ⟨w.heap.size, 0, none⟩) (Nat.le_refl _) _
  · have he : buildE l = fairE l := by
      unfold fairE at hf
      unfold buildE fairE
      by_cases h1 : l.length > 65536
      · rw [if_pos h1, if_pos h1]
      · rw [if_neg h1] at hf
        rw [if_neg h1, if_neg h1]
        cases h : l.any badEnt with
        | true => rfl
        | false => rw [h] at hf; exact absurd rfl hf
    rw [he]
    obtain ⟨q, hq⟩ : ∃ q, fairE l = q := ⟨_, rfl⟩
    rw [hq] at hf ⊢
    have HF := Lib.hid hq
    have hz : (q != 0) = true := by simpa using hf
    clear hq hf he hL hno
    go_enter Tryz.func53, Tryz.ntmps53
    go_wp2_with fail
    refine (fair_any A l c _ hA0 hl).mono ?_
    rw [HF.out]
    rintro e w1 ⟨rfl, hb1⟩
    have hb01 : Below w.heap.size w w1 := bext hb0 hb1
    have hx : Blk w1 w.heap.size 49 #[.slice none 0 0] := (Blk.new w _ _).below hb1 (by simp)
    have hc2 : w1.cell? ⟨w.heap.size, 0, none⟩ = some (.slice none 0 0) := hx.cell 0
    have hf2 : w1.frozen? ⟨w.heap.size, 0, none⟩ = false := hx.frozen 0
    go_wp2
    refine bodyPost_ret (v := .tuple #[.agg #[.slice none 0 0], .int .i64 q]) (by simp [results, Tryz.results53, go_sem, hc2]) rfl (gives_none ?_ rfl)
    exact hb01.setCell (p := ⟨w.heap.size, 0, none⟩) (Nat.le_refl _) _

set_option maxRecDepth 100000 in
set_option maxHeartbeats 2000000 in
theorem build_yes (A : Option Addr) (l : List Ent) (c : Nat) (w : World) (hA : Sl w A (l.flatMap Ent.cells)) (hl : l.length ≤ 4611686018427387903) (hyes : buildE l = 0) :
    Calls Tryz.prog 53 #[.slice A l.length c] w (GivesRun 46 (buildL l) (buildE l) w) := by
  have hL : buildL l = laid l := by unfold buildL; rw [if_pos hyes]
  have hb0 : Below w.heap.size w (w.alloc (.cells #[.slice none 0 0] 49)) := (Below.refl _ _).alloc (Nat.le_refl _) _
  have hA0 : Sl (w.alloc (.cells #[.slice none 0 0] 49)) A (l.flatMap Ent.cells) := hA.below hb0
  have h1 : ¬ l.length > 65536 := by intro h; unfold buildE at hyes; rw [if_pos h] at hyes; cases hyes
  have h2 : l.any badEnt = false := by
    cases h : l.any badEnt with
    | false => rfl
    | true => unfold buildE at hyes; rw [if_neg h1, h] at hyes; cases hyes
  have h3 : rises (l.map Ent.key) = true := by
    cases h : rises (l.map Ent.key) with
    | true => rfl
    | false => unfold buildE at hyes; rw [if_neg h1, h2, h] at hyes; cases hyes
  have HF := Lib.hid (fairE_ok h1 h2)
  have H3 := Lib.hid (show riseE l = 0 by unfold riseE; rw [h3]; rfl)
  rw [hL, hyes]
  clear h2 h3 hL hyes
  obtain ⟨i0, hi, hz0, hz1, hz2⟩ := info_parts ent_info
  have hmk := fun W => run_make_rowN (P := Tryz.prog) 47 46 i0 _ Tryz.underlying47 hi hz0 l.length (by rw [hz2]; omega) (by omega) W
  rw [hz1] at hmk
  clear hi hz0 hz1 hz2
  go_enter Tryz.func53, Tryz.ntmps53
  go_wp2_with fail
  refine (fair_any A l c _ hA0 hl).mono ?_
  rw [HF.out]
  rintro e w1 ⟨rfl, hb1⟩
  have hb01 : Below w.heap.size w w1 := bext hb0 hb1
  have hA1 := hA0.below hb1
  go_wp2_with fail
  refine (rising_any A l c _ hA1 hl).mono ?_
  rw [H3.out]
  rintro e w2 ⟨rfl, hb2⟩
  have hb02 : Below w.heap.size w w2 := bext hb01 hb2
  have hs2 : w.heap.size < w2.heap.size := by have := hb1.size; have := hb2.size; simp at *; omega
  have hx2 : Blk w2 w.heap.size 49 #[.slice none 0 0] := ((Blk.new w _ _).below hb1 (by simp)).below hb2 (by have := hb1.size; simp at this; omega)
  go_wp2_with fail
  refine (order_ok l.length (by omega) _).mono ?_
  rintro e w3 ⟨rfl, ho3, hb3⟩
  simp only [World.size_alloc] at ho3 hb3
  have hb23 : Below w2.heap.size w2 w3 := ((Below.refl _ _).alloc (Nat.le_refl _) _).trans (hb3.mono (by omega))
  have hb03 : Below w.heap.size w w3 := bext hb02 hb23
  have hx3 := hx2.below hb23 hs2
  have hg3 := (Blk.new w2 46 (madeCells (Value.agg #[Value.int IntKind.i64 0, Value.int IntKind.i64 0, Value.bool false]).cells (l.length * 3))).below hb3 (by omega)
  have hA3 : Sl w3 A (l.flatMap Ent.cells) := hA.below hb03
  clear hmk hb3 hb0 hA0 hA1
  go_wp2
  go_loopw [34] (fun i wr => ∃ k : Nat, k ≤ l.length ∧ i = .int .i64 k ∧ Mod (fun b => b = w2.heap.size) w3 wr ∧
      ∃ cur : Array Value, Hid (cur.size = l.length * 3) ∧ Blk wr w2.heap.size 46 cur ∧ Hid (cur.toList.take (k * 3) = ((laid l).take k).flatMap Ent.cells))
      (fun i _ => l.length - (intOf i).toNat)
  case atStart => exact ⟨0, Nat.zero_le _, rfl, Mod.refl _ _, _, by show _ = _; simp [madeCells, Value.cells], hg3, by show _ = _; simp⟩
  case round =>
    obtain ⟨k, hk, rfl, hm, cur, hcs, hcur, hct⟩ := hrel
    by_cases hlt : k < l.length
    · have hb : Below w.heap.size w wr := hb03.trans (hm.below hb03.size (by intro k h; omega))
      have hrl : k < (ranks l.length).length := by rw [ranks_length]; exact hlt
      obtain ⟨x, hx⟩ : ∃ x, (ranks l.length)[k]'hrl = x := ⟨_, rfl⟩
      have hxn : x < l.length := by rw [← hx, ranks_get hlt]; exact ranks_lt hlt
      have ho4 := ho3.mod hm (by omega)
      have cr : wr.cell? ⟨w2.heap.size + 1, k, none⟩ = some (.int .i64 (x : Nat)) := by
        rw [ho4.cell]; simp [hrl, hx]
      obtain ⟨b, off, rfl, hbl, c1, c2, c3⟩ := hA.entB hb x hxn
      have hsz := hcs.out
      obtain ⟨v1, e1⟩ : ∃ v, wr.cell? ⟨w2.heap.size, k * 3, none⟩ = some v := ⟨_, (hcur.cell _).trans (Array.getElem?_eq_getElem (show k * 3 < cur.size by omega))⟩
      obtain ⟨v2, e2⟩ : ∃ v, wr.cell? ⟨w2.heap.size, k * 3 + 1, none⟩ = some v := ⟨_, (hcur.cell _).trans (Array.getElem?_eq_getElem (show k * 3 + 1 < cur.size by omega))⟩
      obtain ⟨v3, e3⟩ : ∃ v, wr.cell? ⟨w2.heap.size, k * 3 + 2, none⟩ = some v := ⟨_, (hcur.cell _).trans (Array.getElem?_eq_getElem (show k * 3 + 2 < cur.size by omega))⟩
      have f1 := hcur.frozen (k * 3)
      have f2 := hcur.frozen (k * 3 + 1)
      have f3 := hcur.frozen (k * 3 + 2)
      have hxi : (0 : Int) ≤ (x : Int) := by omega
      have hxi2 : (x : Int) < (l.length : Int) := by omega
      have hki : (0 : Int) ≤ (k : Int) := by omega
      have hki2 : (k : Int) < (l.length : Int) := by omega
      have hlk : Hid ((laid l)[k]'(by rw [laid_length]; exact hlt) = l[x]'hxn) := by show _ = _; simp [laid, hx, entAt_get hxn]
      have hlt' : k < (laid l).length := by rw [laid_length]; exact hlt
      have n1 := Nat.ne_of_lt hs2
      clear hx hsz
      go_wp2
      go_roundw
      case rel =>
        refine ⟨k + 1, by omega, by go_num, ((hm.setCell (p := ⟨w2.heap.size, k * 3, none⟩) rfl _).setCell (p := ⟨w2.heap.size, k * 3 + 1, none⟩) rfl _).setCell (p := ⟨w2.heap.size, k * 3 + 2, none⟩) rfl _, _, ?_, ((hcur.set_ (k * 3) _).set_ (k * 3 + 1) _).set_ (k * 3 + 2) _, ?_⟩
        · show _ = _; simpa using hcs.out
        · show _ = _
          rw [take_set3 _ _ _ (by rw [hcs.out]; omega) hct.out, List.take_succ_eq_append_getElem hlt', List.flatMap_append, hlk.out]
          simp [Ent.cells]
      case measure => simp [intOf]; omega
    · have hkn := Lib.hid (show k = l.length by omega)
      have hb : Below w.heap.size w wr := hb03.trans (hm.below hb03.size (by intro k h; omega))
      have hx4 := hx3.mod hm (by omega)
      have hc4 : wr.cell? ⟨w.heap.size, 0, none⟩ = some (.slice none 0 0) := hx4.cell 0
      have hf4 : wr.frozen? ⟨w.heap.size, 0, none⟩ = false := hx4.frozen 0
      have HL := Lib.hid (laid_length l)
      go_wp2
      refine bodyPost_ret (v := .tuple #[.agg #[.slice (some ⟨w2.heap.size, 0, none⟩) l.length l.length], .int .i64 0]) (by simp [results, Tryz.results53, go_sem, hc4]) rfl ?_
      refine ⟨some ⟨w2.heap.size, 0, none⟩, l.length, by rw [HL.out], ?_, hb.setCell (p := ⟨w.heap.size, 0, none⟩) (Nat.le_refl _) _⟩
      rw [HL.out]
      have hct' := hct.out
      rw [hkn.out, List.take_of_length_le (l := laid l) (by rw [HL.out]; omega)] at hct'
      refine own_far ⟨by rw [flat_length Ent.cells 3 Ent.cells_length, HL.out], .inr ⟨w2.heap.size, l.length, cur, rfl, by omega, hcur, Nat.le_refl _, by unfold maxLen; omega, hcs.out, hct'⟩⟩ ?_ _
      simp [Value.ownBlock]
      omega

theorem build_any (A : Option Addr) (l : List Ent) (c : Nat) (w : World) (hA : Sl w A (l.flatMap Ent.cells)) (hl : l.length ≤ 4611686018427387903) :
    Calls Tryz.prog 53 #[.slice A l.length c] w (GivesRun 46 (buildL l) (buildE l) w) := by
  by_cases h : buildE l = 0
  · exact build_yes A l c w hA hl h
  · exact build_no A l c w hA hl h

theorem buildL_le (l : List Ent) : (buildL l).length ≤ l.length := by unfold buildL; split <;> simp [laid_length]
theorem build_n (A : Option Addr) (l : List Ent) (n c : Nat) (w : World) (hn : l.length = n) (hA : Sl w A (l.flatMap Ent.cells)) (hl : l.length ≤ 4611686018427387903) :
    Calls Tryz.prog 53 #[.slice A n c] w (GivesRun 46 (buildL l) (buildE l) w) := by subst hn; exact build_any A l c w hA hl

end Go.Proofs.YtolclahkfmplfaaGreatDoor
