/- Eytz Wey Eref: texts of the claim, in this order. -/
import Derived.Test.YtolclahkfmplfaaGreatProg
import Derived.Test.YtolclahkfmplfaaGreatWz2
import Derived.Test.YtolclahkfmplfaaGreatWz1
import Derived.Deep.RegionHeld3
import Derived.Deep.AppendLies
import Derived.Deep.RegionLaw
/- Eytzinger's layout as plain mathematics: the places in order, the way from each to the next, that they are just the places below n. -/
namespace Go.Proofs.YtolclahkfmplfaaGreat

def inord (n a : Nat) : List Nat := if _h : a < n then inord n (2 * a + 1) ++ a :: inord n (2 * a + 2) else []
termination_by n - a
decreasing_by all_goals omega

def lm (n a : Nat) : Nat := if h : 2 * a + 1 < n then lm n (2 * a + 1) else a
termination_by n - a
decreasing_by omega

def upo (a : Nat) : Option Nat := if a = 0 then none else if a % 2 = 1 then some ((a - 1) / 2) else upo ((a - 1) / 2)
termination_by a
decreasing_by omega

def nx (n a : Nat) : Option Nat := if 2 * a + 2 < n then some (lm n (2 * a + 2)) else upo a

theorem inord_in {n a : Nat} (h : a < n) : inord n a = inord n (2 * a + 1) ++ a :: inord n (2 * a + 2) := by rw [inord]; simp [h]
theorem inord_out {n a : Nat} (h : ¬ a < n) : inord n a = [] := by rw [inord]; simp [h]
theorem lm_in {n a : Nat} (h : 2 * a + 1 < n) : lm n a = lm n (2 * a + 1) := by rw [lm]; simp [h]
theorem lm_out {n a : Nat} (h : ¬ 2 * a + 1 < n) : lm n a = a := by rw [lm]; simp [h]
theorem upo_zero : upo 0 = none := by rw [upo]; simp
theorem upo_odd {a : Nat} (h : a % 2 = 1) : upo a = some ((a - 1) / 2) := by rw [upo, if_neg (by omega), if_pos h]
theorem upo_even {a : Nat} (h0 : a ≠ 0) (h : a % 2 ≠ 1) : upo a = upo ((a - 1) / 2) := by rw [upo, if_neg h0, if_neg h]

theorem inord_ne {n a : Nat} (h : a < n) : inord n a ≠ [] := by rw [inord_in h]; simp

theorem inord_head (n a : Nat) (h : a < n) : (inord n a).head? = some (lm n a) := by
  induction a using lm.induct (n := n) with
  | case1 a h1 ih =>
    rw [inord_in h, lm_in h1, List.head?_append, ih h1]
    rfl
  | case2 a h1 =>
    rw [inord_in h, lm_out h1, inord_out h1]
    rfl

theorem inord_zero_get {n a : Nat} (h : a < n) (h0 : 0 < (inord n a).length) : (inord n a)[0]'h0 = lm n a := by
  have := inord_head n a h
  rw [List.head?_eq_getElem?, List.getElem?_eq_getElem h0] at this
  exact Option.some.inj this

/-- from each place under a the way leads to the next one under a, or out of it, upward -/
theorem nx_under (n : Nat) : ∀ (m a : Nat), n - a ≤ m → a < n → ∀ (k : Nat) (x : Nat), (inord n a)[k]? = some x → nx n x = ((inord n a)[k + 1]?).or (upo a) := by
  intro m
  induction m with
  | zero => intro a hm h; omega
  | succ m ih =>
    intro a hm h k x hx
    have hl : ∀ k x, (inord n (2 * a + 1))[k]? = some x → nx n x = ((inord n (2 * a + 1))[k + 1]?).or (some a) := by
      intro k x hx
      by_cases h1 : 2 * a + 1 < n
      · have := ih (2 * a + 1) (by omega) h1 k x hx
        rw [this, upo_odd (by omega)]
        congr 2
        omega
      · rw [inord_out h1] at hx; simp at hx
    have hr : ∀ k x, (inord n (2 * a + 2))[k]? = some x → nx n x = ((inord n (2 * a + 2))[k + 1]?).or (upo a) := by
      intro k x hx
      by_cases h1 : 2 * a + 2 < n
      · have := ih (2 * a + 2) (by omega) h1 k x hx
        rw [this, upo_even (a := 2 * a + 2) (by omega) (by omega)]
        congr 2
        omega
      · rw [inord_out h1] at hx; simp at hx
    rw [inord_in h] at hx ⊢
    rcases Nat.lt_trichotomy k (inord n (2 * a + 1)).length with hk | hk | hk
    · rw [List.getElem?_append_left hk] at hx
      rw [hl k x hx]
      by_cases hk1 : k + 1 < (inord n (2 * a + 1)).length
      · rw [List.getElem?_append_left hk1, List.getElem?_eq_getElem hk1]; rfl
      · have : k + 1 = (inord n (2 * a + 1)).length := by omega
        rw [List.getElem?_append_right (by omega), this, Nat.sub_self, List.getElem?_eq_none (by omega)]
        rfl
    · rw [List.getElem?_append_right (by omega), hk, Nat.sub_self] at hx
      simp at hx
      subst hx
      rw [List.getElem?_append_right (by omega), hk]
      have : (inord n (2 * a + 1)).length + 1 - (inord n (2 * a + 1)).length = 1 := by omega
      rw [this]
      simp only [List.getElem?_cons_succ]
      unfold nx
      by_cases h2 : 2 * a + 2 < n
      · rw [if_pos h2]
        have h0 : 0 < (inord n (2 * a + 2)).length := by
          have := inord_ne h2
          cases hh : inord n (2 * a + 2) with
          | nil => exact absurd hh this
          | cons => simp
        rw [List.getElem?_eq_getElem h0, inord_zero_get h2 h0]
        rfl
      · rw [if_neg h2, inord_out h2]
        rfl
    · rw [List.getElem?_append_right (by omega)] at hx
      obtain ⟨j, rfl⟩ : ∃ j, k = (inord n (2 * a + 1)).length + 1 + j := ⟨k - (inord n (2 * a + 1)).length - 1, by omega⟩
      have e1 : (inord n (2 * a + 1)).length + 1 + j - (inord n (2 * a + 1)).length = j + 1 := by omega
      have e2 : (inord n (2 * a + 1)).length + 1 + j + 1 - (inord n (2 * a + 1)).length = j + 1 + 1 := by omega
      rw [e1, List.getElem?_cons_succ] at hx
      rw [List.getElem?_append_right (by omega), e2, List.getElem?_cons_succ]
      exact hr j x hx

theorem nx_next {n k x : Nat} (hx : (inord n 0)[k]? = some x) : nx n x = (inord n 0)[k + 1]? := by
  by_cases h : 0 < n
  · rw [nx_under n n 0 (by omega) h k x hx, upo_zero, Option.or_none]
  · rw [inord_out h] at hx; simp at hx

/-! ### they are just the places below n -/

theorem mem_inord (n : Nat) : ∀ (m a : Nat), n - a ≤ m → ∀ x, x ∈ inord n a ↔ x < n ∧ ∃ d, (x + 1) / 2 ^ d = a + 1 := by
  intro m
  induction m with
  | zero =>
    intro a hm x
    rw [inord_out (by omega)]
    simp only [List.not_mem_nil, false_iff, not_and, not_exists]
    intro hx d he
    have := Nat.div_le_self (x + 1) (2 ^ d)
    omega
  | succ m ih =>
    intro a hm x
    by_cases h : a < n
    · rw [inord_in h, List.mem_append, List.mem_cons, ih (2 * a + 1) (by omega), ih (2 * a + 2) (by omega)]
      constructor
      · rintro (⟨hx, d, he⟩ | rfl | ⟨hx, d, he⟩)
        · refine ⟨hx, d + 1, ?_⟩
          rw [Nat.pow_succ, ← Nat.div_div_eq_div_mul, he]; omega
        · exact ⟨h, 0, by simp⟩
        · refine ⟨hx, d + 1, ?_⟩
          rw [Nat.pow_succ, ← Nat.div_div_eq_div_mul, he]; omega
      · rintro ⟨hx, d, he⟩
        cases d with
        | zero => right; left; simp at he; exact he
        | succ d =>
          rw [Nat.pow_succ, ← Nat.div_div_eq_div_mul] at he
          have : (x + 1) / 2 ^ d = 2 * a + 1 + 1 ∨ (x + 1) / 2 ^ d = 2 * a + 2 + 1 := by omega
          rcases this with h1 | h1
          · exact .inl ⟨hx, d, h1⟩
          · exact .inr (.inr ⟨hx, d, h1⟩)
    · rw [inord_out h]
      simp only [List.not_mem_nil, false_iff, not_and, not_exists]
      intro hx d he
      have := Nat.div_le_self (x + 1) (2 ^ d)
      omega

theorem reach_one (x : Nat) : ∃ d, (x + 1) / 2 ^ d = 1 := by
  induction x using Nat.strongRecOn with
  | _ x ih =>
    cases x with
    | zero => exact ⟨0, rfl⟩
    | succ x =>
      obtain ⟨d, hd⟩ := ih ((x + 2) / 2 - 1) (by omega)
      refine ⟨d + 1, ?_⟩
      rw [Nat.pow_succ, Nat.mul_comm, ← Nat.div_div_eq_div_mul]
      rw [show (x + 2) / 2 - 1 + 1 = (x + 2) / 2 by omega] at hd
      exact hd

theorem mem_inord_zero (n x : Nat) : x ∈ inord n 0 ↔ x < n := by
  rw [mem_inord n n 0 (by omega)]
  exact ⟨fun h => h.1, fun h => ⟨h, reach_one x⟩⟩

theorem far_div {y d e c : Nat} (hde : d < e) (h1 : y / 2 ^ d = c) : y / 2 ^ e ≤ c / 2 := by
  obtain ⟨j, rfl⟩ : ∃ j, e = d + 1 + j := ⟨e - d - 1, by omega⟩
  rw [Nat.pow_add, Nat.pow_succ, ← Nat.div_div_eq_div_mul, ← Nat.div_div_eq_div_mul, h1]
  exact Nat.div_le_self _ _

theorem nodup_inord (n : Nat) : ∀ (m a : Nat), n - a ≤ m → (inord n a).Nodup := by
  intro m
  induction m with
  | zero => intro a hm; rw [inord_out (by omega)]; exact List.nodup_nil
  | succ m ih =>
    intro a hm
    by_cases h : a < n
    · rw [inord_in h, List.nodup_append]
      refine ⟨ih _ (by omega), List.nodup_cons.2 ⟨?_, ih _ (by omega)⟩, ?_⟩
      · rw [mem_inord n m _ (by omega)]
        rintro ⟨_, d, he⟩
        have := Nat.div_le_self (a + 1) (2 ^ d)
        omega
      · intro x hx y hy hxy
        subst hxy
        rw [mem_inord n m _ (by omega)] at hx
        obtain ⟨_, d, hd⟩ := hx
        rcases List.mem_cons.1 hy with rfl | hy
        · have := Nat.div_le_self (x + 1) (2 ^ d)
          omega
        · rw [mem_inord n m _ (by omega)] at hy
          obtain ⟨_, e, he⟩ := hy
          rcases Nat.lt_trichotomy d e with hde | hde | hde
          · have := far_div hde hd; omega
          · subst hde; omega
          · have := far_div hde he; omega
    · rw [inord_out h]; exact List.nodup_nil

theorem inord_perm (n : Nat) : (inord n 0).Perm (List.range n) := by
  rw [List.perm_ext_iff_of_nodup (nodup_inord n n 0 (by omega)) List.nodup_range]
  intro x
  rw [mem_inord_zero, List.mem_range]

theorem inord_length (n : Nat) : (inord n 0).length = n := by rw [(inord_perm n).length_eq, List.length_range]

theorem inord_lt {n x : Nat} (h : x ∈ inord n 0) : x < n := (mem_inord_zero n x).1 h

theorem inord_sub (n : Nat) : ∀ a, (inord n a).Sublist (inord n 0) := by
  intro a
  induction a using Nat.strongRecOn with
  | _ a ih =>
    by_cases h0 : a = 0
    · subst h0; exact List.Sublist.refl _
    · refine List.Sublist.trans ?_ (ih ((a - 1) / 2) (by omega))
      by_cases hp : (a - 1) / 2 < n
      · rw [inord_in hp]
        rcases Nat.mod_two_eq_zero_or_one a with h | h
        · rw [show 2 * ((a - 1) / 2) + 2 = a by omega]
          exact (List.sublist_cons_self _ _).trans (List.sublist_append_right _ _)
        · rw [show 2 * ((a - 1) / 2) + 1 = a by omega]
          exact List.sublist_append_left _ _
      · rw [inord_out (a := a) (by omega)]; exact List.nil_sublist _
theorem inord_le (n a : Nat) : (inord n a).length ≤ n := by have := (inord_sub n a).length_le; rwa [inord_length] at this

/-- of each place the rank of what stands there -/
def ranks (n : Nat) : List Nat := (List.range n).map fun at_ => (inord n 0).idxOf at_
theorem ranks_length (n : Nat) : (ranks n).length = n := by simp [ranks]
theorem ranks_get {n a : Nat} (h : a < n) : (ranks n)[a]'(by rw [ranks_length]; exact h) = (inord n 0).idxOf a := by simp [ranks]
theorem ranks_lt {n a : Nat} (h : a < n) : (inord n 0).idxOf a < n := by
  have := List.idxOf_lt_length_iff.2 ((mem_inord_zero n a).2 h)
  rwa [inord_length] at this
theorem inord_idx {n a : Nat} (h : a < n) : (inord n 0)[(inord n 0).idxOf a]'(by rw [inord_length]; exact ranks_lt h) = a := List.getElem_idxOf _
theorem idx_inord {n k : Nat} (h : k < (inord n 0).length) : (inord n 0).idxOf ((inord n 0)[k]'h) = k := (nodup_inord n n 0 (by omega)).idxOf_getElem k h
end Go.Proofs.YtolclahkfmplfaaGreat

/- Contracts of eytz: asked, leftmost, next, places and what they yield, Order. -/
namespace Go.Proofs.YtolclahkfmplfaaGreat
open Go Go.RowKit Go.Shelf
set_option maxRecDepth 100000

def askedE (n : Int) : Int := if n < 0 then 2 else if n > 65536 then 4 else 0

set_option maxHeartbeats 400000 in
theorem asked_any (n : Int) (w : World) :
    Calls Tryz.prog 89 #[.int .i64 n] w fun r w' => r = .returned (.int .i64 (askedE n)) ∧ w = w' := by
  go_enter Tryz.func89, Tryz.ntmps89
  go_wp2
  all_goals
    go_ret
    refine ⟨ret_int ?_, rfl⟩
    unfold askedE
    first | (rw [if_pos (by assumption)]) | (rw [if_neg (by omega), if_pos (by assumption)]) | (rw [if_neg (by omega), if_neg (by omega)])

set_option maxHeartbeats 400000 in
theorem leftmost_any (n a : Nat) (N Z : Int) (hN : N = n) (hZ : Z = a) (hn : n ≤ 65536) (ha : a ≤ 200000) (w : World) :
    Calls Tryz.prog 107 #[.int .i64 N, .int .i64 Z] w fun r w' => r = .returned (.int .i64 (lm n a : Nat)) ∧ w = w' := by
  subst hN hZ
  go_enter Tryz.func107, Tryz.ntmps107
  go_wp2
  go_loop [1] (fun i => ∃ b : Nat, b ≤ 200000 ∧ i = .int .i64 b ∧ Hid (lm n b = lm n a)) (fun i => n - (intOf i).toNat)
  case atStart => exact ⟨a, ha, rfl, rfl⟩
  case round =>
    obtain ⟨b, hb, rfl, hl⟩ := hrel
    by_cases hlt : 2 * b + 1 < n
    · go_wp2
      go_round
      case rel => exact ⟨2 * b + 1, by omega, by go_num, by rw [← hl.out, ← lm_in hlt]; rfl⟩
      case measure => simp [intOf]; omega
    · go_wp2
      go_ret
      exact ⟨ret_int (by rw [← hl.out, lm_out hlt]), rfl⟩

def nxI (n a : Nat) : Int := match nx n a with | some x => (x : Int) | none => -1

set_option maxHeartbeats 400000 in
theorem next_any (n a : Nat) (N Z : Int) (hN : N = n) (hZ : Z = a) (hn : n ≤ 65536) (ha : a < n) (w : World) :
    Calls Tryz.prog 108 #[.int .i64 N, .int .i64 Z] w fun r w' => r = .returned (.int .i64 (nxI n a)) ∧ w = w' := by
  subst hN hZ
  by_cases h2 : 2 * a + 2 < n
  · go_enter Tryz.func108, Tryz.ntmps108
    go_wp2
    go_step3
    go_wp2_with (go_at_call 107; refine (leftmost_any n (2 * a + 2) _ _ rfl (by omega) hn (by omega) _).mono ?_; rintro e w1 ⟨rfl, rfl⟩)
    rw [Exit.noGoto_ret]
    go_ret
    exact ⟨ret_int (by simp [nxI, nx, h2]), rfl⟩
  · go_enter Tryz.func108, Tryz.ntmps108
    go_wp2
    go_step3
    go_wp2
    go_step3
    go_wp2
    go_loop [1] (fun i => ∃ b : Nat, b ≤ a ∧ i = .int .i64 b ∧ Hid (upo b = upo a)) (fun i => (intOf i).toNat)
    case atStart => exact ⟨a, Nat.le_refl _, rfl, rfl⟩
    case round =>
      obtain ⟨b, hb, rfl, hl⟩ := hrel
      by_cases h0 : b = 0
      · have hz : (((b : Nat) : Int) == 0) = true := by simp [h0]
        have hr : Hid (nxI n a = -1) := by unfold nxI nx; rw [if_neg h2, ← hl.out, h0, upo_zero]; rfl
        clear h0
        go_wp2
        go_ret
        exact ⟨ret_int hr.out.symm, rfl⟩
      · have hz : (((b : Nat) : Int) == 0) = false := by simp [h0]
        by_cases h1 : b % 2 = 1
        · have hz1 : (((b : Nat) : Int) % 2 == 1) = true := by simp; omega
          have hr : Hid (nxI n a = ((b - 1) / 2 : Nat)) := by unfold nxI nx; rw [if_neg h2, ← hl.out, upo_odd h1]; rfl
          have h1' : 1 ≤ b := by omega
          clear h1 h0
          go_wp2
          go_ret
          exact ⟨ret_int (by rw [hr.out]; omega), rfl⟩
        · have hz1 : (((b : Nat) : Int) % 2 == 1) = false := by simp; omega
          have hr : Hid (upo ((b - 1) / 2) = upo a) := by rw [← upo_even h0 h1]; exact hl.out
          have h1' : 1 ≤ b := by omega
          clear h1 h0
          go_wp2
          go_round
          case rel => exact ⟨(b - 1) / 2, by omega, by congr 1; omega, hr⟩
          case measure => simp [intOf]; omega

attribute [local go_sem] Oper.semAt_some

/-- what eytz.places(n) yields: k and the k-th place -/
def placesX (n k : Nat) : Array Value := #[.int .i64 (k : Nat), .int .i64 ((inord n 0).getD k 0 : Nat)]
theorem placesX_get {n k x : Nat} (hx : (inord n 0)[k]? = some x) : placesX n k = #[.int .i64 (k : Nat), .int .i64 (x : Nat)] := by
  simp [placesX, List.getD, hx]

theorem nxI_some {n k x y : Nat} (hx : (inord n 0)[k]? = some x) (hy : (inord n 0)[k + 1]? = some y) : nxI n x = (y : Nat) := by
  unfold nxI; rw [nx_next hx, hy]
theorem nxI_none {n k x : Nat} (hx : (inord n 0)[k]? = some x) (hy : (inord n 0)[k + 1]? = none) : nxI n x = -1 := by
  unfold nxI; rw [nx_next hx, hy]

set_option maxHeartbeats 1000000 in
theorem places1_in (n B : Nat) (hn : n ≤ 65536) (w : World)
    (hc : w.cell? ⟨B, 0, none⟩ = some (.int .i64 (n : Nat))) :
    Yields Fence.wide Tryz.prog 106 #[.pointer (some ⟨B, 0, none⟩)] n (placesX n) (fun b => b = B) (fun _ => False) w := by
  intro l I X W hsz hKp hI hX hY h0
  have hcW : W.cell? ⟨B, 0, none⟩ = some (.int .i64 (n : Nat)) := (World.cell?_of_block (hKp B rfl)).trans hc
  have hdd : ∀ k : Nat, (Fence.wide.depth.isSome = true → 1 ≤ k) := fun k h => by cases h
  have hwf : ∀ f, Fence.wide.fn f := fun _ => trivial
  have hdp : Fence.wide.depth = none := rfl
  have hro : Fence.wide.round = none := rfl
  refine callsIn_of_wp Tryz.func106 rfl (hwf _) ?_ hro
  simp only [Tryz.ntmps106, List.size_toArray, List.length_cons, List.length_nil, Nat.reduceAdd, Nat.reduceSub, Array.replicate_succ, Array.replicate_zero, List.push_toArray, List.append_toArray, List.nil_append, List.cons_append]
  refine wpIn_scope_jumps 0 (fun a' w' => ∃ (k x : Nat) (v2 v5 v6 v7 v8 v9 v10 v11 v12 v13 v14 v15 v16 v17 v18 v19 v20 : Value), (inord n 0)[k]? = some x ∧
      a' = { tmps := #[.func (.yield l) #[] #[], .pointer (some ⟨B, 0, none⟩), v2, .int .i64 (k : Nat), .int .i64 (x : Nat), v5, v6, v7, v8, v9, v10, v11, v12, v13, v14, v15, v16, v17, v18, v19, v20], defers := [] } ∧
      I k w' ∧ w'.cell? ⟨B, 0, none⟩ = some (.int .i64 (n : Nat)))
    (fun a' _ => n - (intOf (a'.tmps.getD 3 undef)).toNat) rfl ?first ?pass
  case first =>
    by_cases hn0 : n = 0
    · have hz : (((n : Nat) : Int) == 0) = true := by simp [hn0]
      have hHl := Lib.hid (show 0 = n from hn0.symm)
      clear hn0 hY hKp hI hX
      gi_wp2
      simp only [Exit.jump]
      refine bodyPost_ret (results_none rfl _ _ _) rfl ?_
      exact ⟨⟨_, rfl⟩, .inl (hHl.out ▸ h0)⟩
    · have hz : (((n : Nat) : Int) == 0) = false := by simp [hn0]
      have hx : (inord n 0)[0]? = some (lm n 0) := by
        have h1 : 0 < n := by omega
        have h2 : 0 < (inord n 0).length := by rw [inord_length]; exact h1
        rw [List.getElem?_eq_getElem h2, inord_zero_get h1 h2]
      have hY' := hY 0 W (by omega) h0
      rw [placesX_get hx, show ((0 : Nat) : Int) = 0 from rfl] at hY'
      obtain ⟨fn, tmps, assign, body, hy, hR⟩ := hY'
      clear hY hKp hI hX hn0
      gi_wp2_with ((try refine ⟨hdd _, ?_⟩); gi_at_call 107; refine (callsIn_wide.2 (leftmost_any n 0 _ _ rfl rfl hn (by omega) _)).mono ?_; rintro e w1 ⟨rfl, rfl⟩)
      refine wpIn_label ?_
      gi_wp2
      refine hR.mono ?_
      clear hR hy
      rintro e W2 (⟨rfl, hi2, hs2, hk2⟩ | ⟨rfl, hx2⟩)
      · have hcw2 : W2.cell? ⟨B, 0, none⟩ = some (.int .i64 (n : Nat)) := (World.cell?_of_block (hk2 B rfl)).trans hcW
        have hxn := inord_lt (List.mem_of_getElem? hx)
        clear hk2
        rcases hnext : (inord n 0)[0 + 1]? with _ | y
        · have hH := Lib.hid (nxI_none hx hnext)
          have hlen : 0 + 1 = n := by
            have h1 := (List.getElem?_eq_none_iff.1 hnext)
            have h2 := (List.getElem?_eq_some_iff.1 hx).1
            rw [inord_length] at h1 h2
            omega
          have hHl := Lib.hid hlen
          have hHx := Lib.hid hx
          clear hnext hlen hx
          gi_wp2_with ((try refine ⟨hdd _, ?_⟩); gi_at_call 108; refine (callsIn_wide.2 (next_any n (lm n 0) _ _ rfl rfl hn hxn _)).mono ?_; rw [hH.out]; rintro e w1 ⟨rfl, rfl⟩)
          simp only [Exit.jump]
          refine bodyPost_end (results_none rfl _ _ _) rfl ?_
          exact ⟨⟨_, rfl⟩, .inl (hHl.out ▸ hi2)⟩
        · have hH := Lib.hid (nxI_some hx hnext)
          have hkn : 0 + 1 < n := by have := (List.getElem?_eq_some_iff.1 hnext).1; rwa [inord_length] at this
          have hHl := Lib.hid hnext
          have hHx := Lib.hid hx
          clear hnext hx
          gi_wp2_with ((try refine ⟨hdd _, ?_⟩); gi_at_call 108; refine (callsIn_wide.2 (next_any n (lm n 0) _ _ rfl rfl hn hxn _)).mono ?_; rw [hH.out]; rintro e w1 ⟨rfl, rfl⟩)
          refine wpIn_goto ?_
          refine ⟨rfl, ⟨1, y, _, _, _, _, _, _, _, _, _, _, _, _, _, _, _, _, _, hHl.out, rfl, hi2, hcw2⟩⟩
      · gi_wp2
        simp only [Exit.jump]
        refine bodyPost_ret (results_none rfl _ _ _) rfl ?_
        exact ⟨⟨_, rfl⟩, .inr hx2⟩
  case pass =>
    rintro a' w' ⟨k, x, v2, v5, v6, v7, v8, v9, v10, v11, v12, v13, v14, v15, v16, v17, v18, v19, v20, hx, rfl, hi, hcw⟩
    have hk : k < n := by rw [← inord_length n]; exact (List.getElem?_eq_some_iff.1 hx).1
    have hY' := hY k w' hk hi
    rw [placesX_get hx] at hY'
    obtain ⟨fn, tmps, assign, body, hy, hR⟩ := hY'
    clear hY hKp hI hX
    gi_wp2
    refine hR.mono ?_
    clear hR hy
    rintro e W2 (⟨rfl, hi2, hs2, hk2⟩ | ⟨rfl, hx2⟩)
    · have hcw2 : W2.cell? ⟨B, 0, none⟩ = some (.int .i64 (n : Nat)) := (World.cell?_of_block (hk2 B rfl)).trans hcw
      have hxn := inord_lt (List.mem_of_getElem? hx)
      clear hk2
      rcases hnext : (inord n 0)[k + 1]? with _ | y
      · have hH := Lib.hid (nxI_none hx hnext)
        have hlen : k + 1 = n := by
          have h1 := (List.getElem?_eq_none_iff.1 hnext)
          have h2 := (List.getElem?_eq_some_iff.1 hx).1
          rw [inord_length] at h1 h2
          omega
        have hHl := Lib.hid hlen
        clear hnext hlen
        gi_wp2_with ((try refine ⟨hdd _, ?_⟩); gi_at_call 108; refine (callsIn_wide.2 (next_any n x _ _ rfl rfl hn hxn _)).mono ?_; rw [hH.out]; rintro e w1 ⟨rfl, rfl⟩)
        simp only [Exit.jump]
        refine bodyPost_end (results_none rfl _ _ _) rfl ?_
        exact ⟨⟨_, rfl⟩, .inl (hHl.out ▸ hi2)⟩
      · have hH := Lib.hid (nxI_some hx hnext)
        have hkn : k + 1 < n := by have := (List.getElem?_eq_some_iff.1 hnext).1; rwa [inord_length] at this
        have hHl := Lib.hid hnext
        clear hnext
        gi_wp2_with ((try refine ⟨hdd _, ?_⟩); gi_at_call 108; refine (callsIn_wide.2 (next_any n x _ _ rfl rfl hn hxn _)).mono ?_; rw [hH.out]; rintro e w1 ⟨rfl, rfl⟩)
        refine wpIn_goto ?_
        refine ⟨rfl, ⟨k + 1, y, _, _, _, _, _, _, _, _, _, _, _, _, _, _, _, _, _, hHl.out, rfl, hi2, hcw2⟩, ?_⟩
        show n - (((k : Int) + 1)).toNat < n - ((k : Int)).toNat
        omega
    · gi_wp2
      simp only [Exit.jump]
      refine bodyPost_ret (results_none rfl _ _ _) rfl ?_
      exact ⟨⟨_, rfl⟩, .inr hx2⟩

set_option maxHeartbeats 400000 in
theorem places_any (n : Nat) (w : World) :
    Calls Tryz.prog 90 #[.int .i64 (n : Nat)] w fun r w' =>
      r = .returned (.func (.func 106) #[] #[.pointer (some ⟨w.heap.size, 0, none⟩)]) ∧ w' = w.alloc (.cells #[.int .i64 (n : Nat)] 3) := by
  go_enter Tryz.func90, Tryz.ntmps90
  go_wp2
  go_ret
  exact ⟨rfl, rfl⟩

theorem int_info : (Tryz.prog.info? 3).map (fun i => (i.zero, i.size, i.bytes)) = some (some (.int .i64 0), 1, 8) := by kernel_rfl

set_option maxHeartbeats 1000000 in
theorem order_ok (n : Nat) (hn : n ≤ 65536) (w : World) :
    Calls Tryz.prog 67 #[.int .i64 (n : Nat)] w fun r w' => r = .returned (.tuple #[.slice (some ⟨w.heap.size, 0, none⟩) n n, .int .i64 0]) ∧
      Blk w' w.heap.size 3 ((ranks n).map fun k => Value.int .i64 (k : Nat)).toArray ∧ Below w.heap.size w w' := by
  refine calls_of_in (_F := Fence.wide) ?_
  have hdd : ∀ k : Nat, (Fence.wide.depth.isSome = true → 1 ≤ k) := fun k h => by cases h
  have hwf : ∀ f, Fence.wide.fn f := fun _ => trivial
  have hdp : Fence.wide.depth = none := rfl
  have hro : Fence.wide.round = none := rfl
  obtain ⟨i0, hi, hz0, hz1, hz2⟩ := info_parts int_info
  have hmk := fun W => run_make_rowN (P := Tryz.prog) 106 3 i0 (.int .i64 0) Tryz.underlying106 hi hz0 n (by rw [hz2]; omega) (by omega) W
  rw [hz1] at hmk
  clear hi hz0 hz1 hz2
  refine callsIn_of_wp_marks Tryz.func67 rfl (hwf _) ?_ hro
  simp only [Tryz.ntmps67, List.size_toArray, List.length_cons, List.length_nil, Nat.reduceAdd, Nat.reduceSub, Array.replicate_succ, Array.replicate_zero, List.push_toArray, List.append_toArray, List.nil_append, List.cons_append]
  have hask := Lib.hid (show askedE (n : Nat) = 0 by unfold askedE; rw [if_neg (by omega), if_neg (by omega)])
  gi_wp2_with (first
    | ((try refine ⟨hdd _, ?_⟩); gi_at_call 89; refine (callsIn_wide.2 (asked_any _ _)).mono ?_; rw [hask.out]; rintro e w1 ⟨rfl, rfl⟩)
    | ((try refine ⟨hdd _, ?_⟩); gi_at_call 90; refine (callsIn_wide.2 (places_any _ _)).mono ?_; rintro e w1 ⟨rfl, rfl⟩))
  obtain ⟨g, hg⟩ : ∃ g, w.heap.size = g := ⟨_, rfl⟩
  obtain ⟨W0, hW0⟩ : ∃ W0, (((w.alloc (Obj.cells (madeCells #[Value.int IntKind.i64 0] n) 3)).alloc (Obj.cells #[Value.slice (some { block := w.heap.size, off := 0 }) n n] 106)).alloc (Obj.cells #[Value.int IntKind.i64 (n : Nat)] 3)) = W0 := ⟨_, rfl⟩
  rw [hW0]
  have b0 : Blk W0 w.heap.size 3 (madeCells #[Value.int IntKind.i64 0] n) := by rw [← hW0]; exact ((Blk.new w _ _).alloc _).alloc _
  have b1 : Blk W0 (w.heap.size + 1) 106 #[Value.slice (some { block := w.heap.size, off := 0 }) n n] := by
    rw [← hW0]; have := Blk.new (w.alloc (Obj.cells (madeCells #[Value.int IntKind.i64 0] n) 3)) 106 #[Value.slice (some { block := w.heap.size, off := 0 }) n n]
    rw [World.size_alloc] at this
    exact this.alloc _
  have b2 : Blk W0 (w.heap.size + 1 + 1) 3 #[Value.int IntKind.i64 (n : Nat)] := by
    rw [← hW0]; have := Blk.new ((w.alloc (Obj.cells (madeCells #[Value.int IntKind.i64 0] n) 3)).alloc (Obj.cells #[Value.slice (some { block := w.heap.size, off := 0 }) n n] 106)) 3 #[Value.int IntKind.i64 (n : Nat)]
    rwa [World.size_alloc, World.size_alloc] at this
  have hb0 : Below w.heap.size w W0 := by
    rw [← hW0]; exact (((Below.refl _ w).alloc (Nat.le_refl _) _).alloc (by simp) _).alloc (by simp; omega) _
  have hs0 : W0.heap.size = w.heap.size + 3 := by rw [← hW0]; simp
  clear hW0 hmk
  rw [hg] at b0 b1 b2 hb0 hs0 ⊢
  refine wpIn_rangeS hdp hwf hro rfl (enters_of Tryz.func106 (by kernel_rfl) rfl)
    (places1_in n (g + 1 + 1) hn W0 (b2.cell 0)) (by rintro b rfl; omega) (fun _ h => h.elim) (fun _ => rfl)
    (fun k W => ∃ cur : Array Value, cur.size = n ∧ Blk W g 3 cur ∧ Blk W (g + 1) 106 #[Value.slice (some { block := g, off := 0 }) n n] ∧ Below g w W ∧
      ∀ j x, j < k → (inord n 0)[j]? = some x → cur[x]? = some (.int .i64 (j : Nat)))
    (fun _ _ => False)
    (fun k => [(17, .int .i64 (k : Nat)), (18, .int .i64 ((inord n 0).getD k 0 : Nat)), (6, .int .i64 (k : Nat)), (7, .int .i64 ((inord n 0).getD k 0 : Nat))])
    ?stab (fun _ _ _ h _ => h) ⟨_, by simp [madeCells], b0, b1, hb0, by omega⟩ ?assign ?body ?done (fun _ _ h _ => h.elim)
  case stab =>
    rintro k A B ⟨cur, hcs, hB0, hB1, hbl, hc⟩ hm
    refine ⟨cur, hcs, hB0.mod hm (by simp; omega), hB1.mod hm (by simp; omega), ?_, hc⟩
    exact hbl.trans (hm.below (by have := hB0.lt; omega) (by rintro k (h | h | h) <;> first | exact h.elim | omega))
  case assign =>
    intro l k hk A C hC
    simp only [placesX]
    gi_wp2
    exact hC
  case body =>
    rintro l k hk A ⟨cur, hcs, hB0, hB1, hbl, hc⟩ hsA
    have hkl : k < (inord n 0).length := by rw [inord_length]; exact hk
    obtain ⟨x, hx⟩ : ∃ x, (inord n 0)[k]? = some x := ⟨_, List.getElem?_eq_getElem hkl⟩
    have hxn : x < n := inord_lt (List.mem_of_getElem? hx)
    rw [show (inord n 0).getD k 0 = x by simp [List.getD, hx]]
    have hc1 : A.cell? ⟨g + 1, 0, none⟩ = some (.slice (some ⟨g, 0, none⟩) n n) := hB1.cell 0
    obtain ⟨vx, hcx⟩ : ∃ vx, A.cell? ⟨g, x, none⟩ = some vx := ⟨_, (hB0.cell x).trans (Array.getElem?_eq_getElem (show x < cur.size by omega))⟩
    have hfx : A.frozen? ⟨g, x, none⟩ = false := hB0.frozen x
    have hxi : (0 : Int) ≤ (x : Int) := by omega
    have hH := Lib.hid hx
    have hHc := Lib.hid hc
    have hHs := Lib.hid hcs
    clear hx hc hcs
    simp only [rt, List.foldl_cons, List.foldl_nil]
    gi_wp2
    refine ⟨(Mod.refl _ _).setCell (p := ⟨g, x, none⟩) (by simp; omega) _, _, ?_, hB0.set_ x _, hB1.far (p := ⟨g, x, none⟩) (by simp) _, hbl.setCell (p := ⟨g, x, none⟩) (Nat.le_refl _) _, ?_⟩
    · simpa using hHs.out
    · intro j y hj hy
      have hcs := hHs.out
      by_cases hjk : j = k
      · subst hjk
        rw [hH.out] at hy
        obtain rfl := Option.some.inj hy
        simp [hcs, hxn]
      · have hy' := hHc.out j y (by omega) hy
        have hne : x ≠ y := by
          intro e
          subst e
          have h1 := List.getElem?_eq_some_iff.1 hy
          have h2 := List.getElem?_eq_some_iff.1 hH.out
          have e1 := idx_inord h1.1
          have e2 := idx_inord h2.1
          rw [h1.2] at e1
          rw [h2.2] at e2
          exact hjk (e1.symm.trans e2)
        rw [Array.getElem?_setIfInBounds_ne hne]
        exact hy'
  case done =>
    rintro W ⟨cur, hcs, hB0, hB1, hbl, hc⟩ hD
    have hc1 : W.cell? ⟨g + 1, 0, none⟩ = some (.slice (some ⟨g, 0, none⟩) n n) := hB1.cell 0
    have hHc := Lib.hid hc
    have hHs := Lib.hid hcs
    clear hc hcs
    gi_wp2
    subst hg
    refine postM_ret2 rfl hD ⟨rfl, ?_, ?_⟩
    · have hcur : cur = ((ranks n).map fun k => Value.int .i64 (k : Nat)).toArray := by
        have hcs := hHs.out
        refine Array.ext (by simp [ranks_length, hcs]) fun i h1 h2 => ?_
        have hi : i < n := by omega
        have h := hHc.out _ i (ranks_lt hi) (by rw [List.getElem?_eq_getElem (by rw [inord_length]; exact ranks_lt hi), inord_idx hi])
        rw [Array.getElem?_eq_getElem h1] at h
        simp [Option.some.inj h, ranks_get hi]
      rw [← hcur]
      exact hB0.of (World.putObj_heap_other (by have := hB0.lt; omega))
    · exact hbl.trans ⟨rfl, rfl, rfl, by simp [World.putObj], fun k hk => World.putObj_heap_other (by omega)⟩
end Go.Proofs.YtolclahkfmplfaaGreat

/- Contracts of the references: places, ranks, runs that are laid, and whether entries are the same. -/
namespace Go.Proofs.YtolclahkfmplfaaGreat
open Go Go.RowKit
set_option maxRecDepth 100000

/-- the answer is a slice of the call's own with these cells -/
def GivesOwn (e : TypeId) (s n : Nat) (xs : List Value) (w : World) (r : Ending) (w' : World) : Prop :=
  ∃ A c, r = .returned (.slice A n c) ∧ w'.ownsRow w.heap.size e s (.slice A n c) n xs ∧ Below w.heap.size w w'

set_option maxHeartbeats 1000000 in
theorem refPlaces_any : ∀ (m n a : Nat) (N Z : Int) (w : World), N = n → Z = a → n ≤ 65536 → a ≤ 200000 → n - a ≤ m →
    Calls Tryz.prog 103 #[.int .i64 N, .int .i64 Z] w (GivesOwn 3 1 (inord n a).length ((inord n a).map natV) w) := by
  intro m
  induction m with
  | zero =>
    rintro n a N Z w rfl rfl hn ha hm
    have hlt : ¬ a < n := by omega
    go_enter Tryz.func103, Tryz.ntmps103
    go_wp2_with fail
    go_ret
    rw [inord_out hlt]
    exact ⟨none, 0, rfl, World.ownsRow_nil _ _ _ _, Below.refl _ _⟩
  | succ m ih =>
    rintro n a N Z w rfl rfl hn ha hm
    by_cases hlt : a < n
    · obtain ⟨i0, hi, hz0, hz1, hz2⟩ := info_parts int_info
      have IH := Lib.hid ih
      clear ih
      have l1 := inord_le n (2 * a + 1)
      have l2 := inord_le n (2 * a + 2)
      have l3 := inord_le n a
      have Hlen := Lib.hid (show (inord n a).length = (inord n (2 * a + 1)).length + 1 + (inord n (2 * a + 2)).length by rw [inord_in hlt]; simp; omega)
      have l4 : (inord n (2 * a + 1)).length + 1 + (inord n (2 * a + 2)).length ≤ 65536 := by rw [← Hlen.out]; omega
      go_enter Tryz.func103, Tryz.ntmps103
      go_wp2_with fail
      refine (IH.out n (2 * a + 1) _ _ _ rfl (by omega) hn (by omega) (by omega)).mono ?_
      rintro e w1 ⟨A1, c1, rfl, hown1, hb1⟩
      go_wp2_with (at_builtin; refine wpList_append_sl _ rfl (.tmp 13) (.tmp 15) _ rfl w.heap.size 3 i0 _ 1 8 Tryz.underlying106 hi hz0 hz1 hz2 rfl (by omega) (.slice A1 (inord n (2 * a + 1)).length c1) _ _ rfl (hown1.alloc _) _ 1 _ [natV a] rfl ((Blk.new w1 _ _).sl 0 _ (by intro j u hu; simpa [natV] using hu)) (by simp) (by simp [natV, Value.oneCell']) (by unfold maxLen; omega) (by omega) (by have := hb1.size; simp; omega) ?_; intro v2 w2 hown2 hg2)
      have hb2 : Below w.heap.size w w2 := (hb1.alloc hb1.size _).grown hg2 (by have := hb1.size; simp; omega) (fun k hk => (hown1.lt k hk).1)
      refine (IH.out n (2 * a + 2) _ _ _ rfl (by omega) hn (by omega) (by omega)).mono ?_
      rintro e w3 ⟨A3, c3, rfl, hown3, hb3⟩
      have hown2' := own_below hown2 hb3
      have hb23 := bext hb2 hb3
      go_wp2_with (at_builtin; refine wpList_append_sl _ rfl (.tmp 17) (.tmp 22) _ rfl w.heap.size 3 i0 _ 1 8 Tryz.underlying106 hi hz0 hz1 hz2 rfl (by omega) v2 _ _ rfl hown2' _ _ _ ((inord n (2 * a + 2)).map natV) rfl (own_sl hown3) (by simp) (by simp [natV, Value.oneCell']) (by unfold maxLen; omega) (by omega) (by have := hb23.size; omega) ?_; intro v4 w4 hown4 hg4)
      obtain ⟨A4, c4, rfl, _, _⟩ := own_form hown4
      go_ret
      refine ⟨A4, c4, by rw [Hlen.out]; rfl, ?_, hb23.grown hg4 hb23.size (fun k hk => (hown2'.lt k hk).1)⟩
      rw [Hlen.out, inord_in hlt]
      simpa using hown4
    · go_enter Tryz.func103, Tryz.ntmps103
      go_wp2_with fail
      go_ret
      rw [inord_out hlt]
      exact ⟨none, 0, rfl, World.ownsRow_nil _ _ _ _, Below.refl _ _⟩

set_option maxHeartbeats 1000000 in
theorem refRanks_any (n : Nat) (hn : n ≤ 65536) (w : World) :
    Calls Tryz.prog 86 #[.int .i64 (n : Nat)] w fun r w' => r = .returned (.slice (some ⟨w.heap.size, 0, none⟩) n n) ∧
      Blk w' w.heap.size 3 ((ranks n).map natV).toArray ∧ Below w.heap.size w w' := by
  obtain ⟨i0, hi, hz0, hz1, hz2⟩ := info_parts int_info
  have hmk := fun W => run_make_rowN (P := Tryz.prog) 106 3 i0 (.int .i64 0) Tryz.underlying106 hi hz0 n (by rw [hz2]; omega) (by omega) W
  rw [hz1] at hmk
  clear hi hz0 hz1 hz2
  go_enter Tryz.func86, Tryz.ntmps86
  go_wp2_with fail
  refine (refPlaces_any n n 0 _ _ _ rfl rfl hn (by omega) (by omega)).mono ?_
  rintro e w1 ⟨A1, c1, rfl, hown1, hb1⟩
  have hb0 : Blk w1 w.heap.size 3 (madeCells #[Value.int IntKind.i64 0] n) := (Blk.new w _ _).below hb1 (by simp)
  have hlen := Lib.hid (inord_length n)
  have hsl := own_sl hown1
  have hbw : Below w.heap.size w w1 := ((Below.refl _ w).alloc (Nat.le_refl _) _).trans (hb1.mono (by simp))
  have hbase := own_base hown1
  clear hmk hb1 hown1
  go_wp2
  go_loopw [5] (fun i wr => ∃ k : Nat, k ≤ n ∧ i = .int .i64 k ∧ Mod (fun b => b = w.heap.size) w1 wr ∧ ∃ cur, Hid (cur.size = n) ∧ Blk wr w.heap.size 3 cur ∧ Hid (∀ j x, j < k → (inord n 0)[j]? = some x → cur[x]? = some (natV j)))
      (fun i _ => n - (intOf i).toNat)
  case atStart => exact ⟨0, Nat.zero_le _, rfl, Mod.refl _ _, _, by show _ = n; simp [madeCells], hb0, fun j x h => by omega⟩
  case round =>
    obtain ⟨k, hk, rfl, hm, cur, hcs, hcur, hc⟩ := hrel
    have hslk : Sl wr A1 ((inord n 0).map natV) := hsl.mod hm (fun a ha => by have := hbase a ha; simp at this; omega)
    by_cases hlt : k < n
    · have hlt' : k < (inord n 0).length := by rw [hlen.out]; exact hlt
      obtain ⟨b, off, rfl, hbl, hck⟩ := hslk.one k hlt'
      obtain ⟨x, hx⟩ : ∃ x, (inord n 0)[k]'hlt' = x := ⟨_, rfl⟩
      rw [hx] at hck
      have hxn : x < n := hx ▸ inord_lt (List.getElem_mem hlt')
      obtain ⟨vx, hcx⟩ : ∃ vx, wr.cell? ⟨w.heap.size, x, none⟩ = some vx := ⟨_, (hcur.cell x).trans (Array.getElem?_eq_getElem (show x < cur.size by rw [hcs.out]; exact hxn))⟩
      have hfx : wr.frozen? ⟨w.heap.size, x, none⟩ = false := hcur.frozen x
      have hck' : wr.cell? ⟨b, off + k, none⟩ = some (.int .i64 (x : Nat)) := hck
      have hxi : (0 : Int) ≤ (x : Int) := by omega
      have hxi2 : (x : Int) < (n : Int) := by omega
      have hi1 : (k : Int) < ((inord n 0).length : Int) := by omega
      have HX := Lib.hid (show (inord n 0)[k]? = some x by rw [List.getElem?_eq_getElem hlt', hx])
      clear hck hx hslk hsl hb0
      go_wp2
      go_roundw
      case rel =>
        refine ⟨k + 1, by omega, by go_num, hm.setCell (p := ⟨w.heap.size, x, none⟩) rfl _, _, ?_, hcur.set_ x _, ?_⟩
        · show _ = n; simpa using hcs.out
        · intro j y hj hy
          have hcs := hcs.out
          by_cases hjk : j = k
          · subst hjk
            rw [HX.out] at hy
            obtain rfl := Option.some.inj hy
            simp [hcs, hxn, natV]
          · have hy' := hc.out j y (by omega) hy
            have hne : x ≠ y := by
              intro e
              subst e
              have h1 := List.getElem?_eq_some_iff.1 hy
              have h2 := List.getElem?_eq_some_iff.1 HX.out
              have e1 := idx_inord h1.1
              have e2 := idx_inord h2.1
              rw [h1.2] at e1
              rw [h2.2] at e2
              exact hjk (e1.symm.trans e2)
            rw [Array.getElem?_setIfInBounds_ne hne]
            exact hy'
      case measure => simp [intOf]; omega
    · have hge : (inord n 0).length ≤ k := by rw [hlen.out]; omega
      have hkn := Lib.hid (show k = n by omega)
      go_wp2
      go_ret
      have hcur' : cur = ((ranks n).map natV).toArray := by
        have hcs := hcs.out
        refine Array.ext (by simp [ranks_length, hcs]) fun i h1 h2 => ?_
        have hi : i < n := by omega
        have h := hc.out _ i (by rw [hkn.out]; exact ranks_lt hi) (by rw [List.getElem?_eq_getElem (by rw [inord_length]; exact ranks_lt hi), inord_idx hi])
        rw [Array.getElem?_eq_getElem h1] at h
        simp [Option.some.inj h, ranks_get hi]
      refine ⟨rfl, by rw [← hcur']; exact hcur, hbw.trans (hm.below hbw.size (by intro k h; omega))⟩

theorem ent_info : (Tryz.prog.info? 68).map (fun i => (i.zero, i.size, i.bytes)) = some (some (.agg #[.int .i64 0, .int .i64 0, .bool false]), 3, 24) := by kernel_rfl

def entAt (l : List Ent) (i : Nat) : Ent := l.getD i ⟨0, 0, false⟩
theorem entAt_get {l : List Ent} {i : Nat} (h : i < l.length) : entAt l i = l[i] := by simp [entAt, List.getD, h]
/-- the entries, place by place -/
def laid (l : List Ent) : List Ent := (ranks l.length).map (entAt l)
theorem laid_length (l : List Ent) : (laid l).length = l.length := by simp [laid, ranks_length]

set_option maxRecDepth 100000 in
set_option maxHeartbeats 3200000 in
theorem refLaid_any (A : Option Addr) (l : List Ent) (c : Nat) (w : World) (hA : Sl w A (l.flatMap Ent.cells)) (hn : l.length ≤ 65536) :
    Calls Tryz.prog 62 #[.slice A l.length c] w fun r w' => ∃ A' c', r = .returned (.agg #[.slice A' l.length c']) ∧
      w'.ownsRow w.heap.size 68 3 (.slice A' l.length c') l.length ((laid l).flatMap Ent.cells) ∧ Below w.heap.size w w' := by
  obtain ⟨i0, hi, hz0, hz1, hz2⟩ := info_parts ent_info
  go_enter Tryz.func62, Tryz.ntmps62
  go_wp2_with fail
  refine (refRanks_any l.length hn _).mono ?_
  rintro e w1 ⟨rfl, hr1, hb1⟩
  simp only [World.size_alloc] at hr1 hb1
  have hx1 : Blk w1 (w.heap.size + 1) 58 #[.slice none 0 0] := by
    have := Blk.new (w.alloc (Obj.cells #[Value.slice none 0 0] 58)) 58 #[Value.slice none 0 0]
    rw [World.size_alloc] at this
    exact this.below hb1 (by omega)
  have hx0 : Blk w1 w.heap.size 58 #[.slice none 0 0] := by
    exact ((Blk.new w _ _).alloc _).below hb1 (by omega)
  have hbw : Below w.heap.size w w1 := (((Below.refl _ w).alloc (Nat.le_refl _) _).alloc (by simp) _).trans (hb1.mono (by omega))
  have hs1 : w.heap.size + 1 + 1 < w1.heap.size := hr1.lt
  have hA1 : Sl w1 A (l.flatMap Ent.cells) := hA.below hbw
  clear hb1
  go_wp2
  go_loopw [5] (fun i wr => ∃ k : Nat, k ≤ l.length ∧ i = .int .i64 k ∧ Mod (fun b => b = w.heap.size + 1 ∨ w1.heap.size ≤ b) w1 wr ∧
      ∃ A' c', Blk wr (w.heap.size + 1) 58 #[.slice A' k c'] ∧ wr.ownsRow w1.heap.size 68 3 (.slice A' k c') k (((laid l).take k).flatMap Ent.cells))
      (fun i _ => l.length - (intOf i).toNat)
  case atStart => exact ⟨0, Nat.zero_le _, rfl, Mod.refl _ _, none, 0, hx1, World.ownsRow_nil _ _ _ _⟩
  case round =>
    obtain ⟨k, hk, rfl, hm, A', c', hbx, hown⟩ := hrel
    by_cases hlt : k < l.length
    · have hb : Below w.heap.size w wr := hbw.trans (hm.below hbw.size (by intro k h; omega))
      have hr2 : Blk wr (w.heap.size + 1 + 1) 3 ((ranks l.length).map natV).toArray := hr1.mod hm (by omega)
      have hrl : k < (ranks l.length).length := by rw [ranks_length]; exact hlt
      obtain ⟨x, hx⟩ : ∃ x, (ranks l.length)[k]'hrl = x := ⟨_, rfl⟩
      have hxn : x < l.length := by rw [← hx, ranks_get hlt]; exact ranks_lt hlt
      have cr : wr.cell? ⟨w.heap.size + 1 + 1, k, none⟩ = some (.int .i64 (x : Nat)) := by
        rw [hr2.cell]; simp [hrl, hx, natV]
      obtain ⟨b, off, rfl, hbl, c1, c2, c3⟩ := hA.entB hb x hxn
      have cb : wr.cell? ⟨w.heap.size + 1, 0, none⟩ = some (.slice A' k c') := hbx.cell 0
      have fb : wr.frozen? ⟨w.heap.size + 1, 0, none⟩ = false := hbx.frozen 0
      have hxi : (0 : Int) ≤ (x : Int) := by omega
      have hxi2 : (x : Int) < (l.length : Int) := by omega
      have hki : (0 : Int) ≤ (k : Int) := by omega
      have hki2 : (k : Int) < (l.length : Int) := by omega
      have HX := Lib.hid hx
      have hsz := hm.size
      have hbl2 : b < w1.heap.size := by omega
      have hnb : ∀ b', b' < w1.heap.size → some b' ≠ (Value.slice A' k c').ownBlock := fun b' hb' e => by have := (hown.lt _ e.symm).1; omega
      clear hx hA1 hx1 hx0 hbl
      go_wp2_with fail
      have hal : ∀ o, (wr.alloc o).cell? ⟨w.heap.size + 1, 0, none⟩ = some (.slice A' k c') := fun o => alloc_cell cb o
      go_region_law (
        (refine step_append_sl _ (by rfl) _ _ _ (by rfl) w1.heap.size 68 i0 _ 3 24 Tryz.underlying56 hi hz0 hz1 hz2 rfl (by omega) (.slice A' k c') k _ (by rfl) ((hown.alloc _).drew) _ 1 _ (l[x]'hxn).cells (by rfl) ((Blk.new wr _ _).sl 0 _ (by intro j u hu; simpa [Ent.cells] using hu)) (by rfl) (by simp [Ent.cells, Value.oneCell']) (by unfold maxLen; omega) (by omega) (by simp; omega) ?_; intro v2 w2 hown2 hg2; obtain ⟨A2, q2, rfl, hle2, hmx2⟩ := own_form hown2; have s1 := grown_cell hg2 (alloc_cell cb _) (hnb _ (by dsimp only; omega)); have s2 := grown_cell hg2 (alloc_cell cr _) (hnb _ (by dsimp only; omega)); have s3 := grown_cell hg2 (alloc_cell c1 _) (hnb b hbl2); have s4 := grown_cell hg2 (alloc_cell c2 _) (hnb b hbl2); have s5 := grown_cell hg2 (alloc_cell c3 _) (hnb b hbl2); have s6 := grown_frozen hg2 (by simp; omega) (alloc_frozen (by dsimp only; omega) fb _) (hnb _ (by dsimp only; omega))))
      all_goals
        go_wp2
        have hm2 : Mod (fun b => b = w.heap.size + 1 ∨ w1.heap.size ≤ b) w1 w2 := ((hm.alloc _).drew).grown hg2 (fun k hk => .inl (.inr (hown.lt k hk).1))
        have hbx2 : Blk w2 (w.heap.size + 1) 58 #[.slice A' k c'] := (hbx.alloc _).of (hg2.block _ (by simp; omega) (hnb _ (by omega)))
        have hlk : (laid l)[k]'(by rw [laid_length]; exact hlt) = l[x]'hxn := by simp [laid, HX.out, entAt_get hxn]
        have hlt' : k < (laid l).length := by rw [laid_length]; exact hlt
        go_roundw
        case rel =>
          refine ⟨k + 1, by omega, by go_num, hm2.setCell (p := ⟨w.heap.size + 1, 0, none⟩) (.inl rfl) _, A2, q2, hbx2.set_ 0 _, ?_⟩
          rw [List.take_succ_eq_append_getElem hlt', List.flatMap_append, hlk]
          refine own_far (by simpa using hown2) ?_ _
          intro e
          have := (hown2.lt _ e).1
          dsimp only at this
          omega
        case measure => simp [intOf]; omega
    · have cb : wr.cell? ⟨w.heap.size + 1, 0, none⟩ = some (.slice A' k c') := hbx.cell 0
      have hb0 : Blk wr w.heap.size 58 #[.slice none 0 0] := hx0.mod hm (by omega)
      have c0 : wr.cell? ⟨w.heap.size, 0, none⟩ = some (.slice none 0 0) := hb0.cell 0
      have f0 : wr.frozen? ⟨w.heap.size, 0, none⟩ = false := hb0.frozen 0
      have hkn := Lib.hid (show k = l.length by omega)
      have hb : Below w.heap.size w wr := hbw.trans (hm.below hbw.size (by intro k h; omega))
      go_wp2
      refine bodyPost_ret (v := .agg #[.slice A' k c']) (by simp [results, Tryz.results62, go_sem, c0]) rfl ⟨A', c', by rw [hkn.out], ?_, hb.setCell (p := ⟨w.heap.size, 0, none⟩) (Nat.le_refl _) _⟩
      have hown' := own_mono (B' := w.heap.size) hown hbw.size
      rw [List.take_of_length_le (by rw [laid_length]; omega), hkn.out] at hown'
      refine own_far hown' ?_ _
      intro e
      rw [hkn.out] at hown
      have := (hown.lt _ e).1
      dsimp only at this
      omega

set_option maxHeartbeats 1000000 in
theorem refRising_any (A : Option Addr) (l : List Ent) (c : Nat) (w : World) (hA : Sl w A (l.flatMap Ent.cells)) (hl : l.length ≤ 4611686018427387903) :
    Calls Tryz.prog 82 #[.slice A l.length c] w fun r w' => r = .returned (.bool (rises (l.map Ent.key))) ∧ Below w.heap.size w w' := by
  go_enter Tryz.func82, Tryz.ntmps82
  go_wp2
  go_loopw [3] (fun i wr => ∃ k : Nat, 1 ≤ k ∧ i = .int .i64 k ∧ Below w.heap.size w wr ∧ Hid (RiseTo (l.map Ent.key) k)) (fun i _ => l.length - (intOf i).toNat)
  case atStart => exact ⟨1, Nat.le_refl _, rfl, Below.refl _ _, RiseTo.start _⟩
  case round =>
    obtain ⟨k, hk, rfl, hb, hn⟩ := hrel
    by_cases hlt : k < l.length
    · obtain ⟨b, off, rfl, hbl, c1, c2, c3⟩ := hA.entB hb k hlt
      obtain ⟨b', off', e, _, d1, d2, d3⟩ := hA.entB hb (k - 1) (by omega)
      simp only [Option.some.injEq, Addr.mk.injEq] at e
      obtain ⟨rfl, rfl, _⟩ := e
      have i0 : (0 : Int) ≤ (k : Int) := by omega
      have i1 : (k : Int) < (l.length : Int) := by omega
      have i2 : (0 : Int) ≤ (k : Int) - 1 := by omega
      have i3 : (k : Int) - 1 < (l.length : Int) := by omega
      clear c2 c3 d2 d3 hA
      go_wp2
      go_quiet (fail)
      go_wp2
      · have hx : (l[k]'hlt).key ≤ (l[k - 1]'(by omega)).key := by assumption
        go_ret
        refine ⟨?_, bdrew hb _⟩
        rw [RiseTo.no hk (by simpa using hlt) (by simpa using hx)]
        rfl
      · have hx : (l[k - 1]'(by omega)).key < (l[k]'hlt).key := by assumption
        go_roundw
        case rel => exact ⟨k + 1, by omega, by go_num, bdrew hb _, hn.out.step hk (by simpa using hlt) (by simpa using hx)⟩
        case measure => simp [intOf]; omega
    · go_wp2
      go_ret
      refine ⟨?_, hb⟩
      rw [hn.out.all (by simp; omega)]
      rfl

set_option maxHeartbeats 1000000 in
theorem refFair_any (A : Option Addr) (l : List Ent) (c : Nat) (w : World) (hA : Sl w A (l.flatMap Ent.cells)) (hl : l.length ≤ 4611686018427387903) :
    Calls Tryz.prog 81 #[.slice A l.length c] w fun r w' => r = .returned (.bool !(l.any badEnt)) ∧ w = w' := by
  go_enter Tryz.func81, Tryz.ntmps81
  go_wp2
  go_loop [3] (fun i => ∃ k : Nat, k ≤ l.length ∧ i = .int .i64 k ∧ Hid ((l.take k).any badEnt = false)) (fun i => l.length - (intOf i).toNat)
  case atStart => exact ⟨0, Nat.zero_le _, rfl, rfl⟩
  case round =>
    obtain ⟨k, hk, rfl, hn⟩ := hrel
    by_cases hlt : k < l.length
    · obtain ⟨b, off, rfl, hbl, c1, c2, c3⟩ := hA.ent k hlt
      have i0 : (0 : Int) ≤ (k : Int) := by omega
      have i1 : (k : Int) < (l.length : Int) := by omega
      obtain ⟨e, he⟩ : ∃ e, l[k]'hlt = e := ⟨_, rfl⟩
      have HE := Lib.hid he
      rw [he] at c1 c2 c3
      clear he hA c1
      obtain ⟨ek, ev, ed⟩ := e
      cases ed
      · dsimp only at c2 c3
        go_wp2
        go_round
        case rel => exact ⟨k + 1, by omega, by go_num, by show _ = false; rw [List.take_succ_eq_append_getElem hlt, List.any_append, hn.out, HE.out]; rfl⟩
        case measure => simp [intOf]; omega
      · dsimp only at c2 c3
        by_cases hv : ev = 0
        · have hv1 : (ev != 0) = false := by simp [hv]
          clear hv
          go_wp2
          go_round
          case rel => exact ⟨k + 1, by omega, by go_num, by show _ = false; rw [List.take_succ_eq_append_getElem hlt, List.any_append, hn.out, HE.out]; simp [badEnt, hv1]⟩
          case measure => simp [intOf]; omega
        · have hv1 : (ev != 0) = true := by simp [hv]
          clear hv
          go_wp2
          go_ret
          refine ⟨?_, rfl⟩
          rw [List.any_eq_true.2 ⟨_, List.getElem_mem hlt, by rw [HE.out]; simp [badEnt, hv1]⟩]
          rfl
    · go_wp2
      go_ret
      refine ⟨?_, rfl⟩
      have := hn.out
      rw [List.take_of_length_le (by omega)] at this
      rw [this]
      rfl

set_option maxRecDepth 100000 in
set_option maxHeartbeats 1000000 in
theorem sameEntries_any (A B : Option Addr) (l m : List Ent) (c d : Nat) (w : World) (hA : Sl w A (l.flatMap Ent.cells)) (hB : Sl w B (m.flatMap Ent.cells)) (_hl : l.length ≤ 4611686018427387903) (hm : m.length ≤ 4611686018427387903) :
    Calls Tryz.prog 99 #[.slice A l.length c, .slice B m.length d] w fun r w' => r = .returned (.bool (decide (l = m))) ∧ Below w.heap.size w w' := by
  by_cases hlen : l.length = m.length
  · have hz : ((l.length : Int) != (m.length : Int)) = false := by simp [hlen]
    have hz2 : (l.length : Int) ≤ (m.length : Int) := by omega
    have HL := Lib.hid hlen
    clear hlen
    go_enter Tryz.func99, Tryz.ntmps99
    go_wp2
    go_loopw [5] (fun i wr => ∃ k : Nat, k ≤ l.length ∧ i = .int .i64 k ∧ Below w.heap.size w wr ∧ Hid (l.take k = m.take k)) (fun i _ => l.length - (intOf i).toNat)
    case atStart => exact ⟨0, Nat.zero_le _, rfl, Below.refl _ _, rfl⟩
    case round =>
      obtain ⟨k, hk, rfl, hb, hn⟩ := hrel
      by_cases hlt : k < l.length
      · have hlt2 : k < m.length := by omega
        obtain ⟨b, off, rfl, hbl, c1, c2, c3⟩ := hA.entB hb k hlt
        obtain ⟨b', off', rfl, hbl', d1, d2, d3⟩ := hB.entB hb k hlt2
        have i0 : (0 : Int) ≤ (k : Int) := by omega
        have i1 : (k : Int) < (l.length : Int) := by omega
        have i2 : (k : Int) < (m.length : Int) := by omega
        clear hA hB
        have hne := fun w => run_neq_ent (l[k]'hlt) (m[k]'hlt2) w
        have hgu := ent_guard
        go_wp2
        go_quiet (fail)
        clear hne hgu
        go_wp2
        · have hx : neE (l[k]'hlt) (m[k]'hlt2) = true := by assumption
          go_ret
          refine ⟨ret_bool ?_, bdrew hb _⟩
          symm
          rw [decide_eq_false_iff_not]
          rintro rfl
          simp [neE] at hx
        · have hx : neE (l[k]'hlt) (m[k]'hlt2) = false := by assumption
          go_roundw
          case rel =>
            refine ⟨k + 1, by omega, by go_num, bdrew hb _, ?_⟩
            show _ = _
            rw [List.take_succ_eq_append_getElem hlt, List.take_succ_eq_append_getElem hlt2, hn.out]
            simp [neE] at hx
            rw [hx]
          case measure => simp [intOf]; omega
      · go_wp2
        go_ret
        refine ⟨ret_bool ?_, hb⟩
        have := hn.out
        rw [List.take_of_length_le (by omega), List.take_of_length_le (by have := HL.out; omega)] at this
        rw [this, decide_eq_true rfl]
  · have hz : ((l.length : Int) != (m.length : Int)) = true := by simp; omega
    have HL := Lib.hid hlen
    clear hlen
    go_enter Tryz.func99, Tryz.ntmps99
    go_wp2
    go_ret
    refine ⟨ret_bool ?_, Below.refl _ _⟩
    symm
    rw [decide_eq_false_iff_not]
    rintro rfl
    exact HL.out rfl
end Go.Proofs.YtolclahkfmplfaaGreat
