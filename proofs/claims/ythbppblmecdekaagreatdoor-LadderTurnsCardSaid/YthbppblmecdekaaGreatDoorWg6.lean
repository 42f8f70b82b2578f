/- Lw Lb Ld Le Lf Lg: texts of the claim, in this order. -/
import Derived.Test.YthbppblmecdekaaGreatDoorWg4
import Derived.Lib.TrailingZeros
import Derived.Test.YthbppblmecdekaaGreatDoorWg5
import Derived.Shelf.Spec.TrailingZeros
import Derived.IntWalk
import Derived.Laws.Bits64
import Derived.Lib.SliceRun
/- Plain facts: how Lower goes down Eytzinger's tree and back. No program in sight. -/
namespace Go.Proofs.YthbppblmecdekaaGreatDoor
open Go

/-- where a way down ends: places from 1 on -/
def low (n : Nat) (t : Nat → Bool) (m : Nat) : Nat := if h : 1 ≤ m ∧ m ≤ n then low n t (2 * m + (if t (m - 1) then 1 else 0)) else m
termination_by n + 1 - m
decreasing_by split <;> omega
theorem low_in {n : Nat} {t : Nat → Bool} {m : Nat} (h1 : 1 ≤ m) (h2 : m ≤ n) : low n t m = low n t (2 * m + (if t (m - 1) then 1 else 0)) := by rw [low, dif_pos ⟨h1, h2⟩]
theorem low_out {n : Nat} {t : Nat → Bool} {m : Nat} (h : ¬ m ≤ n) : low n t m = m := by rw [low, dif_neg (by omega)]
/-- back over all turns to the right, and the last one to the left -/
def anc (m : Nat) : Nat := if h : m % 2 = 1 then anc (m / 2) else m / 2
termination_by m
decreasing_by omega
theorem anc_odd {m : Nat} (h : m % 2 = 1) : anc m = anc (m / 2) := by rw [anc, dif_pos h]
theorem anc_even {m : Nat} (h : m % 2 ≠ 1) : anc m = m / 2 := by rw [anc, dif_neg h]
theorem anc_left (m : Nat) : anc (2 * m) = m := by rw [anc_even (by omega)]; omega
theorem anc_right (m : Nat) : anc (2 * m + 1) = anc m := by rw [anc_odd (by omega)]; congr 1; omega
theorem anc_le (m : Nat) : anc m ≤ m / 2 := by
  induction m using Nat.strongRecOn with
  | _ m ih =>
    by_cases h : m % 2 = 1
    · rw [anc_odd h]; have := ih (m / 2) (by omega); omega
    · rw [anc_even h]; omega
theorem anc_shift : ∀ (f m : Nat), m < 2 ^ f - 1 → anc m = m / 2 ^ (Lib.ctzFrom f (2 ^ f - 1 - m) + 1)
  | 0, m, h => by simp at h
  | f + 1, m, h => by
    have h2 : 2 ^ (f + 1) = 2 * 2 ^ f := by rw [Nat.pow_succ, Nat.mul_comm]
    have hp : 0 < 2 ^ f := Nat.pow_pos (by omega)
    unfold Lib.ctzFrom
    by_cases hm : m % 2 = 1
    · rw [if_neg (by omega), anc_odd hm, anc_shift f (m / 2) (by omega), show (2 ^ (f + 1) - 1 - m) / 2 = 2 ^ f - 1 - m / 2 by omega, Nat.div_div_eq_div_mul]
      congr 1
      rw [show 1 + Lib.ctzFrom f (2 ^ f - 1 - m / 2) + 1 = (Lib.ctzFrom f (2 ^ f - 1 - m / 2) + 1) + 1 by omega, Nat.pow_succ 2 (Lib.ctzFrom f (2 ^ f - 1 - m / 2) + 1), Nat.mul_comm]
    · rw [if_pos (by omega), anc_even hm]
theorem anc_ctz {m : Nat} (h : m < 18446744073709551615) : anc m = m / 2 ^ (Lib.ctz 64 (18446744073709551615 - m) + 1) := by
  have := anc_shift 64 m (by simpa using h)
  unfold Lib.ctz
  rw [if_neg (by omega)]
  simpa using this

/-- where a way stands -/
def WayAt (n : Nat) (t : Nat → Bool) (m : Nat) : Prop :=
  1 ≤ m ∧ ∃ pre post : List Nat, inord n 0 = pre ++ inord n (m - 1) ++ post ∧ (∀ x ∈ pre, t x = true) ∧ (∀ x ∈ post, t x = false) ∧ post.head? = (if anc m = 0 then none else some (anc m - 1))
theorem WayAt.start (n : Nat) (t : Nat → Bool) : WayAt n t 1 := by
  refine ⟨Nat.le_refl _, [], [], by simp, by simp, by simp, ?_⟩
  have : anc 1 = 0 := by have := anc_le 1; omega
  rw [this]
  rfl
theorem WayAt.step {n : Nat} {t : Nat → Bool} {m : Nat} (hp : (inord n 0).Pairwise (fun a b => t b = true → t a = true)) (h : WayAt n t m) (hm : m ≤ n) : WayAt n t (2 * m + (if t (m - 1) then 1 else 0)) := by
  obtain ⟨h1, pre, post, he, hpre, hpost, hh⟩ := h
  have hin := inord_in (show m - 1 < n by omega)
  rw [hin] at he
  rw [he] at hp
  cases ht : t (m - 1)
  · refine ⟨by omega, pre, (m - 1) :: inord n (2 * (m - 1) + 2) ++ post, ?_, hpre, ?_, ?_⟩
    · rw [he, show 2 * m + (if false = true then 1 else 0) - 1 = 2 * (m - 1) + 1 by simp; omega]; simp
    · intro x hx
      rcases List.mem_append.1 hx with hx | hx
      · rcases List.mem_cons.1 hx with rfl | hx
        · exact ht
        · have h3 := (List.pairwise_append.1 hp).1
          have h4 := (List.pairwise_append.1 h3).2.1
          have h5 := (List.pairwise_append.1 h4).2.1
          have h6 := (List.pairwise_cons.1 h5).1 x hx
          cases htx : t x
          · rfl
          · have := h6 htx; rw [ht] at this; cases this
      · exact hpost x hx
    · rw [show 2 * m + (if false = true then 1 else 0) = 2 * m from rfl, anc_left, if_neg (by omega)]; rfl
  · rw [if_pos rfl]
    refine ⟨by omega, pre ++ inord n (2 * (m - 1) + 1) ++ [m - 1], post, ?_, ?_, hpost, ?_⟩
    · rw [he, show 2 * m + 1 - 1 = 2 * (m - 1) + 2 by omega]; simp
    · intro x hx
      rcases List.mem_append.1 hx with hx | hx
      · rcases List.mem_append.1 hx with hx | hx
        · exact hpre x hx
        · have h3 := (List.pairwise_append.1 hp).1
          have h4 := (List.pairwise_append.1 h3).2.1
          exact (List.pairwise_append.1 h4).2.2 x hx (m - 1) (by simp) ht
      · obtain rfl : x = m - 1 := by simpa using hx
        exact ht
    · rw [anc_right]; exact hh
theorem WayAt.done {n : Nat} {t : Nat → Bool} {m : Nat} (h : WayAt n t m) (hm : ¬ m ≤ n) : (inord n 0)[(inord n 0).countP t]? = (if anc m = 0 then none else some (anc m - 1)) := by
  obtain ⟨h1, pre, post, he, hpre, hpost, hh⟩ := h
  rw [inord_out (show ¬ m - 1 < n by omega), List.append_nil] at he
  have hc : (inord n 0).countP t = pre.length := by
    rw [he, List.countP_append, List.countP_eq_length.2 hpre, List.countP_eq_zero.2 (fun x hx => by rw [hpost x hx]; simp)]
    omega
  rw [hc, he, List.getElem?_append_right (Nat.le_refl _), Nat.sub_self, ← hh]
  cases post <;> rfl
theorem WayAt.lt {n : Nat} {t : Nat → Bool} {m : Nat} (h : WayAt n t m) (hm : ¬ m ≤ n) (h0 : anc m ≠ 0) : anc m - 1 < n := by
  have := h.done hm
  rw [if_neg h0] at this
  exact inord_lt (List.mem_of_getElem? this)
end Go.Proofs.YthbppblmecdekaaGreatDoor

/- Contracts: whether a run may be, its sorted entries, and the place of Lower. -/
namespace Go.Proofs.YthbppblmecdekaaGreatDoor
open Go Go.RowKit
set_option maxRecDepth 100000

/-- the error of a run -/
def chkE (l : List Ent) : Int := if fairE l ≠ 0 then fairE l else riseE (inL l)
theorem fair_len {l : List Ent} (h : fairE l = 0) : l.length ≤ 65536 := by
  unfold fairE at h
  split at h
  · cases h
  · omega
theorem chk_ok {l : List Ent} (h : chkE l = 0) : fairE l = 0 ∧ rises ((inL l).map Ent.key) = true ∧ l.length ≤ 65536 := by
  unfold chkE at h
  split at h
  · exact absurd h (by assumption)
  · rename_i hf
    have hf : fairE l = 0 := by omega
    refine ⟨hf, ?_, fair_len hf⟩
    unfold riseE at h
    split at h
    · assumption
    · cases h

set_option maxHeartbeats 1000000 in
theorem check_any (A : Option Addr) (l : List Ent) (c : Nat) (w : World) (hA : Sl w A (l.flatMap Ent.cells)) (hl : l.length ≤ 4611686018427387903) :
    Calls Tryz.prog 122 #[.agg #[.slice A l.length c]] w fun r w' => r = .returned (.int .i64 (chkE l)) ∧ Below w.heap.size w w' := by
  have hb0 : Below w.heap.size w (w.alloc (.cells #[.slice A l.length c] 74)) := (Below.refl _ _).alloc (Nat.le_refl _) _
  have bX := Blk.new w 74 #[.slice A l.length c]
  obtain ⟨E, hE⟩ : ∃ E, fairE l = E := ⟨_, rfl⟩
  by_cases h0 : E = 0
  · subst h0
    have hl2 := fair_len hE
    have hc : chkE l = riseE (inL l) := by unfold chkE; rw [if_neg (by omega)]
    rw [hc]
    have HE := Lib.hid hE
    have HL := Lib.hid (inL_length l)
    clear hE hc
    go_enter Tryz.func122, Tryz.ntmps122
    go_wp2_with fail
    refine (fair_any A l c _ (hA.below hb0) hl).mono ?_
    rw [HE.out]
    rintro e w1 ⟨rfl, hb1⟩
    have hb01 := bext hb0 hb1
    have c0 : w1.cell? ⟨w.heap.size, 0, none⟩ = some (.slice A l.length c) := (bX.below hb1 bX.lt).cell 0
    clear bX hb1
    go_wp2_with fail
    refine (sorted_any A l c _ (hA.below hb01) hl2).mono ?_
    rintro e w2 ⟨A2, c2, rfl, ho2, hb2⟩
    have hb02 := bext hb01 hb2
    have hs2 := Lib.hid (own_sl ho2)
    clear ho2 c0
    go_wp2_with fail
    rw [← HL.out]
    refine (rising_any A2 (inL l) c2 _ hs2.out (by rw [HL.out]; omega)).mono ?_
    rintro e w3 ⟨rfl, hb3⟩
    go_wp2
    go_ret
    exact ⟨rfl, bext hb02 hb3⟩
  · have hc : chkE l = E := by unfold chkE; rw [hE, if_pos h0]
    rw [hc]
    have HE := Lib.hid hE
    clear hE hc
    go_enter Tryz.func122, Tryz.ntmps122
    go_wp2_with fail
    refine (fair_any A l c _ (hA.below hb0) hl).mono ?_
    rw [HE.out]
    rintro e w1 ⟨rfl, hb1⟩
    go_wp2
    go_ret
    exact ⟨rfl, bext hb0 hb1⟩

/-- hands back entries in new memory, and an error -/
def GivesEnts (m : List Ent) (e : Int) (w : World) (r : Ending) (w' : World) : Prop :=
  ∃ A c, r = .returned (.tuple #[.slice A m.length c, .int .i64 e]) ∧ w'.ownsRow w.heap.size 71 3 (.slice A m.length c) m.length (m.flatMap Ent.cells) ∧ Below w.heap.size w w'
def sortL (l : List Ent) : List Ent := if chkE l = 0 then inL l else []
set_option maxHeartbeats 1000000 in
theorem sortedE_any (A : Option Addr) (l : List Ent) (c : Nat) (w : World) (hA : Sl w A (l.flatMap Ent.cells)) (hl : l.length ≤ 4611686018427387903) :
    Calls Tryz.prog 118 #[.agg #[.slice A l.length c]] w (GivesEnts (sortL l) (chkE l) w) := by
  have hb0 : Below w.heap.size w (w.alloc (.cells #[.slice A l.length c] 74)) := (Below.refl _ _).alloc (Nat.le_refl _) _
  have bX := Blk.new w 74 #[.slice A l.length c]
  obtain ⟨E, hE⟩ : ∃ E, chkE l = E := ⟨_, rfl⟩
  by_cases h0 : E = 0
  · subst h0
    have hl2 := (chk_ok hE).2.2
    have hS : sortL l = inL l := by unfold sortL; rw [if_pos hE]
    rw [hS, hE]
    have HE := Lib.hid hE
    have HL := Lib.hid (inL_length l)
    clear hE hS
    go_enter Tryz.func118, Tryz.ntmps118
    go_wp2_with fail
    refine (check_any A l c _ (hA.below hb0) hl).mono ?_
    rw [HE.out]
    rintro e w1 ⟨rfl, hb1⟩
    have hb01 := bext hb0 hb1
    have c0 : w1.cell? ⟨w.heap.size, 0, none⟩ = some (.slice A l.length c) := (bX.below hb1 bX.lt).cell 0
    clear bX hb1
    go_wp2_with fail
    refine (sorted_any A l c _ (hA.below hb01) hl2).mono ?_
    rintro e w2 ⟨A2, c2, rfl, ho2, hb2⟩
    have ho2 := Lib.hid (own_mono ho2 hb01.size)
    go_wp2
    refine bodyPost_ret (v := .tuple #[.slice A2 l.length c2, .int .i64 0]) (by simp [results, Tryz.results118, go_sem]) rfl ?_
    exact ⟨A2, c2, by rw [HL.out], by rw [HL.out]; exact ho2.out, bext hb01 hb2⟩
  · have hS : sortL l = [] := by unfold sortL; rw [if_neg (by omega)]
    rw [hS, hE]
    have HE := Lib.hid hE
    clear hE hS
    go_enter Tryz.func118, Tryz.ntmps118
    go_wp2_with fail
    refine (check_any A l c _ (hA.below hb0) hl).mono ?_
    rw [HE.out]
    rintro e w1 ⟨rfl, hb1⟩
    go_wp2
    refine bodyPost_ret (v := .tuple #[.slice none 0 0, .int .i64 E]) (by simp [results, Tryz.results118, go_sem]) rfl ?_
    exact ⟨none, 0, rfl, World.ownsRow_nil _ _ _ _, bext hb0 hb1⟩

/-! ### math/bits.TrailingZeros, with its table in its variable -/
theorem tab_below {g : Nat} {w w' : World} (hg : g < w.heap.size) (h : TabAt g Lib.deBruijn64tab w) (hb : Below w.heap.size w w') : TabAt g Lib.deBruijn64tab w' := fun j hj => (hb.cell (p := ⟨g, j, none⟩) hg).trans (h j hj)
theorem tab_lt {g : Nat} {w : World} (h : TabAt g Lib.deBruijn64tab w) : g < w.heap.size := by
  have h0 := h 0 (by decide)
  exact Nat.lt_of_not_le fun hle => by
    have : w.cell? ⟨g, 0, none⟩ = none := by simp [World.cell?, Array.getElem?_eq_none hle]
    rw [this] at h0; cases h0
set_option maxHeartbeats 1000000 in
theorem tz64_core (x k idx : Nat) (w : World) (hx0 : ((x : Int) == 0) = false)
    (key : IntKind.u64.wrap (bits BinOp.and IntKind.u64 (x : Int) (IntKind.u64.wrap (-(x : Int))) * 285870213051353865) / 288230376151711744 = (idx : Int))
    (hi : idx < 64) (hk : k < 64) (hcell : w.cell? ⟨1, idx, none⟩ = some (.int .u8 k)) :
    Calls Tryz.prog 155 #[.int .u64 x] w fun e w' => e = .returned (.int .i64 k) ∧ w' = w := by
  go_enter Tryz.func155, Tryz.ntmps155
  go_wp2_with (simp only [key])
  go_ret
  exact ⟨rfl, rfl⟩
theorem tz_any (x : Nat) (w : World) (hx0 : x ≠ 0) (hx : x < 18446744073709551616) (hT : TabAt 1 Lib.deBruijn64tab w) :
    Calls Tryz.prog 124 #[.int .u64 x] w fun e w' => e = .returned (.int .i64 (Lib.ctz 64 x)) ∧ w' = w := by
  obtain ⟨hlow, hk⟩ := Lib.lowest_bit 64 x hx0 hx
  obtain ⟨hi, htab⟩ := Lib.deBruijn64_at _ hk
  have hcell := hT _ hi
  rw [htab] at hcell
  have h := tz64_core x _ _ w (by simp; omega) (tz64_key x _ hx hx0 hlow) hi hk hcell
  go_enter Tryz.func124, Tryz.ntmps124
  go_wp2_with fail
  refine h.mono ?_
  rintro e w1 ⟨rfl, rfl⟩
  go_wp2
  go_ret
  exact ⟨rfl, rfl⟩
end Go.Proofs.YthbppblmecdekaaGreatDoor

/- Contracts: the place of Lower, Find, Rank. -/
namespace Go.Proofs.YthbppblmecdekaaGreatDoor
open Go Go.RowKit
set_option maxRecDepth 100000

/-- hands back two numbers -/
def GivesII (a e : Int) (w : World) (r : Ending) (w' : World) : Prop := r = .returned (.tuple #[.int .i64 a, .int .i64 e]) ∧ Below w.heap.size w w'
def belowT (l : List Ent) (key : Int) (x : Nat) : Bool := decide ((entAt l x).key < key)
/-- how many keys are below one -/
def lowK (l : List Ent) (key : Int) : Nat := (inord l.length 0).countP (belowT l key)
def lowE (l : List Ent) (key : Int) : Int := if chkE l ≠ 0 then chkE l else if lowK l key = l.length then 6 else 0
def lowAt (l : List Ent) (key : Int) : Nat := if lowE l key = 0 then (inord l.length 0).getD (lowK l key) 0 else 0
theorem inL_pairs {l : List Ent} (h : rises ((inL l).map Ent.key) = true) (key : Int) : (inord l.length 0).Pairwise (fun a b => belowT l key b = true → belowT l key a = true) := by
  unfold rises at h
  have h := of_decide_eq_true h
  unfold inL at h
  rw [List.map_map] at h
  have h2 := List.pairwise_map.1 h
  refine h2.imp fun {a b} hab => ?_
  intro hb
  unfold belowT at hb ⊢
  have hb := of_decide_eq_true hb
  exact decide_eq_true (Int.lt_trans hab hb)
theorem lowK_le (l : List Ent) (key : Int) : lowK l key ≤ l.length := by
  have : (inord l.length 0).countP (belowT l key) ≤ (inord l.length 0).length := List.countP_le_length
  rw [inord_length] at this
  exact this

theorem not_u64 (m : Nat) (hm : m < 18446744073709551616) : bits BinOp.xor IntKind.u64 IntKind.u64.max (m : Int) = ((18446744073709551615 - m : Nat) : Int) := by
  have h1 : IntKind.u64.max = ((18446744073709551615 : Nat) : Int) := rfl
  rw [h1, bits_xor_u64_nat _ _ (by omega) hm]
  congr 1
  refine Nat.eq_of_testBit_eq fun i => ?_
  have h2 := Nat.testBit_two_pow_sub_succ (n := 64) (x := m) (by simpa using hm) i
  have h3 := Nat.testBit_two_pow_sub_one 64 i
  rw [Nat.testBit_xor]
  rw [show (2 : Nat) ^ 64 - 1 = 18446744073709551615 by rfl] at h3
  rw [show (2 : Nat) ^ 64 - (m + 1) = 18446744073709551615 - m by omega] at h2
  rw [h3, h2]
  by_cases hi : i < 64
  · simp [hi]
  · have : m.testBit i = false := Nat.testBit_lt_two_pow (Nat.lt_of_lt_of_le hm (by rw [show (18446744073709551616 : Nat) = 2 ^ 64 by rfl]; exact Nat.pow_le_pow_right (by omega) (by omega)))
    simp [hi, this]

set_option maxHeartbeats 1000000 in
theorem turn_any (k key : Int) (b : Nat) (w : World) (hc : w.cell? ⟨b, 0, none⟩ = some (.int .i64 key)) :
    Calls Tryz.prog 123 #[.int .i64 k, .pointer (some ⟨b, 0, none⟩)] w fun r w' => r = .returned (.int .i64 (if decide (k < key) = true then 1 else 0)) ∧ Below w.heap.size w w' := by
  by_cases h : k < key
  · rw [decide_eq_true h, if_pos rfl]
    go_enter Tryz.func123, Tryz.ntmps123
    go_wp2
    go_ret
    exact ⟨rfl, Below.refl _ _⟩
  · rw [decide_eq_false h, if_neg (by simp)]
    go_enter Tryz.func123, Tryz.ntmps123
    go_wp2
    go_ret
    exact ⟨rfl, Below.refl _ _⟩

set_option maxHeartbeats 2000000 in
theorem lower_ok (A : Option Addr) (l : List Ent) (c : Nat) (key : Int) (w : World) (hA : Sl w A (l.flatMap Ent.cells)) (hT : TabAt 1 Lib.deBruijn64tab w) (hC : chkE l = 0) :
    Calls Tryz.prog 87 #[.agg #[.slice A l.length c], .int .i64 key] w (GivesII (lowAt l key) (lowE l key) w) := by
  have hsg : IntKind.u64.signed = false := rfl
  have hmf : ∀ (fn : Fn) (first cap : Array Value) (w : World), (Instr.makeFunc fn first cap).run Tryz.prog w = .ok (.func fn first cap) w := fun _ _ _ _ => rfl
  obtain ⟨_, hris, hlen⟩ := chk_ok hC
  have HP := Lib.hid (inL_pairs hris key)
  have hLE : lowE l key = if lowK l key = l.length then 6 else 0 := by unfold lowE; rw [if_neg (by omega)]
  have hKl := lowK_le l key
  have hb0 : Below w.heap.size w ((w.alloc (.cells #[.slice A l.length c] 74)).alloc (.cells #[.int .i64 key] 2)) := ((Below.refl _ _).alloc (Nat.le_refl _) _).alloc (by simp) _
  have bX : Blk ((w.alloc (.cells #[.slice A l.length c] 74)).alloc (.cells #[.int .i64 key] 2)) w.heap.size 74 #[.slice A l.length c] := (Blk.new w _ _).alloc _
  have bK : Blk ((w.alloc (.cells #[.slice A l.length c] 74)).alloc (.cells #[.int .i64 key] 2)) (w.heap.size + 1) 2 #[.int .i64 key] := by
    have := Blk.new (w.alloc (.cells #[.slice A l.length c] 74)) 2 #[.int .i64 key]
    rwa [World.size_alloc] at this
  have HC := Lib.hid hC
  have HLE := Lib.hid hLE
  have HT := Lib.hid hT
  have hTl := tab_lt hT
  clear hC hLE hris hT
  go_enter Tryz.func87, Tryz.ntmps87
  go_wp2_with fail
  refine (check_any A l c _ (hA.below hb0) (by omega)).mono ?_
  rw [HC.out]
  rintro e w1 ⟨rfl, hb1⟩
  have hb01 := bext hb0 hb1
  have bX1 := bX.below hb1 bX.lt
  have bK1 := bK.below hb1 bK.lt
  clear bX bK hb0 hb1
  go_wp2_with fail
  go_loopw [8] (fun n wr => ∃ m : Nat, n = .int .i64 (m : Nat) ∧ WayAt l.length (belowT l key) m ∧ m ≤ 2 * l.length + 1 ∧ Below w1.heap.size w1 wr) (fun n _ => l.length + 1 - (intOf n).toNat)
  case atStart => exact ⟨1, rfl, WayAt.start _ _, by omega, Below.refl _ _⟩
  case round =>
    obtain ⟨m, rfl, hw, hm, hb⟩ := hrel
    have bXr := bX1.below hb bX1.lt
    have bKr := bK1.below hb bK1.lt
    have c0 : wr.cell? ⟨w.heap.size, 0, none⟩ = some (.slice A l.length c) := bXr.cell 0
    have ck : wr.cell? ⟨w.heap.size + 1, 0, none⟩ = some (.int .i64 key) := bKr.cell 0
    by_cases hlt : m ≤ l.length
    · obtain ⟨j, rfl⟩ : ∃ j, m = j + 1 := ⟨m - 1, by have := hw.1; omega⟩
      have hjl : j < l.length := by omega
      obtain ⟨b, off, rfl, hbl, c1, c2, c3⟩ := hA.entB (bext hb01 hb) j hjl
      have hst := Lib.hid (hw.step HP.out hlt)
      have hbt : Hid (belowT l key (j + 1 - 1) = decide ((l[j]'hjl).key < key)) := Lib.hid (by rw [Nat.add_sub_cancel]; unfold belowT; rw [entAt_get hjl])
      generalize (l[j]'hjl) = p at *
      have i0 : (0 : Int) ≤ (j : Int) := by omega
      have i1 : (j : Int) < (l.length : Int) := by omega
      have w1' : IntKind.i64.wrap ((j : Int) + 1 - 1) = (j : Int) := by rw [show (j : Int) + 1 - 1 = (j : Int) by omega]; exact IntWalk.i64_in _ (by omega)
      have w2' : IntKind.i64.wrap (2 * ((j : Int) + 1)) = 2 * ((j : Int) + 1) := IntWalk.i64_in _ (by omega)
      clear hw HP bXr bKr
      go_wp2_with fail
      refine (turn_any p.key key _ _ ck).mono ?_
      rw [← hbt.out]
      rintro e w2 ⟨rfl, hb2⟩
      obtain ⟨B, hB⟩ : ∃ B : Nat, (if belowT l key (j + 1 - 1) = true then 1 else 0 : Nat) = B := ⟨_, rfl⟩
      have hBI : (if belowT l key (j + 1 - 1) = true then (1 : Int) else 0) = (B : Int) := by rw [← hB]; split <;> rfl
      have hB1 : B ≤ 1 := by rw [← hB]; split <;> omega
      have hst2 := hst.out
      rw [hB] at hst2
      have hst3 := Lib.hid hst2
      rw [hBI]
      have w3' : IntKind.i64.wrap (2 * ((j : Int) + 1) + (B : Int)) = 2 * ((j : Int) + 1) + (B : Int) := IntWalk.i64_in _ (by omega)
      clear hst hst2 hbt hB hBI
      go_wp2
      go_roundw
      case rel => exact ⟨2 * (j + 1) + B, by go_num, hst3.out, by omega, bext hb hb2⟩
      case measure => simp [intOf]; omega
    · have hx := Lib.hid (not_u64 m (by omega))
      have hdone := Lib.hid (hw.done hlt)
      have hanc := Lib.hid (anc_ctz (m := m) (by omega))
      have hancl := anc_le m
      obtain ⟨a, ha⟩ : ∃ a, anc m = a := ⟨_, rfl⟩
      obtain ⟨cz, hcz⟩ : ∃ cz, Lib.ctz 64 (18446744073709551615 - m) = cz := ⟨_, rfl⟩
      have hcl : cz < 64 := by
        rw [← hcz]; unfold Lib.ctz; rw [if_neg (by omega)]
        obtain ⟨_, _, h⟩ := Lib.ctzFrom_spec 64 (18446744073709551615 - m) (by omega) (by omega)
        exact h
      rw [ha] at hancl
      have hanc2 := Lib.hid (show a = m / 2 ^ (cz + 1) by rw [← ha, ← hcz]; exact hanc.out)
      have hdone2 := Lib.hid (show (inord l.length 0)[lowK l key]? = (if a = 0 then none else some (a - 1)) by rw [← ha]; exact hdone.out)
      have hwz : IntKind.i64.wrap ((cz : Int) + 1) = (cz : Int) + 1 := IntWalk.i64_in _ (by omega)
      have HCZ := Lib.hid hcz
      clear hdone hanc ha hcz hw
      go_wp2_with fail
      rw [hx.out]
      refine (tz_any (18446744073709551615 - m) _ (by omega) (by omega) (tab_below hTl HT.out (bext hb01 hb))).mono ?_
      rw [HCZ.out]
      rintro e w2 ⟨rfl, rfl⟩
      have hd : (m : Int) / 2 ^ (cz + 1) = (a : Int) := by rw [hanc2.out]; simp
      by_cases h0 : a = 0
      · subst h0
        have hd2 := hdone2.out
        rw [if_pos rfl] at hd2
        have hK : lowK l key = l.length := by have := List.getElem?_eq_none_iff.1 hd2; rw [inord_length] at this; omega
        have hE : lowE l key = 6 := by rw [HLE.out, if_pos hK]
        have hAt : lowAt l key = 0 := by unfold lowAt; rw [if_neg (by omega)]
        have HEE := Lib.hid hE
        have HAt := Lib.hid hAt
        have hd3 : (m : Int) / 2 ^ (cz + 1) = 0 := by simpa using hd
        clear hd hd2 hK hE hAt hdone2 hanc2 hancl
        go_wp2
        refine bodyPost_ret (v := .tuple #[.int .i64 0, .int .i64 6]) (by simp [results, Tryz.results87, go_sem]) rfl ?_
        exact ⟨by rw [HEE.out, HAt.out]; rfl, bext hb01 hb⟩
      · obtain ⟨j, rfl⟩ : ∃ j, a = j + 1 := ⟨a - 1, by omega⟩
        have hd2 := hdone2.out
        rw [if_neg (by omega), Nat.add_sub_cancel] at hd2
        have hK : lowK l key < l.length := by have := (List.getElem?_eq_some_iff.1 hd2).1; rw [inord_length] at this; exact this
        have hE : lowE l key = 0 := by rw [HLE.out, if_neg (by omega)]
        have hAt : lowAt l key = j := by unfold lowAt; rw [if_pos hE, List.getD_eq_getElem?_getD, hd2]; rfl
        have HEE := Lib.hid hE
        have HAt := Lib.hid hAt
        have hd3 : (m : Int) / 2 ^ (cz + 1) = (j : Int) + 1 := by rw [hd]; omega
        have hnz : ((j : Int) + 1 == 0) = false := by rw [beq_eq_false_iff_ne]; omega
        have hw5 : wrap64 (j : Int) = (j : Int) := IntWalk.wrap64_in (j : Int) (by omega)
        have hw4 : wrap64 ((j : Int) + 1 - 1) = (j : Int) := by rw [show (j : Int) + 1 - 1 = (j : Int) by omega]; exact hw5
        clear hd hd2 hK hE hAt hdone2 hanc2 hancl
        go_wp2
        refine bodyPost_ret (v := .tuple #[.int .i64 (j : Int), .int .i64 0]) (by simp [results, Tryz.results87, go_sem, hw5]) rfl ?_
        exact ⟨by rw [HEE.out, HAt.out], bext hb01 hb⟩
end Go.Proofs.YthbppblmecdekaaGreatDoor

/- Contracts: Lower, Find, Rank, for every run. -/
namespace Go.Proofs.YthbppblmecdekaaGreatDoor
open Go Go.RowKit
set_option maxRecDepth 100000

theorem chk_vals (l : List Ent) : chkE l = 0 ∨ chkE l = 4 ∨ chkE l = 8 ∨ chkE l = 130 := by
  unfold chkE fairE riseE
  repeat' split
  all_goals simp_all
theorem low_bad {l : List Ent} (key : Int) (h : ¬ chkE l = 0) : lowE l key = chkE l ∧ lowAt l key = 0 := by
  have h1 : lowE l key = chkE l := by unfold lowE; rw [if_pos h]
  exact ⟨h1, by unfold lowAt; rw [h1, if_neg h]⟩
theorem low_six {l : List Ent} {key : Int} (h : chkE l = 0) (hk : lowK l key = l.length) : lowE l key = 6 ∧ lowAt l key = 0 := by
  have h1 : lowE l key = 6 := by unfold lowE; rw [if_neg (by omega), if_pos hk]
  exact ⟨h1, by unfold lowAt; rw [h1]; rfl⟩
theorem low_at {l : List Ent} {key : Int} (h : chkE l = 0) (hk : ¬ lowK l key = l.length) : lowE l key = 0 ∧ (inord l.length 0)[lowK l key]? = some (lowAt l key) ∧ lowAt l key < l.length := by
  have h1 : lowE l key = 0 := by unfold lowE; rw [if_neg (by omega), if_neg hk]
  have hle := lowK_le l key
  have hlt : lowK l key < (inord l.length 0).length := by rw [inord_length]; omega
  have h2 : (inord l.length 0)[lowK l key]? = some (lowAt l key) := by unfold lowAt; rw [if_pos h1, List.getD_eq_getElem?_getD, List.getElem?_eq_getElem hlt]; rfl
  exact ⟨h1, h2, inord_lt (List.mem_of_getElem? h2)⟩
/-- what Find tells -/
def fdE (l : List Ent) (key : Int) : Int := if lowE l key ≠ 0 then lowE l key else if (entAt l (lowAt l key)).key = key then 0 else 6
def fdAt (l : List Ent) (key : Int) : Nat := if fdE l key = 0 then lowAt l key else 0
/-- what Rank tells -/
def rkN (l : List Ent) (key : Int) : Nat := if chkE l = 0 then lowK l key else 0

set_option maxHeartbeats 1000000 in
theorem lower_any (A : Option Addr) (l : List Ent) (c : Nat) (key : Int) (w : World) (hA : Sl w A (l.flatMap Ent.cells)) (hl : l.length ≤ 4611686018427387903) (hT : TabAt 1 Lib.deBruijn64tab w) :
    Calls Tryz.prog 87 #[.agg #[.slice A l.length c], .int .i64 key] w (GivesII (lowAt l key) (lowE l key) w) := by
  by_cases hC : chkE l = 0
  · exact lower_ok A l c key w hA hT hC
  · obtain ⟨h1, h2⟩ := low_bad key hC
    obtain ⟨E, hE⟩ : ∃ E, chkE l = E := ⟨_, rfl⟩
    rw [h1, h2, hE]
    rw [hE] at hC
    have HE := Lib.hid hE
    clear h1 h2 hE
    have hb0 : Below w.heap.size w ((w.alloc (.cells #[.slice A l.length c] 74)).alloc (.cells #[.int .i64 key] 2)) := ((Below.refl _ _).alloc (Nat.le_refl _) _).alloc (by simp) _
    go_enter Tryz.func87, Tryz.ntmps87
    go_wp2_with fail
    refine (check_any A l c _ (hA.below hb0) hl).mono ?_
    rw [HE.out]
    rintro e w1 ⟨rfl, hb1⟩
    go_wp2
    refine bodyPost_ret (v := .tuple #[.int .i64 0, .int .i64 E]) (by simp [results, Tryz.results87, go_sem]) rfl ?_
    exact ⟨rfl, bext hb0 hb1⟩

set_option maxHeartbeats 1000000 in
theorem find_any (A : Option Addr) (l : List Ent) (c : Nat) (key : Int) (w : World) (hA : Sl w A (l.flatMap Ent.cells)) (hl : l.length ≤ 4611686018427387903) (hT : TabAt 1 Lib.deBruijn64tab w) :
    Calls Tryz.prog 125 #[.agg #[.slice A l.length c], .int .i64 key] w (GivesII (fdAt l key) (fdE l key) w) := by
  have hb0 : Below w.heap.size w (w.alloc (.cells #[.slice A l.length c] 74)) := (Below.refl _ _).alloc (Nat.le_refl _) _
  have bX := Blk.new w 74 #[.slice A l.length c]
  have hT0 := Lib.hid (tab_below (tab_lt hT) hT hb0)
  obtain ⟨E, hE⟩ : ∃ E, lowE l key = E := ⟨_, rfl⟩
  by_cases h0 : E = 0
  · subst h0
    have hC : chkE l = 0 := by
      rcases chk_vals l with h | h | h | h
      · exact h
      all_goals (have := (low_bad key (show ¬ chkE l = 0 by omega)).1; omega)
    have hK : ¬ lowK l key = l.length := fun h => by have := (low_six hC h).1; omega
    obtain ⟨_, _, hat⟩ := low_at hC hK
    obtain ⟨at_, hx⟩ : ∃ at_, lowAt l key = at_ := ⟨_, rfl⟩
    rw [hx] at hat
    have hfe : fdE l key = if (entAt l at_).key = key then 0 else 6 := by unfold fdE; rw [if_neg (by omega), hx]
    rw [entAt_get hat] at hfe
    obtain ⟨b, off, rfl, hbl, c1, c2, c3⟩ := hA.ent at_ hat
    have hsl := Lib.hid hA
    generalize hp : (l[at_]'hat) = p at *
    have HE := Lib.hid hE
    have HX := Lib.hid hx
    have i0 : (0 : Int) ≤ (at_ : Int) := by omega
    have i1 : (at_ : Int) < (l.length : Int) := by omega
    by_cases hk : p.key = key
    · rw [if_pos hk] at hfe
      have hfa : fdAt l key = at_ := by unfold fdAt; rw [if_pos hfe, hx]
      rw [hfa, hfe]
      have hkk : (p.key == key) = true := by simpa using hk
      clear hE hx hC hK hfe hfa hA hp
      go_enter Tryz.func125, Tryz.ntmps125
      go_wp2_with fail
      refine (lower_any (some ⟨b, off, none⟩) l c key _ (hsl.out.below hb0) hl hT0.out).mono ?_
      unfold GivesII
      rw [HE.out, HX.out]
      rintro e w1 ⟨rfl, hb1⟩
      have hb01 := bext hb0 hb1
      have d0 : w1.cell? ⟨w.heap.size, 0, none⟩ = some (.slice (some ⟨b, off, none⟩) l.length c) := (bX.below hb1 bX.lt).cell 0
      have d1 : w1.cell? ⟨b, off + at_ * 3, none⟩ = some (.int .i64 p.key) := ((bcell hb01).1 b _ hbl).trans c1
      clear c1 c2 c3 bX hb1
      go_wp2
      refine bodyPost_ret (v := .tuple #[.int .i64 (at_ : Int), .int .i64 0]) (by simp [results, Tryz.results125, go_sem]) rfl ?_
      exact ⟨rfl, hb01⟩
    · rw [if_neg hk] at hfe
      have hfa : fdAt l key = 0 := by unfold fdAt; rw [hfe]; rfl
      rw [hfa, hfe]
      have hkk : (p.key == key) = false := by simpa using hk
      clear hE hx hC hK hfe hfa hA hp
      go_enter Tryz.func125, Tryz.ntmps125
      go_wp2_with fail
      refine (lower_any (some ⟨b, off, none⟩) l c key _ (hsl.out.below hb0) hl hT0.out).mono ?_
      unfold GivesII
      rw [HE.out, HX.out]
      rintro e w1 ⟨rfl, hb1⟩
      have hb01 := bext hb0 hb1
      have d0 : w1.cell? ⟨w.heap.size, 0, none⟩ = some (.slice (some ⟨b, off, none⟩) l.length c) := (bX.below hb1 bX.lt).cell 0
      have d1 : w1.cell? ⟨b, off + at_ * 3, none⟩ = some (.int .i64 p.key) := ((bcell hb01).1 b _ hbl).trans c1
      clear c1 c2 c3 bX hb1
      go_wp2
      refine bodyPost_ret (v := .tuple #[.int .i64 0, .int .i64 6]) (by simp [results, Tryz.results125, go_sem]) rfl ?_
      exact ⟨rfl, hb01⟩
  · have hfe : fdE l key = E := by unfold fdE; rw [hE, if_pos h0]
    have hfa : fdAt l key = 0 := by unfold fdAt; rw [hfe, if_neg h0]
    rw [hfa, hfe]
    have HE := Lib.hid hE
    have hA' := Lib.hid hA
    clear hE hfe hfa
    go_enter Tryz.func125, Tryz.ntmps125
    go_wp2_with fail
    refine (lower_any A l c key _ (hA'.out.below hb0) hl hT0.out).mono ?_
    unfold GivesII
    rw [HE.out]
    rintro e w1 ⟨rfl, hb1⟩
    go_wp2
    refine bodyPost_ret (v := .tuple #[.int .i64 0, .int .i64 E]) (by simp [results, Tryz.results125, go_sem]) rfl ?_
    exact ⟨rfl, bext hb0 hb1⟩

set_option maxHeartbeats 1000000 in
theorem within_ok (n x : Nat) (w : World) (hn : n ≤ 65536) (hx : x < n) :
    Calls Tryz.prog 127 #[.int .i64 (n : Nat), .int .i64 (x : Nat)] w fun r w' => r = .returned (.int .i64 0) ∧ w = w' := by
  have h0 : askedE (n : Nat) = 0 := by unfold askedE; rw [if_neg (by omega), if_neg (by omega)]
  have h1 : ¬ (x : Int) < 0 := by omega
  have h2 : ¬ (n : Int) ≤ (x : Int) := by omega
  have H0 := Lib.hid h0
  clear h0
  go_enter Tryz.func127, Tryz.ntmps127
  go_wp2_with fail
  refine (asked_any (n : Nat) _).mono ?_
  rw [H0.out]
  rintro e w1 ⟨rfl, rfl⟩
  go_wp2
  go_ret
  exact ⟨rfl, rfl⟩
set_option maxHeartbeats 1000000 in
theorem eytzRank_ok (n x : Nat) (w : World) (hn : n ≤ 65536) (hx : x < n) :
    Calls Tryz.prog 126 #[.int .i64 (n : Nat), .int .i64 (x : Nat)] w (GivesII ((inord n 0).idxOf x) 0 w) := by
  have i0 : (0 : Int) ≤ (x : Int) := by omega
  have i1 : (x : Int) < (n : Int) := by omega
  go_enter Tryz.func126, Tryz.ntmps126
  go_wp2_with fail
  refine (within_ok n x _ hn hx).mono ?_
  rintro e w1 ⟨rfl, rfl⟩
  go_wp2_with fail
  refine (order_ok n hn _).mono ?_
  rintro e w2 ⟨rfl, ho, hb⟩
  have hr : x < (ranks n).length := by rw [ranks_length]; exact hx
  have cr : w2.cell? ⟨w.heap.size, x, none⟩ = some (.int .i64 ((inord n 0).idxOf x : Nat)) := by
    rw [ho.cell]; simp [hr, ranks_get hx]
  clear ho
  generalize (inord n 0).idxOf x = r at *
  go_wp2
  refine bodyPost_ret (v := .tuple #[.int .i64 (r : Nat), .int .i64 0]) (by simp [results, Tryz.results126, go_sem]) rfl ?_
  exact ⟨rfl, hb⟩

set_option maxHeartbeats 1000000 in
theorem rank_any (A : Option Addr) (l : List Ent) (c : Nat) (key : Int) (w : World) (hA : Sl w A (l.flatMap Ent.cells)) (hl : l.length ≤ 4611686018427387903) (hT : TabAt 1 Lib.deBruijn64tab w) :
    Calls Tryz.prog 89 #[.agg #[.slice A l.length c], .int .i64 key] w (GivesII (rkN l key) (chkE l) w) := by
  have hb0 : Below w.heap.size w (w.alloc (.cells #[.slice A l.length c] 74)) := (Below.refl _ _).alloc (Nat.le_refl _) _
  have bX := Blk.new w 74 #[.slice A l.length c]
  have hT0 := Lib.hid (tab_below (tab_lt hT) hT hb0)
  have hA' := Lib.hid hA
  by_cases hC : chkE l = 0
  · have hlen := (chk_ok hC).2.2
    have hrk : rkN l key = lowK l key := by unfold rkN; rw [if_pos hC]
    by_cases hK : lowK l key = l.length
    · obtain ⟨h6, ha⟩ := low_six hC hK
      rw [hrk, hK, hC]
      have H6 := Lib.hid h6
      have HAt := Lib.hid ha
      clear hrk hK hC h6 ha hA
      go_enter Tryz.func89, Tryz.ntmps89
      go_wp2_with fail
      refine (lower_any A l c key _ (hA'.out.below hb0) hl hT0.out).mono ?_
      unfold GivesII
      rw [H6.out, HAt.out]
      rintro e w1 ⟨rfl, hb1⟩
      have d0 : w1.cell? ⟨w.heap.size, 0, none⟩ = some (.slice A l.length c) := (bX.below hb1 bX.lt).cell 0
      have hb01 := bext hb0 hb1
      clear bX hb1
      go_wp2
      refine bodyPost_ret (v := .tuple #[.int .i64 (l.length : Nat), .int .i64 0]) (by simp [results, Tryz.results89, go_sem]) rfl ?_
      exact ⟨rfl, hb01⟩
    · obtain ⟨h6, hat, hal⟩ := low_at hC hK
      have hle := lowK_le l key
      have hidx : (inord l.length 0).idxOf (lowAt l key) = lowK l key := by
        obtain ⟨h1, h2⟩ := List.getElem?_eq_some_iff.1 hat
        rw [← h2]
        exact idx_inord h1
      rw [hrk, hC]
      have H6 := Lib.hid h6
      have HI := Lib.hid hidx
      obtain ⟨at_, hx⟩ : ∃ at_, lowAt l key = at_ := ⟨_, rfl⟩
      obtain ⟨K, hk⟩ : ∃ K, lowK l key = K := ⟨_, rfl⟩
      rw [hx] at hal
      rw [hk]
      have HX := Lib.hid hx
      have HK := Lib.hid hk
      clear hrk hK hC h6 hat hidx hA hle hx hk
      go_enter Tryz.func89, Tryz.ntmps89
      go_wp2_with fail
      refine (lower_any A l c key _ (hA'.out.below hb0) hl hT0.out).mono ?_
      unfold GivesII
      rw [H6.out, HX.out]
      rintro e w1 ⟨rfl, hb1⟩
      have d0 : w1.cell? ⟨w.heap.size, 0, none⟩ = some (.slice A l.length c) := (bX.below hb1 bX.lt).cell 0
      have hb01 := bext hb0 hb1
      clear bX hb1
      go_wp2_with fail
      refine (eytzRank_ok l.length at_ _ hlen hal).mono ?_
      unfold GivesII
      rw [← HX.out, HI.out, HK.out]
      rintro e w2 ⟨rfl, hb2⟩
      go_wp2
      refine bodyPost_ret (v := .tuple #[.int .i64 (K : Nat), .int .i64 0]) (by simp [results, Tryz.results89, go_sem]) rfl ?_
      exact ⟨rfl, bext hb01 hb2⟩
  · obtain ⟨h1, h2⟩ := low_bad key hC
    have hrk : rkN l key = 0 := by unfold rkN; rw [if_neg hC]
    have hne : ¬ chkE l = 6 := by rcases chk_vals l with h | h | h | h <;> omega
    obtain ⟨E, hE⟩ : ∃ E, chkE l = E := ⟨_, rfl⟩
    rw [hrk, hE]
    rw [hE] at hC hne h1
    have H1 := Lib.hid h1
    have H2 := Lib.hid h2
    clear h1 h2 hrk hE hA
    go_enter Tryz.func89, Tryz.ntmps89
    go_wp2_with fail
    refine (lower_any A l c key _ (hA'.out.below hb0) hl hT0.out).mono ?_
    unfold GivesII
    rw [H1.out, H2.out]
    rintro e w1 ⟨rfl, hb1⟩
    go_wp2
    refine bodyPost_ret (v := .tuple #[.int .i64 0, .int .i64 E]) (by simp [results, Tryz.results89, go_sem]) rfl ?_
    exact ⟨rfl, bext hb0 hb1⟩
end Go.Proofs.YthbppblmecdekaaGreatDoor

/- Contract: two runs compared; plain facts: laid out and sorted again. -/
namespace Go.Proofs.YthbppblmecdekaaGreatDoor
open Go Go.RowKit
set_option maxRecDepth 100000

theorem in_laid (l : List Ent) : inL (laid l) = l := by
  refine List.ext_getElem? fun k => ?_
  by_cases hk : k < l.length
  · have hk2 : k < (inL (laid l)).length := by rw [inL_length, laid_length]; exact hk
    have hk3 : k < (inord (laid l).length 0).length := by rw [inord_length, laid_length]; exact hk
    rw [List.getElem?_eq_getElem hk2, List.getElem?_eq_getElem hk, inL_get]
    congr 1
    have hp : (inord (laid l).length 0)[k]'hk3 < (laid l).length := inord_lt (List.getElem_mem hk3)
    rw [entAt_get hp]
    have hidx := idx_inord hk3
    have h2 : ∀ a (ha : a < (laid l).length), (inord (laid l).length 0).idxOf a = k → (laid l)[a]'ha = l[k]'hk := by
      intro a ha he
      rw [laid_length] at he
      have hal : a < l.length := by rwa [laid_length] at ha
      have hr : a < (ranks l.length).length := by rw [ranks_length]; exact hal
      have : (laid l)[a]'ha = entAt l ((ranks l.length)[a]'hr) := by simp [laid]
      rw [this, ranks_get hal, he, entAt_get hk]
    exact h2 _ hp hidx
  · rw [List.getElem?_eq_none (by rw [inL_length, laid_length]; omega), List.getElem?_eq_none (by omega)]
theorem laid_in (x : List Ent) : laid (inL x) = x := by
  refine List.ext_getElem? fun a => ?_
  by_cases ha : a < x.length
  · have ha1 : a < (inL x).length := by rw [inL_length]; exact ha
    have ha2 : a < (laid (inL x)).length := by rw [laid_length]; exact ha1
    rw [List.getElem?_eq_getElem ha2, List.getElem?_eq_getElem ha]
    congr 1
    have hr : a < (ranks (inL x).length).length := by rw [ranks_length]; exact ha1
    have h1 : (laid (inL x))[a]'ha2 = entAt (inL x) ((ranks (inL x).length)[a]'hr) := by simp [laid]
    rw [h1, ranks_get ha1]
    have hlt := ranks_lt ha1
    rw [entAt_get hlt]
    have hlt2 : (inord (inL x).length 0).idxOf a < (inord x.length 0).length := by rw [inord_length, ← inL_length x]; exact hlt
    have h3 : ∀ k (hk : k < (inL x).length), k = (inord x.length 0).idxOf a → (inL x)[k]'hk = x[a]'ha := by
      intro k hk he
      rw [inL_get]
      subst he
      rw [inord_idx ha, entAt_get ha]
    exact h3 _ hlt (by rw [inL_length])
  · rw [List.getElem?_eq_none (by rw [laid_length, inL_length]; omega), List.getElem?_eq_none (by omega)]
theorem laid_mem {l : List Ent} {e : Ent} (h : e ∈ laid l) : e ∈ l := by
  obtain ⟨r, hr, rfl⟩ := List.mem_map.1 h
  unfold ranks at hr
  obtain ⟨a, ha, rfl⟩ := List.mem_map.1 hr
  have ha2 : a < l.length := by simpa using ha
  rw [entAt_get (ranks_lt ha2)]
  exact List.getElem_mem _
theorem inL_mem {l : List Ent} {e : Ent} (h : e ∈ inL l) : e ∈ l := by
  obtain ⟨r, hr, rfl⟩ := List.mem_map.1 h
  rw [entAt_get (inord_lt hr)]
  exact List.getElem_mem _
theorem build_parts {l : List Ent} (h : buildE l = 0) : fairE l = 0 ∧ rises (l.map Ent.key) = true := by
  unfold buildE at h
  unfold fairE
  split at h
  · cases h
  · rename_i h1
    split at h
    · cases h
    · rename_i h2
      split at h
      · rename_i h3; exact ⟨by rw [if_neg h1, if_neg h2], h3⟩
      · cases h
theorem fair_sub {l m : List Ent} (hlen : m.length ≤ l.length) (hm : ∀ e ∈ m, e ∈ l) (h : fairE l = 0) : fairE m = 0 := by
  have hl := fair_len h
  unfold fairE at h ⊢
  rw [if_neg (by omega)] at h ⊢
  cases hb : m.any badEnt
  · rfl
  · obtain ⟨e, he, hbe⟩ := List.any_eq_true.1 hb
    rw [if_pos (List.any_eq_true.2 ⟨e, hm e he, hbe⟩)] at h
    cases h
theorem build_chk {l : List Ent} (h : buildE l = 0) : chkE (laid l) = 0 := by
  obtain ⟨h1, h2⟩ := build_parts h
  have hf := fair_sub (m := laid l) (by rw [laid_length]; exact Nat.le_refl _) (fun e he => laid_mem he) h1
  unfold chkE
  rw [if_neg (by omega), in_laid]
  unfold riseE
  rw [if_pos h2]
theorem chk_build {x : List Ent} (h : chkE x = 0) : buildE (inL x) = 0 := by
  obtain ⟨h1, h2, h3⟩ := chk_ok h
  have hf := fair_sub (m := inL x) (by rw [inL_length]; exact Nat.le_refl _) (fun e he => inL_mem he) h1
  have hl := fair_len hf
  unfold fairE at hf
  rw [if_neg (by omega)] at hf
  unfold buildE
  rw [if_neg (by omega)]
  split at hf
  · cases hf
  · rename_i hb
    rw [if_neg hb, if_pos h2]

set_option maxHeartbeats 1000000 in
theorem equalE_any (A B : Option Addr) (l m : List Ent) (c d : Nat) (w : World) (hA : Sl w A (l.flatMap Ent.cells)) (hB : Sl w B (m.flatMap Ent.cells)) (_hl : l.length ≤ 4611686018427387903) (hm : m.length ≤ 4611686018427387903) :
    Calls Tryz.prog 132 #[.slice A l.length c, .slice B m.length d] w fun r w' => r = .returned (.bool (decide (l = m))) ∧ Below w.heap.size w w' := by
  by_cases hlen : l.length = m.length
  · have hz : ((l.length : Int) != (m.length : Int)) = false := by simp [hlen]
    have hz2 : (l.length : Int) ≤ (m.length : Int) := by omega
    have HL := Lib.hid hlen
    clear hlen
    go_enter Tryz.func132, Tryz.ntmps132
    go_wp2
    go_loopw [13] (fun i wr => ∃ k : Nat, k ≤ l.length ∧ i = .int .i64 k ∧ Below w.heap.size w wr ∧ Hid (l.take k = m.take k)) (fun i _ => l.length - (intOf i).toNat)
    case atStart => exact ⟨0, Nat.zero_le _, rfl, Below.refl _ _, rfl⟩
    case round =>
      obtain ⟨k, hk, rfl, hb, hn⟩ := hrel
      by_cases hlt : k < l.length
      · have hlt2 : k < m.length := by omega
        obtain ⟨b, off, rfl, hbl, c1, c2, c3⟩ := hA.entB hb k hlt
        obtain ⟨b', off', rfl, hbl', d1, d2, d3⟩ := hB.entB hb k hlt2
        have i0 : (0 : Int) ≤ (k : Int) := by omega
        have i1 : (k : Int) < (l.length : Int) := by omega
        have i2 : (k : Int) < (m.length : Int) := by omega
        clear hA hB
        have hne := fun w => run_neq_ent (l[k]'hlt) (m[k]'hlt2) w
        have hgu := ent_guard
        go_wp2
        go_quiet (fail)
        clear hne hgu
        go_wp2
        · have hx : neE (l[k]'hlt) (m[k]'hlt2) = true := by assumption
          go_ret
          refine ⟨ret_bool ?_, bdrew hb _⟩
          symm
          rw [decide_eq_false_iff_not]
          rintro rfl
          simp [neE] at hx
        · have hx : neE (l[k]'hlt) (m[k]'hlt2) = false := by assumption
          go_roundw
          case rel =>
            refine ⟨k + 1, by omega, by go_num, bdrew hb _, ?_⟩
            show _ = _
            rw [List.take_succ_eq_append_getElem hlt, List.take_succ_eq_append_getElem hlt2, hn.out]
            simp [neE] at hx
            rw [hx]
          case measure => simp [intOf]; omega
      · go_wp2
        go_ret
        refine ⟨ret_bool ?_, hb⟩
        have := hn.out
        rw [List.take_of_length_le (by omega), List.take_of_length_le (by have := HL.out; omega)] at this
        rw [this, decide_eq_true rfl]
  · have hz : ((l.length : Int) != (m.length : Int)) = true := by simp; omega
    have HL := Lib.hid hlen
    clear hlen
    go_enter Tryz.func132, Tryz.ntmps132
    go_wp2
    go_ret
    refine ⟨ret_bool ?_, Below.refl _ _⟩
    symm
    rw [decide_eq_false_iff_not]
    rintro rfl
    exact HL.out rfl
set_option maxHeartbeats 1000000 in
theorem boundSame_any (A B : Option Addr) (l m : List Ent) (c d : Nat) (w : World) (hA : Sl w A (l.flatMap Ent.cells)) (hB : Sl w B (m.flatMap Ent.cells)) (hl : l.length ≤ 4611686018427387903) (hm : m.length ≤ 4611686018427387903) :
    Calls Tryz.prog 96 #[.agg #[.slice A l.length c], .agg #[.slice B m.length d]] w fun r w' => r = .returned (.bool (decide (l = m))) ∧ Below w.heap.size w w' := by
  have hb0 : Below w.heap.size w ((w.alloc (.cells #[.slice A l.length c] 74)).alloc (.cells #[.slice B m.length d] 74)) := ((Below.refl _ _).alloc (Nat.le_refl _) _).alloc (by simp) _
  go_enter Tryz.func96, Tryz.ntmps96
  go_wp2_with fail
  refine (equalE_any A B l m c d _ (hA.below hb0) (hB.below hb0) hl hm).mono ?_
  rintro e w1 ⟨rfl, hb1⟩
  go_wp2
  go_ret
  exact ⟨rfl, bext hb0 hb1⟩
end Go.Proofs.YthbppblmecdekaaGreatDoor

/- Contracts: the references of bound; copies of runs. -/
namespace Go.Proofs.YthbppblmecdekaaGreatDoor
open Go Go.RowKit
set_option maxRecDepth 100000

theorem inL_perm (l : List Ent) : (inL l).Perm l := by
  have h := (inord_perm l.length).map (entAt l)
  have e : (List.range l.length).map (entAt l) = l := by
    refine List.ext_getElem? fun i => ?_
    by_cases hi : i < l.length
    · simp [hi, entAt_get hi]
    · rw [List.getElem?_eq_none (by simp; omega), List.getElem?_eq_none (by omega)]
  rw [e] at h
  exact h
def belK (l : List Ent) (key : Int) : Nat := l.countP (fun e => decide (e.key < key))
theorem lowK_bel (l : List Ent) (key : Int) : lowK l key = belK l key := by
  have h := (inL_perm l).countP_eq (fun e => decide (e.key < key))
  unfold belK
  rw [← h]
  unfold lowK inL
  rw [List.countP_map]
  rfl
theorem belK_succ {l : List Ent} {k : Nat} (h : k < l.length) (key : Int) : belK (l.take (k + 1)) key = belK (l.take k) key + (if (l[k]'h).key < key then 1 else 0) := by
  unfold belK
  rw [List.take_succ_eq_append_getElem h, List.countP_append, List.countP_cons, List.countP_nil]
  simp
theorem belK_le (l : List Ent) (key : Int) : belK l key ≤ l.length := List.countP_le_length

set_option maxHeartbeats 1000000 in
theorem refCheck_any (A : Option Addr) (l : List Ent) (c : Nat) (w : World) (hA : Sl w A (l.flatMap Ent.cells)) (hl : l.length ≤ 4611686018427387903) :
    Calls Tryz.prog 92 #[.agg #[.slice A l.length c]] w fun r w' => r = .returned (.int .i64 (chkE l)) ∧ Below w.heap.size w w' := by
  have hb0 : Below w.heap.size w (w.alloc (.cells #[.slice A l.length c] 74)) := (Below.refl _ _).alloc (Nat.le_refl _) _
  have bX := Blk.new w 74 #[.slice A l.length c]
  have hA' := Lib.hid hA
  clear hA
  by_cases h1 : l.length > 65536
  · have hE : chkE l = 4 := by unfold chkE fairE; rw [if_pos h1]; rfl
    rw [hE]
    have h1' : (65536 : Int) < (l.length : Int) := by omega
    go_enter Tryz.func92, Tryz.ntmps92
    go_wp2
    go_ret
    exact ⟨rfl, hb0⟩
  · have h1' : ¬ (65536 : Int) < (l.length : Int) := by omega
    cases h2 : l.any badEnt
    · have hE : chkE l = riseE (inL l) := by unfold chkE fairE; rw [if_neg h1, h2]; rfl
      rw [hE]
      have H2 := Lib.hid h2
      have HL := Lib.hid (inL_length l)
      obtain ⟨b, hb⟩ : ∃ b, rises ((inL l).map Ent.key) = b := ⟨_, rfl⟩
      have HB := Lib.hid hb
      have hR : riseE (inL l) = if b = true then 0 else 130 := by unfold riseE; rw [hb]
      rw [hR]
      clear h2 hE hb hR
      go_enter Tryz.func92, Tryz.ntmps92
      go_wp2_with fail
      refine (refFair_any A l c _ (hA'.out.below hb0) hl).mono ?_
      rw [H2.out]
      rintro e w1 ⟨rfl, rfl⟩
      have c0 := bX.cell 0
      go_wp2_with fail
      refine (refIn_any A l c _ (hA'.out.below hb0) (by omega)).mono ?_
      rintro e w2 ⟨A2, c2, rfl, ho2, hb2⟩
      have hb02 := bext hb0 hb2
      have hs2 := Lib.hid (own_sl ho2)
      clear ho2 c0
      go_wp2_with fail
      rw [← HL.out]
      refine (refRising_any A2 (inL l) c2 _ hs2.out (by rw [HL.out]; omega)).mono ?_
      rw [HB.out]
      rintro e w3 ⟨rfl, hb3⟩
      cases b
      · go_wp2
        go_ret
        exact ⟨rfl, bext hb02 hb3⟩
      · go_wp2
        go_ret
        exact ⟨rfl, bext hb02 hb3⟩
    · have hE : chkE l = 8 := by unfold chkE fairE; rw [if_neg h1, h2]; rfl
      rw [hE]
      have H2 := Lib.hid h2
      clear h2 hE
      go_enter Tryz.func92, Tryz.ntmps92
      go_wp2_with fail
      refine (refFair_any A l c _ (hA'.out.below hb0) hl).mono ?_
      rw [H2.out]
      rintro e w1 ⟨rfl, rfl⟩
      go_wp2
      go_ret
      exact ⟨rfl, hb0⟩



end Go.Proofs.YthbppblmecdekaaGreatDoor
