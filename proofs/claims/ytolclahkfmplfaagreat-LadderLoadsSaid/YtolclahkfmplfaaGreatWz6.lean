/- Lw Lb Ld Le Lf Lg Run1 Ko: texts of the claim, in this order. -/
import Derived.Test.YtolclahkfmplfaaGreatWz4
import Derived.Lib.TrailingZeros
import Derived.Test.YtolclahkfmplfaaGreatWz5
import Derived.Shelf.Spec.TrailingZeros
import Derived.IntWalk
import Derived.Laws.Bits64
import Derived.Lib.SliceRun
/- Plain facts: how Lower goes down Eytzinger's tree and back. No program in sight. -/
namespace Go.Proofs.YtolclahkfmplfaaGreat
open Go

/-- where a way down ends: places from 1 on -/
def low (n : Nat) (t : Nat → Bool) (m : Nat) : Nat := if h : 1 ≤ m ∧ m ≤ n then low n t (2 * m + (if t (m - 1) then 1 else 0)) else m
termination_by n + 1 - m
decreasing_by split <;> omega
theorem low_in {n : Nat} {t : Nat → Bool} {m : Nat} (h1 : 1 ≤ m) (h2 : m ≤ n) : low n t m = low n t (2 * m + (if t (m - 1) then 1 else 0)) := by rw [low, dif_pos ⟨h1, h2⟩]
theorem low_out {n : Nat} {t : Nat → Bool} {m : Nat} (h : ¬ m ≤ n) : low n t m = m := by rw [low, dif_neg (by omega)]
/-- back over all turns to the right, and the last one to the left -/
def anc (m : Nat) : Nat := if h : m % 2 = 1 then anc (m / 2) else m / 2
termination_by m
decreasing_by omega
theorem anc_odd {m : Nat} (h : m % 2 = 1) : anc m = anc (m / 2) := by rw [anc, dif_pos h]
theorem anc_even {m : Nat} (h : m % 2 ≠ 1) : anc m = m / 2 := by rw [anc, dif_neg h]
theorem anc_left (m : Nat) : anc (2 * m) = m := by rw [anc_even (by omega)]; omega
theorem anc_right (m : Nat) : anc (2 * m + 1) = anc m := by rw [anc_odd (by omega)]; congr 1; omega
theorem anc_le (m : Nat) : anc m ≤ m / 2 := by
  induction m using Nat.strongRecOn with
  | _ m ih =>
    by_cases h : m % 2 = 1
    · rw [anc_odd h]; have := ih (m / 2) (by omega); omega
    · rw [anc_even h]; omega
theorem anc_shift : ∀ (f m : Nat), m < 2 ^ f - 1 → anc m = m / 2 ^ (Lib.ctzFrom f (2 ^ f - 1 - m) + 1)
  | 0, m, h => by simp at h
  | f + 1, m, h => by
    have h2 : 2 ^ (f + 1) = 2 * 2 ^ f := by rw [Nat.pow_succ, Nat.mul_comm]
    have hp : 0 < 2 ^ f := Nat.pow_pos (by omega)
    unfold Lib.ctzFrom
    by_cases hm : m % 2 = 1
    · rw [if_neg (by omega), anc_odd hm, anc_shift f (m / 2) (by omega), show (2 ^ (f + 1) - 1 - m) / 2 = 2 ^ f - 1 - m / 2 by omega, Nat.div_div_eq_div_mul]
      congr 1
      rw [show 1 + Lib.ctzFrom f (2 ^ f - 1 - m / 2) + 1 = (Lib.ctzFrom f (2 ^ f - 1 - m / 2) + 1) + 1 by omega, Nat.pow_succ 2 (Lib.ctzFrom f (2 ^ f - 1 - m / 2) + 1), Nat.mul_comm]
    · rw [if_pos (by omega), anc_even hm]
theorem anc_ctz {m : Nat} (h : m < 18446744073709551615) : anc m = m / 2 ^ (Lib.ctz 64 (18446744073709551615 - m) + 1) := by
  have := anc_shift 64 m (by simpa using h)
  unfold Lib.ctz
  rw [if_neg (by omega)]
  simpa using this

/-- where a way stands -/
def WayAt (n : Nat) (t : Nat → Bool) (m : Nat) : Prop :=
  1 ≤ m ∧ ∃ pre post : List Nat, inord n 0 = pre ++ inord n (m - 1) ++ post ∧ (∀ x ∈ pre, t x = true) ∧ (∀ x ∈ post, t x = false) ∧ post.head? = (if anc m = 0 then none else some (anc m - 1))
theorem WayAt.start (n : Nat) (t : Nat → Bool) : WayAt n t 1 := by
  refine ⟨Nat.le_refl _, [], [], by simp, by simp, by simp, ?_⟩
  have : anc 1 = 0 := by have := anc_le 1; omega
  rw [this]
  rfl
theorem WayAt.step {n : Nat} {t : Nat → Bool} {m : Nat} (hp : (inord n 0).Pairwise (fun a b => t b = true → t a = true)) (h : WayAt n t m) (hm : m ≤ n) : WayAt n t (2 * m + (if t (m - 1) then 1 else 0)) := by
  obtain ⟨h1, pre, post, he, hpre, hpost, hh⟩ := h
  have hin := inord_in (show m - 1 < n by omega)
  rw [hin] at he
  rw [he] at hp
  cases ht : t (m - 1)
  · refine ⟨by omega, pre, (m - 1) :: inord n (2 * (m - 1) + 2) ++ post, ?_, hpre, ?_, ?_⟩
    · rw [he, show 2 * m + (if false = true then 1 else 0) - 1 = 2 * (m - 1) + 1 by simp; omega]; simp
    · intro x hx
      rcases List.mem_append.1 hx with hx | hx
      · rcases List.mem_cons.1 hx with rfl | hx
        · exact ht
        · have h3 := (List.pairwise_append.1 hp).1
          have h4 := (List.pairwise_append.1 h3).2.1
          have h5 := (List.pairwise_append.1 h4).2.1
          have h6 := (List.pairwise_cons.1 h5).1 x hx
          cases htx : t x
          · rfl
          · have := h6 htx; rw [ht] at this; cases this
      · exact hpost x hx
    · rw [show 2 * m + (if false = true then 1 else 0) = 2 * m from rfl, anc_left, if_neg (by omega)]; rfl
  · rw [if_pos rfl]
    refine ⟨by omega, pre ++ inord n (2 * (m - 1) + 1) ++ [m - 1], post, ?_, ?_, hpost, ?_⟩
    · rw [he, show 2 * m + 1 - 1 = 2 * (m - 1) + 2 by omega]; simp
    · intro x hx
      rcases List.mem_append.1 hx with hx | hx
      · rcases List.mem_append.1 hx with hx | hx
        · exact hpre x hx
        · have h3 := (List.pairwise_append.1 hp).1
          have h4 := (List.pairwise_append.1 h3).2.1
          exact (List.pairwise_append.1 h4).2.2 x hx (m - 1) (by simp) ht
      · obtain rfl : x = m - 1 := by simpa using hx
        exact ht
    · rw [anc_right]; exact hh
theorem WayAt.done {n : Nat} {t : Nat → Bool} {m : Nat} (h : WayAt n t m) (hm : ¬ m ≤ n) : (inord n 0)[(inord n 0).countP t]? = (if anc m = 0 then none else some (anc m - 1)) := by
  obtain ⟨h1, pre, post, he, hpre, hpost, hh⟩ := h
  rw [inord_out (show ¬ m - 1 < n by omega), List.append_nil] at he
  have hc : (inord n 0).countP t = pre.length := by
    rw [he, List.countP_append, List.countP_eq_length.2 hpre, List.countP_eq_zero.2 (fun x hx => by rw [hpost x hx]; simp)]
    omega
  rw [hc, he, List.getElem?_append_right (Nat.le_refl _), Nat.sub_self, ← hh]
  cases post <;> rfl
theorem WayAt.lt {n : Nat} {t : Nat → Bool} {m : Nat} (h : WayAt n t m) (hm : ¬ m ≤ n) (h0 : anc m ≠ 0) : anc m - 1 < n := by
  have := h.done hm
  rw [if_neg h0] at this
  exact inord_lt (List.mem_of_getElem? this)
end Go.Proofs.YtolclahkfmplfaaGreat

/- Contracts: whether a run may be, its sorted entries, and the place of Lower. -/
namespace Go.Proofs.YtolclahkfmplfaaGreat
open Go Go.RowKit
set_option maxRecDepth 100000

/-- the error of a run -/
def chkE (l : List Ent) : Int := if fairE l ≠ 0 then fairE l else riseE (inL l)
theorem fair_len {l : List Ent} (h : fairE l = 0) : l.length ≤ 65536 := by
  unfold fairE at h
  split at h
  · cases h
  · omega
theorem chk_ok {l : List Ent} (h : chkE l = 0) : fairE l = 0 ∧ rises ((inL l).map Ent.key) = true ∧ l.length ≤ 65536 := by
  unfold chkE at h
  split at h
  · exact absurd h (by assumption)
  · rename_i hf
    have hf : fairE l = 0 := by omega
    refine ⟨hf, ?_, fair_len hf⟩
    unfold riseE at h
    split at h
    · assumption
    · cases h

set_option maxHeartbeats 1000000 in
theorem check_any (A : Option Addr) (l : List Ent) (c : Nat) (w : World) (hA : Sl w A (l.flatMap Ent.cells)) (hl : l.length ≤ 4611686018427387903) :
    Calls Tryz.prog 70 #[.agg #[.slice A l.length c]] w fun r w' => r = .returned (.int .i64 (chkE l)) ∧ Below w.heap.size w w' := by
  have hb0 : Below w.heap.size w (w.alloc (.cells #[.slice A l.length c] 58)) := (Below.refl _ _).alloc (Nat.le_refl _) _
  have bX := Blk.new w 58 #[.slice A l.length c]
  obtain ⟨E, hE⟩ : ∃ E, fairE l = E := ⟨_, rfl⟩
  by_cases h0 : E = 0
  · subst h0
    have hl2 := fair_len hE
    have hc : chkE l = riseE (inL l) := by unfold chkE; rw [if_neg (by omega)]
    rw [hc]
    have HE := Lib.hid hE
    have HL := Lib.hid (inL_length l)
    clear hE hc
    go_enter Tryz.func70, Tryz.ntmps70
    go_wp2_with fail
    refine (fair_any A l c _ (hA.below hb0) hl).mono ?_
    rw [HE.out]
    rintro e w1 ⟨rfl, hb1⟩
    have hb01 := bext hb0 hb1
    have c0 : w1.cell? ⟨w.heap.size, 0, none⟩ = some (.slice A l.length c) := (bX.below hb1 bX.lt).cell 0
    clear bX hb1
    go_wp2_with fail
    refine (sorted_any A l c _ (hA.below hb01) hl2).mono ?_
    rintro e w2 ⟨A2, c2, rfl, ho2, hb2⟩
    have hb02 := bext hb01 hb2
    have hs2 := Lib.hid (own_sl ho2)
    clear ho2 c0
    go_wp2_with fail
    rw [← HL.out]
    refine (rising_any A2 (inL l) c2 _ hs2.out (by rw [HL.out]; omega)).mono ?_
    rintro e w3 ⟨rfl, hb3⟩
    go_wp2
    go_ret
    exact ⟨rfl, bext hb02 hb3⟩
  · have hc : chkE l = E := by unfold chkE; rw [hE, if_pos h0]
    rw [hc]
    have HE := Lib.hid hE
    clear hE hc
    go_enter Tryz.func70, Tryz.ntmps70
    go_wp2_with fail
    refine (fair_any A l c _ (hA.below hb0) hl).mono ?_
    rw [HE.out]
    rintro e w1 ⟨rfl, hb1⟩
    go_wp2
    go_ret
    exact ⟨rfl, bext hb0 hb1⟩

/-- hands back entries in new memory, and an error -/
def GivesEnts (m : List Ent) (e : Int) (w : World) (r : Ending) (w' : World) : Prop :=
  ∃ A c, r = .returned (.tuple #[.slice A m.length c, .int .i64 e]) ∧ w'.ownsRow w.heap.size 68 3 (.slice A m.length c) m.length (m.flatMap Ent.cells) ∧ Below w.heap.size w w'
def sortL (l : List Ent) : List Ent := if chkE l = 0 then inL l else []
set_option maxHeartbeats 1000000 in
theorem sortedE_any (A : Option Addr) (l : List Ent) (c : Nat) (w : World) (hA : Sl w A (l.flatMap Ent.cells)) (hl : l.length ≤ 4611686018427387903) :
    Calls Tryz.prog 68 #[.agg #[.slice A l.length c]] w (GivesEnts (sortL l) (chkE l) w) := by
  have hb0 : Below w.heap.size w (w.alloc (.cells #[.slice A l.length c] 58)) := (Below.refl _ _).alloc (Nat.le_refl _) _
  have bX := Blk.new w 58 #[.slice A l.length c]
  obtain ⟨E, hE⟩ : ∃ E, chkE l = E := ⟨_, rfl⟩
  by_cases h0 : E = 0
  · subst h0
    have hl2 := (chk_ok hE).2.2
    have hS : sortL l = inL l := by unfold sortL; rw [if_pos hE]
    rw [hS, hE]
    have HE := Lib.hid hE
    have HL := Lib.hid (inL_length l)
    clear hE hS
    go_enter Tryz.func68, Tryz.ntmps68
    go_wp2_with fail
    refine (check_any A l c _ (hA.below hb0) hl).mono ?_
    rw [HE.out]
    rintro e w1 ⟨rfl, hb1⟩
    have hb01 := bext hb0 hb1
    have c0 : w1.cell? ⟨w.heap.size, 0, none⟩ = some (.slice A l.length c) := (bX.below hb1 bX.lt).cell 0
    clear bX hb1
    go_wp2_with fail
    refine (sorted_any A l c _ (hA.below hb01) hl2).mono ?_
    rintro e w2 ⟨A2, c2, rfl, ho2, hb2⟩
    have ho2 := Lib.hid (own_mono ho2 hb01.size)
    go_wp2
    refine bodyPost_ret (v := .tuple #[.slice A2 l.length c2, .int .i64 0]) (by simp [results, Tryz.results68, go_sem]) rfl ?_
    exact ⟨A2, c2, by rw [HL.out], by rw [HL.out]; exact ho2.out, bext hb01 hb2⟩
  · have hS : sortL l = [] := by unfold sortL; rw [if_neg (by omega)]
    rw [hS, hE]
    have HE := Lib.hid hE
    clear hE hS
    go_enter Tryz.func68, Tryz.ntmps68
    go_wp2_with fail
    refine (check_any A l c _ (hA.below hb0) hl).mono ?_
    rw [HE.out]
    rintro e w1 ⟨rfl, hb1⟩
    go_wp2
    refine bodyPost_ret (v := .tuple #[.slice none 0 0, .int .i64 E]) (by simp [results, Tryz.results68, go_sem]) rfl ?_
    exact ⟨none, 0, rfl, World.ownsRow_nil _ _ _ _, bext hb0 hb1⟩

/-! ### math/bits.TrailingZeros, with its table in its variable -/
theorem tab_below {g : Nat} {w w' : World} (hg : g < w.heap.size) (h : TabAt g Lib.deBruijn64tab w) (hb : Below w.heap.size w w') : TabAt g Lib.deBruijn64tab w' := fun j hj => (hb.cell (p := ⟨g, j, none⟩) hg).trans (h j hj)
theorem tab_lt {g : Nat} {w : World} (h : TabAt g Lib.deBruijn64tab w) : g < w.heap.size := by
  have h0 := h 0 (by decide)
  exact Nat.lt_of_not_le fun hle => by
    have : w.cell? ⟨g, 0, none⟩ = none := by simp [World.cell?, Array.getElem?_eq_none hle]
    rw [this] at h0; cases h0
end Go.Proofs.YtolclahkfmplfaaGreat

/- Contracts: the place of Lower, Find, Rank. -/
namespace Go.Proofs.YtolclahkfmplfaaGreat
open Go Go.RowKit
set_option maxRecDepth 100000

/-- hands back two numbers -/
def GivesII (a e : Int) (w : World) (r : Ending) (w' : World) : Prop := r = .returned (.tuple #[.int .i64 a, .int .i64 e]) ∧ Below w.heap.size w w'
def belowT (l : List Ent) (key : Int) (x : Nat) : Bool := decide ((entAt l x).key < key)
/-- how many keys are below one -/
def lowK (l : List Ent) (key : Int) : Nat := (inord l.length 0).countP (belowT l key)
def lowE (l : List Ent) (key : Int) : Int := if chkE l ≠ 0 then chkE l else if lowK l key = l.length then 6 else 0
def lowAt (l : List Ent) (key : Int) : Nat := if lowE l key = 0 then (inord l.length 0).getD (lowK l key) 0 else 0
theorem inL_pairs {l : List Ent} (h : rises ((inL l).map Ent.key) = true) (key : Int) : (inord l.length 0).Pairwise (fun a b => belowT l key b = true → belowT l key a = true) := by
  unfold rises at h
  have h := of_decide_eq_true h
  unfold inL at h
  rw [List.map_map] at h
  have h2 := List.pairwise_map.1 h
  refine h2.imp fun {a b} hab => ?_
  intro hb
  unfold belowT at hb ⊢
  have hb := of_decide_eq_true hb
  exact decide_eq_true (Int.lt_trans hab hb)
theorem lowK_le (l : List Ent) (key : Int) : lowK l key ≤ l.length := by
  have : (inord l.length 0).countP (belowT l key) ≤ (inord l.length 0).length := List.countP_le_length
  rw [inord_length] at this
  exact this

theorem not_u64 (m : Nat) (hm : m < 18446744073709551616) : bits BinOp.xor IntKind.u64 IntKind.u64.max (m : Int) = ((18446744073709551615 - m : Nat) : Int) := by
  have h1 : IntKind.u64.max = ((18446744073709551615 : Nat) : Int) := rfl
  rw [h1, bits_xor_u64_nat _ _ (by omega) hm]
  congr 1
  refine Nat.eq_of_testBit_eq fun i => ?_
  have h2 := Nat.testBit_two_pow_sub_succ (n := 64) (x := m) (by simpa using hm) i
  have h3 := Nat.testBit_two_pow_sub_one 64 i
  rw [Nat.testBit_xor]
  rw [show (2 : Nat) ^ 64 - 1 = 18446744073709551615 by rfl] at h3
  rw [show (2 : Nat) ^ 64 - (m + 1) = 18446744073709551615 - m by omega] at h2
  rw [h3, h2]
  by_cases hi : i < 64
  · simp [hi]
  · have : m.testBit i = false := Nat.testBit_lt_two_pow (Nat.lt_of_lt_of_le hm (by rw [show (18446744073709551616 : Nat) = 2 ^ 64 by rfl]; exact Nat.pow_le_pow_right (by omega) (by omega)))
    simp [hi, this]

end Go.Proofs.YtolclahkfmplfaaGreat

/- Contracts: Lower, Find, Rank, for every run. -/
namespace Go.Proofs.YtolclahkfmplfaaGreat
open Go Go.RowKit
set_option maxRecDepth 100000

theorem chk_vals (l : List Ent) : chkE l = 0 ∨ chkE l = 4 ∨ chkE l = 8 ∨ chkE l = 130 := by
  unfold chkE fairE riseE
  repeat' split
  all_goals simp_all
theorem low_bad {l : List Ent} (key : Int) (h : ¬ chkE l = 0) : lowE l key = chkE l ∧ lowAt l key = 0 := by
  have h1 : lowE l key = chkE l := by unfold lowE; rw [if_pos h]
  exact ⟨h1, by unfold lowAt; rw [h1, if_neg h]⟩
theorem low_six {l : List Ent} {key : Int} (h : chkE l = 0) (hk : lowK l key = l.length) : lowE l key = 6 ∧ lowAt l key = 0 := by
  have h1 : lowE l key = 6 := by unfold lowE; rw [if_neg (by omega), if_pos hk]
  exact ⟨h1, by unfold lowAt; rw [h1]; rfl⟩
theorem low_at {l : List Ent} {key : Int} (h : chkE l = 0) (hk : ¬ lowK l key = l.length) : lowE l key = 0 ∧ (inord l.length 0)[lowK l key]? = some (lowAt l key) ∧ lowAt l key < l.length := by
  have h1 : lowE l key = 0 := by unfold lowE; rw [if_neg (by omega), if_neg hk]
  have hle := lowK_le l key
  have hlt : lowK l key < (inord l.length 0).length := by rw [inord_length]; omega
  have h2 : (inord l.length 0)[lowK l key]? = some (lowAt l key) := by unfold lowAt; rw [if_pos h1, List.getD_eq_getElem?_getD, List.getElem?_eq_getElem hlt]; rfl
  exact ⟨h1, h2, inord_lt (List.mem_of_getElem? h2)⟩
/-- what Find tells -/
def fdE (l : List Ent) (key : Int) : Int := if lowE l key ≠ 0 then lowE l key else if (entAt l (lowAt l key)).key = key then 0 else 6
def fdAt (l : List Ent) (key : Int) : Nat := if fdE l key = 0 then lowAt l key else 0
/-- what Rank tells -/
def rkN (l : List Ent) (key : Int) : Nat := if chkE l = 0 then lowK l key else 0



set_option maxHeartbeats 1000000 in
theorem within_ok (n x : Nat) (w : World) (hn : n ≤ 65536) (hx : x < n) :
    Calls Tryz.prog 96 #[.int .i64 (n : Nat), .int .i64 (x : Nat)] w fun r w' => r = .returned (.int .i64 0) ∧ w = w' := by
  have h0 : askedE (n : Nat) = 0 := by unfold askedE; rw [if_neg (by omega), if_neg (by omega)]
  have h1 : ¬ (x : Int) < 0 := by omega
  have h2 : ¬ (n : Int) ≤ (x : Int) := by omega
  have H0 := Lib.hid h0
  clear h0
  go_enter Tryz.func96, Tryz.ntmps96
  go_wp2_with fail
  refine (asked_any (n : Nat) _).mono ?_
  rw [H0.out]
  rintro e w1 ⟨rfl, rfl⟩
  go_wp2
  go_ret
  exact ⟨rfl, rfl⟩

end Go.Proofs.YtolclahkfmplfaaGreat

/- Contract: two runs compared; plain facts: laid out and sorted again. -/
namespace Go.Proofs.YtolclahkfmplfaaGreat
open Go Go.RowKit
set_option maxRecDepth 100000

theorem in_laid (l : List Ent) : inL (laid l) = l := by
  refine List.ext_getElem? fun k => ?_
  by_cases hk : k < l.length
  · have hk2 : k < (inL (laid l)).length := by rw [inL_length, laid_length]; exact hk
    have hk3 : k < (inord (laid l).length 0).length := by rw [inord_length, laid_length]; exact hk
    rw [List.getElem?_eq_getElem hk2, List.getElem?_eq_getElem hk, inL_get]
    congr 1
    have hp : (inord (laid l).length 0)[k]'hk3 < (laid l).length := inord_lt (List.getElem_mem hk3)
    rw [entAt_get hp]
    have hidx := idx_inord hk3
    have h2 : ∀ a (ha : a < (laid l).length), (inord (laid l).length 0).idxOf a = k → (laid l)[a]'ha = l[k]'hk := by
      intro a ha he
      rw [laid_length] at he
      have hal : a < l.length := by rwa [laid_length] at ha
      have hr : a < (ranks l.length).length := by rw [ranks_length]; exact hal
      have : (laid l)[a]'ha = entAt l ((ranks l.length)[a]'hr) := by simp [laid]
      rw [this, ranks_get hal, he, entAt_get hk]
    exact h2 _ hp hidx
  · rw [List.getElem?_eq_none (by rw [inL_length, laid_length]; omega), List.getElem?_eq_none (by omega)]
theorem laid_in (x : List Ent) : laid (inL x) = x := by
  refine List.ext_getElem? fun a => ?_
  by_cases ha : a < x.length
  · have ha1 : a < (inL x).length := by rw [inL_length]; exact ha
    have ha2 : a < (laid (inL x)).length := by rw [laid_length]; exact ha1
    rw [List.getElem?_eq_getElem ha2, List.getElem?_eq_getElem ha]
    congr 1
    have hr : a < (ranks (inL x).length).length := by rw [ranks_length]; exact ha1
    have h1 : (laid (inL x))[a]'ha2 = entAt (inL x) ((ranks (inL x).length)[a]'hr) := by simp [laid]
    rw [h1, ranks_get ha1]
    have hlt := ranks_lt ha1
    rw [entAt_get hlt]
    have hlt2 : (inord (inL x).length 0).idxOf a < (inord x.length 0).length := by rw [inord_length, ← inL_length x]; exact hlt
    have h3 : ∀ k (hk : k < (inL x).length), k = (inord x.length 0).idxOf a → (inL x)[k]'hk = x[a]'ha := by
      intro k hk he
      rw [inL_get]
      subst he
      rw [inord_idx ha, entAt_get ha]
    exact h3 _ hlt (by rw [inL_length])
  · rw [List.getElem?_eq_none (by rw [laid_length, inL_length]; omega), List.getElem?_eq_none (by omega)]
theorem laid_mem {l : List Ent} {e : Ent} (h : e ∈ laid l) : e ∈ l := by
  obtain ⟨r, hr, rfl⟩ := List.mem_map.1 h
  unfold ranks at hr
  obtain ⟨a, ha, rfl⟩ := List.mem_map.1 hr
  have ha2 : a < l.length := by simpa using ha
  rw [entAt_get (ranks_lt ha2)]
  exact List.getElem_mem _
theorem inL_mem {l : List Ent} {e : Ent} (h : e ∈ inL l) : e ∈ l := by
  obtain ⟨r, hr, rfl⟩ := List.mem_map.1 h
  rw [entAt_get (inord_lt hr)]
  exact List.getElem_mem _
theorem build_parts {l : List Ent} (h : buildE l = 0) : fairE l = 0 ∧ rises (l.map Ent.key) = true := by
  unfold buildE at h
  unfold fairE
  split at h
  · cases h
  · rename_i h1
    split at h
    · cases h
    · rename_i h2
      split at h
      · rename_i h3; exact ⟨by rw [if_neg h1, if_neg h2], h3⟩
      · cases h
theorem fair_sub {l m : List Ent} (hlen : m.length ≤ l.length) (hm : ∀ e ∈ m, e ∈ l) (h : fairE l = 0) : fairE m = 0 := by
  have hl := fair_len h
  unfold fairE at h ⊢
  rw [if_neg (by omega)] at h ⊢
  cases hb : m.any badEnt
  · rfl
  · obtain ⟨e, he, hbe⟩ := List.any_eq_true.1 hb
    rw [if_pos (List.any_eq_true.2 ⟨e, hm e he, hbe⟩)] at h
    cases h
theorem build_chk {l : List Ent} (h : buildE l = 0) : chkE (laid l) = 0 := by
  obtain ⟨h1, h2⟩ := build_parts h
  have hf := fair_sub (m := laid l) (by rw [laid_length]; exact Nat.le_refl _) (fun e he => laid_mem he) h1
  unfold chkE
  rw [if_neg (by omega), in_laid]
  unfold riseE
  rw [if_pos h2]
theorem chk_build {x : List Ent} (h : chkE x = 0) : buildE (inL x) = 0 := by
  obtain ⟨h1, h2, h3⟩ := chk_ok h
  have hf := fair_sub (m := inL x) (by rw [inL_length]; exact Nat.le_refl _) (fun e he => inL_mem he) h1
  have hl := fair_len hf
  unfold fairE at hf
  rw [if_neg (by omega)] at hf
  unfold buildE
  rw [if_neg (by omega)]
  split at hf
  · cases hf
  · rename_i hb
    rw [if_neg hb, if_pos h2]

end Go.Proofs.YtolclahkfmplfaaGreat

/- Contracts: the references of bound; copies of runs. -/
namespace Go.Proofs.YtolclahkfmplfaaGreat
open Go Go.RowKit
set_option maxRecDepth 100000

theorem inL_perm (l : List Ent) : (inL l).Perm l := by
  have h := (inord_perm l.length).map (entAt l)
  have e : (List.range l.length).map (entAt l) = l := by
    refine List.ext_getElem? fun i => ?_
    by_cases hi : i < l.length
    · simp [hi, entAt_get hi]
    · rw [List.getElem?_eq_none (by simp; omega), List.getElem?_eq_none (by omega)]
  rw [e] at h
  exact h
def belK (l : List Ent) (key : Int) : Nat := l.countP (fun e => decide (e.key < key))
theorem lowK_bel (l : List Ent) (key : Int) : lowK l key = belK l key := by
  have h := (inL_perm l).countP_eq (fun e => decide (e.key < key))
  unfold belK
  rw [← h]
  unfold lowK inL
  rw [List.countP_map]
  rfl
theorem belK_succ {l : List Ent} {k : Nat} (h : k < l.length) (key : Int) : belK (l.take (k + 1)) key = belK (l.take k) key + (if (l[k]'h).key < key then 1 else 0) := by
  unfold belK
  rw [List.take_succ_eq_append_getElem h, List.countP_append, List.countP_cons, List.countP_nil]
  simp
theorem belK_le (l : List Ent) (key : Int) : belK l key ≤ l.length := List.countP_le_length

set_option maxHeartbeats 1000000 in
theorem refCheck_any (A : Option Addr) (l : List Ent) (c : Nat) (w : World) (hA : Sl w A (l.flatMap Ent.cells)) (hl : l.length ≤ 4611686018427387903) :
    Calls Tryz.prog 58 #[.agg #[.slice A l.length c]] w fun r w' => r = .returned (.int .i64 (chkE l)) ∧ Below w.heap.size w w' := by
  have hb0 : Below w.heap.size w (w.alloc (.cells #[.slice A l.length c] 58)) := (Below.refl _ _).alloc (Nat.le_refl _) _
  have bX := Blk.new w 58 #[.slice A l.length c]
  have hA' := Lib.hid hA
  clear hA
  by_cases h1 : l.length > 65536
  · have hE : chkE l = 4 := by unfold chkE fairE; rw [if_pos h1]; rfl
    rw [hE]
    have h1' : (65536 : Int) < (l.length : Int) := by omega
    go_enter Tryz.func58, Tryz.ntmps58
    go_wp2
    go_ret
    exact ⟨rfl, hb0⟩
  · have h1' : ¬ (65536 : Int) < (l.length : Int) := by omega
    cases h2 : l.any badEnt
    · have hE : chkE l = riseE (inL l) := by unfold chkE fairE; rw [if_neg h1, h2]; rfl
      rw [hE]
      have H2 := Lib.hid h2
      have HL := Lib.hid (inL_length l)
      obtain ⟨b, hb⟩ : ∃ b, rises ((inL l).map Ent.key) = b := ⟨_, rfl⟩
      have HB := Lib.hid hb
      have hR : riseE (inL l) = if b = true then 0 else 130 := by unfold riseE; rw [hb]
      rw [hR]
      clear h2 hE hb hR
      go_enter Tryz.func58, Tryz.ntmps58
      go_wp2_with fail
      refine (refFair_any A l c _ (hA'.out.below hb0) hl).mono ?_
      rw [H2.out]
      rintro e w1 ⟨rfl, rfl⟩
      have c0 := bX.cell 0
      go_wp2_with fail
      refine (refIn_any A l c _ (hA'.out.below hb0) (by omega)).mono ?_
      rintro e w2 ⟨A2, c2, rfl, ho2, hb2⟩
      have hb02 := bext hb0 hb2
      have hs2 := Lib.hid (own_sl ho2)
      clear ho2 c0
      go_wp2_with fail
      rw [← HL.out]
      refine (refRising_any A2 (inL l) c2 _ hs2.out (by rw [HL.out]; omega)).mono ?_
      rw [HB.out]
      rintro e w3 ⟨rfl, hb3⟩
      cases b
      · go_wp2
        go_ret
        exact ⟨rfl, bext hb02 hb3⟩
      · go_wp2
        go_ret
        exact ⟨rfl, bext hb02 hb3⟩
    · have hE : chkE l = 8 := by unfold chkE fairE; rw [if_neg h1, h2]; rfl
      rw [hE]
      have H2 := Lib.hid h2
      clear h2 hE
      go_enter Tryz.func58, Tryz.ntmps58
      go_wp2_with fail
      refine (refFair_any A l c _ (hA'.out.below hb0) hl).mono ?_
      rw [H2.out]
      rintro e w1 ⟨rfl, rfl⟩
      go_wp2
      go_ret
      exact ⟨rfl, hb0⟩



end Go.Proofs.YtolclahkfmplfaaGreat

/- Contracts: pairs that are the same, entries of pairs, run.One and run.Of and their references. -/
namespace Go.Proofs.YtolclahkfmplfaaGreat
open Go Go.RowKit
set_option maxRecDepth 100000

theorem pr_stood : Tryz.prog.stoodInHeld 50 = false := by kernel_rfl
theorem pr_guard : Tryz.prog.eqGuardType Tryz.prog.depth 50 = false := by kernel_rfl
theorem pr_info : (Tryz.prog.info? 50).map (fun i => (i.zero, i.size, i.bytes)) = some (some (.agg #[.int .i64 0, .int .i64 0]), 2, 16) := by kernel_rfl
def neP (a b : Pr) : Bool := decide (a ≠ b)
theorem run_neq_pr (a b : Pr) (w : World) :
    (binOp .neq 50 (.agg #[.int .i64 a.key, .int .i64 a.val]) (.agg #[.int .i64 b.key, .int .i64 b.val])).run Tryz.prog w = .ok (.bool (neP a b)) w := by
  have h1 := pr_stood
  have h2 := pr_guard
  have h3 := Tryz.underlying50
  obtain ⟨k, v⟩ := a
  obtain ⟨k', v'⟩ := b
  simp only [go_sem, h1, h3]
  simp [go_sem, neP]
  by_cases hk : k = k' <;> by_cases hv : v = v' <;> simp [hk, hv]

set_option maxRecDepth 100000 in
set_option maxHeartbeats 1000000 in
theorem samePairs_any (A B : Option Addr) (l m : List Pr) (c d : Nat) (w : World) (hA : Sl w A (l.flatMap Pr.cells)) (hB : Sl w B (m.flatMap Pr.cells)) (_hl : l.length ≤ 4611686018427387903) (hm : m.length ≤ 4611686018427387903) :
    Calls Tryz.prog 14 #[.slice A l.length c, .slice B m.length d] w fun r w' => r = .returned (.bool (decide (l = m))) ∧ Below w.heap.size w w' := by
  by_cases hlen : l.length = m.length
  · have hz : ((l.length : Int) != (m.length : Int)) = false := by simp [hlen]
    have hz2 : (l.length : Int) ≤ (m.length : Int) := by omega
    have HL := Lib.hid hlen
    clear hlen
    go_enter Tryz.func14, Tryz.ntmps14
    go_wp2
    go_loopw [5] (fun i wr => ∃ k : Nat, k ≤ l.length ∧ i = .int .i64 k ∧ Below w.heap.size w wr ∧ Hid (l.take k = m.take k)) (fun i _ => l.length - (intOf i).toNat)
    case atStart => exact ⟨0, Nat.zero_le _, rfl, Below.refl _ _, rfl⟩
    case round =>
      obtain ⟨k, hk, rfl, hb, hn⟩ := hrel
      by_cases hlt : k < l.length
      · have hlt2 : k < m.length := by omega
        obtain ⟨b, off, rfl, hbl, c1, c2⟩ := hA.prB hb k hlt
        obtain ⟨b', off', rfl, hbl', d1, d2⟩ := hB.prB hb k hlt2
        have i0 : (0 : Int) ≤ (k : Int) := by omega
        have i1 : (k : Int) < (l.length : Int) := by omega
        have i2 : (k : Int) < (m.length : Int) := by omega
        clear hA hB
        have hne := fun w => run_neq_pr (l[k]'hlt) (m[k]'hlt2) w
        have hgu := pr_guard
        go_wp2
        go_quiet (fail)
        clear hne hgu
        go_wp2
        · have hx : neP (l[k]'hlt) (m[k]'hlt2) = true := by assumption
          go_ret
          refine ⟨ret_bool ?_, bdrew hb _⟩
          symm
          rw [decide_eq_false_iff_not]
          rintro rfl
          simp [neP] at hx
        · have hx : neP (l[k]'hlt) (m[k]'hlt2) = false := by assumption
          go_roundw
          case rel =>
            refine ⟨k + 1, by omega, by go_num, bdrew hb _, ?_⟩
            show _ = _
            rw [List.take_succ_eq_append_getElem hlt, List.take_succ_eq_append_getElem hlt2, hn.out]
            simp [neP] at hx
            rw [hx]
          case measure => simp [intOf]; omega
      · go_wp2
        go_ret
        refine ⟨ret_bool ?_, hb⟩
        have := hn.out
        rw [List.take_of_length_le (by omega), List.take_of_length_le (by have := HL.out; omega)] at this
        rw [this, decide_eq_true rfl]
  · have hz : ((l.length : Int) != (m.length : Int)) = true := by simp; omega
    have HL := Lib.hid hlen
    clear hlen
    go_enter Tryz.func14, Tryz.ntmps14
    go_wp2
    go_ret
    refine ⟨ret_bool ?_, Below.refl _ _⟩
    symm
    rw [decide_eq_false_iff_not]
    rintro rfl
    exact HL.out rfl

/-- pairs as live entries -/
def aliveE (p : Pr) : Ent := ⟨p.key, p.val, false⟩

set_option maxRecDepth 100000 in
set_option maxHeartbeats 2000000 in
theorem refAlive_any (A : Option Addr) (l : List Pr) (c : Nat) (w : World) (hA : Sl w A (l.flatMap Pr.cells)) (hn : l.length ≤ 65536) :
    Calls Tryz.prog 63 #[.slice A l.length c] w (GivesOwn 68 3 l.length ((l.map aliveE).flatMap Ent.cells) w) := by
  obtain ⟨i0, hi, hz0, hz1, hz2⟩ := info_parts ent_info
  go_enter Tryz.func63, Tryz.ntmps63
  go_wp2
  go_loopw [3, 4] (fun v i wr => ∃ k : Nat, k ≤ l.length ∧ i = .int .i64 k ∧ Below w.heap.size w wr ∧ ∃ A' c', v = .slice A' k c' ∧
      wr.ownsRow w.heap.size 68 3 (.slice A' k c') k (((l.take k).map aliveE).flatMap Ent.cells)) (fun _ i _ => l.length - (intOf i).toNat)
  case atStart => exact ⟨0, Nat.zero_le _, rfl, Below.refl _ _, none, 0, rfl, World.ownsRow_nil _ _ _ _⟩
  case round =>
    obtain ⟨k, hk, rfl, hb, A', c', rfl, hown⟩ := hrel
    by_cases hlt : k < l.length
    · obtain ⟨b, off, rfl, hbl, c1, c2⟩ := hA.prB hb k hlt
      have hki : (0 : Int) ≤ (k : Int) := by omega
      have hki2 : (k : Int) < (l.length : Int) := by omega
      have hbs := hb.size
      clear hbl
      go_wp2_with fail
      go_region_law (
        (refine step_append_sl _ (by rfl) _ _ _ (by rfl) w.heap.size 68 i0 _ 3 24 Tryz.underlying56 hi hz0 hz1 hz2 rfl (by omega) (.slice A' k c') k _ (by rfl) ((hown.alloc _).drew) _ 1 _ (aliveE (l[k]'hlt)).cells (by rfl) ((Blk.new wr _ _).sl 0 _ (by intro j u hu; simpa [Ent.cells, aliveE] using hu)) (by rfl) (by simp [Ent.cells, Value.oneCell']) (by unfold maxLen; omega) (by omega) (by simp; omega) ?_; intro v2 w2 hown2 hg2; obtain ⟨A2, q2, rfl, hle2, hmx2⟩ := own_form hown2))
      all_goals
        go_wp2
        have hb2 : Below w.heap.size w w2 := ((hb.alloc hbs _).drew).grown hg2 (by simp; omega) (fun k hk => (hown.lt k hk).1)
        go_roundw
        case rel =>
          refine ⟨k + 1, by omega, by go_num, hb2, A2, q2, rfl, ?_⟩
          rw [List.take_succ_eq_append_getElem hlt, List.map_append, List.flatMap_append]
          simpa using hown2
        case measure => simp [intOf]; omega
    · have hkn := Lib.hid (show k = l.length by omega)
      go_wp2
      go_ret
      have h := hown
      rw [hkn.out, List.take_length] at h
      refine ⟨A', c', by rw [hkn.out]; rfl, h, hb⟩




set_option maxRecDepth 100000 in
set_option maxHeartbeats 2000000 in
theorem runOf_any (A : Option Addr) (l : List Pr) (c : Nat) (w : World) (hA : Sl w A (l.flatMap Pr.cells)) (hn : l.length ≤ 1000000) :
    Calls Tryz.prog 23 #[.slice A l.length c] w (GivesRun 68 (buildL (l.map aliveE)) (buildE (l.map aliveE)) w) := by
  obtain ⟨i0, hi, hz0, hz1, hz2⟩ := info_parts ent_info
  have hmk := fun W => run_make_rowN (P := Tryz.prog) 56 68 i0 _ Tryz.underlying56 hi hz0 l.length (by rw [hz2]; omega) (by omega) W
  rw [hz1] at hmk
  clear hi hz0 hz1 hz2
  obtain ⟨W0, hW0⟩ : ∃ W0, (w.alloc (.cells #[.slice none 0 0] 58)).alloc (.cells (madeCells (Value.agg #[Value.int IntKind.i64 0, Value.int IntKind.i64 0, Value.bool false]).cells (l.length * 3)) 68) = W0 := ⟨_, rfl⟩
  have hb0 : Below w.heap.size w W0 := by rw [← hW0]; exact ((Below.refl _ _).alloc (Nat.le_refl _) _).alloc (by simp) _
  have hr0 : Blk W0 w.heap.size 58 #[.slice none 0 0] := by rw [← hW0]; exact (Blk.new w _ _).alloc _
  have hg0 : Blk W0 (w.heap.size + 1) 68 (madeCells (Value.agg #[Value.int IntKind.i64 0, Value.int IntKind.i64 0, Value.bool false]).cells (l.length * 3)) := by
    rw [← hW0]; have := Blk.new (w.alloc (.cells #[.slice none 0 0] 58)) 68 (madeCells (Value.agg #[Value.int IntKind.i64 0, Value.int IntKind.i64 0, Value.bool false]).cells (l.length * 3))
    rwa [World.size_alloc] at this
  go_enter Tryz.func23, Tryz.ntmps23
  go_wp2
  have hW0' : (w.alloc (.cells #[.slice none 0 0] 58)).alloc (.cells (madeCells #[Value.int IntKind.i64 0, Value.int IntKind.i64 0, Value.bool false] (l.length * 3)) 68) = W0 := hW0
  rw [hW0']
  clear hW0 hW0' hmk
  go_loopw [12] (fun i wr => ∃ k : Nat, k ≤ l.length ∧ i = .int .i64 k ∧ Mod (fun b => b = w.heap.size + 1) W0 wr ∧
      ∃ cur : Array Value, Hid (cur.size = l.length * 3) ∧ Blk wr (w.heap.size + 1) 68 cur ∧ Hid (cur.toList.take (k * 3) = ((l.take k).map aliveE).flatMap Ent.cells))
      (fun i _ => l.length - (intOf i).toNat)
  case atStart => exact ⟨0, Nat.zero_le _, rfl, Mod.refl _ _, _, by show _ = _; simp [madeCells, Value.cells], hg0, by show _ = _; simp⟩
  case round =>
    obtain ⟨k, hk, rfl, hm, cur, hcs, hcur, hct⟩ := hrel
    have hb : Below w.heap.size w wr := hb0.trans (hm.below hb0.size (by intro k h; omega))
    have hs : w.heap.size + 1 < wr.heap.size := hcur.lt
    by_cases hlt : k < l.length
    · obtain ⟨b, off, rfl, hbl, c1, c2⟩ := hA.prB hb k hlt
      have hsz := hcs.out
      obtain ⟨v1, e1⟩ : ∃ v, wr.cell? ⟨w.heap.size + 1, k * 3, none⟩ = some v := ⟨_, (hcur.cell _).trans (Array.getElem?_eq_getElem (show k * 3 < cur.size by omega))⟩
      obtain ⟨v2, e2⟩ : ∃ v, wr.cell? ⟨w.heap.size + 1, k * 3 + 1, none⟩ = some v := ⟨_, (hcur.cell _).trans (Array.getElem?_eq_getElem (show k * 3 + 1 < cur.size by omega))⟩
      obtain ⟨v3, e3⟩ : ∃ v, wr.cell? ⟨w.heap.size + 1, k * 3 + 2, none⟩ = some v := ⟨_, (hcur.cell _).trans (Array.getElem?_eq_getElem (show k * 3 + 2 < cur.size by omega))⟩
      have f1 := hcur.frozen (k * 3)
      have f2 := hcur.frozen (k * 3 + 1)
      have f3 := hcur.frozen (k * 3 + 2)
      have hki : (0 : Int) ≤ (k : Int) := by omega
      have hki2 : (k : Int) < (l.length : Int) := by omega
      clear hsz hA hbl
      go_wp2
      go_roundw
      case rel =>
        refine ⟨k + 1, by omega, by go_num, (((hm.setCell (p := ⟨w.heap.size + 1, k * 3, none⟩) rfl _).setCell (p := ⟨w.heap.size + 1, k * 3 + 1, none⟩) rfl _).setCell (p := ⟨w.heap.size + 1, k * 3 + 2, none⟩) rfl _).alloc _, _, ?_, (((hcur.set_ (k * 3) _).set_ (k * 3 + 1) _).set_ (k * 3 + 2) _).alloc _, ?_⟩
        · show _ = _; simpa using hcs.out
        · show _ = _
          rw [take_set3 _ _ _ (by rw [hcs.out]; omega) hct.out, List.take_succ_eq_append_getElem hlt, List.map_append, List.flatMap_append]
          simp [Ent.cells, aliveE]
      case measure => simp [intOf]; omega
    · have hkn := Lib.hid (show k = l.length by omega)
      have hr4 : Blk wr w.heap.size 58 #[.slice none 0 0] := hr0.mod hm (by omega)
      have hct' := hct.out
      rw [hkn.out, List.take_length] at hct'
      have hsl : Sl wr (some ⟨w.heap.size + 1, 0, none⟩) ((l.map aliveE).flatMap Ent.cells) := hcur.sl 0 _ (by
        intro j u hu
        rw [← hct', List.getElem?_take] at hu
        split at hu
        · simpa using hu
        · cases hu)
      have HCT := Lib.hid hct'
      clear hct'
      go_wp2_with fail
      refine (build_n _ (l.map aliveE) l.length l.length _ (by simp) hsl (by simp; omega)).mono ?_
      rintro e w2 ⟨A2, c2, rfl, hown2, hb2⟩
      have hb02 : Below w.heap.size w w2 := bext hb hb2
      have hr2 : Blk w2 w.heap.size 58 #[.slice none 0 0] := hr4.below hb2 (by omega)
      have hc2 : w2.cell? ⟨w.heap.size, 0, none⟩ = some (.slice none 0 0) := hr2.cell 0
      have hf2 : w2.frozen? ⟨w.heap.size, 0, none⟩ = false := hr2.frozen 0
      go_wp2
      refine bodyPost_ret (v := .tuple #[.agg #[.slice A2 (buildL (l.map aliveE)).length c2], .int .i64 (buildE (l.map aliveE))]) (by simp [results, Tryz.results23, go_sem, hc2]) rfl ?_
      refine ⟨A2, c2, rfl, own_far (own_mono hown2 (by omega)) ?_ _, hb02.setCell (p := ⟨w.heap.size, 0, none⟩) (by simp) _⟩
      intro e
      have := (hown2.lt _ e).1
      dsimp only at this
      omega
end Go.Proofs.YtolclahkfmplfaaGreat

/- Contracts of the references of chapter 25: shelfmarkref25 Check, Both, All, Alive, and of shelfmarkref24 Plain, Alive. -/
namespace Go.Proofs.YtolclahkfmplfaaGreat
open Go Go.RowKit
set_option maxRecDepth 100000

theorem bothE_nil_right (a : List Ent) : bothE a [] = a := by cases a <;> simp [bothE]
theorem bothE_lt {x y : Ent} {a b : List Ent} (h : x.key < y.key) : bothE (x :: a) (y :: b) = x :: bothE a (y :: b) := by rw [bothE, if_pos h]
theorem bothE_eq {x y : Ent} {a b : List Ent} (h : x.key = y.key) : bothE (x :: a) (y :: b) = x :: bothE a b := by rw [bothE, if_neg (by omega), if_pos h]
theorem bothE_gt2 {x y : Ent} {a b : List Ent} (h : y.key < x.key) : bothE (x :: a) (y :: b) = y :: bothE (x :: a) b := by rw [bothE, if_neg (by omega), if_neg (by omega)]
theorem drop_at {l : List Ent} {i : Nat} (h : i < l.length) : l.drop i = l[i] :: l.drop (i + 1) := (List.getElem_cons_drop h).symm

set_option maxHeartbeats 4000000 in
theorem both_any (A B : Option Addr) (a b : List Ent) (c d : Nat) (w : World) (hA : Sl w A (a.flatMap Ent.cells)) (hB : Sl w B (b.flatMap Ent.cells)) (hl : a.length + b.length ≤ 1099511627776) :
    Calls Tryz.prog 104 #[.slice A a.length c, .slice B b.length d] w (GivesOwn 68 3 (bothE a b).length ((bothE a b).flatMap Ent.cells) w) := by
  obtain ⟨te0, hI⟩ := info_parts ent_info
  have HI := Lib.hid hI
  clear hI
  go_enter Tryz.func104, Tryz.ntmps104
  go_wp2
  go_loopw [5, 6, 7] (fun v x y wr => ∃ (o : List Ent) (i k : Nat) (Ao : Option Addr) (co : Nat), v = .slice Ao o.length co ∧ x = .int .i64 i ∧ y = .int .i64 k ∧ i ≤ a.length ∧ k ≤ b.length ∧
      wr.ownsRow w.heap.size 68 3 (.slice Ao o.length co) o.length (o.flatMap Ent.cells) ∧ Below w.heap.size w wr ∧ Hid (o ++ bothE (a.drop i) (b.drop k) = bothE a b)) (fun _ x y _ => a.length + b.length - (intOf x).toNat - (intOf y).toNat)
  case atStart => exact ⟨[], 0, 0, none, 0, rfl, rfl, rfl, Nat.zero_le _, Nat.zero_le _, World.ownsRow_nil _ _ _ _, Below.refl _ _, by show _ = _; simp⟩
  case round =>
    obtain ⟨o, i, k, Ao, co, rfl, rfl, rfl, hi, hk, hown, hb, hrest⟩ := hrel
    have hol : o.length ≤ 1099511627776 := by
      have h1 := congrArg List.length hrest.out
      have h2 := bothE_len _ a b (Nat.le_refl _)
      rw [List.length_append] at h1
      omega
    have HOW := Lib.hid hown
    have HB := Lib.hid hb
    have hbs := hb.size
    have i0 : (0 : Int) ≤ (i : Int) := by omega
    have k0 : (0 : Int) ≤ (k : Int) := by omega
    have HA := Lib.hid hA
    have HBB := Lib.hid hB
    clear hown hb
    by_cases hka : k = b.length
    · have HKA := Lib.hid hka
      have hkz : ((k : Int) == (b.length : Int)) = true := by simp [hka]
      have hkd : decide ((k : Int) < (b.length : Int)) = false := decide_eq_false (by omega)
      have hkd2 : decide (k < b.length) = false := decide_eq_false (by omega)
      by_cases hia : i < a.length
      · have hid : decide ((i : Int) < (a.length : Int)) = true := decide_eq_true (by omega)
        have hid2 : decide (i < a.length) = true := decide_eq_true hia
        have i1 : (i : Int) < (a.length : Int) := by omega
        obtain ⟨ba, oa, rfl, hbl, e1, e2, e3⟩ := HA.out.entB HB.out i hia
        obtain ⟨x, hx⟩ : ∃ x, a[i]'hia = x := ⟨_, rfl⟩
        rw [hx] at e1 e2 e3
        have heq : Hid ((o ++ [x]) ++ bothE (a.drop (i + 1)) (b.drop k) = bothE a b) := by
          show _ = _
          have h := hrest.out
          rw [List.drop_eq_nil_of_le (by omega : b.length ≤ k), bothE_nil_right, drop_at hia, hx] at h
          rw [List.drop_eq_nil_of_le (by omega : b.length ≤ k), bothE_nil_right, ← h]
          simp
        clear hka hx hA hB
        go_wp2_with fail
        go_quiet (fail)
        go_wp2_with fail
        go_quiet (fail)
        go_wp2_with (at_builtin; refine wpList_append_sl _ rfl (.tmp 60) (.tmp 65) _ rfl w.heap.size 68 te0 _ 3 24 Tryz.underlying56 HI.out.1 HI.out.2.1 HI.out.2.2.1 HI.out.2.2.2 rfl (by omega) (.slice Ao o.length co) o.length _ rfl (HOW.out.alloc _) _ 1 _ [.int .i64 x.key, .int .i64 x.val, .bool x.dead] rfl (by exact sl_new1 _ _ _) rfl (by simp [Value.oneCell']) (by unfold maxLen; omega) (by omega) (by simp; omega) ?_; intro v2 w2 hown2 hg2; obtain ⟨A2, q2, rfl, hle2, hmx2⟩ := own_form hown2; have HO2 := Lib.hid hown2; clear hown2)
        go_roundw
        case rel =>
          refine ⟨o ++ [x], i + 1, k, A2, q2, by simp, by go_num, by go_num, by omega, by omega, ?_, ?_, heq⟩
          · simpa [Ent.cells] using HO2.out
          · exact ((by first | exact HB.out | exact bdrew HB.out _ | exact bdrew (bdrew HB.out _) _ : Below w.heap.size w _).alloc (by simp; omega) _).grown hg2 (by simp; omega) (fun q hq => (HOW.out.lt q hq).1)
        case measure => simp [intOf]; omega
      · have hid : decide ((i : Int) < (a.length : Int)) = false := decide_eq_false (by omega)
        have HIA := Lib.hid (show i = a.length by omega)
        have heq : Hid (o = bothE a b) := by
          show _ = _
          have h := hrest.out
          rw [List.drop_eq_nil_of_le (by omega : b.length ≤ k), List.drop_eq_nil_of_le (by omega : a.length ≤ i), bothE_nil_right, List.append_nil] at h
          exact h
        clear hka
        go_wp2
        go_ret
        exact ⟨Ao, co, by rw [heq.out]; rfl, by rw [← heq.out]; exact HOW.out, HB.out⟩
    · have hkb : k < b.length := by omega
      have hkz : ((k : Int) == (b.length : Int)) = false := beq_eq_false_iff_ne.2 (by omega)
      have hkd : decide ((k : Int) < (b.length : Int)) = true := decide_eq_true (by omega)
      have hkd2 : decide (k < b.length) = true := decide_eq_true hkb
      have k1 : (k : Int) < (b.length : Int) := by omega
      obtain ⟨bb, ob, rfl, hbl2, f1, f2, f3⟩ := HBB.out.entB HB.out k hkb
      obtain ⟨y, hy⟩ : ∃ y, b[k]'hkb = y := ⟨_, rfl⟩
      rw [hy] at f1 f2 f3
      by_cases hia : i < a.length
      · have hid : decide ((i : Int) < (a.length : Int)) = true := decide_eq_true (by omega)
        have hid2 : decide (i < a.length) = true := decide_eq_true hia
        have i1 : (i : Int) < (a.length : Int) := by omega
        obtain ⟨ba, oa, rfl, hbl, e1, e2, e3⟩ := HA.out.entB HB.out i hia
        obtain ⟨x, hx⟩ : ∃ x, a[i]'hia = x := ⟨_, rfl⟩
        rw [hx] at e1 e2 e3
        have hr := hrest.out
        rw [drop_at hia, drop_at hkb, hx, hy] at hr
        have hda := drop_at hia
        have hdb := drop_at hkb
        rw [hx] at hda
        rw [hy] at hdb
        rcases Int.lt_trichotomy x.key y.key with hlt | hkeq | hgt
        · have hc1 : decide (x.key ≤ y.key) = true := decide_eq_true (by omega)
          have hc2 : (x.key == y.key) = false := beq_eq_false_iff_ne.2 (by omega)
          have heq : Hid ((o ++ [x]) ++ bothE (a.drop (i + 1)) (b.drop k) = bothE a b) := by
            show _ = _
            rw [bothE_lt hlt] at hr
            rw [hdb, ← hr]; simp
          clear hr hda hdb hx hy hA hB hka hlt
          go_wp2_with fail
          go_quiet (fail)
          go_wp2_with fail
          go_quiet (fail)
          go_wp2_with (at_builtin; refine wpList_append_sl _ rfl (.tmp 60) (.tmp 65) _ rfl w.heap.size 68 te0 _ 3 24 Tryz.underlying56 HI.out.1 HI.out.2.1 HI.out.2.2.1 HI.out.2.2.2 rfl (by omega) (.slice Ao o.length co) o.length _ rfl (HOW.out.alloc _) _ 1 _ [.int .i64 x.key, .int .i64 x.val, .bool x.dead] rfl (by exact sl_new1 _ _ _) rfl (by simp [Value.oneCell']) (by unfold maxLen; omega) (by omega) (by simp; omega) ?_; intro v2 w2 hown2 hg2; obtain ⟨A2, q2, rfl, hle2, hmx2⟩ := own_form hown2; have HO2 := Lib.hid hown2; clear hown2)
          go_roundw
          case rel =>
            refine ⟨o ++ [x], i + 1, k, A2, q2, by simp, by go_num, by go_num, by omega, by omega, ?_, ?_, heq⟩
            · simpa [Ent.cells] using HO2.out
            · exact ((by first | exact HB.out | exact bdrew HB.out _ | exact bdrew (bdrew HB.out _) _ : Below w.heap.size w _).alloc (by simp; omega) _).grown hg2 (by simp; omega) (fun q hq => (HOW.out.lt q hq).1)
          case measure => simp [intOf]; omega
        · have hc1 : decide (x.key ≤ y.key) = true := decide_eq_true (by omega)
          have hc2 : (x.key == y.key) = true := beq_iff_eq.2 hkeq
          have heq : Hid ((o ++ [x]) ++ bothE (a.drop (i + 1)) (b.drop (k + 1)) = bothE a b) := by
            show _ = _
            rw [bothE_eq hkeq] at hr
            rw [← hr]; simp
          clear hr hda hdb hx hy hA hB hka hkeq
          go_wp2_with fail
          go_quiet (fail)
          go_wp2_with fail
          go_quiet (fail)
          go_wp2_with (at_builtin; refine wpList_append_sl _ rfl (.tmp 60) (.tmp 65) _ rfl w.heap.size 68 te0 _ 3 24 Tryz.underlying56 HI.out.1 HI.out.2.1 HI.out.2.2.1 HI.out.2.2.2 rfl (by omega) (.slice Ao o.length co) o.length _ rfl (HOW.out.alloc _) _ 1 _ [.int .i64 x.key, .int .i64 x.val, .bool x.dead] rfl (by exact sl_new1 _ _ _) rfl (by simp [Value.oneCell']) (by unfold maxLen; omega) (by omega) (by simp; omega) ?_; intro v2 w2 hown2 hg2; obtain ⟨A2, q2, rfl, hle2, hmx2⟩ := own_form hown2; have HO2 := Lib.hid hown2; clear hown2)
          go_roundw
          case rel =>
            refine ⟨o ++ [x], i + 1, k + 1, A2, q2, by simp, by go_num, by go_num, by omega, by omega, ?_, ?_, heq⟩
            · simpa [Ent.cells] using HO2.out
            · exact ((by first | exact HB.out | exact bdrew HB.out _ | exact bdrew (bdrew HB.out _) _ : Below w.heap.size w _).alloc (by simp; omega) _).grown hg2 (by simp; omega) (fun q hq => (HOW.out.lt q hq).1)
          case measure => simp [intOf]; omega
        · have hc1 : decide (x.key ≤ y.key) = false := decide_eq_false (by omega)
          have heq : Hid ((o ++ [y]) ++ bothE (a.drop i) (b.drop (k + 1)) = bothE a b) := by
            show _ = _
            rw [bothE_gt2 hgt] at hr
            rw [hda, ← hr]; simp
          clear hr hda hdb hx hy hA hB hka hgt
          go_wp2_with fail
          go_quiet (fail)
          go_wp2_with (at_builtin; refine wpList_append_sl _ rfl (.tmp 69) (.tmp 74) _ rfl w.heap.size 68 te0 _ 3 24 Tryz.underlying56 HI.out.1 HI.out.2.1 HI.out.2.2.1 HI.out.2.2.2 rfl (by omega) (.slice Ao o.length co) o.length _ rfl (HOW.out.alloc _) _ 1 _ [.int .i64 y.key, .int .i64 y.val, .bool y.dead] rfl (by exact sl_new1 _ _ _) rfl (by simp [Value.oneCell']) (by unfold maxLen; omega) (by omega) (by simp; omega) ?_; intro v2 w2 hown2 hg2; obtain ⟨A2, q2, rfl, hle2, hmx2⟩ := own_form hown2; have HO2 := Lib.hid hown2; clear hown2)
          go_roundw
          case rel =>
            refine ⟨o ++ [y], i, k + 1, A2, q2, by simp, by go_num, by go_num, by omega, by omega, ?_, ?_, heq⟩
            · simpa [Ent.cells] using HO2.out
            · exact ((by first | exact HB.out | exact bdrew HB.out _ | exact bdrew (bdrew HB.out _) _ : Below w.heap.size w _).alloc (by simp; omega) _).grown hg2 (by simp; omega) (fun q hq => (HOW.out.lt q hq).1)
          case measure => simp [intOf]; omega
      · have hid : decide ((i : Int) < (a.length : Int)) = false := decide_eq_false (by omega)
        have hid2 : decide (i < a.length) = false := decide_eq_false hia
        have heq : Hid ((o ++ [y]) ++ bothE (a.drop i) (b.drop (k + 1)) = bothE a b) := by
          show _ = _
          have hr := hrest.out
          rw [List.drop_eq_nil_of_le (by omega : a.length ≤ i), drop_at hkb, hy, bothE] at hr
          rw [List.drop_eq_nil_of_le (by omega : a.length ≤ i), bothE, ← hr]; simp
        clear hy hA hB hka
        go_wp2_with fail
        go_quiet (fail)
        go_wp2_with (at_builtin; refine wpList_append_sl _ rfl (.tmp 69) (.tmp 74) _ rfl w.heap.size 68 te0 _ 3 24 Tryz.underlying56 HI.out.1 HI.out.2.1 HI.out.2.2.1 HI.out.2.2.2 rfl (by omega) (.slice Ao o.length co) o.length _ rfl (HOW.out.alloc _) _ 1 _ [.int .i64 y.key, .int .i64 y.val, .bool y.dead] rfl (by exact sl_new1 _ _ _) rfl (by simp [Value.oneCell']) (by unfold maxLen; omega) (by omega) (by simp; omega) ?_; intro v2 w2 hown2 hg2; obtain ⟨A2, q2, rfl, hle2, hmx2⟩ := own_form hown2; have HO2 := Lib.hid hown2; clear hown2)
        go_roundw
        case rel =>
          refine ⟨o ++ [y], i, k + 1, A2, q2, by simp, by go_num, by go_num, by omega, by omega, ?_, ?_, heq⟩
          · simpa [Ent.cells] using HO2.out
          · exact ((by first | exact HB.out | exact bdrew HB.out _ | exact bdrew (bdrew HB.out _) _ : Below w.heap.size w _).alloc (by simp; omega) _).grown hg2 (by simp; omega) (fun q hq => (HOW.out.lt q hq).1)
        case measure => simp [intOf]; omega

/-! ### the live ones -/
def liveE (l : List Ent) : List Ent := l.filter (fun e => !e.dead)
def plainE (l : List Ent) : List Pr := (liveE l).map (fun e => ⟨e.key, e.val⟩)
theorem plain_alive (l : List Ent) : (plainE l).map aliveE = liveE l := by
  unfold plainE
  rw [List.map_map]
  have : ∀ e ∈ liveE l, (aliveE ∘ fun e : Ent => (⟨e.key, e.val⟩ : Pr)) e = e := by
    intro e he
    have hd : e.dead = false := by simpa using (List.mem_filter.1 he).2
    obtain ⟨k, v, d⟩ := e
    dsimp at hd
    subst hd
    rfl
  rw [List.map_congr_left this, List.map_id']
theorem live_succ {l : List Ent} {k : Nat} (h : k < l.length) : liveE (l.take (k + 1)) = liveE (l.take k) ++ (if (l[k]'h).dead = true then [] else [l[k]'h]) := by
  unfold liveE
  rw [List.take_succ_eq_append_getElem h, List.filter_append]
  cases hd : (l[k]'h).dead <;> simp [List.filter, hd]
theorem live_le (l : List Ent) : (liveE l).length ≤ l.length := List.length_filter_le _ _
theorem live_ris {l : List Ent} (h : RisE l) : RisE (liveE l) := List.Pairwise.filter _ h
theorem pair_info2 : (Tryz.prog.info? 50).map (fun i => (i.zero, i.size, i.bytes)) = some (some (.agg #[.int .i64 0, .int .i64 0]), 2, 16) := by kernel_rfl

set_option maxHeartbeats 2000000 in
theorem refPlain_any (A : Option Addr) (l : List Ent) (c : Nat) (w : World) (hA : Sl w A (l.flatMap Ent.cells)) (hn : l.length ≤ 1099511627776) :
    Calls Tryz.prog 84 #[.slice A l.length c] w (GivesOwn 50 2 (plainE l).length ((plainE l).flatMap Pr.cells) w) := by
  obtain ⟨i0, hi, hz0, hz1, hz2⟩ := info_parts pair_info2
  go_enter Tryz.func84, Tryz.ntmps84
  go_wp2
  go_loopw [3, 4] (fun v i wr => ∃ (k : Nat) (o : List Pr) (A' : Option Addr) (c' : Nat), k ≤ l.length ∧ i = .int .i64 k ∧ Below w.heap.size w wr ∧ v = .slice A' o.length c' ∧
      wr.ownsRow w.heap.size 50 2 (.slice A' o.length c') o.length (o.flatMap Pr.cells) ∧ Hid (o = plainE (l.take k))) (fun _ i _ => l.length - (intOf i).toNat)
  case atStart => exact ⟨0, [], none, 0, Nat.zero_le _, rfl, Below.refl _ _, rfl, World.ownsRow_nil _ _ _ _, rfl⟩
  case round =>
    obtain ⟨k, o, A', c', hk, rfl, hb, rfl, hown, ho⟩ := hrel
    have hbs := hb.size
    by_cases hlt : k < l.length
    · obtain ⟨b, off, rfl, hbl, c1, c2, c3⟩ := hA.entB hb k hlt
      have hol : o.length ≤ k := by rw [ho.out]; unfold plainE; rw [List.length_map]; have := live_le (l.take k); simp at this; omega
      have hki : (0 : Int) ≤ (k : Int) := by omega
      have hki2 : (k : Int) < (l.length : Int) := by omega
      have hs := live_succ hlt
      obtain ⟨x, hx⟩ : ∃ x, l[k]'hlt = x := ⟨_, rfl⟩
      rw [hx] at c1 c2 c3 hs
      cases hd : x.dead
      · rw [hd] at c3 hs
        have hnew : Hid (o ++ [⟨x.key, x.val⟩] = plainE (l.take (k + 1))) := by
          show _ = _
          rw [ho.out]; unfold plainE; rw [hs]; simp
        have HOW := Lib.hid hown
        clear hd hs hx
        go_wp2_with fail
        go_region_law (
          (refine step_append_sl _ (by rfl) _ _ _ (by rfl) w.heap.size 50 i0 _ 2 16 Tryz.underlying30 hi hz0 hz1 hz2 rfl (by omega) (.slice A' o.length c') o.length _ (by rfl) ((HOW.out.alloc _).drew) _ 1 _ [.int .i64 x.key, .int .i64 x.val] (by rfl) ((Blk.new wr _ _).sl 0 _ (by intro j u hu; simpa using hu)) (by rfl) (by simp [Value.oneCell']) (by unfold maxLen; omega) (by omega) (by simp; omega) ?_; intro v2 w2 hown2 hg2; obtain ⟨A2, z2, rfl, hle2, hmx2⟩ := own_form hown2; have HO2 := Lib.hid hown2; clear hown2))
        all_goals
          go_wp2
          go_roundw
          case rel =>
            exact ⟨k + 1, o ++ [⟨x.key, x.val⟩], A2, z2, by omega, by go_num, ((hb.alloc hbs _).drew).grown hg2 (by simp; omega) (fun k hk => (HOW.out.lt k hk).1), by simp, by simpa [Pr.cells] using HO2.out, hnew⟩
          case measure => simp [intOf]; omega
      · rw [hd] at c3 hs
        have hnew : Hid (o = plainE (l.take (k + 1))) := by
          show _ = _
          rw [ho.out]; unfold plainE; rw [hs]; simp
        clear hd hs hx
        go_wp2_with fail
        go_roundw
        case rel => exact ⟨k + 1, o, A', c', by omega, by go_num, hb, rfl, hown, hnew⟩
        case measure => simp [intOf]; omega
    · have hkn := Lib.hid (show k = l.length by omega)
      go_wp2
      go_ret
      have h := hown
      have ho2 := ho.out
      rw [hkn.out, List.take_of_length_le (Nat.le_refl _)] at ho2
      rw [ho2] at h ⊢
      exact ⟨A', c', rfl, h, hb⟩


/-! ### runs -/
def chkAllE : List (List Ent) → Int
  | [] => 0
  | r :: rs => if chkE r = 0 then chkAllE rs else chkE r
theorem chkAll_ok : ∀ {rs : List (List Ent)}, chkAllE rs = 0 → ∀ r ∈ rs, chkE r = 0
  | [], _, _, h => by simp at h
  | r0 :: rs, h, r, hr => by
    rw [chkAllE] at h
    by_cases h0 : chkE r0 = 0
    · rw [if_pos h0] at h
      rcases List.mem_cons.1 hr with rfl | hr
      · exact h0
      · exact chkAll_ok h r hr
    · rw [if_neg h0] at h; exact absurd h h0
theorem chkAll_drop {rs : List (List Ent)} {k : Nat} (h : k < rs.length) : chkAllE (rs.drop k) = if chkE (rs[k]'h) = 0 then chkAllE (rs.drop (k + 1)) else chkE (rs[k]'h) := by
  rw [← List.getElem_cons_drop h, chkAllE]
/-- runs in memory -/
structure RunsAt (w : World) (B : Option Addr) (Rs : List Rm) : Prop where
  sl : Sl w B (Rs.map Rm.v)
  ok : ∀ r ∈ Rs, r.Ok w
theorem Rm.Ok.below {w w' : World} {r : Rm} (h : r.Ok w) (hb : Below w.heap.size w w') : r.Ok w' := ⟨h.sl.below hb, h.lc, h.c⟩
theorem RunsAt.below {w w' : World} {B : Option Addr} {Rs : List Rm} (h : RunsAt w B Rs) (hb : Below w.heap.size w w') : RunsAt w' B Rs := ⟨h.sl.below hb, fun r hr => (h.ok r hr).below hb⟩


theorem all_take_len : ∀ (rs : List (List Ent)) (k T : Nat), (rs.map List.length).sum ≤ T → (allE (rs.take k)).length + ((rs.drop k).map List.length).sum ≤ T := by
  intro rs k T h
  have h1 := fold_len (rs.take k) []
  have h2 : ((rs.take k).map List.length).sum + ((rs.drop k).map List.length).sum = (rs.map List.length).sum := by
    rw [← List.sum_append, ← List.map_append, List.take_append_drop]
  unfold allE
  rw [List.length_nil, Nat.zero_add] at h1
  omega
theorem all_succ {rs : List (List Ent)} {k : Nat} (h : k < rs.length) : allE (rs.take (k + 1)) = bothE (allE (rs.take k)) (rs[k]'h) := by
  unfold allE
  rw [List.take_succ_eq_append_getElem h, List.foldl_append]; rfl
/-- what the runs are, in order -/
def inS (Rs : List Rm) : List (List Ent) := Rs.map (fun r => inL r.l)
theorem inS_sum (Rs : List Rm) : ((inS Rs).map List.length).sum = (Rs.map (fun r => r.l.length)).sum := by
  unfold inS
  rw [List.map_map]
  congr 1
  exact List.map_congr_left (fun r _ => inL_length r.l)

set_option maxHeartbeats 1000000 in
theorem refAll_any (B : Option Addr) (Rs : List Rm) (c T : Nat) (w : World) (hB : RunsAt w B Rs) (hl : Rs.length ≤ 4611686018427387903) (hsm : ∀ r ∈ Rs, r.l.length ≤ 65536) (hT : (Rs.map (fun r => r.l.length)).sum ≤ T) (hT2 : T ≤ 1099511627776) :
    Calls Tryz.prog 85 #[.slice B Rs.length c] w (GivesOwn 68 3 (allE (inS Rs)).length ((allE (inS Rs)).flatMap Ent.cells) w) := by
  rw [← inS_sum] at hT
  have HT := Lib.hid hT
  clear hT
  go_enter Tryz.func85, Tryz.ntmps85
  go_wp2
  go_loopw [3, 4] (fun v i wr => ∃ (k : Nat) (o : List Ent) (A' : Option Addr) (c' : Nat), k ≤ Rs.length ∧ i = .int .i64 k ∧ Below w.heap.size w wr ∧ v = .slice A' o.length c' ∧
      wr.ownsRow w.heap.size 68 3 (.slice A' o.length c') o.length (o.flatMap Ent.cells) ∧ Hid (o = allE ((inS Rs).take k))) (fun _ i _ => Rs.length - (intOf i).toNat)
  case atStart => exact ⟨0, [], none, 0, Nat.zero_le _, rfl, Below.refl _ _, rfl, World.ownsRow_nil _ _ _ _, rfl⟩
  case round =>
    obtain ⟨k, o, A', c', hk, rfl, hb, rfl, hown, ho⟩ := hrel
    by_cases hlt : k < Rs.length
    · have hlt2 : k < (inS Rs).length := by unfold inS; simpa using hlt
      obtain ⟨b, off, rfl, hbl, cp⟩ := hB.sl.oneB hb k hlt
      have hok := (hB.ok _ (List.getElem_mem hlt)).below hb
      have hs := all_succ hlt2
      have hlen := all_take_len (inS Rs) k T HT.out
      rw [List.drop_eq_getElem_cons hlt2, List.map_cons, List.sum_cons] at hlen
      have hgi : (inS Rs)[k]'hlt2 = inL (Rs[k]'hlt).l := by simp [inS]
      have hsmr := hsm _ (List.getElem_mem hlt)
      rw [hgi] at hs hlen
      rw [← ho.out] at hlen hs
      obtain ⟨r, hr⟩ : ∃ r, Rs[k]'hlt = r := ⟨_, rfl⟩
      rw [hr] at cp hok hs hlen hsmr
      obtain ⟨l, A, cl⟩ := r
      have cp1 : wr.cell? ⟨b, off + k, none⟩ = some (.slice A l.length cl) := cp
      dsimp only at hs hlen hsmr
      rw [inL_length] at hlen
      have hki : (0 : Int) ≤ (k : Int) := by omega
      have hki2 : (k : Int) < (Rs.length : Int) := by omega
      have HS := Lib.hid hs
      have HOK := Lib.hid hok.sl
      have HL := Lib.hid (inL_length l)
      have HOW := Lib.hid hown
      have hol : o.length + l.length ≤ 1099511627776 := by omega
      clear cp hr hs hok hgi hlen hown
      go_wp2_with fail
      refine (refIn_any A l cl _ HOK.out hsmr).mono ?_
      rintro e w1 ⟨A1, c1, rfl, ho1, hb1⟩
      have hs1 := own_sl ho1
      have HSO := Lib.hid ((own_sl HOW.out).below hb1)
      clear ho1
      go_wp2_with fail
      rw [← HL.out]
      refine (both_any A' A1 o (inL l) c' c1 _ HSO.out hs1 (by rw [HL.out]; omega)).mono ?_
      rw [← HS.out]
      rintro e w2 ⟨A2, c2, rfl, ho2, hb2⟩
      have HO2 := Lib.hid (own_mono (B' := w.heap.size) ho2 (Nat.le_trans hb.size hb1.size))
      clear ho2
      go_wp2
      go_roundw
      case rel => exact ⟨k + 1, _, A2, c2, by omega, by go_num, bext hb (bext hb1 hb2), rfl, HO2.out, rfl⟩
      case measure => simp [intOf]; omega
    · have hkn : k = Rs.length := by omega
      have h : o = allE (inS Rs) := by rw [ho.out, List.take_of_length_le (by unfold inS; simp; omega)]
      have H := Lib.hid h
      clear h hkn
      go_wp2
      go_ret
      exact ⟨A', c', by rw [H.out]; rfl, by rw [← H.out]; exact hown, hb⟩

def mrgE (Rs : List Rm) : Int := if chkAllE (Rs.map Rm.l) = 0 then (if (allE (inS Rs)).length > 65536 then 4 else 0) else chkAllE (Rs.map Rm.l)
def bareE (bare : Bool) (l : List Ent) : List Ent := if bare = true then liveE l else l
def mrgL (Rs : List Rm) (bare : Bool) : List Ent := if mrgE Rs = 0 then laid (bareE bare (allE (inS Rs))) else []
theorem chk_len {l : List Ent} (h : chkE l = 0) : l.length ≤ 65536 := (chk_ok h).2.2
end Go.Proofs.YtolclahkfmplfaaGreat
