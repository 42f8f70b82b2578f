/- Ix G4 G5 G6 Ga Gu G9: texts of the claim, in this order. -/
import Derived.Test.YthdcllnmnmemdaaRs9
import Derived.Test.YthdcllnmnmemdaaRs7
import Derived.Test.YthdcllnmnmemdaaRs5
import Derived.Lib.BitFns
import Derived.Lib.Strings
import Derived.Lib.Slices
import Derived.Lib.Small
import Derived.Test.YthdcllnmnmemdaaRs8
import Derived.Maps.OwnSet
import Derived.Maps.Views
import Derived.Maps.AppendAt
import Derived.Test.YthdcllnmnmemdaaRs1
import Derived.Deep.RegionHeld3
/- Plain facts: the chapter's examples of levels. No program in sight. -/
namespace Go.Proofs.Ythdcllnmnmemdaa
open Go
theorem lay_in {l m : List Ent} (h : laid l = m) : inL m = l := by rw [← h, in_laid]
theorem mrg2 {a b la lb m : List Ent} {bare : Bool} (ha : laid la = a) (hb : laid lb = b) (ca : buildE la = 0) (cb : buildE lb = 0) (hs : la.length + lb.length ≤ 100) (hm : bareE bare (allE [la, lb]) = m) : mL [a, b] bare = laid m := by
  have h : mE [a, b] = 0 := by
    refine mE_of (chkAll_zero ?_) ?_
    · intro r hr
      simp only [List.mem_cons, List.not_mem_nil, or_false] at hr
      rcases hr with rfl | rfl
      · rw [← ha]; exact build_chk ca
      · rw [← hb]; exact build_chk cb
    · rw [← ha, ← hb]
      simp [laid_length]
      omega
  rw [mL_is bare h]
  simp only [List.map, lay_in ha, lay_in hb]
  rw [hm]
theorem kranks1 : ranks 1 = [0] := by unfold ranks; rw [show inord 1 0 = [0] by simp [inord]]; decide
theorem kranks0 : ranks 0 = [] := by unfold ranks; rw [show inord 0 0 = [] by simp [inord]]; decide
theorem lay0 : laid [] = [] := by unfold laid; rw [show ([] : List Ent).length = 0 from rfl, kranks0]; rfl
theorem lay1 (a : Ent) : laid [a] = [a] := by unfold laid; rw [show [a].length = 1 from rfl, kranks1]; rfl
theorem lay2 (a b : Ent) : laid [a, b] = [b, a] := by unfold laid; rw [show [a, b].length = 2 from rfl, kranks2]; rfl
theorem up_1 : up 1 = 0 := by decide
theorem up_2 : up 2 = 1 := by decide +kernel
theorem in_0 : inL [] = [] := lay_in lay0
theorem in_1 (a : Ent) : inL [a] = [a] := lay_in (lay1 a)
theorem in_2 (a b : Ent) : inL [b, a] = [a, b] := lay_in (lay2 a b)
theorem may_nil : May [] := (may_iff []).1 (by decide +kernel)

theorem climb_1 {rs rs' : Lv} {y : Ent} {n n1 n2 : Int} {m : List Ent} (hd : y.dead = false ∨ rs ≠ []) (h : lev rs 0 ≠ []) (h1 : IntKind.u64.wrap (n + 1) = n1) (hm : mergeR rs [y] = m) (hn : IntKind.u64.wrap (n1 + m.length) = n2) (hr : rs.set 0 [] = rs') : climbE rs n y = climb rs' m n2 := by
  unfold climbE
  rw [if_neg (by rintro ⟨h1, h2⟩; rcases hd with h3 | h3 <;> first | exact h3 h2 | (rw [h3] at h1; cases h1)), h1]
  have hu : up [y].length = 0 := up_1
  rw [climb_up (by simp) (by rw [hu]; exact h), hm, hn, hu, hr]
theorem climb_0 {rs : Lv} {y : Ent} {n n1 : Int} (hd : y.dead = false ∨ rs ≠ []) (h : lev rs 0 = []) (h1 : IntKind.u64.wrap (n + 1) = n1) : climbE rs n y = (rs, [y], n1) := by
  unfold climbE
  rw [if_neg (by rintro ⟨h1, h2⟩; rcases hd with h3 | h3 <;> first | exact h3 h2 | (rw [h3] at h1; cases h1)), h1]
  exact climb_end (.inr (by rw [show up [y].length = 0 from up_1]; exact h))
theorem add_is {rs a L : Lv} {r : List Ent} {y : Ent} {n n' : Int} (h : addE rs y = 0) (hc : climbE rs n y = (a, r, n')) (hL : cutL (standL a r) = L) (hf : fat L = false) : addL rs n y = L ∧ addN rs n y = n' := by
  have h1 : letL rs n y = L := by unfold letL; rw [hc]; exact hL
  have h2 : letN rs n y = n' := by unfold letN; rw [hc]
  unfold addL addN slimL slimN
  rw [if_pos h, if_pos h, h1, h2, hf]
  exact ⟨rfl, rfl⟩
theorem fat_small {L : Lv} (h : tot L ≤ 2) : fat L = false := decide_eq_false (by omega)
def x5 : Ent := ⟨5, 1, false⟩
def x6 : Ent := ⟨6, 2, false⟩
def x7 : Ent := ⟨7, 3, false⟩
def k5 : Ent := ⟨5, 0, true⟩
theorem al1E : addE [] x5 = 0 := addE_zero.2 ⟨may_nil, by decide, by decide⟩
theorem al1 : addL [] 0 x5 = [[x5]] ∧ addN [] 0 x5 = 1 :=
  add_is al1E (climb_0 (.inl rfl) (lev_nil _) (by decide)) (by decide +kernel) (fat_small (by decide))
theorem al1M : May [[x5]] := by have h := (add_may al1E 0).1; rwa [al1.1] at h
theorem al2E : addE [[x5]] x7 = 0 := addE_zero.2 ⟨al1M, by decide, by decide⟩
theorem al2 : addL [[x5]] 1 x7 = [[], [x7, x5]] ∧ addN [[x5]] 1 x7 = 4 := by
  refine add_is al2E ?_ (a := [[]]) (r := [x7, x5]) (by decide +kernel) (fat_small (by decide))
  have hm : mergeR [[x5]] [x7] = [x7, x5] := by
    unfold mergeR
    rw [show up [x7].length = 0 from up_1]
    exact (mrg2 (lay1 x7) (lay1 x5) (by decide) (by decide) (by decide) (m := [x5, x7]) (by simp [allE, bothE, bareE, liveE, x5, x7, heldB])).trans (lay2 x5 x7)
  rw [climb_1 (.inl rfl) (by decide) (by decide : IntKind.u64.wrap ((1 : Int) + 1) = 2) hm (by decide : IntKind.u64.wrap ((2 : Int) + ([x7, x5] : List Ent).length) = 4) (rfl : [[x5]].set 0 [] = [[]])]
  exact climb_end (.inr (by rw [show up [x7, x5].length = 1 from up_2]; rfl))
theorem al2M : May [[], [x7, x5]] := by have h := (add_may al2E 1).1; rwa [al2.1] at h
theorem al3E : addE [[], [x7, x5]] x6 = 0 := addE_zero.2 ⟨al2M, by decide, by decide⟩
theorem al3 : addL [[], [x7, x5]] 4 x6 = [[x6], [x7, x5]] ∧ addN [[], [x7, x5]] 4 x6 = 5 := by
  refine add_is al3E (climb_0 (.inl rfl) rfl (by decide)) (by decide +kernel) ?_
  have h : allL [[x6], [x7, x5]] = [x5, x6, x7] := by
    unfold allL
    simp only [List.map, in_1, in_2]
    simp [allE, bothE, liveE, x5, x6, x7]
  unfold fat
  rw [h]
  decide
theorem al3M : May [[x6], [x7, x5]] := by have h := (add_may al3E 4).1; rwa [al3.1] at h
theorem al4E : addE [[x6], [x7, x5]] k5 = 0 := addE_zero.2 ⟨al3M, by decide, by decide⟩
theorem al4 : addL [[x6], [x7, x5]] 5 k5 = [[], [x7, x6]] ∧ addN [[x6], [x7, x5]] 5 k5 = 10 := by
  refine add_is al4E ?_ (a := [[], []]) (r := [x7, x6]) (by decide +kernel) (fat_small (by decide))
  have hm : mergeR [[x6], [x7, x5]] [k5] = [x6, k5] := by
    unfold mergeR
    rw [show up [k5].length = 0 from up_1]
    exact (mrg2 (lay1 k5) (lay1 x6) (by decide) (by decide) (by decide) (m := [k5, x6]) (by simp [allE, bothE, bareE, x5, x6, x7, k5, heldB])).trans (lay2 k5 x6)
  have hm2 : mergeR [[], [x7, x5]] [x6, k5] = [x7, x6] := by
    unfold mergeR
    rw [show up [x6, k5].length = 1 from up_2]
    exact (mrg2 (lay2 k5 x6) (lay2 x5 x7) (by decide) (by decide) (by decide) (m := [x6, x7]) (by simp [allE, bothE, bareE, liveE, x5, x6, x7, k5, heldB])).trans (lay2 x6 x7)
  rw [climb_1 (rs' := [[], [x7, x5]]) (.inr (by simp)) (by decide) (by decide : IntKind.u64.wrap ((5 : Int) + 1) = 6) hm (by decide : IntKind.u64.wrap ((6 : Int) + ([x6, k5] : List Ent).length) = 8) (rfl : [[x6], [x7, x5]].set 0 [] = [[], [x7, x5]])]
  have hu : up [x6, k5].length = 1 := up_2
  rw [climb_up (by simp) (by rw [hu]; decide), hm2, hu, show IntKind.u64.wrap ((8 : Int) + ([x7, x6] : List Ent).length) = 10 by decide]
  exact climb_end (.inr (by rw [show up [x7, x6].length = 1 from up_2]; rfl))
end Go.Proofs.Ythdcllnmnmemdaa

/- Contracts: the level of a run: math/bits.Len, frac.Up, rungs.level; the document's Log and Ceil. -/
namespace Go.Proofs.Ythdcllnmnmemdaa
open Go Go.RowKit

theorem bitLen_log (x : Nat) (h : x < 2 ^ 64) : Lib.bitLen x = if x = 0 then 0 else Nat.log2 x + 1 := by
  induction x using Nat.strongRecOn with
  | _ x ih =>
    by_cases h0 : x = 0
    · subst h0; rfl
    · rw [Lib.bitLen_half x h0 h, ih (x / 2) (by omega) (by omega), if_neg h0, Nat.log2_def x]
      by_cases h2 : 2 ≤ x
      · rw [if_pos h2, if_neg (by omega)]; omega
      · obtain rfl : x = 1 := by omega
        simp
theorem bitLen_up {n : Nat} (h : n ≤ 65536) : Lib.bitLen (n - 1) = up n := by
  rw [bitLen_log _ (by omega)]
  unfold up
  by_cases h1 : n ≤ 1
  · rw [if_pos h1, if_pos (by omega)]
  · rw [if_neg h1, if_neg (by omega)]

set_option maxRecDepth 100000 in
set_option maxHeartbeats 4000000 in
theorem len64_any (x : Int) (w : World) (h0 : 0 ≤ x) (h1 : x ≤ 65535) : Calls Try.prog 65 #[.int .u64 x] w fun e w' => e = .returned (.int .i64 (Lib.bitLen x.toNat)) ∧ w' = w := by
  have g1 : ¬ 4294967296 ≤ x := by omega
  have g2 : ¬ 65536 ≤ x := by omega
  by_cases h2 : x ≤ 255
  · have g3 : ¬ 256 ≤ x := by omega
    go_enter Try.func65, Try.ntmps65
    go_wp2
    go_ret
    refine ⟨congrArg Ending.returned (congrArg (Value.int IntKind.i64) ?_), rfl⟩
    rw [Lib.len8_of x h0 h2]
    have l := Lib.bitLen_le8' x h0 h2
    unfold wrap64
    omega
  · have g3 : 256 ≤ x := by omega
    have g4 : 0 ≤ x / 256 := by omega
    have g5 : x / 256 ≤ 255 := by omega
    go_enter Try.func65, Try.ntmps65
    go_wp2
    go_ret
    refine ⟨congrArg Ending.returned (congrArg (Value.int IntKind.i64) ?_), rfl⟩
    rw [Lib.len8_of (x / 256) g4 g5]
    have e : (x / 256).toNat = x.toNat / 256 := by omega
    have l := Lib.bitLen_le8' (x / 256) g4 g5
    have s := Lib.bitLen_shift8 x.toNat (by omega) (by omega)
    rw [e] at l ⊢
    unfold wrap64
    omega
theorem len_any (x : Int) (w : World) (h0 : 0 ≤ x) (h1 : x ≤ 65535) : Calls Try.prog 36 #[.int .u64 x] w fun e w' => e = .returned (.int .i64 (Lib.bitLen x.toNat)) ∧ w' = w := by
  go_enter Try.func36, Try.ntmps36
  go_wp2_with fail
  refine (len64_any x _ h0 h1).mono ?_
  rintro e w' ⟨rfl, rfl⟩
  go_wp2
  go_ret
  exact ⟨rfl, rfl⟩
/-- the logarithm upward -/
theorem up_any (n : Nat) (w : World) (h0 : 0 < n) (h1 : n ≤ 65536) : Calls Try.prog 16 #[.int .i64 (n : Nat)] w fun e w' => e = .returned (.tuple #[.int .i64 (up n : Nat), .int .i64 0]) ∧ w' = w := by
  have g : decide ((n : Int) < 1) = false := decide_eq_false (by omega)
  have e1 : IntKind.i64.wrap ((n : Int) - 1) = ((n - 1 : Nat) : Int) := (IntWalk.i64_in _ (by omega)).trans (by omega)
  have e2 : ((n - 1 : Nat) : Int).toNat = n - 1 := by omega
  have e3 := bitLen_up h1
  obtain ⟨m, hm⟩ : ∃ m, n - 1 = m := ⟨_, rfl⟩
  rw [hm] at e1 e2 e3
  have hm0 : (0 : Int) ≤ (m : Int) := by omega
  have hm1 : (m : Int) ≤ 65535 := by omega
  have HM := Lib.hid hm
  have H2 := Lib.hid e2
  have H3 := Lib.hid e3
  clear hm e2 e3
  go_enter Try.func16, Try.ntmps16
  go_wp2_with fail
  refine (len_any (m : Int) _ hm0 hm1).mono ?_
  rw [H2.out, H3.out]
  rintro e w' ⟨rfl, rfl⟩
  go_wp2
  refine bodyPost_ret (v := .tuple #[.int .i64 (up n : Nat), .int .i64 0]) (by simp [results, Try.results16, go_sem]) rfl ?_
  exact ⟨rfl, rfl⟩
/-- the level of a run that has entries -/
theorem level_any (A : Option Addr) (n c : Nat) (w : World) (h0 : 0 < n) (h1 : n ≤ 65536) : Calls Try.prog 39 #[.agg #[.slice A n c]] w fun e w' => e = .returned (.int .i64 (up n : Nat)) ∧ Below w.heap.size w w' := by
  have hb : Below w.heap.size w (w.alloc (.cells #[.slice A n c] 49)) := (Below.refl _ _).alloc (Nat.le_refl _) _
  go_enter Try.func39, Try.ntmps39
  go_wp2_with fail
  refine (up_any n _ h0 h1).mono ?_
  rintro e w' ⟨rfl, rfl⟩
  go_wp2
  go_ret
  exact ⟨rfl, hb⟩
theorem log2_half {n : Nat} (h : 2 ≤ n) : Nat.log2 n = Nat.log2 (n / 2) + 1 := by rw [Nat.log2_def n, if_pos h]
theorem log2_le {n : Nat} (h : n ≤ 65536) : Nat.log2 n ≤ 16 := by
  by_cases h0 : n = 0
  · subst h0; decide
  · have := Nat.log2_self_le h0
    rcases Nat.lt_or_ge 16 (Nat.log2 n) with h1 | h1
    · have h2 : 2 ^ 17 ≤ 2 ^ Nat.log2 n := Nat.pow_le_pow_right (by omega) h1
      omega
    · exact h1
set_option maxHeartbeats 1000000 in
theorem log_any (n : Nat) (w : World) (h1 : n ≤ 65536) : Calls Try.prog 78 #[.int .i64 (n : Nat)] w fun e w' => e = .returned (.int .i64 (Nat.log2 n : Nat)) ∧ w' = w := by
  have hl := log2_le h1
  go_enter Try.func78, Try.ntmps78
  go_wp2
  go_loopw [0, 3] (fun x i wr => ∃ m k : Nat, x = .int .i64 (m : Nat) ∧ i = .int .i64 (k : Nat) ∧ m ≤ n ∧ k ≤ 16 ∧ Hid (k + Nat.log2 m = Nat.log2 n) ∧ wr = w) (fun x _ _ => (intOf x).toNat)
  case atStart => exact ⟨n, 0, rfl, rfl, Nat.le_refl _, Nat.zero_le _, by show _ = _; omega, rfl⟩
  case round =>
    obtain ⟨m, k, rfl, rfl, hm, hk, hs, rfl⟩ := hrel
    by_cases h2 : 2 ≤ m
    · have g : decide ((m : Int) > 1) = true := decide_eq_true (by omega)
      have hh := log2_half h2
      have hk2 : k + 1 ≤ 16 := by have := hs.out; omega
      have HH := Lib.hid hh
      clear hh
      go_wp2
      go_roundw
      case rel => exact ⟨m / 2, k + 1, by go_num, by go_num, by omega, hk2, by show _ = _; have := hs.out; have := HH.out; omega, by first | rfl | trivial⟩
      case measure => simp [intOf]; omega
    · have g : decide ((m : Int) > 1) = false := decide_eq_false (by omega)
      have h0 : Nat.log2 m = 0 := by
        rw [Nat.log2_def, if_neg h2]
      have e0 : k = Nat.log2 n := by have := hs.out; omega
      have H0 := Lib.hid e0
      clear h0 e0
      go_wp2
      go_ret
      exact ⟨ret_int (by rw [H0.out]), by first | rfl | trivial⟩
theorem ceil_any (n : Nat) (w : World) (h0 : 0 < n) (h1 : n ≤ 65536) : Calls Try.prog 49 #[.int .i64 (n : Nat)] w fun e w' => e = .returned (.int .i64 (up n : Nat)) ∧ w' = w := by
  by_cases h2 : n = 1
  · subst h2
    go_enter Try.func49, Try.ntmps49
    go_wp2
    go_ret
    exact ⟨rfl, rfl⟩
  · have g : decide ((n : Int) = 1) = false := decide_eq_false (by omega)
    have g2 : ((n : Int) == 1) = false := by simpa using g
    have e1 : IntKind.i64.wrap ((n : Int) - 1) = ((n - 1 : Nat) : Int) := (IntWalk.i64_in _ (by omega)).trans (by omega)
    have e3 : up n = Nat.log2 (n - 1) + 1 := by unfold up; rw [if_neg (by omega)]
    obtain ⟨m, hm⟩ : ∃ m, n - 1 = m := ⟨_, rfl⟩
    rw [hm] at e1 e3
    have hm1 : m ≤ 65536 := by omega
    have hl := log2_le hm1
    have H3 := Lib.hid e3
    have HM := Lib.hid hm
    clear e3 hm
    go_enter Try.func49, Try.ntmps49
    go_wp2_with fail
    refine (log_any m _ hm1).mono ?_
    rintro e w' ⟨rfl, rfl⟩
    go_wp2
    go_ret
    exact ⟨ret_int (by rw [H3.out]; go_num), rfl⟩
end Go.Proofs.Ythdcllnmnmemdaa

/- Contracts: which levels may be (rungs.Check), how many entries there are. -/
namespace Go.Proofs.Ythdcllnmnmemdaa
open Go Go.RowKit
set_option maxRecDepth 100000

/-- levels, their runs in memory -/
abbrev lvs (Rs : List Rm) : Lv := Rs.map Rm.l
theorem lvs_len (Rs : List Rm) : (lvs Rs).length = Rs.length := by simp
theorem lvs_lev {Rs : List Rm} {k : Nat} (h : k < Rs.length) : lev (lvs Rs) k = (Rs[k]'h).l := by rw [lev_lt (by simpa using h)]; simp
theorem tot_take_succ {rs : Lv} {k : Nat} (h : k < rs.length) : tot (rs.take (k + 1)) = tot (rs.take k) + (lev rs k).length := by
  rw [List.take_succ_eq_append_getElem h, tot_snoc, lev_lt h]
theorem tot_take_le : ∀ (rs : Lv) (k : Nat), tot (rs.take k) ≤ tot rs
  | [], k => by simp [tot]
  | l :: rs, 0 => by simp [tot]
  | l :: rs, k + 1 => by
    have := tot_take_le rs k
    rw [List.take_succ_cons, tot_cons, tot_cons]; omega
theorem tot_rs (Rs : List Rm) : tot (lvs Rs) = (Rs.map (fun r => r.l.length)).sum := by unfold tot lvs; rw [List.map_map]; rfl
theorem live_dead {l : List Ent} (h : chkE l = 0) : lvN l = l.length ↔ deadE l = false := by
  unfold lvN deadE
  rw [if_pos h]
  constructor
  · intro he
    rw [List.any_eq_false]
    intro e hm
    have h1 : liveE l = l := by
      unfold liveE at he ⊢
      exact List.filter_eq_self.2 (fun a ha => by
        have := List.length_filter_eq_length_iff.1 he a ha
        exact this)
    rw [← h1] at hm
    have := (List.mem_filter.1 hm).2
    simpa using this
  · intro hd
    rw [List.any_eq_false] at hd
    unfold liveE
    congr 1
    exact List.filter_eq_self.2 (fun a ha => by simpa using hd a ha)
theorem chkR_bad {rs : Lv} {k : Nat} (h : k < rs.length) (hb : okLv rs.length k (lev rs k) = false) : chkR rs = 8 := by
  unfold chkR
  rw [if_neg]
  unfold mayB allOk
  intro hx
  simp only [Bool.and_eq_true, decide_eq_true_eq] at hx
  rw [hx.1.2 k h] at hb
  cases hb
theorem chkR_end {rs : Lv} (h : endOk rs = false) : chkR rs = 8 := by unfold chkR mayB; rw [h]; rfl
theorem chkR_all {rs : Lv} (h : endOk rs = true) (h2 : allOk rs rs.length = true) : chkR rs = if 65536 < tot rs then 8 else 0 := by
  unfold chkR mayB
  rw [h, h2]
  by_cases h3 : 65536 < tot rs
  · rw [if_pos h3, if_neg (by simp; omega)]
  · rw [if_neg h3, if_pos (by simp; omega)]
set_option maxHeartbeats 1000000 in
theorem entries_any (B : Option Addr) (Rs : List Rm) (c : Nat) (n : Int) (w : World) (hB : RunsAt w B Rs) (hT : tot (lvs Rs) ≤ 1000000) (hl : Rs.length ≤ 1000000) :
    Calls Try.prog 20 #[.agg #[.slice B Rs.length c, .int .u64 n]] w fun r w' => r = .returned (.int .i64 (tot (lvs Rs) : Nat)) ∧ Below w.heap.size w w' := by
  have hb0 : Below w.heap.size w (w.alloc (.cells #[.slice B Rs.length c, .int .u64 n] 25)) := (Below.refl _ _).alloc (Nat.le_refl _) _
  go_enter Try.func20, Try.ntmps20
  go_wp2
  go_loopw [2, 8] (fun a i wr => ∃ k m : Nat, k ≤ Rs.length ∧ i = .int .i64 k ∧ a = .int .i64 m ∧ Below w.heap.size w wr ∧ m ≤ 1000000 ∧ Hid (m = tot ((lvs Rs).take k))) (fun _ i _ => Rs.length - (intOf i).toNat)
  case atStart => exact ⟨0, 0, Nat.zero_le _, rfl, rfl, hb0, by omega, rfl⟩
  case round =>
    obtain ⟨k, m, hk, rfl, rfl, hb, hm, hd⟩ := hrel
    by_cases hlt : k < Rs.length
    · obtain ⟨b, off, rfl, hbl, cp⟩ := hB.sl.oneB hb k hlt
      have hs := tot_take_succ (rs := lvs Rs) (k := k) (by simpa using hlt)
      rw [lvs_lev hlt] at hs
      have hle := tot_take_le (lvs Rs) (k + 1)
      obtain ⟨r, hr⟩ : ∃ r, Rs[k]'hlt = r := ⟨_, rfl⟩
      rw [hr] at cp hs
      obtain ⟨l, A, cl⟩ := r
      have cp1 : wr.cell? ⟨b, off + k, none⟩ = some (.slice A l.length cl) := cp
      dsimp only at hs
      have hki : (0 : Int) ≤ (k : Int) := by omega
      have hki2 : (k : Int) < (Rs.length : Int) := by omega
      have hsum : m + l.length ≤ 1000000 := by have := hd.out; omega
      have hw : IntKind.i64.wrap ((m : Int) + (l.length : Int)) = ((m + l.length : Nat) : Int) := (IntWalk.i64_in _ (by omega)).trans (by omega)
      have HS := Lib.hid hs
      have hbs := hb.size
      clear cp hr hs hle
      go_wp2
      go_roundw
      case rel => exact ⟨k + 1, m + l.length, by omega, by go_num, by go_num, hb.alloc hbs _, hsum, by show _ = _; rw [HS.out, hd.out]⟩
      case measure => simp [intOf]; omega
    · have hkn : k = Rs.length := by omega
      have hf : m = tot (lvs Rs) := by rw [hd.out, List.take_of_length_le (by simp; omega)]
      have HF := Lib.hid hf
      clear hkn hf
      go_wp2
      go_ret
      exact ⟨ret_int (by rw [HF.out]), hb⟩
end Go.Proofs.Ythdcllnmnmemdaa

/- Levels in memory of the call's own; the map of levels that hold a run. No walk. -/
namespace Go.Proofs.Ythdcllnmnmemdaa
open Go Go.RowKit Go.Maps
set_option maxRecDepth 100000

/-! ### levels in memory of the call's own -/
structure OwnRs (w : World) (B0 : Nat) (B : Option Addr) (c : Nat) (Rs : List Rm) : Prop where
  row : w.ownsRow B0 49 1 (.slice B Rs.length c) Rs.length (Rs.map Rm.v)
  ent : ∀ r ∈ Rs, w.ownsRow B0 27 3 r.v r.l.length (r.l.flatMap Ent.cells)
theorem own_rm {w : World} {B0 : Nat} {r : Rm} (h : w.ownsRow B0 27 3 r.v r.l.length (r.l.flatMap Ent.cells)) : r.Ok w := by
  obtain ⟨A3, c3, h3, h4, h5⟩ := own_form h
  obtain ⟨ls, As, cs⟩ := r
  have h6 : As = A3 ∧ cs = c3 := by simpa [Rm.v] using h3
  obtain ⟨rfl, rfl⟩ := h6
  exact ⟨own_sl h, h4, h5⟩
theorem OwnRs.runsAt {w : World} {B0 : Nat} {B : Option Addr} {c : Nat} {Rs : List Rm} (h : OwnRs w B0 B c Rs) : RunsAt w B Rs := ⟨own_sl h.row, fun r hr => own_rm (h.ent r hr)⟩
theorem OwnRs.le {w : World} {B0 : Nat} {B : Option Addr} {c : Nat} {Rs : List Rm} (h : OwnRs w B0 B c Rs) : Rs.length ≤ c ∧ c ≤ maxLen := by
  obtain ⟨A', c', h4, h5, h6⟩ := own_form h.row
  obtain ⟨rfl, rfl⟩ : B = A' ∧ c = c' := by simpa using h4
  exact ⟨h5, h6⟩
theorem OwnRs.nil (w : World) (B0 : Nat) : OwnRs w B0 none 0 [] := ⟨World.ownsRow_nil _ _ _ _, by simp⟩
theorem OwnRs.below {w w' : World} {B0 : Nat} {B : Option Addr} {c : Nat} {Rs : List Rm} (h : OwnRs w B0 B c Rs) (hb : Below w.heap.size w w') : OwnRs w' B0 B c Rs :=
  ⟨own_below h.row hb, fun r hr => own_below (h.ent r hr) hb⟩
theorem OwnRs.mono {w : World} {B0 B1 : Nat} {B : Option Addr} {c : Nat} {Rs : List Rm} (h : OwnRs w B0 B c Rs) (hb : B1 ≤ B0) : OwnRs w B1 B c Rs :=
  ⟨own_mono h.row hb, fun r hr => own_mono (h.ent r hr) hb⟩
theorem OwnRs.alloc {w : World} {B0 : Nat} {B : Option Addr} {c : Nat} {Rs : List Rm} (h : OwnRs w B0 B c Rs) (o : Obj) : OwnRs (w.alloc o) B0 B c Rs :=
  ⟨h.row.alloc o, fun r hr => (h.ent r hr).alloc o⟩
theorem OwnRs.drew {w : World} {B0 : Nat} {B : Option Addr} {c : Nat} {Rs : List Rm} (h : OwnRs w B0 B c Rs) : OwnRs w.drew B0 B c Rs := ⟨h.row, h.ent⟩
/-- a store into a block of another type -/
theorem own_setT {w : World} {g B s n : Nat} {t e : TypeId} {cur : Array Value} {v : Value} {xs : List Value} (hB : Blk w g t cur) (h : w.ownsRow B e s v n xs) (hne : e ≠ t) (i : Nat) (u : Value) : (w.setCell ⟨g, i, none⟩ u).ownsRow B e s v n xs := by
  refine ⟨h.1, ?_⟩
  rcases h.2 with h2 | ⟨k, cap, cur', rfl, hg, hh, r⟩
  · exact .inl h2
  · refine .inr ⟨k, cap, cur', rfl, hg, ?_, r⟩
    refine (Below.heap_setCell w ⟨g, i, none⟩ u k ?_).trans hh
    intro e2
    have e3 : k = g := e2
    subst e3
    have := hB.symm.trans hh
    simp at this
    exact hne this.2.symm
/-- a store into a block that is not this row's, or of another type -/
theorem OwnRs.setT {w : World} {B0 g : Nat} {B : Option Addr} {c : Nat} {Rs : List Rm} {t : TypeId} {cur : Array Value} (h : OwnRs w B0 B c Rs) (hB : Blk w g t cur) (h1 : 49 ≠ t) (h2 : 27 ≠ t) (i : Nat) (u : Value) : OwnRs (w.setCell ⟨g, i, none⟩ u) B0 B c Rs :=
  ⟨own_setT hB h.row h1 i u, fun r hr => own_setT hB (h.ent r hr) h2 i u⟩
/-- a row of runs, of the call's own -/
abbrev RowAt (w : World) (B0 : Nat) (B : Option Addr) (c : Nat) (Rs : List Rm) : Prop := w.ownsRow B0 49 1 (.slice B Rs.length c) Rs.length (Rs.map Rm.v)
theorem RowAt.at {w : World} {B0 : Nat} {B : Option Addr} {c : Nat} {Rs : List Rm} (h : RowAt w B0 B c Rs) (hn : 0 < Rs.length) : ∃ g cur, B = some ⟨g, 0, none⟩ ∧ B0 ≤ g ∧ Blk w g 49 cur ∧ cur.size = c ∧ (∀ k (hk : k < Rs.length), w.cell? ⟨g, k, none⟩ = some (Rs[k]'hk).v) := by
  obtain ⟨g, cap, cur, hv, hg, hb, h1, h2, h3, h4⟩ := own_blk h hn
  obtain ⟨rfl, rfl⟩ : B = some ⟨g, 0, none⟩ ∧ c = cap := by simpa using hv
  refine ⟨g, cur, rfl, hg, hb, by simpa using h3, fun k hk => ?_⟩
  rw [hb.cell]
  have h5 : (Rs.map Rm.v)[k]? = some (Rs[k]'hk).v := by simp [hk]
  rw [← h4, List.getElem?_take, if_pos (by omega)] at h5
  simpa using h5
theorem OwnRs.at {w : World} {B0 : Nat} {B : Option Addr} {c : Nat} {Rs : List Rm} (h : OwnRs w B0 B c Rs) (hn : 0 < Rs.length) : ∃ g cur, B = some ⟨g, 0, none⟩ ∧ B0 ≤ g ∧ Blk w g 49 cur ∧ cur.size = c ∧ (∀ k (hk : k < Rs.length), w.cell? ⟨g, k, none⟩ = some (Rs[k]'hk).v) := RowAt.at h.row hn
theorem RowAt.set {w : World} {B0 g : Nat} {c : Nat} {Rs : List Rm} (h : RowAt w B0 (some ⟨g, 0, none⟩) c Rs) {k : Nat} (hk : k < Rs.length) (r : Rm) : RowAt (w.setCell ⟨g, k, none⟩ r.v) B0 (some ⟨g, 0, none⟩) c (Rs.set k r) := by
  obtain ⟨g', cap, cur, hv, hg, hb, h1, h2, h3, h4⟩ := own_blk h (by omega)
  obtain ⟨rfl, rfl⟩ : g = g' ∧ c = cap := by simpa using hv
  unfold RowAt
  rw [List.length_set]
  refine ⟨by simp, .inr ⟨g, c, cur.setIfInBounds k r.v, rfl, hg, hb.set_ k r.v, h1, h2, by simpa using h3, ?_⟩⟩
  rw [Array.toList_setIfInBounds, List.take_set, h4, List.map_set]
theorem RowAt.le {w : World} {B0 : Nat} {B : Option Addr} {c : Nat} {Rs : List Rm} (h : RowAt w B0 B c Rs) : Rs.length ≤ c ∧ c ≤ maxLen := by
  obtain ⟨A', c', h4, h5, h6⟩ := own_form h
  obtain ⟨rfl, rfl⟩ : B = A' ∧ c = c' := by simpa using h4
  exact ⟨h5, h6⟩
/-- a run is laid at a level -/
theorem OwnRs.set {w : World} {B0 g : Nat} {c : Nat} {Rs : List Rm} (h : OwnRs w B0 (some ⟨g, 0, none⟩) c Rs) {k : Nat} (hk : k < Rs.length) (r : Rm) (hr : w.ownsRow B0 27 3 r.v r.l.length (r.l.flatMap Ent.cells)) :
    OwnRs (w.setCell ⟨g, k, none⟩ r.v) B0 (some ⟨g, 0, none⟩) c (Rs.set k r) := by
  obtain ⟨g', cur, h1, _, hb, _⟩ := h.at (by omega)
  obtain rfl : g = g' := by simpa using h1
  refine ⟨RowAt.set h.row hk r, ?_⟩
  intro s hs
  refine own_setT hb ?_ (by decide) k _
  rcases List.mem_or_eq_of_mem_set hs with h5 | h5
  · exact h.ent s h5
  · rw [h5]; exact hr
/-- a run more, behind the others -/
theorem OwnRs.push {w w' : World} {B0 : Nat} {B A' : Option Addr} {c c' : Nat} {Rs : List Rm} (h : OwnRs w B0 B c Rs) (r : Rm) (hr : w.ownsRow B0 27 3 r.v r.l.length (r.l.flatMap Ent.cells))
    (ho : w'.ownsRow B0 49 1 (.slice A' (Rs.length + 1) c') (Rs.length + 1) (Rs.map Rm.v ++ [r.v])) (hg : w.grownBy w' (Value.slice B Rs.length c).ownBlock) : OwnRs w' B0 A' c' (Rs ++ [r]) := by
  refine ⟨?_, ?_⟩
  · rw [List.length_append, List.map_append]; exact ho
  · intro s hs
    refine own_grow hg h.row ?_ (by decide)
    rcases List.mem_append.1 hs with hs | hs
    · exact h.ent s hs
    · obtain rfl : s = r := by simpa using hs
      exact hr
theorem OwnRs.grown {w w' : World} {B0 : Nat} {B : Option Addr} {c : Nat} {Rs : List Rm} (h : OwnRs w B0 B c Rs) (hg : w.grownBy w' (Value.slice B Rs.length c).ownBlock) (hb : B0 ≤ w.heap.size) : Below B0 w w' :=
  (Below.refl _ _).grown hg (by omega) (fun q hq => (h.row.lt q hq).1)
/-- rows whose runs are among others' -/
theorem OwnRs.sub {w : World} {B0 : Nat} {B A : Option Addr} {c d : Nat} {Rs Ts : List Rm} (h : OwnRs w B0 B c Rs) (ho : w.ownsRow B0 49 1 (.slice A Ts.length d) Ts.length (Ts.map Rm.v)) (hs : ∀ t ∈ Ts, t = ⟨[], none, 0⟩ ∨ t ∈ Rs) : OwnRs w B0 A d Ts := by
  refine ⟨ho, fun t ht => ?_⟩
  rcases hs t ht with rfl | h1
  · exact World.ownsRow_nil _ _ _ _
  · exact h.ent t h1
theorem own_empty (w : World) (B0 : Nat) : w.ownsRow B0 27 3 (Rm.v ⟨[], none, 0⟩) 0 (([] : List Ent).flatMap Ent.cells) := World.ownsRow_nil _ _ _ _

/-- hands back levels, in memory of its own -/
def GivesLs (ls : Lv) (w : World) (r : Ending) (w' : World) : Prop := ∃ B c Rs, r = .returned (.slice B Rs.length c) ∧ lvs Rs = ls ∧ OwnRs w' w.heap.size B c Rs ∧ Below w.heap.size w w'
/-- .. and a ledger -/
def GivesRg (ls : Lv) (n : Int) (w : World) (r : Ending) (w' : World) : Prop := ∃ B c Rs, r = .returned (.agg #[.slice B Rs.length c, .int .u64 n]) ∧ lvs Rs = ls ∧ OwnRs w' w.heap.size B c Rs ∧ Below w.heap.size w w'
/-- .. and an error -/
def GivesRgE (ls : Lv) (n e : Int) (w : World) (r : Ending) (w' : World) : Prop := ∃ B c Rs, r = .returned (.tuple #[.agg #[.slice B Rs.length c, .int .u64 n], .int .i64 e]) ∧ lvs Rs = ls ∧ OwnRs w' w.heap.size B c Rs ∧ Below w.heap.size w w'
theorem rs_len {Rs : List Rm} {ls : Lv} (h : lvs Rs = ls) : Rs.length = ls.length := by rw [← h, lvs_len]
theorem lvs_set (Rs : List Rm) (k : Nat) (r : Rm) : lvs (Rs.set k r) = (lvs Rs).set k r.l := by unfold lvs; rw [List.map_set]
theorem lvs_append (Rs Ts : List Rm) : lvs (Rs ++ Ts) = lvs Rs ++ lvs Ts := by unfold lvs; rw [List.map_append]
theorem lvs_empty (Rs : List Rm) (r : Rm) : lvs (Rs ++ [r]) = lvs Rs ++ [r.l] := by rw [lvs_append]; rfl

/-! ### the map of levels that hold a run -/
def HeldAt (w : World) (b : Nat) (rs : Lv) : Prop := ∃ (n : Nat) (D : DataW Unit), w.ownsMap Try.prog 3 (plainElem (H := Unit) Try.prog 3) b n D ∧ n ≤ 1000000 ∧ Tidy D ∧ (∀ j : Nat, D.atKey (.int .i64 j) (.lit (.int .i64 0)) = .lit (.int .i64 (lev rs j).length)) ∧
  (∀ j : Nat, Maps.has D (.int .i64 j) = decide (lev rs j ≠ [])) ∧ Maps.size D = cnt rs
theorem HeldAt.below {w w' : World} {b : Nat} {rs : Lv} (h : HeldAt w b rs) (hb : Below w.heap.size w w') : HeldAt w' b rs := by
  obtain ⟨n, D, h1, h2⟩ := h
  refine ⟨n, D, ?_, h2⟩
  have hl := h1.lt
  obtain ⟨es, clock, h3, h4⟩ := h1
  exact ⟨es, clock, (hb.block b hl).trans h3, h4⟩
theorem HeldAt.lt {w : World} {b : Nat} {rs : Lv} (h : HeldAt w b rs) : b < w.heap.size := by obtain ⟨n, D, h1, _⟩ := h; exact h1.lt
theorem HeldAt.setCell {w : World} {b : Nat} {rs : Lv} (h : HeldAt w b rs) {a : Addr} (ha : b ≠ a.block) (u : Value) : HeldAt (w.setCell a u) b rs := by
  obtain ⟨n, D, h1, h2⟩ := h
  exact ⟨n, D, h1.setCell ha u, h2⟩
theorem HeldAt.alloc {w : World} {b : Nat} {rs : Lv} (h : HeldAt w b rs) (o : Obj) : HeldAt (w.alloc o) b rs := by
  obtain ⟨n, D, h1, h2⟩ := h
  exact ⟨n, D, h1.alloc o, h2⟩
theorem HeldAt.notCells {w : World} {b g : Nat} {rs : Lv} {t : TypeId} {cur : Array Value} (h : HeldAt w b rs) (hB : Blk w g t cur) : b ≠ g := by
  obtain ⟨n, D, ⟨es, clock, h3, _⟩, _⟩ := h
  rintro rfl
  have := hB.symm.trans h3
  simp at this
theorem lev_take' (rs : Lv) (k j : Nat) : lev (rs.take k) j = if j < k then lev rs j else [] := lev_take rs k j
theorem cnt_take {rs : Lv} {k : Nat} (h : k < rs.length) : cnt (rs.take (k + 1)) = cnt (rs.take k) + (if lev rs k ≠ [] then 1 else 0) := by
  unfold cnt
  rw [List.take_succ_eq_append_getElem h, List.countP_append, lev_lt h]
  by_cases e : rs[k] = [] <;> simp [e]
theorem key_lit (j : Nat) : WideAt.IsKeyLit (.int .i64 (j : Int)) := trivial
theorem key_ne {j k : Nat} (e : ¬ j = k) : Lit.int .i64 (j : Int) ≠ Lit.int .i64 (k : Int) := by
  intro h
  injection h with _ h2
  exact e (by exact_mod_cast h2)
theorem HeldAt.made {_w w' : World} {b : Nat} (h : w'.ownsMap Try.prog 3 (plainElem (H := Unit) Try.prog 3) b 0 (.map [])) : HeldAt w' b [] :=
  ⟨0, .map [], h, by omega, tidy_empty, fun j => by rw [lev_nil]; rfl, fun j => by rw [lev_nil]; rfl, rfl⟩
/-- a level that holds a run is noted -/
theorem held_put {D : DataW Unit} {rs : Lv} {k : Nat} (hk : k < rs.length) (hne : lev rs k ≠ []) (hT : Tidy D) (h1 : ∀ j : Nat, D.atKey (.int .i64 j) (.lit (.int .i64 0)) = .lit (.int .i64 (lev (rs.take k) j).length))
    (h2 : ∀ j : Nat, Maps.has D (.int .i64 j) = decide (lev (rs.take k) j ≠ [])) (h3 : Maps.size D = cnt (rs.take k)) :
    Tidy (D.put (.int .i64 (k : Int)) (.lit (.int .i64 (lev rs k).length))) ∧ (∀ j : Nat, (D.put (.int .i64 (k : Int)) (.lit (.int .i64 (lev rs k).length))).atKey (.int .i64 j) (.lit (.int .i64 0)) = .lit (.int .i64 (lev (rs.take (k + 1)) j).length)) ∧
    (∀ j : Nat, Maps.has (D.put (.int .i64 (k : Int)) (.lit (.int .i64 (lev rs k).length))) (.int .i64 j) = decide (lev (rs.take (k + 1)) j ≠ [])) ∧ Maps.size (D.put (.int .i64 (k : Int)) (.lit (.int .i64 (lev rs k).length))) = cnt (rs.take (k + 1)) := by
  have hno : Maps.has D (.int .i64 (k : Int)) = false := by rw [h2, lev_take, if_neg (by omega)]; rfl
  refine ⟨hT.put (key_lit k) _, fun j => ?_, fun j => ?_, ?_⟩
  · by_cases e : j = k
    · subst e
      rw [atKey_put_same hT.isMap (key_lit j), lev_take, if_pos (by omega)]
    · rw [atKey_put_other (key_ne e), h1, lev_take, lev_take]
      by_cases e2 : j < k
      · rw [if_pos e2, if_pos (by omega)]
      · rw [if_neg e2, if_neg (by omega)]
  · by_cases e : j = k
    · subst e
      rw [has_put_same hT.isMap (key_lit j), lev_take, if_pos (by omega)]
      simp [hne]
    · rw [has_put_other (key_ne e), h2, lev_take, lev_take]
      by_cases e2 : j < k
      · rw [if_pos e2, if_pos (by omega)]
      · rw [if_neg e2, if_neg (by omega)]
  · rw [size_put hT, hno, if_neg (by simp), h3, cnt_take hk, if_pos hne]
theorem held_skip {rs : Lv} {k : Nat} (hk : k < rs.length) (he : lev rs k = []) : (∀ j, lev (rs.take (k + 1)) j = lev (rs.take k) j) ∧ cnt (rs.take (k + 1)) = cnt (rs.take k) := by
  refine ⟨fun j => ?_, by rw [cnt_take hk, if_neg (by simp [he])]; rfl⟩
  rw [lev_take, lev_take]
  by_cases e : j = k
  · subst e; rw [if_pos (by omega), if_neg (by omega), he]
  · by_cases e2 : j < k
    · rw [if_pos e2, if_pos (by omega)]
    · rw [if_neg e2, if_neg (by omega)]
/-- a level is struck out -/
theorem held_del {D : DataW Unit} {rs : Lv} {k : Nat} (hne : lev rs k ≠ []) (hT : Tidy D) (h1 : ∀ j : Nat, D.atKey (.int .i64 j) (.lit (.int .i64 0)) = .lit (.int .i64 (lev rs j).length))
    (h2 : ∀ j : Nat, Maps.has D (.int .i64 j) = decide (lev rs j ≠ [])) (h3 : Maps.size D = cnt rs) :
    Tidy (D.del (.int .i64 (k : Int))) ∧ (∀ j : Nat, (D.del (.int .i64 (k : Int))).atKey (.int .i64 j) (.lit (.int .i64 0)) = .lit (.int .i64 (lev (rs.set k []) j).length)) ∧
    (∀ j : Nat, Maps.has (D.del (.int .i64 (k : Int))) (.int .i64 j) = decide (lev (rs.set k []) j ≠ [])) ∧ Maps.size (D.del (.int .i64 (k : Int))) = cnt (rs.set k []) := by
  refine ⟨hT.del _, fun j => ?_, fun j => ?_, ?_⟩
  · rw [lev_set_nil]
    by_cases e : j = k
    · subst e; rw [atKey_del_same, if_pos rfl]; rfl
    · rw [atKey_del_other (key_ne e), h1, if_neg e]
  · rw [lev_set_nil]
    by_cases e : j = k
    · subst e; rw [has_del_same, if_pos rfl]; rfl
    · rw [has_del_other (key_ne e), h2, if_neg e]
  · have := size_del (k := .int .i64 (k : Int)) hT
    rw [h2, h3, ← cnt_set rs k hne] at this
    simp [hne] at this
    exact this
end Go.Proofs.Ythdcllnmnmemdaa

/- append onto a row of the call's own: where the new row lies. -/
namespace Go.Proofs.Ythdcllnmnmemdaa
open Go Go.RowKit
set_option maxRecDepth 100000
section
variable {P : Program} (w : World)
theorem wpList_append_at {ops : Array Oper} {rest : List Oper} {o : Oper} {a : Act} {Q : Exit → Act → World → Prop} (hgd : o.guard = none) (s x : Operand) (t : TypeId)
    (ho : o.op = .call { callee := .builtin .append, args := #[s, x], argTypes := #[t, t] })
    (base : Nat) (e : TypeId) (i : TypeInfo) (z : Value) (size bytes : Nat) (ht : P.underlying t = some (.slice e)) (hi : P.info? e = some i) (hz : i.zero = some z)
    (hsize : i.size = size) (hby : i.bytes = bytes) (hzs : z.cells.size = size) (hsz : 0 < size)
    (v : Value) (n : Nat) (xs : List Value) (hs : a.eval s = v) (hown : w.ownsRow base e size v n xs)
    (g m c : Nat) (news : List Value) (hx : a.eval x = .slice (some ⟨g, 0, none⟩) m c) (hr : ∀ j u, news[j]? = some u → w.cell? ⟨g, j, none⟩ = some u) (hl : news.length = m * size) (h1 : ∀ u ∈ news, u.oneCell' = true)
    (h63 : n + m ≤ maxLen) (hbytes : (n + m) * bytes ≤ 140737488355328) (hbase : base ≤ w.heap.size)
    (h : ∀ v' w', w'.ownsRow base e size v' (n + m) (xs ++ news) → w.grownBy w' v.ownBlock → (v'.ownBlock = v.ownBlock ∨ v'.ownBlock = some w.heap.size) → wpList P ops Q rest (a.put o.dst v') w') : wpList P ops Q (o :: rest) a w := by
  refine wpList_plain hgd fun K hK => ?_
  obtain ⟨v', w', hrun, h2, h3, _, h4⟩ := run_append_own_at (P := P) w base t o.type e i z size bytes ht hi hz hsize hby hzs hsz v n xs hown ⟨g, 0, none⟩ m c news hl (fun j u hu => by rw [Addr.add_lit, Nat.zero_add]; exact hr j u hu) h1 h63 hbytes hbase
  unfold Oper.wp execOp
  simp only [ho, resolve, invoke, builtin, Sem.run_bind, Sem.run_pure, Result.andThen_ok, List.map_toArray, List.map_cons, List.map_nil, hs, hx, hrun]
  exact hK _ _ (h v' w' h2 h3 h4)
end
/-- a block that is not the row's stays -/
theorem Blk.grown {w w' : World} {g : Nat} {t : TypeId} {cs : Array Value} {row : Option Nat} (h : Blk w g t cs) (hg : w.grownBy w' row) (hne : row ≠ some g) : Blk w' g t cs :=
  h.of (hg.block g h.lt (fun e => hne e.symm))
theorem blk_ne {w : World} {g g' : Nat} {t t' : TypeId} {cs cs' : Array Value} (h : Blk w g t cs) (h' : Blk w g' t' cs') (hne : t ≠ t') : g ≠ g' := by
  rintro rfl
  have := h.symm.trans h'
  simp at this
  exact hne this.2
theorem own_typ {w : World} {g B s n : Nat} {t e : TypeId} {cs : Array Value} {v : Value} {xs : List Value} (h : w.ownsRow B e s v n xs) (hB : Blk w g t cs) (hne : e ≠ t) : v.ownBlock ≠ some g := by
  rcases h.2 with ⟨rfl, _⟩ | ⟨k, cap, cur, rfl, _, hk, _⟩
  · simp [Value.ownBlock]
  · intro e2
    have e3 : k = g := by simpa [Value.ownBlock] using e2
    subst e3
    have := hk.symm.trans hB
    simp at this
    exact hne this.2
end Go.Proofs.Ythdcllnmnmemdaa

/- Contracts: the reference's Get, Newest, kway.Find, the reference's Find; copies of runs, and whether runs are the same. -/
namespace Go.Proofs.Ythdcllnmnmemdaa
open Go Go.RowKit
set_option maxRecDepth 100000




theorem run_info1 : (Try.prog.info? 49).map (fun i => (i.zero, i.size, i.bytes)) = some (some (.agg #[.slice none 0 0]), 1, 24) := by kernel_rfl
/-- hands back copies of runs, in new memory -/
def GivesTwins (ls : List (List Ent)) (w : World) (r : Ending) (w' : World) : Prop :=
  ∃ (A : Option Addr) (c : Nat) (Ts : List Rm), r = .returned (.slice A Ts.length c) ∧ Ts.map Rm.l = ls ∧ RunsAt w' A Ts ∧ Below w.heap.size w w'
set_option maxHeartbeats 2000000 in
theorem twins_any (B : Option Addr) (Rs : List Rm) (c : Nat) (w : World) (hB : RunsAt w B Rs) (hl : Rs.length ≤ 1000000) (hrs : ∀ r ∈ Rs, r.l.length ≤ 1000000) :
    Calls Try.prog 18 #[.slice B Rs.length c] w (GivesTwins (Rs.map Rm.l) w) := by
  obtain ⟨te0, hI⟩ := info_parts run_info1
  have HI := Lib.hid hI
  have HB := Lib.hid hB
  have HHR := Lib.hid hrs
  clear hI hB hrs
  go_enter Try.func18, Try.ntmps18
  go_wp2
  go_loopw [3, 4] (fun v i wr => ∃ (k : Nat) (Ts : List Rm) (A' : Option Addr) (c' : Nat), k ≤ Rs.length ∧ i = .int .i64 k ∧ Below w.heap.size w wr ∧ v = .slice A' k c' ∧ Hid (Ts.length = k) ∧
      wr.ownsRow w.heap.size 49 1 (.slice A' k c') k (Ts.map Rm.v) ∧ (∀ s ∈ Ts, wr.ownsRow w.heap.size 27 3 s.v s.l.length (s.l.flatMap Ent.cells)) ∧ Hid (Ts.map Rm.l = (Rs.map Rm.l).take k)) (fun _ i _ => Rs.length - (intOf i).toNat)
  case atStart => exact ⟨0, [], none, 0, Nat.zero_le _, rfl, Below.refl _ _, rfl, rfl, World.ownsRow_nil _ _ _ _, by simp, rfl⟩
  case round =>
    obtain ⟨k, Ts, A', c', hk, rfl, hb, rfl, hTk, hown, hS, hin⟩ := hrel
    have hbs := hb.size
    by_cases hlt : k < Rs.length
    · obtain ⟨b, off, rfl, hbl, cp⟩ := HB.out.sl.oneB hb k hlt
      have hok := (HB.out.ok _ (List.getElem_mem hlt)).below hb
      have hrl := HHR.out _ (List.getElem_mem hlt)
      have hin2 : (Rs.map Rm.l).take (k + 1) = (Rs.map Rm.l).take k ++ [(Rs[k]'hlt).l] := by
        rw [List.take_succ_eq_append_getElem (by simpa using hlt)]; simp
      obtain ⟨r, hr⟩ : ∃ r, Rs[k]'hlt = r := ⟨_, rfl⟩
      rw [hr] at cp hok hrl hin2
      obtain ⟨l, A, cl⟩ := r
      have cp1 : wr.cell? ⟨b, off + k, none⟩ = some (.slice A l.length cl) := cp
      dsimp only at hrl hin2
      have hki : (0 : Int) ≤ (k : Int) := by omega
      have hki2 : (k : Int) < (Rs.length : Int) := by omega
      have HOK := Lib.hid hok.sl
      have HIN := Lib.hid hin2
      have HOW := Lib.hid hown
      have HSS := Lib.hid hS
      clear cp hr hok hin2 hown hS
      go_wp2_with fail
      refine (refTwin_any A l cl _ HOK.out hrl).mono ?_
      rintro e w1 ⟨A1, c1, rfl, ho1, hb1⟩
      have HO1 := Lib.hid (own_mono (B' := w.heap.size) ho1 (by omega))
      have HOW1 := Lib.hid (own_below HOW.out hb1)
      have hs1 := hb1.size
      clear ho1 cp1
      go_wp2_with (at_builtin; refine wpList_append_sl _ rfl (.tmp 11) (.tmp 17) _ rfl w.heap.size 49 te0 _ 1 24 Try.underlying22 HI.out.1 HI.out.2.1 HI.out.2.2.1 HI.out.2.2.2 rfl (by omega) (.slice A' k c') k _ rfl (HOW1.out.alloc _) _ 1 _ [.slice A1 l.length c1] rfl (by exact sl_new1 _ _ _) rfl (by simp [Value.oneCell']) (by unfold maxLen; omega) (by omega) (by simp; omega) ?_; intro v2 w2 hown2 hg2; obtain ⟨A2, q2, rfl, hle2, hmx2⟩ := own_form hown2; have HO2 := Lib.hid hown2; clear hown2)
      go_roundw
      case rel =>
        refine ⟨k + 1, Ts ++ [⟨l, A1, c1⟩], A2, q2, by omega, by go_num, ?_, rfl, ?_, ?_, ?_, ?_⟩
        · exact ((bext hb hb1).alloc (by omega) _).grown hg2 (by simp; omega) (fun q hq => (HOW1.out.lt q hq).1)
        · show _ = _
          rw [List.length_append, hTk.out]; rfl
        · rw [List.map_append]; exact HO2.out
        · intro s hs
          refine own_grow hg2 (HOW1.out.alloc _) ?_ (by decide)
          rcases List.mem_append.1 hs with hs | hs
          · exact (own_below (HSS.out s hs) hb1).alloc _
          · obtain rfl : s = ⟨l, A1, c1⟩ := by simpa using hs
            exact HO1.out.alloc _
        · show _ = _
          rw [List.map_append, hin.out, HIN.out]; rfl
      case measure => simp [intOf]; omega
    · have hkn : k = Rs.length := by omega
      have HIN : Hid (Ts.map Rm.l = Rs.map Rm.l) := by show _ = _; rw [hin.out, List.take_of_length_le (by simp; omega)]
      have HTN : Hid (Ts.length = k) := hTk
      have hO : RunsAt wr A' Ts := by
        refine ⟨own_sl hown, fun s hs => ?_⟩
        have h1 := hS s hs
        obtain ⟨A3, c3, h3, h4, h5⟩ := own_form h1
        obtain ⟨ls, As, cs⟩ := s
        have h6 : As = A3 ∧ cs = c3 := by simpa [Rm.v] using h3
        obtain ⟨rfl, rfl⟩ := h6
        exact ⟨own_sl h1, h4, h5⟩
      have HO := Lib.hid hO
      clear hkn hO hown hS hin hTk
      go_wp2
      go_ret
      exact ⟨A', c', Ts, by rw [HTN.out]; rfl, HIN.out, HO.out, hb⟩

set_option maxHeartbeats 1000000 in
theorem sameAll_yes (B D : Option Addr) (Rs Ts : List Rm) (n c d : Nat) (w : World) (hn : Ts.length = n) (hB : RunsAt w B Rs) (hD : RunsAt w D Ts) (he : Ts.map Rm.l = Rs.map Rm.l) (hl : Rs.length ≤ 1000000) (hrs : ∀ r ∈ Rs, r.l.length ≤ 1000000) :
    Calls Try.prog 32 #[.slice D n d, .slice B Rs.length c] w fun r w' => r = .returned (.bool true) ∧ Below w.heap.size w w' := by
  have hlen : Ts.length = Rs.length := by have := congrArg List.length he; simpa using this
  obtain rfl : n = Rs.length := by omega
  have HB := Lib.hid hB
  have HD := Lib.hid hD
  have HE := Lib.hid he
  have HLL := Lib.hid hlen
  have HHR := Lib.hid hrs
  clear hB hD he hlen hn hrs
  go_enter Try.func32, Try.ntmps32
  go_wp2
  go_loopw [5] (fun i wr => ∃ k : Nat, k ≤ Rs.length ∧ i = .int .i64 k ∧ Below w.heap.size w wr) (fun i _ => Rs.length - (intOf i).toNat)
  case atStart => exact ⟨0, Nat.zero_le _, rfl, Below.refl _ _⟩
  case round =>
    obtain ⟨k, hk, rfl, hb⟩ := hrel
    by_cases hlt : k < Rs.length
    · have hlt2 : k < Ts.length := by rw [HLL.out]; exact hlt
      obtain ⟨b, off, rfl, hbl, cp⟩ := HB.out.sl.oneB hb k hlt
      obtain ⟨b2, off2, rfl, hbl2, cq⟩ := HD.out.sl.oneB hb k hlt2
      have hok := (HB.out.ok _ (List.getElem_mem hlt)).below hb
      have hok2 := (HD.out.ok _ (List.getElem_mem hlt2)).below hb
      have hll : (Ts[k]'hlt2).l = (Rs[k]'hlt).l := by
        have h := HE.out
        have h2 : (Ts.map Rm.l)[k]? = (Rs.map Rm.l)[k]? := by rw [h]
        simpa [hlt, hlt2] using h2
      have hrl := HHR.out _ (List.getElem_mem hlt)
      obtain ⟨r, hr⟩ : ∃ r, Rs[k]'hlt = r := ⟨_, rfl⟩
      obtain ⟨s, hs⟩ : ∃ s, Ts[k]'hlt2 = s := ⟨_, rfl⟩
      rw [hr] at cp hok hll hrl
      rw [hs] at cq hok2 hll
      obtain ⟨l, A, cl⟩ := r
      obtain ⟨l2, A2, cl2⟩ := s
      dsimp only at hll
      subst hll
      have cp1 : wr.cell? ⟨b, off + k, none⟩ = some (.slice A l2.length cl) := cp
      have cq1 : wr.cell? ⟨b2, off2 + k, none⟩ = some (.slice A2 l2.length cl2) := cq
      dsimp only at hrl
      have htw : ∀ W, Below wr.heap.size wr W → Calls Try.prog 61 #[.agg #[.slice A2 l2.length cl2], .agg #[.slice A l2.length cl]] W (fun r w' => r = .returned (.bool true) ∧ Below W.heap.size W w') := by
        intro W hW
        have h8 := refSame_any A2 A l2 l2 cl2 cl W (hok2.sl.below hW) (hok.sl.below hW) (by omega) (by omega)
        rw [decide_eq_true rfl] at h8
        exact h8
      have HTW := Lib.hid htw
      have lb1 : b < wr.heap.size := Nat.lt_of_lt_of_le hbl hb.size
      have lb2 : b2 < wr.heap.size := Nat.lt_of_lt_of_le hbl2 hb.size
      have hki : (0 : Int) ≤ (k : Int) := by omega
      have hki2 : (k : Int) < (Rs.length : Int) := by omega
      clear cp cq hr hs hok hok2 htw hbl hbl2
      go_upto_region 6 with fail
      go_cut [26] from 17 to 26 (fun v wx => v = .bool false ∧ Below wr.heap.size wr wx)
      case first =>
        go_region_held3 (fun w' => (∀ bq jq, bq < wr.heap.size → w'.cell? ⟨bq, jq, none⟩ = wr.cell? ⟨bq, jq, none⟩) ∧ (∀ bq jq, bq < wr.heap.size → w'.frozen? ⟨bq, jq, none⟩ = wr.frozen? ⟨bq, jq, none⟩) ∧ wr.heap.size ≤ w'.heap.size ∧ Below wr.heap.size wr w') ((with_reducible first | exact SB.init | exact SB.init0 | exact SB.below (by assumption) (by assumption) | assumption))
          (first
            | (go_at_call 61; refine (HTW.out _ (SB.bel (by assumption))).mono ?_; rintro e22 v22 ⟨rfl, hv22⟩; have hl22 := SB.le hv22 (by assumption); obtain ⟨hc22, hz22, hs22⟩ := wfacts hv22)
            | fail "no arm")
        all_goals
          go_wp2_with fail
          go_meet
          exact ⟨by simp, SB.bel (by assumption)⟩
      case rest =>
        obtain ⟨rfl, hbx⟩ := hcut
        clear cp1 cq1
        go_wp2
        go_roundw
        case rel => exact ⟨k + 1, by omega, by go_num, bext hb hbx⟩
        case measure => simp [intOf]; omega
    · go_wp2
      go_ret
      exact ⟨rfl, hb⟩
end Go.Proofs.Ythdcllnmnmemdaa

/- Contracts: copies of levels. -/
namespace Go.Proofs.Ythdcllnmnmemdaa
open Go Go.RowKit
set_option maxRecDepth 100000
set_option maxHeartbeats 2000000 in
theorem twinsO_any (B : Option Addr) (Rs : List Rm) (c : Nat) (w : World) (hB : RunsAt w B Rs) (hl : Rs.length ≤ 1000000) (hrs : ∀ r ∈ Rs, r.l.length ≤ 1000000) :
    Calls Try.prog 18 #[.slice B Rs.length c] w (GivesLs (lvs Rs) w) := by
  obtain ⟨te0, hI⟩ := info_parts run_info1
  have HI := Lib.hid hI
  have HB := Lib.hid hB
  have HHR := Lib.hid hrs
  clear hI hB hrs
  go_enter Try.func18, Try.ntmps18
  go_wp2
  go_loopw [3, 4] (fun v i wr => ∃ (k : Nat) (Ts : List Rm) (A' : Option Addr) (c' : Nat), k ≤ Rs.length ∧ i = .int .i64 k ∧ Below w.heap.size w wr ∧ v = .slice A' k c' ∧ Hid (Ts.length = k) ∧
      wr.ownsRow w.heap.size 49 1 (.slice A' k c') k (Ts.map Rm.v) ∧ (∀ s ∈ Ts, wr.ownsRow w.heap.size 27 3 s.v s.l.length (s.l.flatMap Ent.cells)) ∧ Hid (Ts.map Rm.l = (Rs.map Rm.l).take k)) (fun _ i _ => Rs.length - (intOf i).toNat)
  case atStart => exact ⟨0, [], none, 0, Nat.zero_le _, rfl, Below.refl _ _, rfl, rfl, World.ownsRow_nil _ _ _ _, by simp, rfl⟩
  case round =>
    obtain ⟨k, Ts, A', c', hk, rfl, hb, rfl, hTk, hown, hS, hin⟩ := hrel
    have hbs := hb.size
    by_cases hlt : k < Rs.length
    · obtain ⟨b, off, rfl, hbl, cp⟩ := HB.out.sl.oneB hb k hlt
      have hok := (HB.out.ok _ (List.getElem_mem hlt)).below hb
      have hrl := HHR.out _ (List.getElem_mem hlt)
      have hin2 : (Rs.map Rm.l).take (k + 1) = (Rs.map Rm.l).take k ++ [(Rs[k]'hlt).l] := by
        rw [List.take_succ_eq_append_getElem (by simpa using hlt)]; simp
      obtain ⟨r, hr⟩ : ∃ r, Rs[k]'hlt = r := ⟨_, rfl⟩
      rw [hr] at cp hok hrl hin2
      obtain ⟨l, A, cl⟩ := r
      have cp1 : wr.cell? ⟨b, off + k, none⟩ = some (.slice A l.length cl) := cp
      dsimp only at hrl hin2
      have hki : (0 : Int) ≤ (k : Int) := by omega
      have hki2 : (k : Int) < (Rs.length : Int) := by omega
      have HOK := Lib.hid hok.sl
      have HIN := Lib.hid hin2
      have HOW := Lib.hid hown
      have HSS := Lib.hid hS
      clear cp hr hok hin2 hown hS
      go_wp2_with fail
      refine (refTwin_any A l cl _ HOK.out hrl).mono ?_
      rintro e w1 ⟨A1, c1, rfl, ho1, hb1⟩
      have HO1 := Lib.hid (own_mono (B' := w.heap.size) ho1 (by omega))
      have HOW1 := Lib.hid (own_below HOW.out hb1)
      have hs1 := hb1.size
      clear ho1 cp1
      go_wp2_with (at_builtin; refine wpList_append_sl _ rfl (.tmp 11) (.tmp 17) _ rfl w.heap.size 49 te0 _ 1 24 Try.underlying22 HI.out.1 HI.out.2.1 HI.out.2.2.1 HI.out.2.2.2 rfl (by omega) (.slice A' k c') k _ rfl (HOW1.out.alloc _) _ 1 _ [.slice A1 l.length c1] rfl (by exact sl_new1 _ _ _) rfl (by simp [Value.oneCell']) (by unfold maxLen; omega) (by omega) (by simp; omega) ?_; intro v2 w2 hown2 hg2; obtain ⟨A2, q2, rfl, hle2, hmx2⟩ := own_form hown2; have HO2 := Lib.hid hown2; clear hown2)
      go_roundw
      case rel =>
        refine ⟨k + 1, Ts ++ [⟨l, A1, c1⟩], A2, q2, by omega, by go_num, ?_, rfl, ?_, ?_, ?_, ?_⟩
        · exact ((bext hb hb1).alloc (by omega) _).grown hg2 (by simp; omega) (fun q hq => (HOW1.out.lt q hq).1)
        · show _ = _
          rw [List.length_append, hTk.out]; rfl
        · rw [List.map_append]; exact HO2.out
        · intro s hs
          refine own_grow hg2 (HOW1.out.alloc _) ?_ (by decide)
          rcases List.mem_append.1 hs with hs | hs
          · exact (own_below (HSS.out s hs) hb1).alloc _
          · obtain rfl : s = ⟨l, A1, c1⟩ := by simpa using hs
            exact HO1.out.alloc _
        · show _ = _
          rw [List.map_append, hin.out, HIN.out]; rfl
      case measure => simp [intOf]; omega
    · have hkn : k = Rs.length := by omega
      have HIN : Hid (Ts.map Rm.l = Rs.map Rm.l) := by show _ = _; rw [hin.out, List.take_of_length_le (by simp; omega)]
      have HTN : Hid (Ts.length = k) := hTk
      have hO : OwnRs wr w.heap.size A' c' Ts := ⟨by rw [HTN.out]; exact hown, hS⟩
      have HO := Lib.hid hO
      clear hkn hO hown hS hin hTk
      go_wp2
      go_ret
      exact ⟨A', c', Ts, by rw [HTN.out]; rfl, HIN.out, HO.out, hb⟩
/-- a result that lies in a box of two cells -/
theorem box2 {w : World} {g : Nat} {t : TypeId} {x0 x1 : Value} (h : Blk w g t #[x0, x1]) (y0 y1 : Value) : Blk ((w.setCell ⟨g, 0, none⟩ y0).setCell ⟨g, 1, none⟩ y1) g t #[y0, y1] := by
  have := (h.set_ 0 y0).set_ 1 y1
  simpa using this
theorem below2 {B : Nat} {a w : World} {g : Nat} (h : Below B a w) (hg : B ≤ g) (y0 y1 : Value) : Below B a ((w.setCell ⟨g, 0, none⟩ y0).setCell ⟨g, 1, none⟩ y1) :=
  (h.setCell (p := ⟨g, 0, none⟩) hg _).setCell (p := ⟨g, 1, none⟩) hg _
theorem OwnRs.set2 {w : World} {B0 g : Nat} {B : Option Addr} {c : Nat} {Rs : List Rm} {t : TypeId} {x0 x1 : Value} (h : OwnRs w B0 B c Rs) (hB : Blk w g t #[x0, x1]) (h1 : 49 ≠ t) (h2 : 27 ≠ t) (y0 y1 : Value) : OwnRs ((w.setCell ⟨g, 0, none⟩ y0).setCell ⟨g, 1, none⟩ y1) B0 B c Rs :=
  (h.setT hB h1 h2 0 y0).setT (hB.set_ 0 y0) h1 h2 1 y1
set_option maxHeartbeats 2000000 in
theorem twin26_any (B : Option Addr) (Rs : List Rm) (c : Nat) (n : Int) (w : World) (hB : RunsAt w B Rs) (hl : Rs.length ≤ 1000000) (hrs : ∀ r ∈ Rs, r.l.length ≤ 1000000) :
    Calls Try.prog 6 #[.agg #[.slice B Rs.length c, .int .u64 n]] w (GivesRg (lvs Rs) n w) := by
  obtain ⟨W0, hW0⟩ : ∃ W0, (w.alloc (.cells #[.slice B Rs.length c, .int .u64 n] 25)).alloc (.cells #[.slice none 0 0, .int .u64 0] 25) = W0 := ⟨_, rfl⟩
  have hb0 : Below w.heap.size w W0 := by rw [← hW0]; exact ((Below.refl _ _).alloc (Nat.le_refl _) _).alloc (by simp) _
  have b1 : Blk W0 w.heap.size 25 #[.slice B Rs.length c, .int .u64 n] := by rw [← hW0]; exact (Blk.new _ _ _).alloc _
  have b2 : Blk W0 (w.heap.size + 1) 25 #[.slice none 0 0, .int .u64 0] := by
    rw [← hW0]
    have := Blk.new (w.alloc (.cells #[.slice B Rs.length c, .int .u64 n] 25)) 25 #[.slice none 0 0, .int .u64 0]
    rwa [World.size_alloc] at this
  have hs0 : W0.heap.size = w.heap.size + 2 := by rw [← hW0]; simp
  have HW0 := Lib.hid hW0
  have HS0 := Lib.hid hs0
  have HB := Lib.hid hB
  have HHR := Lib.hid hrs
  clear hW0 hB hrs hs0
  go_enter Try.func6, Try.ntmps6
  go_upto_region 1 with fail
  rw [HW0.out]
  have l1 := b1.lt
  have l2 := b2.lt
  have c10 : W0.cell? ⟨w.heap.size, 0, none⟩ = some (.slice B Rs.length c) := b1.cell 0
  have c11 : W0.cell? ⟨w.heap.size, 1, none⟩ = some (.int .u64 n) := b1.cell 1
  have c20 : W0.cell? ⟨w.heap.size + 1, 0, none⟩ = some (.slice none 0 0) := b2.cell 0
  have c21 : W0.cell? ⟨w.heap.size + 1, 1, none⟩ = some (.int .u64 0) := b2.cell 1
  have f20 := b2.frozen 0
  have f21 := b2.frozen 1
  go_region_with (go_at_call 18; refine (twinsO_any B Rs c _ (HB.out.below (bext hb0 (by first | exact (Below.refl _ _).drew | exact Below.refl _ _))) hl HHR.out).mono ?_; rintro e w5 ⟨A5, c5, Ts5, rfl, h51, h52, hb5⟩; have hb6 : Below W0.heap.size W0 w5 := (by first | exact hb5 | exact bext ((Below.refl _ _).drew) hb5); have d10 : w5.cell? ⟨w.heap.size, 0, none⟩ = some (.slice B Rs.length c) := ((bcell hb6).1 _ _ l1).trans c10; have d11 : w5.cell? ⟨w.heap.size, 1, none⟩ = some (.int .u64 n) := ((bcell hb6).1 _ _ l1).trans c11; have b25 := b2.below hb6 l2; have d20 : w5.cell? ⟨w.heap.size + 1, 0, none⟩ = some (.slice none 0 0) := b25.cell 0; have d21 : w5.cell? ⟨w.heap.size + 1, 1, none⟩ = some (.int .u64 0) := b25.cell 1; have e20 := b25.frozen 0; have e21 := b25.frozen 1; have H51 := Lib.hid h51; have H52 := Lib.hid h52; have H6 := Lib.hid hb6; clear h51 h52 hb5 hb6)
  all_goals
    go_wp2_with fail
    have hbx := box2 b25 (.slice A5 Ts5.length c5) (.int .u64 n)
    have e0 := hbx.cell 0
    have e1 := hbx.cell 1
    refine bodyPost_ret (v := .agg #[.slice A5 Ts5.length c5, .int .u64 n]) (by first | (simp [results, Try.results6, go_sem, e0, e1]; done) | (simp at e0 e1; simp [results, Try.results6, go_sem, e0, e1])) rfl ?_
    exact ⟨A5, c5, Ts5, rfl, H51.out, (H52.out.mono (by simp [HS0.out])).set2 b25 (by decide) (by decide) _ _, below2 (bext hb0 H6.out) (Nat.le_succ _) _ _⟩
end Go.Proofs.Ythdcllnmnmemdaa
