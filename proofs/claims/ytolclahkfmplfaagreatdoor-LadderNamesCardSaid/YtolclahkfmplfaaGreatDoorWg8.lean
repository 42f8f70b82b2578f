/- G4 Cb Cc Cd G2 Gp: texts of the claim, in this order. -/
import Derived.Test.YtolclahkfmplfaaGreatDoorWg7
import Derived.Test.YtolclahkfmplfaaGreatDoorWg5
import Derived.Lib.BitFns
import Derived.Lib.Strings
import Derived.Lib.Slices
import Derived.Lib.Small
import Derived.Test.YtolclahkfmplfaaGreatDoorWg2
import Derived.WalkMore
import Derived.ScopeJumps
import Derived.Deep.CutRange
import Derived.Deep.RegionHeld3
import Derived.BigQuiet
import Derived.Test.YtolclahkfmplfaaGreatDoorWg6
/- Contracts: the level of a run: math/bits.Len, frac.Up, rungs.level; the document's Log and Ceil. -/
namespace Go.Proofs.YtolclahkfmplfaaGreatDoor
open Go Go.RowKit

theorem bitLen_log (x : Nat) (h : x < 2 ^ 64) : Lib.bitLen x = if x = 0 then 0 else Nat.log2 x + 1 := by
  induction x using Nat.strongRecOn with
  | _ x ih =>
    by_cases h0 : x = 0
    · subst h0; rfl
    · rw [Lib.bitLen_half x h0 h, ih (x / 2) (by omega) (by omega), if_neg h0, Nat.log2_def x]
      by_cases h2 : 2 ≤ x
      · rw [if_pos h2, if_neg (by omega)]; omega
      · obtain rfl : x = 1 := by omega
        simp
theorem bitLen_up {n : Nat} (h : n ≤ 65536) : Lib.bitLen (n - 1) = up n := by
  rw [bitLen_log _ (by omega)]
  unfold up
  by_cases h1 : n ≤ 1
  · rw [if_pos h1, if_pos (by omega)]
  · rw [if_neg h1, if_neg (by omega)]

set_option maxRecDepth 100000 in
set_option maxHeartbeats 4000000 in
theorem len64_any (x : Int) (w : World) (h0 : 0 ≤ x) (h1 : x ≤ 65535) : Calls Tryz.prog 106 #[.int .u64 x] w fun e w' => e = .returned (.int .i64 (Lib.bitLen x.toNat)) ∧ w' = w := by
  have g1 : ¬ 4294967296 ≤ x := by omega
  have g2 : ¬ 65536 ≤ x := by omega
  by_cases h2 : x ≤ 255
  · have g3 : ¬ 256 ≤ x := by omega
    go_enter Tryz.func106, Tryz.ntmps106
    go_wp2
    go_ret
    refine ⟨congrArg Ending.returned (congrArg (Value.int IntKind.i64) ?_), rfl⟩
    rw [Lib.len8_of x h0 h2]
    have l := Lib.bitLen_le8' x h0 h2
    unfold wrap64
    omega
  · have g3 : 256 ≤ x := by omega
    have g4 : 0 ≤ x / 256 := by omega
    have g5 : x / 256 ≤ 255 := by omega
    go_enter Tryz.func106, Tryz.ntmps106
    go_wp2
    go_ret
    refine ⟨congrArg Ending.returned (congrArg (Value.int IntKind.i64) ?_), rfl⟩
    rw [Lib.len8_of (x / 256) g4 g5]
    have e : (x / 256).toNat = x.toNat / 256 := by omega
    have l := Lib.bitLen_le8' (x / 256) g4 g5
    have s := Lib.bitLen_shift8 x.toNat (by omega) (by omega)
    rw [e] at l ⊢
    unfold wrap64
    omega
theorem len_any (x : Int) (w : World) (h0 : 0 ≤ x) (h1 : x ≤ 65535) : Calls Tryz.prog 102 #[.int .u64 x] w fun e w' => e = .returned (.int .i64 (Lib.bitLen x.toNat)) ∧ w' = w := by
  go_enter Tryz.func102, Tryz.ntmps102
  go_wp2_with fail
  refine (len64_any x _ h0 h1).mono ?_
  rintro e w' ⟨rfl, rfl⟩
  go_wp2
  go_ret
  exact ⟨rfl, rfl⟩
/-- the logarithm upward -/
theorem up_any (n : Nat) (w : World) (h0 : 0 < n) (h1 : n ≤ 65536) : Calls Tryz.prog 84 #[.int .i64 (n : Nat)] w fun e w' => e = .returned (.tuple #[.int .i64 (up n : Nat), .int .i64 0]) ∧ w' = w := by
  have g : decide ((n : Int) < 1) = false := decide_eq_false (by omega)
  have e1 : IntKind.i64.wrap ((n : Int) - 1) = ((n - 1 : Nat) : Int) := (IntWalk.i64_in _ (by omega)).trans (by omega)
  have e2 : ((n - 1 : Nat) : Int).toNat = n - 1 := by omega
  have e3 := bitLen_up h1
  obtain ⟨m, hm⟩ : ∃ m, n - 1 = m := ⟨_, rfl⟩
  rw [hm] at e1 e2 e3
  have hm0 : (0 : Int) ≤ (m : Int) := by omega
  have hm1 : (m : Int) ≤ 65535 := by omega
  have HM := Lib.hid hm
  have H2 := Lib.hid e2
  have H3 := Lib.hid e3
  clear hm e2 e3
  go_enter Tryz.func84, Tryz.ntmps84
  go_wp2_with fail
  refine (len_any (m : Int) _ hm0 hm1).mono ?_
  rw [H2.out, H3.out]
  rintro e w' ⟨rfl, rfl⟩
  go_wp2
  refine bodyPost_ret (v := .tuple #[.int .i64 (up n : Nat), .int .i64 0]) (by simp [results, Tryz.results84, go_sem]) rfl ?_
  exact ⟨rfl, rfl⟩
/-- the level of a run that has entries -/
theorem level_any (A : Option Addr) (n c : Nat) (w : World) (h0 : 0 < n) (h1 : n ≤ 65536) : Calls Tryz.prog 65 #[.agg #[.slice A n c]] w fun e w' => e = .returned (.int .i64 (up n : Nat)) ∧ Below w.heap.size w w' := by
  have hb : Below w.heap.size w (w.alloc (.cells #[.slice A n c] 49)) := (Below.refl _ _).alloc (Nat.le_refl _) _
  go_enter Tryz.func65, Tryz.ntmps65
  go_wp2_with fail
  refine (up_any n _ h0 h1).mono ?_
  rintro e w' ⟨rfl, rfl⟩
  go_wp2
  go_ret
  exact ⟨rfl, hb⟩
theorem log2_half {n : Nat} (h : 2 ≤ n) : Nat.log2 n = Nat.log2 (n / 2) + 1 := by rw [Nat.log2_def n, if_pos h]
theorem log2_le {n : Nat} (h : n ≤ 65536) : Nat.log2 n ≤ 16 := by
  by_cases h0 : n = 0
  · subst h0; decide
  · have := Nat.log2_self_le h0
    rcases Nat.lt_or_ge 16 (Nat.log2 n) with h1 | h1
    · have h2 : 2 ^ 17 ≤ 2 ^ Nat.log2 n := Nat.pow_le_pow_right (by omega) h1
      omega
    · exact h1
end Go.Proofs.YtolclahkfmplfaaGreatDoor

/- Contracts: conf.all, conf.power, frac.Power, frac.Down. -/
namespace Go.Proofs.YtolclahkfmplfaaGreatDoor
open Go Go.RowKit
set_option maxRecDepth 100000
def bv (b : Bool) : Value := .bool b
set_option maxHeartbeats 1000000 in
theorem allc_any (A : Option Addr) (l : List Bool) (c : Nat) (w : World) (hA : Sl w A (l.map bv)) (hl : l.length ≤ 1000000) :
    Calls Tryz.prog 39 #[.slice A l.length c] w fun r w' => r = .returned (.bool (l.all id)) ∧ w' = w := by
  have HA := Lib.hid hA
  obtain ⟨V, hV⟩ : ∃ V, l.all id = V := ⟨_, rfl⟩
  rw [hV]
  have HV := Lib.hid hV
  clear hA hV
  go_enter Tryz.func39, Tryz.ntmps39
  go_wp2
  go_loopw [7] (fun i wr => ∃ k : Nat, k ≤ l.length ∧ i = .int .i64 k ∧ wr = w ∧ Hid ((l.drop k).all id = V)) (fun i _ => l.length - (intOf i).toNat)
  case atStart => exact ⟨0, Nat.zero_le _, rfl, rfl, by show _ = _; rw [List.drop_zero]; exact HV.out⟩
  case round =>
    obtain ⟨k, hk, rfl, hw, hd⟩ := hrel
    have hw2 := hw.symm
    subst hw2
    by_cases hlt : k < l.length
    · obtain ⟨b, off, rfl, hbl, cp⟩ := HA.out.oneB (Below.refl _ _) k hlt
      have hdr : (l.drop k).all id = (l[k]'hlt && (l.drop (k + 1)).all id) := by rw [List.drop_eq_getElem_cons hlt, List.all_cons]; rfl
      obtain ⟨e, he⟩ : ∃ e, l[k]'hlt = e := ⟨_, rfl⟩
      rw [he] at cp hdr
      have cp1 : w.cell? ⟨b, off + k, none⟩ = some (.bool e) := cp
      have HDR := Lib.hid hdr
      have i0 : (0 : Int) ≤ (k : Int) := by omega
      have i1 : (k : Int) < (l.length : Int) := by omega
      clear cp hdr he
      cases e with
      | true =>
        go_wp2
        go_roundw
        case rel => exact ⟨k + 1, by omega, by go_num, by first | trivial | rfl, by have := hd.out; rw [HDR.out] at this; exact this⟩
        case measure => simp [intOf]; omega
      | false =>
        have HF : Hid (V = false) := by show _ = _; rw [← hd.out, HDR.out]; rfl
        go_wp2
        go_ret
        exact ⟨by rw [HF.out]; rfl, rfl⟩
    · have HF : Hid (V = true) := by show _ = _; rw [← hd.out, List.drop_eq_nil_of_le (by omega)]; rfl
      go_wp2
      go_ret
      exact ⟨by rw [HF.out]; rfl, rfl⟩
def powB (n a b : Int) : Bool := decide (a ≤ n) && decide (n ≤ b) && pow2 n.toNat
theorem bits_pow : ∀ m : Nat, m ≤ 256 → 0 < m → (bits .and .i64 (m : Int) ((m : Int) - 1) == 0) = pow2 m := by decide +kernel
theorem powerF_any (n : Int) (w : World) (h1 : n ≤ 256) : Calls Tryz.prog 61 #[.int .i64 n] w fun r w' => r = .returned (.bool (pow2 n.toNat)) ∧ w' = w := by
  by_cases hz : 0 < n
  · have hb := bits_pow n.toNat (by omega) (by omega)
    rw [Int.toNat_of_nonneg (by omega)] at hb
    have HB := Lib.hid hb
    clear hb
    go_enter Tryz.func61, Tryz.ntmps61
    go_wp2
    go_ret
    exact ⟨by rw [← HB.out]; rfl, rfl⟩
  · have hn : n.toNat = 0 := by omega
    rw [hn]
    clear hn
    go_enter Tryz.func61, Tryz.ntmps61
    go_wp2
    go_ret
    exact ⟨rfl, rfl⟩
theorem powerC_any (n a b : Int) (w : World) (h1 : b ≤ 256) : Calls Tryz.prog 40 #[.int .i64 n, .int .i64 a, .int .i64 b] w fun r w' => r = .returned (.bool (powB n a b)) ∧ w' = w := by
  obtain ⟨V, hV⟩ : ∃ V, powB n a b = V := ⟨_, rfl⟩
  rw [hV]
  have HV := Lib.hid hV
  clear hV
  by_cases g1 : a ≤ n
  · by_cases g2 : n ≤ b
    · have HC := Lib.hid (fun w => powerF_any n w (by omega))
      have HP : Hid (V = pow2 n.toNat) := by show _ = _; rw [← HV.out]; unfold powB; rw [decide_eq_true g1, decide_eq_true g2]; rfl
      go_enter Tryz.func40, Tryz.ntmps40
      go_wp2_with fail
      refine (HC.out _).mono ?_
      rw [← HP.out]
      rintro e w1 ⟨rfl, hw⟩
      subst hw
      go_wp2
      go_ret
      exact ⟨rfl, rfl⟩
    · have HP : Hid (V = false) := by show _ = _; rw [← HV.out]; unfold powB; rw [decide_eq_true g1, decide_eq_false g2]; rfl
      go_enter Tryz.func40, Tryz.ntmps40
      go_wp2_with fail
      go_ret
      exact ⟨by rw [HP.out]; rfl, rfl⟩
  · have HP : Hid (V = false) := by show _ = _; rw [← HV.out]; unfold powB; rw [decide_eq_false g1]; rfl
    go_enter Tryz.func40, Tryz.ntmps40
    go_wp2_with fail
    go_ret
    exact ⟨by rw [HP.out]; rfl, rfl⟩
def DownI (n0 : Nat) (w : World) (g : Nat) (a : Act) (wr : World) : Prop :=
  ∃ (m k : Nat) (u1 u4 u5 u6 u7 u8 u9 u10 u11 u12 : Value), a = ⟨#[.int .i64 (m : Int), u1, .int .i64 (k : Int), .int .i64 0, u4, u5, u6, u7, u8, u9, u10, u11, u12], []⟩ ∧ wr = w ∧ g = m ∧ 0 < m ∧ m ≤ 65536 ∧ Hid (Nat.log2 m + k = Nat.log2 n0)
set_option maxHeartbeats 1000000 in
theorem downF_any (n : Nat) (w : World) (h0 : 0 < n) (h1 : n ≤ 65536) : Calls Tryz.prog 62 #[.int .i64 (n : Nat)] w fun r w' => r = .returned (.tuple #[.int .i64 (Nat.log2 n : Nat), .int .i64 0]) ∧ w' = w := by
  have g0 : ¬ (n : Int) < 1 := by omega
  have HI0 : Hid (DownI n w n ⟨#[.int .i64 (n : Int), undef, .int .i64 ((0 : Nat) : Int), .int .i64 0, .int .i64 (n : Int), .bool false, undef, undef, undef, undef, undef, undef, undef], []⟩ w) := ⟨n, 0, _, _, _, _, _, _, _, _, _, _, rfl, rfl, rfl, h0, h1, rfl⟩
  have HL16 := Lib.hid (log2_le h1)
  have HH := Lib.hid h0
  clear h0
  go_enter Tryz.func62, Tryz.ntmps62
  go_wp2
  refine wp_scope_ghost 0 (DownI n w) rfl ?pass ?first
  case pass =>
    clear HI0
    rintro m a' wr ⟨m', k, u1, u4, u5, u6, u7, u8, u9, u10, u11, u12, rfl, hw, rfl, hm0, hm6, hg⟩ K hK
    have hw2 := hw.symm
    subst hw2
    have HK := Lib.hid hK
    clear hK hw
    have hk16 : k ≤ 16 := by have h1 := hg.out; have h2 := HL16.out; omega
    by_cases h2 : 2 ≤ m
    · have g1 : (1 : Int) < (m : Int) := by omega
      have g2 : (m : Int).tdiv 2 = ((m / 2 : Nat) : Int) := by rw [Int.tdiv_eq_ediv_of_nonneg (by omega)]; omega
      have g3 : IntKind.i64.wrap ((k : Int) + 1) = ((k + 1 : Nat) : Int) := (IntWalk.i64_in _ (by omega)).trans (by omega)
      have g4 : IntKind.i64.wrap ((m / 2 : Nat) : Int) = ((m / 2 : Nat) : Int) := IntWalk.i64_in _ (by omega)
      have HG : Hid (Nat.log2 (m / 2) + (k + 1) = Nat.log2 n) := by show _ = _; rw [← hg.out, log2_half h2]; omega
      have H2 := Lib.hid h2
      clear h2
      go_wp2
      go_step3
      refine ⟨rfl, HK.out (m / 2) _ _ ?_ ⟨m / 2, k + 1, u1, u4, u5, .int .i64 (m : Int), .bool true, .int .i64 (m : Int), .int .i64 ((m : Int) / 2), .int .i64 (k : Int), .int .i64 ((k : Int) + 1), u12, ?_, rfl, rfl, ?_, ?_, HG.out⟩⟩
      · have := H2.out; omega
      · simp
      · have := H2.out; omega
      · omega
    · have g1 : ¬ (1 : Int) < (m : Int) := by omega
      have HG : Hid (Nat.log2 n = k) := by
        show _ = _
        have h3 : m = 1 := by omega
        subst h3
        rw [← hg.out]
        simp [Nat.log2_def]
      clear h2
      go_wp2
      simp only [Exit.jump]
      refine bodyPost_ret (v := .tuple #[.int .i64 (k : Int), .int .i64 0]) (by simp [results, Tryz.results62, go_sem]) rfl ?_
      exact ⟨by rw [HG.out], rfl⟩
  case first =>
    rintro K hK
    have HK := Lib.hid hK
    clear hK
    go_wp2
    go_step3
    rename_i hk
    exact hk _ _ (HK.out _ _ _ ⟨n, 0, _, _, _, _, _, _, _, _, _, _, rfl, rfl, rfl, HH.out, h1, rfl⟩)
end Go.Proofs.YtolclahkfmplfaaGreatDoor

/- Contracts: conf.takes, conf.height. -/
namespace Go.Proofs.YtolclahkfmplfaaGreatDoor
open Go Go.RowKit
set_option maxRecDepth 100000
abbrev Cfg.row (c : Cfg) : Array Value := #[.int .u8 c.tag, .int .i64 c.most, .int .i64 c.seg, .int .i64 c.least, .int .i64 c.den, .int .i64 c.leafLow, .int .i64 c.rootLow, .int .i64 c.rootHigh, .int .i64 c.leafHigh]
structure TakeS (c : Cfg) (n d h l : Nat) : Prop where
  den : c.den = d
  high : c.rootHigh = h
  least : c.least = l
  n1 : 0 < n
  n2 : n ≤ 16384
  d1 : 0 < d
  d2 : d ≤ 64
  dh : d ≤ 2 * h
  h2 : h ≤ 64
  l1 : 4 ≤ l
  l2 : l ≤ 256
theorem sm_nat {x : Nat} (h : x ≤ 65536) : smallN (x : Int) = true := by unfold smallN; rw [decide_eq_true (by omega), decide_eq_true (by omega)]; rfl
theorem over_is (n s h d : Nat) : decide (0 < sgn ((n : Int) * (d : Int) - (s : Int) * (h : Int))) = decide (h * s < n * d) := by
  have e1 : ((n : Int) * (d : Int)) = ((n * d : Nat) : Int) := by simp
  have e2 : ((s : Int) * (h : Int)) = ((h * s : Nat) : Int) := by rw [Nat.mul_comm h s]; simp
  rw [e1, e2]
  generalize n * d = p
  generalize h * s = q
  unfold sgn
  by_cases hq : q < p
  · rw [if_pos (by omega), decide_eq_true hq]; rfl
  · rw [if_neg (by omega), decide_eq_false hq]
    split <;> rfl
def TakesI (c : Cfg) (n T : Nat) (w : World) (g : Nat) (a : Act) (wr : World) : Prop :=
  ∃ (s : Nat) (u3 u6 u7 u8 u9 u10 u11 u12 u13 u14 u15 u16 u17 u18 u19 u20 u21 u22 u23 u24 : Value), a = ⟨#[.agg #[.int .u8 c.tag, .int .i64 c.most, .int .i64 c.seg, .int .i64 c.least, .int .i64 c.den, .int .i64 c.leafLow, .int .i64 c.rootLow, .int .i64 c.rootHigh, .int .i64 c.leafHigh], .int .i64 (n : Int), .pointer (some ⟨w.heap.size, 0, none⟩), u3, .int .i64 0, .int .i64 (s : Int), u6, u7, u8, u9, u10, u11, u12, u13, u14, u15, u16, u17, u18, u19, u20, u21, u22, u23, u24], []⟩ ∧ Below w.heap.size w wr ∧ Blk wr w.heap.size 23 c.row ∧ Hid (∃ d h l, TakeS c n d h l ∧ Fits n d h g s ∧ takesF n d h g s = T)
set_option maxHeartbeats 4000000 in
theorem takes_any (c : Cfg) (n d h l : Nat) (w : World) (hs : TakeS c n d h l) :
    Calls Tryz.prog 42 #[.agg c.row, .int .i64 (n : Nat)] w fun r w' => r = .returned (.int .i64 (takesN n d h l : Nat)) ∧ Below w.heap.size w w' := by
  obtain ⟨T, hT⟩ : ∃ T, takesN n d h l = T := ⟨_, rfl⟩
  rw [hT]
  have HT : Hid (∃ d' h' l', TakeS c n d' h' l' ∧ Fits n d' h' 16 l ∧ takesF n d' h' 16 l = T) := ⟨d, h, l, hs, fits_start hs.n2 hs.dh (by have := hs.l1; omega) hs.l2, hT⟩
  have HLE := Lib.hid (show c.least = (l : Int) from hs.least)
  clear hT hs
  obtain ⟨W0, hW0⟩ : ∃ W0, w.alloc (.cells c.row 23) = W0 := ⟨_, rfl⟩
  have hb0 : Below w.heap.size w W0 := by rw [← hW0]; exact (Below.refl _ _).alloc (Nat.le_refl _) _
  have b0 : Blk W0 w.heap.size 23 c.row := by rw [← hW0]; exact Blk.new _ _ _
  have HW0 := Lib.hid hW0
  clear hW0
  go_enter Tryz.func42, Tryz.ntmps42
  go_wp2
  rw [HW0.out]
  refine wp_scope_ghost 0 (TakesI c n T w) rfl ?pass ?first
  case pass =>
    clear HT
    rintro g a' wr ⟨s, u3, u6, u7, u8, u9, u10, u11, u12, u13, u14, u15, u16, u17, u18, u19, u20, u21, u22, u23, u24, rfl, hb, bC, hI⟩ K hK
    have HK := Lib.hid hK
    obtain ⟨d, h, l, hs, hf, hTT⟩ := hI.out
    have HS := Lib.hid hs
    have HF := Lib.hid hf
    have HTT := Lib.hid hTT
    have c4 : wr.cell? ⟨w.heap.size, 4, none⟩ = some (.int .i64 (d : Int)) := (bC.cell 4).trans (by rw [← hs.den]; rfl)
    have c7 : wr.cell? ⟨w.heap.size, 7, none⟩ = some (.int .i64 (h : Int)) := (bC.cell 7).trans (by rw [← hs.high]; rfl)
    have hx := fun W => cross_any (n : Int) (s : Int) (h : Int) (d : Int) W (sm_nat (by have := hs.n2; omega)) (sm_nat hf.le) (sm_nat (by have := hs.h2; omega)) (sm_nat (by have := hs.d2; omega))
    have ho := over_is n s h d
    obtain ⟨V, hV⟩ : ∃ V, sgn ((n : Int) * (d : Int) - (s : Int) * (h : Int)) = V := ⟨_, rfl⟩
    rw [hV] at ho hx
    have HX := Lib.hid hx
    have hs6 := hf.le
    have HO := Lib.hid ho
    have HB := Lib.hid hb
    have HC := Lib.hid bC
    clear hK hI hx hs hf hTT ho hV hb bC
    go_wp2_with fail
    refine (HX.out _).mono ?_
    rintro e w1 ⟨rfl, hb1⟩
    have HB1 := Lib.hid (bext HB.out hb1)
    have HC1 := Lib.hid (HC.out.below hb1 HC.out.lt)
    clear c4 c7 hb1
    by_cases hgo : h * s < n * d
    · have g1 : (0 : Int) < V := by have := HO.out; rw [decide_eq_true hgo] at this; exact of_decide_eq_true this
      have g2 : IntKind.i64.wrap ((s : Int) * 2) = ((2 * s : Nat) : Int) := (IntWalk.i64_in _ (by omega)).trans (by omega)
      obtain ⟨k', hk', ht', hf'⟩ := takes_step HF.out hgo HS.out.n2 HS.out.dh
      have HK2 : Hid (k' < g) := by show _ < _; omega
      have HN : Hid (∃ d h l, TakeS c n d h l ∧ Fits n d h k' (2 * s) ∧ takesF n d h k' (2 * s) = T) := ⟨d, h, l, HS.out, hf', by rw [← ht', HTT.out]⟩
      clear hgo hk' ht' hf'
      go_wp2_with fail
      go_step3
      refine ⟨rfl, HK.out k' _ _ HK2.out ⟨2 * s, u3, .int .i64 V, .int .i64 0, u8, u9, .tuple #[.int .i64 V, .int .i64 0], .int .i64 (n : Int), .int .i64 (s : Int), .pointer (some ⟨w.heap.size, 7, none⟩), .int .i64 (h : Int), .pointer (some ⟨w.heap.size, 4, none⟩), .int .i64 (d : Int), .tuple #[.int .i64 V, .int .i64 0], .int .i64 V, .int .i64 0, .int .i64 V, .bool true, .int .i64 (s : Int), .int .i64 (2 * (s : Int)), u24, ?_, HB1.out, HC1.out, HN⟩⟩
      simp
    · have g1 : ¬ (0 : Int) < V := by have := HO.out; rw [decide_eq_false hgo] at this; exact of_decide_eq_false this
      have HV : Hid (T = s) := by show _ = _; rw [← HTT.out, takes_end hgo]
      clear hgo
      go_wp2_with fail
      simp only [Exit.jump]
      refine bodyPost_ret (v := .int .i64 (s : Int)) (by simp [results, Tryz.results42, go_sem]) rfl ?_
      exact ⟨by rw [HV.out], HB1.out⟩
  case first =>
    rintro K hK
    have HK := Lib.hid hK
    have c3 : W0.cell? ⟨w.heap.size, 3, none⟩ = some (.int .i64 (l : Int)) := (b0.cell 3).trans (by rw [← HLE.out]; rfl)
    have HB0 := Lib.hid hb0
    have HC0 := Lib.hid b0
    clear hK b0 hb0
    go_wp2_with fail
    go_step3
    rename_i hk
    exact hk _ _ (HK.out 16 _ _ ⟨l, _, _, _, _, _, _, _, _, _, _, _, _, _, _, _, _, _, _, _, _, rfl, HB0.out, HC0.out, HT⟩)
theorem height_any (c : Cfg) (s g : Nat) (w : World) (hg : c.seg = (g : Int)) (hs : s ≤ 65536) (h0 : 0 < g) (h1 : g ≤ s) :
    Calls Tryz.prog 41 #[.agg c.row, .int .i64 (s : Nat)] w fun r w' => r = .returned (.int .i64 (Nat.log2 (s / g) : Nat)) ∧ Below w.heap.size w w' := by
  obtain ⟨W0, hW0⟩ : ∃ W0, w.alloc (.cells c.row 23) = W0 := ⟨_, rfl⟩
  have hb0 : Below w.heap.size w W0 := by rw [← hW0]; exact (Below.refl _ _).alloc (Nat.le_refl _) _
  have b0 : Blk W0 w.heap.size 23 c.row := by rw [← hW0]; exact Blk.new _ _ _
  have HW0 := Lib.hid hW0
  have c2 : W0.cell? ⟨w.heap.size, 2, none⟩ = some (.int .i64 (g : Int)) := (b0.cell 2).trans (by rw [← hg]; rfl)
  have hq : (s : Int).tdiv (g : Int) = ((s / g : Nat) : Int) := by rw [Int.tdiv_eq_ediv_of_nonneg (by omega)]; exact (Int.natCast_ediv s g).symm
  have hd1 : 0 < s / g := Nat.div_pos h1 h0
  have hd2 : s / g ≤ s := Nat.div_le_self s g
  have hz : ¬ (g : Int) = 0 := by omega
  obtain ⟨Q, hQ⟩ : ∃ Q, s / g = Q := ⟨_, rfl⟩
  rw [hQ] at hq hd1 hd2 ⊢
  have hw : IntKind.i64.wrap (Q : Int) = (Q : Int) := IntWalk.i64_in _ (by omega)
  have HD := Lib.hid (fun W => downF_any Q W hd1 (by omega))
  clear hW0 hQ b0 hg h1
  go_enter Tryz.func41, Tryz.ntmps41
  go_upto_region 1 with fail
  rw [HW0.out]
  go_wp2_with fail
  refine (HD.out _).mono ?_
  rintro e w1 ⟨rfl, hw1⟩
  subst hw1
  go_wp2
  go_ret
  exact ⟨rfl, hb0⟩
end Go.Proofs.YtolclahkfmplfaaGreatDoor

/- Contract: conf.Check. -/
namespace Go.Proofs.YtolclahkfmplfaaGreatDoor
open Go Go.RowKit
set_option maxRecDepth 100000
def sizesL (c : Cfg) : List Bool := [decide (1 ≤ c.tag), decide (c.tag ≤ 3), decide (1 ≤ c.most), decide (c.most ≤ 16384), powB c.seg 4 64, powB c.least c.seg 256, decide (1 ≤ c.den), decide (c.den ≤ 64)]
def partsL (c : Cfg) : List Bool := [decide (0 ≤ c.leafLow), decide (c.leafLow < c.rootLow), decide (c.rootLow < c.rootHigh), decide (c.rootHigh < c.leafHigh), decide (c.leafHigh ≤ c.den)]
def roomL (c : Cfg) : List Bool := [decide (c.den ≤ 2 * c.rootHigh), decide (8 * c.rootLow ≤ c.den), decide (2 * c.den ≤ c.rootLow * c.least)]
def tallB (c : Cfg) : Bool := decide (c.den * (c.tall : Int) ≤ (c.leafHigh - c.rootHigh) * c.seg)
def okC (c : Cfg) : Bool := (sizesL c).all id && (partsL c).all id && (roomL c).all id && tallB c
def errC (c : Cfg) : Int := if okC c = true then 0 else 50
theorem allB_any (A : Option Addr) (l : List Bool) (c : Nat) (w : World) (hA : Sl w A (l.map bv)) (hl : l.length ≤ 1000000) :
    Calls Tryz.prog 39 #[.slice A l.length c] w fun r w' => r = .returned (.bool (l.all id)) ∧ Below w.heap.size w w' :=
  (allc_any A l c w hA hl).mono (fun _ _ h => ⟨h.1, h.2 ▸ Below.refl _ _⟩)
set_option maxHeartbeats 16000000 in
theorem checkC_any (c : Cfg) (w : World) : Calls Tryz.prog 16 #[.agg c.row] w fun r w' => r = .returned (.int .i64 (errC c)) ∧ Below w.heap.size w w' := by
  obtain ⟨W0, hW0⟩ : ∃ W0, w.alloc (.cells c.row 23) = W0 := ⟨_, rfl⟩
  have hb0 : Below w.heap.size w W0 := by rw [← hW0]; exact (Below.refl _ _).alloc (Nat.le_refl _) _
  have b0 : Blk W0 w.heap.size 23 c.row := by rw [← hW0]; exact Blk.new _ _ _
  have HW0 := Lib.hid hW0
  have HB0 := Lib.hid hb0
  have HC0 := Lib.hid b0
  have hp1 := fun W => (powerC_any c.seg 4 64 W (by omega)).mono (R' := fun r w' => r = .returned (.bool (powB c.seg 4 64)) ∧ Below W.heap.size W w') (fun r w' h => ⟨h.1, h.2 ▸ Below.refl _ _⟩)
  have hp2 := fun W => (powerC_any c.least c.seg 256 W (by omega)).mono (R' := fun r w' => r = .returned (.bool (powB c.least c.seg 256)) ∧ Below W.heap.size W w') (fun r w' h => ⟨h.1, h.2 ▸ Below.refl _ _⟩)
  obtain ⟨t4, h4⟩ : ∃ t, powB c.seg 4 64 = t := ⟨_, rfl⟩
  obtain ⟨t5, h5⟩ : ∃ t, powB c.least c.seg 256 = t := ⟨_, rfl⟩
  rw [h4] at hp1
  rw [h5] at hp2
  have HS1 := Lib.hid (show [decide (1 ≤ c.tag), decide (c.tag ≤ 3), decide (1 ≤ c.most), decide (c.most ≤ 16384), t4, t5, decide (1 ≤ c.den), decide (c.den ≤ 64)].all id = (sizesL c).all id by unfold sizesL; rw [h4, h5])
  obtain ⟨S1, hS1⟩ : ∃ S, (sizesL c).all id = S := ⟨_, rfl⟩
  rw [hS1] at HS1
  have HZ1 := Lib.hid hS1
  have HP1 := Lib.hid hp1
  have HP2 := Lib.hid hp2
  have H4 := Lib.hid h4
  have H5 := Lib.hid h5
  clear hW0 hb0 hp1 hp2 h4 h5 hS1
  have q0 : W0.cell? ⟨w.heap.size, 0, none⟩ = some (.int .u8 c.tag) := b0.cell 0
  have q1 : W0.cell? ⟨w.heap.size, 1, none⟩ = some (.int .i64 c.most) := b0.cell 1
  have q2 : W0.cell? ⟨w.heap.size, 2, none⟩ = some (.int .i64 c.seg) := b0.cell 2
  have q3 : W0.cell? ⟨w.heap.size, 3, none⟩ = some (.int .i64 c.least) := b0.cell 3
  have q4 : W0.cell? ⟨w.heap.size, 4, none⟩ = some (.int .i64 c.den) := b0.cell 4
  have q5 : W0.cell? ⟨w.heap.size, 5, none⟩ = some (.int .i64 c.leafLow) := b0.cell 5
  have q6 : W0.cell? ⟨w.heap.size, 6, none⟩ = some (.int .i64 c.rootLow) := b0.cell 6
  have q7 : W0.cell? ⟨w.heap.size, 7, none⟩ = some (.int .i64 c.rootHigh) := b0.cell 7
  have q8 : W0.cell? ⟨w.heap.size, 8, none⟩ = some (.int .i64 c.leafHigh) := b0.cell 8
  have i0 := b0.lt
  clear b0
  go_enter Tryz.func16, Tryz.ntmps16
  go_upto_region 1 with fail
  rw [HW0.out]
  go_cut [3] from 5 to 32 (fun v wx => v = .bool S1 ∧ Below W0.heap.size W0 wx)
  case first =>
    go_region_held3 (fun w' => (∀ bq jq, bq < W0.heap.size → w'.cell? ⟨bq, jq, none⟩ = W0.cell? ⟨bq, jq, none⟩) ∧ (∀ bq jq, bq < W0.heap.size → w'.frozen? ⟨bq, jq, none⟩ = W0.frozen? ⟨bq, jq, none⟩) ∧ W0.heap.size ≤ w'.heap.size ∧ Below W0.heap.size W0 w') ((with_reducible first | exact SB.init | exact SB.init0 | exact SB.alloc _ (by assumption) | exact SB.allocD _ (by assumption) | exact SB.below (by assumption) (by assumption) | assumption))
      (first
        | (have hx := hv21; go_at_call 40; refine (HP2.out _).mono ?_; rintro e22 v22 ⟨rfl, hv22⟩; have hl22 := SB.le hv22 (by assumption); obtain ⟨hc22, hz22, hs22⟩ := wfacts hv22)
        | (go_at_call 40; refine (HP1.out _).mono ?_; rintro e21 v21 ⟨rfl, hv21⟩; have hl21 := SB.le hv21 (by assumption); obtain ⟨hc21, hz21, hs21⟩ := wfacts hv21)
        | (go_at_call 40; refine (HP2.out _).mono ?_; rintro e23 v23 ⟨rfl, hv23⟩; have hl23 := SB.le hv23 (by assumption); obtain ⟨hc23, hz23, hs23⟩ := wfacts hv23)
        | (go_at_call 39; refine (allB_any _ [decide (1 ≤ c.tag), decide (c.tag ≤ 3), decide (1 ≤ c.most), decide (c.most ≤ 16384), t4, t5, decide (1 ≤ c.den), decide (c.den ≤ 64)] 8 _ (by exact sl_new1 _ _ _) (by simp)).mono ?_; rw [HS1.out]; rintro e24 v24 ⟨rfl, hv24⟩; have hl24 := SB.le hv24 (by assumption); obtain ⟨hc24, hz24, hs24⟩ := wfacts hv24)
        | fail "no arm")
    all_goals
      go_wp2_with fail
      go_meet
      exact ⟨by simp, SB.bel (by assumption)⟩
  case rest =>
    obtain ⟨rfl, hb1⟩ := hcut
    rename_i hk
    refine hk _ _ ?_
    have HB1 := Lib.hid (bext HB0.out hb1)
    have bC1 := HC0.out.below hb1 HC0.out.lt
    have HC1 := Lib.hid bC1
    clear hk hb1 q0 q1 q2 q3 q4 q5 q6 q7 q8 i0 HP1 HP2 HS1
    have q0 : wc.cell? ⟨w.heap.size, 0, none⟩ = some (.int .u8 c.tag) := bC1.cell 0
    have q1 : wc.cell? ⟨w.heap.size, 1, none⟩ = some (.int .i64 c.most) := bC1.cell 1
    have q2 : wc.cell? ⟨w.heap.size, 2, none⟩ = some (.int .i64 c.seg) := bC1.cell 2
    have q3 : wc.cell? ⟨w.heap.size, 3, none⟩ = some (.int .i64 c.least) := bC1.cell 3
    have q4 : wc.cell? ⟨w.heap.size, 4, none⟩ = some (.int .i64 c.den) := bC1.cell 4
    have q5 : wc.cell? ⟨w.heap.size, 5, none⟩ = some (.int .i64 c.leafLow) := bC1.cell 5
    have q6 : wc.cell? ⟨w.heap.size, 6, none⟩ = some (.int .i64 c.rootLow) := bC1.cell 6
    have q7 : wc.cell? ⟨w.heap.size, 7, none⟩ = some (.int .i64 c.rootHigh) := bC1.cell 7
    have q8 : wc.cell? ⟨w.heap.size, 8, none⟩ = some (.int .i64 c.leafHigh) := bC1.cell 8
    clear bC1
    go_wp2_with fail
    refine (allB_any _ [decide (0 ≤ c.leafLow), decide (c.leafLow < c.rootLow), decide (c.rootLow < c.rootHigh), decide (c.rootHigh < c.leafHigh), decide (c.leafHigh ≤ c.den)] 5 _ (by exact sl_new1 _ _ _) (by simp)).mono ?_
    obtain ⟨S2, hS2⟩ : ∃ S, (partsL c).all id = S := ⟨_, rfl⟩
    have hS2' := hS2
    unfold partsL at hS2'
    rw [hS2']
    have HZ2 := Lib.hid hS2
    clear hS2 hS2'
    have ha1 : Below wc.heap.size wc (wc.alloc (.cells #[.bool (decide (0 ≤ c.leafLow)), .bool (decide (c.leafLow < c.rootLow)), .bool (decide (c.rootLow < c.rootHigh)), .bool (decide (c.rootHigh < c.leafHigh)), .bool (decide (c.leafHigh ≤ c.den))] 4)) := (Below.refl _ _).alloc (Nat.le_refl _) _
    rintro e w2 ⟨rfl, hb2⟩
    have HB2 := Lib.hid (bext HB1.out (bext ha1 hb2))
    have HC2 := Lib.hid (HC1.out.below (bext ha1 hb2) HC1.out.lt)
    clear ha1 hb2 q0 q1 q2 q3 q4 q5 q6 q7 q8
    cases hs1 : S1 with
    | false =>
      have HE : Hid (errC c = 50) := by show _ = _; unfold errC okC; rw [HZ1.out, hs1]; rfl
      go_wp2_with fail
      go_ret
      exact ⟨by rw [HE.out]; rfl, HB2.out⟩
    | true =>
    subst hs1
    cases hs2 : S2 with
    | false =>
      have HE : Hid (errC c = 50) := by show _ = _; unfold errC okC; rw [HZ1.out, HZ2.out, hs2]; rfl
      go_wp2_with fail
      go_ret
      exact ⟨by rw [HE.out]; rfl, HB2.out⟩
    | true =>
    subst hs2
    have hb := HZ1.out
    have hb' := HZ2.out
    simp only [sizesL, partsL, powB, List.all_cons, List.all_nil, id, Bool.and_eq_true, decide_eq_true_eq, Bool.and_true] at hb hb'
    obtain ⟨hx1, hx2, hx3, hx4, ⟨⟨hx5, hx6⟩, hx7⟩, ⟨⟨hx8, hx9⟩, hx10⟩, hx11, hx12⟩ := hb
    obtain ⟨hy1, hy2, hy3, hy4, hy5⟩ := hb'
    have hz1 : IntKind.i64.wrap (2 * c.rootHigh) = 2 * c.rootHigh := IntWalk.i64_in _ (by omega)
    have hz2 : IntKind.i64.wrap (8 * c.rootLow) = 8 * c.rootLow := IntWalk.i64_in _ (by omega)
    have hz3 : IntKind.i64.wrap (2 * c.den) = 2 * c.den := IntWalk.i64_in _ (by omega)
    have hm : 0 ≤ c.rootLow * c.least ∧ c.rootLow * c.least ≤ 16384 := by
      have h1 : 0 ≤ c.rootLow := by omega
      have h2 : c.rootLow ≤ 64 := by omega
      refine ⟨Int.mul_nonneg h1 (by omega), ?_⟩
      have := Int.mul_le_mul h2 hx9 (by omega) (by omega)
      omega
    have hz4 : IntKind.i64.wrap (c.rootLow * c.least) = c.rootLow * c.least := IntWalk.i64_in _ (by omega)
    have HX := Lib.hid (show (1 ≤ c.most ∧ c.most ≤ 16384) ∧ (4 ≤ c.seg ∧ c.seg ≤ 64) ∧ (c.seg ≤ c.least ∧ c.least ≤ 256) ∧ (1 ≤ c.den ∧ c.den ≤ 64) from ⟨⟨hx3, hx4⟩, ⟨hx5, hx6⟩, ⟨hx8, hx9⟩, hx11, hx12⟩)
    have HY := Lib.hid (show 0 ≤ c.leafLow ∧ c.leafLow < c.rootLow ∧ c.rootLow < c.rootHigh ∧ c.rootHigh < c.leafHigh ∧ c.leafHigh ≤ c.den from ⟨hy1, hy2, hy3, hy4, hy5⟩)
    clear hx1 hx2 hx3 hx4 hx5 hx6 hx7 hx8 hx9 hx10 hx11 hx12 hy1 hy2 hy3 hy4 hy5 hm
    have bC2 := HC2.out
    have q0 : w2.cell? ⟨w.heap.size, 0, none⟩ = some (.int .u8 c.tag) := bC2.cell 0
    have q1 : w2.cell? ⟨w.heap.size, 1, none⟩ = some (.int .i64 c.most) := bC2.cell 1
    have q2 : w2.cell? ⟨w.heap.size, 2, none⟩ = some (.int .i64 c.seg) := bC2.cell 2
    have q3 : w2.cell? ⟨w.heap.size, 3, none⟩ = some (.int .i64 c.least) := bC2.cell 3
    have q4 : w2.cell? ⟨w.heap.size, 4, none⟩ = some (.int .i64 c.den) := bC2.cell 4
    have q5 : w2.cell? ⟨w.heap.size, 5, none⟩ = some (.int .i64 c.leafLow) := bC2.cell 5
    have q6 : w2.cell? ⟨w.heap.size, 6, none⟩ = some (.int .i64 c.rootLow) := bC2.cell 6
    have q7 : w2.cell? ⟨w.heap.size, 7, none⟩ = some (.int .i64 c.rootHigh) := bC2.cell 7
    have q8 : w2.cell? ⟨w.heap.size, 8, none⟩ = some (.int .i64 c.leafHigh) := bC2.cell 8
    clear bC2
    go_wp2_with fail
    refine (allB_any _ [decide (c.den ≤ 2 * c.rootHigh), decide (8 * c.rootLow ≤ c.den), decide (2 * c.den ≤ c.rootLow * c.least)] 3 _ (by exact sl_new1 _ _ _) (by simp)).mono ?_
    obtain ⟨S3, hS3⟩ : ∃ S, (roomL c).all id = S := ⟨_, rfl⟩
    have hS3' := hS3
    unfold roomL at hS3'
    rw [hS3']
    have HZ3 := Lib.hid hS3
    clear hS3 hS3' hz1 hz2 hz3 hz4
    have ha1 : Below w2.heap.size w2 (w2.alloc (.cells #[.bool (decide (c.den ≤ 2 * c.rootHigh)), .bool (decide (8 * c.rootLow ≤ c.den)), .bool (decide (2 * c.den ≤ c.rootLow * c.least))] 4)) := (Below.refl _ _).alloc (Nat.le_refl _) _
    rintro e w3 ⟨rfl, hb3⟩
    have HB3 := Lib.hid (bext HB2.out (bext ha1 hb3))
    have HC3 := Lib.hid (HC2.out.below (bext ha1 hb3) HC2.out.lt)
    clear ha1 hb3 q0 q1 q2 q3 q4 q5 q6 q7 q8
    cases hs3 : S3 with
    | false =>
      have HE : Hid (errC c = 50) := by show _ = _; unfold errC okC; rw [HZ1.out, HZ2.out, HZ3.out, hs3]; rfl
      go_wp2_with fail
      go_ret
      exact ⟨by rw [HE.out]; rfl, HB3.out⟩
    | true =>
    subst hs3
    have hb := HZ3.out
    simp only [roomL, List.all_cons, List.all_nil, id, Bool.and_eq_true, decide_eq_true_eq, Bool.and_true] at hb
    obtain ⟨hr1, hr2, hr3⟩ := hb
    obtain ⟨⟨hx3, hx4⟩, ⟨hx5, hx6⟩, ⟨hx8, hx9⟩, hx11, hx12⟩ := HX.out
    obtain ⟨hy1, hy2, hy3, hy4, hy5⟩ := HY.out
    have hts : TakeS c c.most.toNat c.den.toNat c.rootHigh.toNat c.least.toNat := ⟨(Int.toNat_of_nonneg (by omega)).symm, (Int.toNat_of_nonneg (by omega)).symm, (Int.toNat_of_nonneg (by omega)).symm, by omega, by omega, by omega, by omega, by omega, by omega, by omega, by omega⟩
    have htl := takes_le (n := c.most.toNat) (den := c.den.toNat) (high := c.rootHigh.toNat) hts.n2 hts.dh (fits_start (s := c.least.toNat) hts.n2 hts.dh (by have := hts.l1; omega) hts.l2)
    have htk := fun W => takes_any c c.most.toNat c.den.toNat c.rootHigh.toNat c.least.toNat W hts
    have htall : c.tall = Nat.log2 (takesN c.most.toNat c.den.toNat c.rootHigh.toNat c.least.toNat / c.seg.toNat) := rfl
    have htl2 : takesN c.most.toNat c.den.toNat c.rootHigh.toNat c.least.toNat ≤ 65536 ∧ c.least.toNat ≤ takesN c.most.toNat c.den.toNat c.rootHigh.toNat c.least.toNat := htl
    obtain ⟨T, hT⟩ : ∃ T, takesN c.most.toNat c.den.toNat c.rootHigh.toNat c.least.toNat = T := ⟨_, rfl⟩
    rw [hT] at htk htall htl2
    rw [Int.toNat_of_nonneg (by omega : 0 ≤ c.most)] at htk
    have hht := fun W => height_any c T c.seg.toNat W (Int.toNat_of_nonneg (by omega)).symm htl2.1 (by omega) (by omega)
    rw [← htall] at hht
    obtain ⟨t, ht⟩ : ∃ t, c.tall = t := ⟨_, rfl⟩
    rw [ht] at hht htall
    have ht16 : t ≤ 16 := by
      rw [htall]
      exact log2_le (Nat.le_trans (Nat.div_le_self _ _) htl2.1)
    have hm1 : 0 ≤ c.den * (t : Int) ∧ c.den * (t : Int) ≤ 1024 := by
      refine ⟨Int.mul_nonneg (by omega) (by omega), ?_⟩
      have := Int.mul_le_mul hx12 (show (t : Int) ≤ 16 by omega) (by omega) (by omega)
      omega
    have hm2 : 0 ≤ (c.leafHigh - c.rootHigh) * c.seg ∧ (c.leafHigh - c.rootHigh) * c.seg ≤ 4096 := by
      refine ⟨Int.mul_nonneg (by omega) (by omega), ?_⟩
      have := Int.mul_le_mul (show c.leafHigh - c.rootHigh ≤ 64 by omega) hx6 (by omega) (by omega)
      omega
    have hz1 : IntKind.i64.wrap (c.leafHigh - c.rootHigh) = c.leafHigh - c.rootHigh := IntWalk.i64_in _ (by omega)
    have hz2 : IntKind.i64.wrap ((c.leafHigh - c.rootHigh) * c.seg) = (c.leafHigh - c.rootHigh) * c.seg := IntWalk.i64_in _ (by omega)
    have hz3 : IntKind.i64.wrap (c.den * (t : Int)) = c.den * (t : Int) := IntWalk.i64_in _ (by omega)
    have HE : Hid (errC c = if (c.leafHigh - c.rootHigh) * c.seg < c.den * (t : Int) then 50 else 0) := by
      show _ = _
      unfold errC okC tallB
      rw [HZ1.out, HZ2.out, HZ3.out, ht]
      by_cases h : (c.leafHigh - c.rootHigh) * c.seg < c.den * (t : Int)
      · rw [if_pos h, decide_eq_false (by omega)]; rfl
      · rw [if_neg h, decide_eq_true (by omega)]; rfl
    have HTK := Lib.hid htk
    have HHT := Lib.hid hht
    clear hts htl htk htall htl2 hT hht ht hr1 hr2 hr3 hx3 hx4 hx5 hx6 hx8 hx9 hx11 hx12 hy1 hy2 hy3 hy4 hy5 hm1 hm2 ht16
    have bC3 := HC3.out
    have q0 : w3.cell? ⟨w.heap.size, 0, none⟩ = some (.int .u8 c.tag) := bC3.cell 0
    have q1 : w3.cell? ⟨w.heap.size, 1, none⟩ = some (.int .i64 c.most) := bC3.cell 1
    have q2 : w3.cell? ⟨w.heap.size, 2, none⟩ = some (.int .i64 c.seg) := bC3.cell 2
    have q3 : w3.cell? ⟨w.heap.size, 3, none⟩ = some (.int .i64 c.least) := bC3.cell 3
    have q4 : w3.cell? ⟨w.heap.size, 4, none⟩ = some (.int .i64 c.den) := bC3.cell 4
    have q5 : w3.cell? ⟨w.heap.size, 5, none⟩ = some (.int .i64 c.leafLow) := bC3.cell 5
    have q6 : w3.cell? ⟨w.heap.size, 6, none⟩ = some (.int .i64 c.rootLow) := bC3.cell 6
    have q7 : w3.cell? ⟨w.heap.size, 7, none⟩ = some (.int .i64 c.rootHigh) := bC3.cell 7
    have q8 : w3.cell? ⟨w.heap.size, 8, none⟩ = some (.int .i64 c.leafHigh) := bC3.cell 8
    have i3 := bC3.lt
    clear bC3
    go_upto_region 5 with fail
    go_cut [107] from 90 to 107 (fun v wx => v = .bool (decide ((c.leafHigh - c.rootHigh) * c.seg < c.den * (t : Int))) ∧ Below w3.heap.size w3 wx)
    case first =>
      go_region_held3 (fun w' => (∀ bq jq, bq < w3.heap.size → w'.cell? ⟨bq, jq, none⟩ = w3.cell? ⟨bq, jq, none⟩) ∧ (∀ bq jq, bq < w3.heap.size → w'.frozen? ⟨bq, jq, none⟩ = w3.frozen? ⟨bq, jq, none⟩) ∧ w3.heap.size ≤ w'.heap.size ∧ Below w3.heap.size w3 w') ((with_reducible first | exact SB.init | exact SB.init0 | exact SB.alloc _ (by assumption) | exact SB.allocD _ (by assumption) | exact SB.below (by assumption) (by assumption) | assumption))
        (first
          | (go_at_call 42; refine (HTK.out _).mono ?_; rintro e21 v21 ⟨rfl, hv21⟩; have hl21 := SB.le hv21 (by assumption); obtain ⟨hc21, hz21, hs21⟩ := wfacts hv21)
          | (go_at_call 41; refine (HHT.out _).mono ?_; rintro e22 v22 ⟨rfl, hv22⟩; have hl22 := SB.le hv22 (by assumption); obtain ⟨hc22, hz22, hs22⟩ := wfacts hv22)
          | fail "no arm")
      all_goals
        go_wp2_with fail
        go_meet
        exact ⟨by simp, SB.bel (by assumption)⟩
    case rest =>
      obtain ⟨rfl, hb4⟩ := hcut
      have HB4 := Lib.hid (bext HB3.out hb4)
      clear hb4 q0 q1 q2 q3 q4 q5 q6 q7 q8
      by_cases hlt : (c.leafHigh - c.rootHigh) * c.seg < c.den * (t : Int)
      · rw [decide_eq_true hlt]
        have HV : Hid (errC c = 50) := by show _ = _; rw [HE.out, if_pos hlt]
        clear hlt
        go_wp2_with fail
        go_ret
        exact ⟨by rw [HV.out]; rfl, HB4.out⟩
      · rw [decide_eq_false hlt]
        have HV : Hid (errC c = 0) := by show _ = _; rw [HE.out, if_neg hlt]
        clear hlt
        go_wp2_with fail
        go_ret
        exact ⟨by rw [HV.out]; rfl, HB4.out⟩
end Go.Proofs.YtolclahkfmplfaaGreatDoor

/- Plain facts: how an entry climbs levels. No program in sight. -/
namespace Go.Proofs.YtolclahkfmplfaaGreatDoor
open Go

def cnt (rs : Lv) : Nat := rs.countP (fun l => decide (l ≠ []))
theorem cnt_set : ∀ (rs : Lv) (k : Nat), lev rs k ≠ [] → cnt (rs.set k []) + 1 = cnt rs
  | [], k, h => absurd (lev_nil k) h
  | l :: rs, 0, h => by
    have : l ≠ [] := by simpa [lev] using h
    simp [cnt, this]
  | l :: rs, k + 1, h => by
    have := cnt_set rs k (by simpa [lev] using h)
    unfold cnt at this ⊢
    rw [List.set_cons_succ, List.countP_cons, List.countP_cons]
    omega
theorem cnt_zero {rs : Lv} (h : cnt rs = 0) (j : Nat) : lev rs j = [] := by
  by_cases e : lev rs j = []
  · exact e
  · have := cnt_set rs j e; omega
def heldB (rs : Lv) (k : Nat) : Bool := (rs.drop (k + 1)).any (fun l => decide (l ≠ []))
theorem held_false {rs : Lv} {k : Nat} : heldB rs k = false ↔ ∀ j, k < j → lev rs j = [] := by
  unfold heldB
  rw [List.any_eq_false]
  constructor
  · intro h j hj
    rcases Nat.lt_or_ge j rs.length with h1 | h1
    · have h2 := h (rs[j]'h1) (List.mem_iff_getElem.2 ⟨j - (k + 1), by simp; omega, by rw [List.getElem_drop]; congr 1; omega⟩)
      rw [lev_lt h1]
      simpa using h2
    · exact lev_ge h1
  · intro h l hl
    obtain ⟨i, hi, e⟩ := List.mem_iff_getElem.1 hl
    rw [List.getElem_drop] at e
    have := h (k + 1 + i) (by omega)
    rw [lev_lt (by simp at hi; omega), e] at this
    simp [this]
def mergeR (rs : Lv) (r : List Ent) : List Ent := mL [r, lev rs (up r.length)] (!heldB rs (up r.length))
/-- a run goes up, level by level, while its level holds one -/
def climb (rs : Lv) (r : List Ent) (n : Int) : Lv × List Ent × Int :=
  if _h : r ≠ [] ∧ lev rs (up r.length) ≠ [] then
    climb (rs.set (up r.length) []) (mergeR rs r) (IntKind.u64.wrap (n + (mergeR rs r).length))
  else (rs, r, n)
termination_by cnt rs
decreasing_by
  have := cnt_set rs (up r.length) _h.2
  omega
theorem climb_up {rs : Lv} {r : List Ent} {n : Int} (h1 : r ≠ []) (h2 : lev rs (up r.length) ≠ []) : climb rs r n = climb (rs.set (up r.length) []) (mergeR rs r) (IntKind.u64.wrap (n + (mergeR rs r).length)) := by
  rw [climb, dif_pos ⟨h1, h2⟩]
theorem climb_end {rs : Lv} {r : List Ent} {n : Int} (h : r = [] ∨ lev rs (up r.length) = []) : climb rs r n = (rs, r, n) := by
  rw [climb, dif_neg]
  rintro ⟨h1, h2⟩
  rcases h with h | h
  · exact h1 h
  · exact h2 h
/-- what stands while a run goes up -/
structure Climbs (rs : Lv) (r : List Ent) : Prop where
  chk : ∀ j, chkE (lev rs j) = 0
  run : chkE r = 0
  size : r.length + tot rs ≤ 65536
  stood : Stood rs
theorem Climbs.mE {rs : Lv} {r : List Ent} (h : Climbs rs r) (j : Nat) : mE [r, lev rs j] = 0 := by
  refine mE_of (by simp [chkAllE, h.chk j, h.run]) ?_
  have := tot_lev rs j
  have := h.size
  simp; omega
theorem Climbs.len {rs : Lv} {r : List Ent} (_h : Climbs rs r) : (mergeR rs r).length ≤ r.length + (lev rs (up r.length)).length := by
  exact mL_len _ (by simp)
theorem Climbs.step {rs : Lv} {r : List Ent} (h : Climbs rs r) : Climbs (rs.set (up r.length) []) (mergeR rs r) := by
  refine ⟨fun j => ?_, mL_chk _ (h.mE _), ?_, fun j => ?_⟩
  · rw [lev_set_nil]
    split
    · exact chk_nil
    · exact h.chk j
  · have h1 := h.len
    have h2 := tot_set_nil rs (up r.length)
    have h3 := h.size
    omega
  · rw [lev_set_nil]
    split
    · exact .inl rfl
    · exact h.stood j
theorem climb_ok : ∀ (m : Nat) {rs : Lv} {r : List Ent} {n : Int}, cnt rs ≤ m → Climbs rs r → Climbs (climb rs r n).1 (climb rs r n).2.1 ∧ ((climb rs r n).2.1 = [] ∨ lev (climb rs r n).1 (up (climb rs r n).2.1.length) = []) ∧ (climb rs r n).1.length = rs.length ∧ (climb rs r n).2.1.length + tot (climb rs r n).1 ≤ r.length + tot rs := by
  intro m
  induction m with
  | zero =>
    intro rs r n hm h
    have h0 := cnt_zero (rs := rs) (by omega) (up r.length)
    rw [climb_end (.inr h0)]
    exact ⟨h, .inr h0, rfl, Nat.le_refl _⟩
  | succ m ih =>
    intro rs r n hm h
    by_cases e : r = [] ∨ lev rs (up r.length) = []
    · rw [climb_end e]
      exact ⟨h, e, rfl, Nat.le_refl _⟩
    · have e1 : r ≠ [] := fun x => e (.inl x)
      have e2 : lev rs (up r.length) ≠ [] := fun x => e (.inr x)
      rw [climb_up e1 e2]
      have h1 := cnt_set rs (up r.length) e2
      obtain ⟨a, b, c, d⟩ := ih (n := IntKind.u64.wrap (n + (mergeR rs r).length)) (by omega) h.step
      refine ⟨a, b, by rw [c, List.length_set], ?_⟩
      have h2 := tot_set_nil rs (up r.length)
      have h3 := h.len
      omega

/-- levels behind an entry was let in, and how many were laid -/
def climbE (rs : Lv) (n : Int) (y : Ent) : Lv × List Ent × Int := if y.dead = true ∧ rs = [] then (rs, [], n) else climb rs [y] (IntKind.u64.wrap (n + 1))
def letL (rs : Lv) (n : Int) (y : Ent) : Lv := cutL (standL (climbE rs n y).1 (climbE rs n y).2.1)
def letN (rs : Lv) (n : Int) (y : Ent) : Int := (climbE rs n y).2.2
def allL (rs : Lv) : List Ent := liveE (allE (rs.map inL))
def fat (rs : Lv) : Bool := decide (2 * (allL rs).length + 2 < tot rs)
def slimL (rs : Lv) : Lv := if fat rs = true then standL [] (laid (allL rs)) else rs
def slimN (rs : Lv) (n : Int) : Int := if fat rs = true then IntKind.u64.wrap (n + (allL rs).length) else n
def addE (rs : Lv) (y : Ent) : Int := if chkR rs ≠ 0 then chkR rs else if tot rs = 65536 then 4 else if badEnt y = true then 8 else 0
def addL (rs : Lv) (n : Int) (y : Ent) : Lv := if addE rs y = 0 then slimL (letL rs n y) else []
def addN (rs : Lv) (n : Int) (y : Ent) : Int := if addE rs y = 0 then slimN (letL rs n y) (letN rs n y) else 0
theorem chk_one {y : Ent} (h : badEnt y = false) : chkE [y] = 0 := by
  have hE : buildE [y] = 0 := by
    unfold buildE
    rw [if_neg (by simp), if_neg (by simp [h]), if_pos (by simp [rises])]
  have hl : laid [y] = [y] := by
    unfold laid ranks
    simp [inord, entAt]
  rw [← hl]
  exact build_chk hE
theorem May.climbs {rs : Lv} (h : May rs) {y : Ent} (hy : badEnt y = false) (ht : tot rs ≠ 65536) : Climbs rs [y] := by
  refine ⟨h.chk, chk_one hy, ?_, h.stood⟩
  have := h.size
  simp; omega
theorem addE_zero {rs : Lv} {y : Ent} : addE rs y = 0 ↔ May rs ∧ tot rs ≠ 65536 ∧ badEnt y = false := by
  rw [← chkR_zero]
  unfold addE
  by_cases h1 : chkR rs = 0
  · rw [if_neg (by simp [h1])]
    by_cases h2 : tot rs = 65536
    · simp [h2]
    · rw [if_neg h2]
      cases badEnt y <;> simp [h1, h2]
  · rw [if_pos h1]
    simp [h1]
theorem climbE_ok {rs : Lv} (h : May rs) {y : Ent} (hy : badEnt y = false) (ht : tot rs ≠ 65536) (n : Int) :
    Climbs (climbE rs n y).1 (climbE rs n y).2.1 ∧ ((climbE rs n y).2.1 = [] ∨ lev (climbE rs n y).1 (up (climbE rs n y).2.1.length) = []) ∧ (climbE rs n y).1.length = rs.length ∧ (climbE rs n y).2.1.length + tot (climbE rs n y).1 ≤ tot rs + 1 := by
  unfold climbE
  split
  · rename_i e
    refine ⟨⟨h.chk, chk_nil, by simpa using h.size, h.stood⟩, .inl rfl, rfl, by simp⟩
  · obtain ⟨a, b, c, d⟩ := climb_ok (cnt rs) (n := IntKind.u64.wrap (n + 1)) (Nat.le_refl _) (h.climbs hy ht)
    exact ⟨a, b, c, by simp at d; omega⟩
theorem letL_tot {rs : Lv} (h : May rs) {y : Ent} (hy : badEnt y = false) (ht : tot rs ≠ 65536) (n : Int) : tot (letL rs n y) ≤ tot rs + 1 ∧ tot (letL rs n y) ≤ 65536 := by
  obtain ⟨a, b, _, d⟩ := climbE_ok h hy ht n
  unfold letL
  rw [tot_cut, tot_stand b]
  have := h.size
  omega
theorem letL_lev {rs : Lv} (n : Int) (y : Ent) (j : Nat) : lev (letL rs n y) j = if (climbE rs n y).2.1 ≠ [] ∧ j = up (climbE rs n y).2.1.length then (climbE rs n y).2.1 else lev (climbE rs n y).1 j := by
  unfold letL
  rw [lev_cut, lev_stand]
theorem letL_chk {rs : Lv} (h : May rs) {y : Ent} (hy : badEnt y = false) (ht : tot rs ≠ 65536) (n : Int) (j : Nat) : chkE (lev (letL rs n y) j) = 0 := by
  obtain ⟨a, _⟩ := climbE_ok h hy ht n
  rw [letL_lev]
  split
  · exact a.run
  · exact a.chk j
theorem letL_stood {rs : Lv} (h : May rs) {y : Ent} (hy : badEnt y = false) (ht : tot rs ≠ 65536) (n : Int) : Stood (letL rs n y) := by
  obtain ⟨a, _⟩ := climbE_ok h hy ht n
  intro j
  rw [letL_lev]
  split
  · rename_i e; exact .inr e.2.symm
  · exact a.stood j
theorem letL_mE {rs : Lv} (h : May rs) {y : Ent} (hy : badEnt y = false) (ht : tot rs ≠ 65536) (n : Int) : mE (letL rs n y) = 0 := by
  refine mE_of (chkAll_zero fun r hr => ?_) (letL_tot h hy ht n).2
  obtain ⟨j, _, e⟩ := lev_of_mem hr
  rw [← e]
  exact letL_chk h hy ht n j
end Go.Proofs.YtolclahkfmplfaaGreatDoor

/- Plain facts: what is found in a run, by the entries themselves. No program in sight. -/
namespace Go.Proofs.YtolclahkfmplfaaGreatDoor
open Go

theorem look_isNone {l : List Ent} {k : Int} (h : look l k = none) : ∀ e ∈ l, e.key ≠ k := by
  unfold look at h
  rw [List.find?_eq_none] at h
  intro e he
  simpa using h e he
theorem look_perm {l m : List Ent} (hp : l.Perm m) (hr : RisE m) (k : Int) : look l k = look m k := by
  cases h : look l k with
  | some e =>
    obtain ⟨h1, h2⟩ := look_key h
    have := look_mem hr (hp.mem_iff.1 h2)
    rw [h1] at this
    exact this.symm
  | none =>
    cases h2 : look m k with
    | none => rfl
    | some e =>
      obtain ⟨h3, h4⟩ := look_key h2
      exact absurd h3 (look_isNone h e (hp.mem_iff.2 h4))
theorem look_in {l : List Ent} (h : chkE l = 0) (k : Int) : look l k = look (inL l) k := look_perm (inL_perm l).symm (chk_ris h) k
theorem ris_count : ∀ {m : List Ent} (k : Int), RisE m → ∀ i (hi : i < m.length), ((m[i]'hi).key < k ↔ i < belK m k)
  | [], k, _, i, hi => by simp at hi
  | a :: m, k, h, i, hi => by
    obtain ⟨h1, h2⟩ := RisE.cons.1 h
    have hb : belK (a :: m) k = belK m k + (if a.key < k then 1 else 0) := by
      unfold belK
      rw [List.countP_cons]
      simp
    rw [hb]
    by_cases ha : a.key < k
    · rw [if_pos ha]
      cases i with
      | zero => simp [ha]
      | succ i =>
        have := ris_count k h2 i (by simpa using hi)
        simp at this ⊢
        exact this
    · rw [if_neg ha]
      have h0 : belK m k = 0 := by
        unfold belK
        rw [List.countP_eq_zero]
        intro e he
        have := h1 e he
        simp; omega
      rw [h0]
      cases i with
      | zero => simp; omega
      | succ i =>
        have := h1 _ (List.getElem_mem (by simpa using hi : i < m.length))
        simp; omega
/-- sorted entries from a key on -/
theorem ris_at {m : List Ent} {k : Int} (h : RisE m) (hlt : belK m k < m.length) : k ≤ (m[belK m k]'hlt).key := by
  have := (ris_count k h _ hlt)
  omega
theorem ris_look {m : List Ent} {k : Int} (h : RisE m) : look m k = if hlt : belK m k < m.length then (if (m[belK m k]'hlt).key = k then some (m[belK m k]'hlt) else none) else none := by
  cases hl : look m k with
  | some e =>
    obtain ⟨h1, h2⟩ := look_key hl
    obtain ⟨i, hi, he⟩ := List.getElem_of_mem h2
    have hK : belK m k = i := by
      have h3 := ris_count k h i hi
      rw [he] at h3
      have h4 : ¬ i < belK m k := fun hh => by have := h3.2 hh; omega
      have h5 : ¬ belK m k < i := fun hh => by
        have h6 := (List.pairwise_iff_getElem.1 h) (belK m k) i (by omega) hi hh
        have h7 := ris_count k h (belK m k) (by omega)
        rw [he] at h6
        omega
      omega
    subst hK
    rw [dif_pos hi, he, if_pos h1]
  | none =>
    have h2 := look_isNone hl
    split
    · rename_i hlt
      rw [if_neg (h2 _ (List.getElem_mem hlt))]
    · rfl
/-- what Lower tells, by the sorted entries -/
theorem low_inE {l : List Ent} {key : Int} (h : chkE l = 0) (hk : ¬ lowK l key = l.length) :
    ∃ hlt : belK (inL l) key < (inL l).length, entAt l (lowAt l key) = (inL l)[belK (inL l) key]'hlt ∧ lowAt l key < l.length := by
  obtain ⟨_, h2, h3⟩ := low_at h hk
  have hK : lowK l key = belK (inL l) key := by
    rw [lowK_bel]
    unfold belK
    exact ((inL_perm l).countP_eq _).symm
  have hlt : belK (inL l) key < (inL l).length := by
    rw [inL_length, ← hK]
    have := lowK_le l key
    omega
  refine ⟨hlt, ?_, h3⟩
  rw [inL_get]
  congr 1
  rw [hK] at h2
  exact (List.getElem?_eq_some_iff.1 h2).2.symm
theorem low_end {l : List Ent} {key : Int} (hk : lowK l key = l.length) : ¬ belK (inL l) key < (inL l).length := by
  have hK : lowK l key = belK (inL l) key := by
    rw [lowK_bel]
    unfold belK
    exact ((inL_perm l).countP_eq _).symm
  rw [inL_length, ← hK, hk]
  omega
/-- what Find tells, by the entries -/
theorem fd_look {l : List Ent} (key : Int) (h : chkE l = 0) :
    (fdE l key = 0 ∧ fdAt l key < l.length ∧ look l key = some (entAt l (fdAt l key))) ∨ (fdE l key = 6 ∧ look l key = none) := by
  by_cases hk : lowK l key = l.length
  · right
    have h6 := (low_six h hk).1
    refine ⟨by unfold fdE; rw [h6]; rfl, ?_⟩
    rw [look_in h, ris_look (chk_ris h), dif_neg (low_end hk)]
  · obtain ⟨hlt, h1, h2⟩ := low_inE h hk
    have h0 := (low_at h hk).1
    have hfe : fdE l key = if (entAt l (lowAt l key)).key = key then 0 else 6 := by unfold fdE; rw [h0]; rfl
    by_cases hkey : (entAt l (lowAt l key)).key = key
    · left
      rw [if_pos hkey] at hfe
      have hat : fdAt l key = lowAt l key := by unfold fdAt; rw [if_pos hfe]
      refine ⟨hfe, by rw [hat]; exact h2, ?_⟩
      rw [look_in h, ris_look (chk_ris h), dif_pos hlt, ← h1, if_pos hkey, hat]
    · right
      rw [if_neg hkey] at hfe
      refine ⟨hfe, ?_⟩
      rw [look_in h, ris_look (chk_ris h), dif_pos hlt, ← h1, if_neg hkey]
theorem fd_bad {l : List Ent} (key : Int) (h : ¬ chkE l = 0) : fdE l key = chkE l := by
  have := (low_bad key h).1
  unfold fdE
  rw [this, if_pos h]

def zeroE : Ent := ⟨0, 0, false⟩
/-- what Get tells -/
def gtE (l : List Ent) (key : Int) : Int := if chkE l = 0 then (if (look l key).isSome then 0 else 6) else chkE l
def gtX (l : List Ent) (key : Int) : Ent := if chkE l = 0 then (look l key).getD zeroE else zeroE
theorem gt_fd (l : List Ent) (key : Int) : gtE l key = fdE l key ∧ (fdE l key = 0 → fdAt l key < l.length ∧ gtX l key = entAt l (fdAt l key)) ∧ (fdE l key ≠ 0 → gtX l key = zeroE) := by
  unfold gtE gtX
  by_cases h : chkE l = 0
  · rw [if_pos h, if_pos h]
    rcases fd_look key h with ⟨h1, h2, h3⟩ | ⟨h1, h2⟩
    · rw [h1, h3]
      exact ⟨rfl, fun _ => ⟨h2, rfl⟩, fun hh => absurd rfl hh⟩
    · rw [h1, h2]
      exact ⟨rfl, fun hh => by omega, fun _ => rfl⟩
  · rw [if_neg h, if_neg h, fd_bad key h]
    exact ⟨rfl, fun hh => absurd hh h, fun _ => rfl⟩
theorem gt_vals (l : List Ent) (key : Int) : gtE l key = 0 ∨ gtE l key = 6 ∨ (chkE l ≠ 0 ∧ gtE l key = chkE l) := by
  unfold gtE
  split
  · split
    · exact .inl rfl
    · exact .inr (.inl rfl)
  · exact .inr (.inr ⟨by assumption, rfl⟩)

/-- what is found of a key in runs -/
def kfE (rs : List (List Ent)) (key : Int) : Int := if chkAllE rs = 0 then (if (newest rs key).isSome then 0 else 6) else chkAllE rs
def kfX (rs : List (List Ent)) (key : Int) : Ent := if chkAllE rs = 0 then (newest rs key).getD zeroE else zeroE
theorem newest_nil (key : Int) : newest [] key = none := rfl
theorem newest_append (rs qs : List (List Ent)) (key : Int) : newest (rs ++ qs) key = (newest rs key).or (newest qs key) := by
  induction rs with
  | nil => rfl
  | cons r rs ih => rw [List.cons_append, newest_cons, newest_cons, ih, Option.or_assoc]
theorem newest_succ {rs : List (List Ent)} {k : Nat} (h : k < rs.length) (key : Int) : newest (rs.take (k + 1)) key = (newest (rs.take k) key).or (look (rs[k]'h) key) := by
  rw [List.take_succ_eq_append_getElem h, newest_append, newest_cons, newest_nil, Option.or_none]
theorem chkAll_take {rs : List (List Ent)} {k : Nat} (h : k < rs.length) (h0 : chkAllE (rs.take k) = 0) : chkAllE (rs.take (k + 1)) = chkE (rs[k]'h) ∧ (chkE (rs[k]'h) ≠ 0 → chkAllE rs = chkE (rs[k]'h)) := by
  have key : ∀ (a b : List (List Ent)), chkAllE a = 0 → chkAllE (a ++ b) = chkAllE b := by
    intro a b ha
    induction a with
    | nil => rfl
    | cons r a ih =>
      rw [chkAllE] at ha
      by_cases h1 : chkE r = 0
      · rw [if_pos h1] at ha
        rw [List.cons_append, chkAllE, if_pos h1, ih ha]
      · rw [if_neg h1] at ha
        exact absurd ha h1
  constructor
  · rw [List.take_succ_eq_append_getElem h, key _ _ h0, chkAllE, chkAllE]
    split
    · rename_i h; exact h.symm
    · rfl
  · intro hne
    have h2 := key (rs.take k) (rs.drop k) h0
    rw [List.take_append_drop, List.drop_eq_getElem_cons h, chkAllE, if_neg hne] at h2
    exact h2
theorem newest_in {rs : List (List Ent)} (h : chkAllE rs = 0) (key : Int) : newest (rs.map inL) key = newest rs key := by
  induction rs with
  | nil => rfl
  | cons r rs ih =>
    have h1 := chkAll_ok h r (by simp)
    have h2 : chkAllE rs = 0 := chkAll_zero fun q hq => chkAll_ok h q (by simp [hq])
    rw [List.map_cons, newest_cons, newest_cons, ih h2, look_in h1]
theorem ins_ris {rs : List (List Ent)} (h : chkAllE rs = 0) : ∀ r ∈ rs.map inL, RisE r := by
  intro r hr
  obtain ⟨q, hq, rfl⟩ := List.mem_map.1 hr
  exact chk_ris (chkAll_ok h q hq)
/-- what is found in runs merged -/
theorem mL_look {rs : List (List Ent)} (h : mE rs = 0) (key : Int) : look (mL rs false) key = newest rs key := by
  have hc := mE_chk h
  have hr := all_ris (ins_ris hc)
  rw [look_in (mL_chk false h), mL_in false h]
  show look (allE (rs.map inL)) key = _
  have := (fold_law (rs.map inL) RisE.nil (ins_ris hc)).2 key
  unfold allE
  rw [this]
  have h2 : look ([] : List Ent) key = none := rfl
  rw [h2, Option.none_or, newest_in hc]
theorem look_live {l : List Ent} (hr : RisE l) (key : Int) : look (liveE l) key = (look l key).bind (fun e => if e.dead then none else some e) := by
  cases h : look l key with
  | none =>
    have h2 := look_isNone h
    cases h3 : look (liveE l) key with
    | none => rfl
    | some e =>
      obtain ⟨h4, h5⟩ := look_key h3
      exact absurd h4 (h2 e (List.mem_filter.1 h5).1)
  | some e =>
    obtain ⟨h1, h2⟩ := look_key h
    show _ = if e.dead then none else some e
    cases hd : e.dead with
    | false =>
      have := look_mem (live_ris hr) (List.mem_filter.2 ⟨h2, by simp [hd]⟩ : e ∈ liveE l)
      rw [h1] at this
      rw [this]; rfl
    | true =>
      cases h3 : look (liveE l) key with
      | none => rfl
      | some x =>
        obtain ⟨h4, h5⟩ := look_key h3
        obtain ⟨h6, h7⟩ := List.mem_filter.1 h5
        have := look_mem hr h6
        rw [h4, h] at this
        obtain rfl := Option.some.inj this
        rw [hd] at h7
        simp at h7
theorem mL_look_bare {rs : List (List Ent)} (h : mE rs = 0) (key : Int) : look (mL rs true) key = (newest rs key).bind (fun e => if e.dead then none else some e) := by
  have hc := mE_chk h
  have hr := all_ris (ins_ris hc)
  rw [look_in (mL_chk true h), mL_in true h]
  show look (liveE (allE (rs.map inL))) key = _
  rw [look_live hr]
  have := (fold_law (rs.map inL) RisE.nil (ins_ris hc)).2 key
  have h2 : look ([] : List Ent) key = none := rfl
  rw [h2, Option.none_or, newest_in hc] at this
  show (look (List.foldl bothE [] (rs.map inL)) key).bind _ = _
  rw [this]
end Go.Proofs.YtolclahkfmplfaaGreatDoor
