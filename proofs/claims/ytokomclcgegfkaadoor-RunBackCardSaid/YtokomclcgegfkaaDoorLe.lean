/- Contracts: Lower, Find, Rank, for every run. -/
import Derived.Test.YtokomclcgegfkaaDoorLd
namespace Go.Proofs.YtokomclcgegfkaaDoor
open Go Go.RowKit
set_option maxRecDepth 100000

theorem chk_vals (l : List Ent) : chkE l = 0 ∨ chkE l = 4 ∨ chkE l = 8 ∨ chkE l = 130 := by
  unfold chkE fairE riseE
  repeat' split
  all_goals simp_all
theorem low_bad {l : List Ent} (key : Int) (h : ¬ chkE l = 0) : lowE l key = chkE l ∧ lowAt l key = 0 := by
  have h1 : lowE l key = chkE l := by unfold lowE; rw [if_pos h]
  exact ⟨h1, by unfold lowAt; rw [h1, if_neg h]⟩
theorem low_six {l : List Ent} {key : Int} (h : chkE l = 0) (hk : lowK l key = l.length) : lowE l key = 6 ∧ lowAt l key = 0 := by
  have h1 : lowE l key = 6 := by unfold lowE; rw [if_neg (by omega), if_pos hk]
  exact ⟨h1, by unfold lowAt; rw [h1]; rfl⟩
theorem low_at {l : List Ent} {key : Int} (h : chkE l = 0) (hk : ¬ lowK l key = l.length) : lowE l key = 0 ∧ (inord l.length 0)[lowK l key]? = some (lowAt l key) ∧ lowAt l key < l.length := by
  have h1 : lowE l key = 0 := by unfold lowE; rw [if_neg (by omega), if_neg hk]
  have hle := lowK_le l key
  have hlt : lowK l key < (inord l.length 0).length := by rw [inord_length]; omega
  have h2 : (inord l.length 0)[lowK l key]? = some (lowAt l key) := by unfold lowAt; rw [if_pos h1, List.getD_eq_getElem?_getD, List.getElem?_eq_getElem hlt]; rfl
  exact ⟨h1, h2, inord_lt (List.mem_of_getElem? h2)⟩
/-- what Find tells -/
def fdE (l : List Ent) (key : Int) : Int := if lowE l key ≠ 0 then lowE l key else if (entAt l (lowAt l key)).key = key then 0 else 6
def fdAt (l : List Ent) (key : Int) : Nat := if fdE l key = 0 then lowAt l key else 0
/-- what Rank tells -/
def rkN (l : List Ent) (key : Int) : Nat := if chkE l = 0 then lowK l key else 0

set_option maxHeartbeats 1000000 in
theorem lower_any (A : Option Addr) (l : List Ent) (c : Nat) (key : Int) (w : World) (hA : Sl w A (l.flatMap Ent.cells)) (hl : l.length ≤ 4611686018427387903) (hT : TabAt 1 Lib.deBruijn64tab w) :
    Calls Tryd.prog 17 #[.agg #[.slice A l.length c], .int .i64 key] w (GivesII (lowAt l key) (lowE l key) w) := by
  by_cases hC : chkE l = 0
  · exact lower_ok A l c key w hA hT hC
  · obtain ⟨h1, h2⟩ := low_bad key hC
    obtain ⟨E, hE⟩ : ∃ E, chkE l = E := ⟨_, rfl⟩
    rw [h1, h2, hE]
    rw [hE] at hC
    have HE := Lib.hid hE
    clear h1 h2 hE
    have hb0 : Below w.heap.size w ((w.alloc (.cells #[.slice A l.length c] 24)).alloc (.cells #[.int .i64 key] 2)) := ((Below.refl _ _).alloc (Nat.le_refl _) _).alloc (by simp) _
    go_enter Tryd.func17, Tryd.ntmps17
    go_wp2_with fail
    refine (check_any A l c _ (hA.below hb0) hl).mono ?_
    rw [HE.out]
    rintro e w1 ⟨rfl, hb1⟩
    go_wp2
    refine bodyPost_ret (v := .tuple #[.int .i64 0, .int .i64 E]) (by simp [results, Tryd.results17, go_sem]) rfl ?_
    exact ⟨rfl, bext hb0 hb1⟩

set_option maxHeartbeats 1000000 in
theorem find_any (A : Option Addr) (l : List Ent) (c : Nat) (key : Int) (w : World) (hA : Sl w A (l.flatMap Ent.cells)) (hl : l.length ≤ 4611686018427387903) (hT : TabAt 1 Lib.deBruijn64tab w) :
    Calls Tryd.prog 15 #[.agg #[.slice A l.length c], .int .i64 key] w (GivesII (fdAt l key) (fdE l key) w) := by
  have hb0 : Below w.heap.size w (w.alloc (.cells #[.slice A l.length c] 24)) := (Below.refl _ _).alloc (Nat.le_refl _) _
  have bX := Blk.new w 24 #[.slice A l.length c]
  have hT0 := Lib.hid (tab_below (tab_lt hT) hT hb0)
  obtain ⟨E, hE⟩ : ∃ E, lowE l key = E := ⟨_, rfl⟩
  by_cases h0 : E = 0
  · subst h0
    have hC : chkE l = 0 := by
      rcases chk_vals l with h | h | h | h
      · exact h
      all_goals (have := (low_bad key (show ¬ chkE l = 0 by omega)).1; omega)
    have hK : ¬ lowK l key = l.length := fun h => by have := (low_six hC h).1; omega
    obtain ⟨_, _, hat⟩ := low_at hC hK
    obtain ⟨at_, hx⟩ : ∃ at_, lowAt l key = at_ := ⟨_, rfl⟩
    rw [hx] at hat
    have hfe : fdE l key = if (entAt l at_).key = key then 0 else 6 := by unfold fdE; rw [if_neg (by omega), hx]
    rw [entAt_get hat] at hfe
    obtain ⟨b, off, rfl, hbl, c1, c2, c3⟩ := hA.ent at_ hat
    have hsl := Lib.hid hA
    generalize hp : (l[at_]'hat) = p at *
    have HE := Lib.hid hE
    have HX := Lib.hid hx
    have i0 : (0 : Int) ≤ (at_ : Int) := by omega
    have i1 : (at_ : Int) < (l.length : Int) := by omega
    by_cases hk : p.key = key
    · rw [if_pos hk] at hfe
      have hfa : fdAt l key = at_ := by unfold fdAt; rw [if_pos hfe, hx]
      rw [hfa, hfe]
      have hkk : (p.key == key) = true := by simpa using hk
      clear hE hx hC hK hfe hfa hA hp
      go_enter Tryd.func15, Tryd.ntmps15
      go_wp2_with fail
      refine (lower_any (some ⟨b, off, none⟩) l c key _ (hsl.out.below hb0) hl hT0.out).mono ?_
      unfold GivesII
      rw [HE.out, HX.out]
      rintro e w1 ⟨rfl, hb1⟩
      have hb01 := bext hb0 hb1
      have d0 : w1.cell? ⟨w.heap.size, 0, none⟩ = some (.slice (some ⟨b, off, none⟩) l.length c) := (bX.below hb1 bX.lt).cell 0
      have d1 : w1.cell? ⟨b, off + at_ * 3, none⟩ = some (.int .i64 p.key) := ((bcell hb01).1 b _ hbl).trans c1
      clear c1 c2 c3 bX hb1
      go_wp2
      refine bodyPost_ret (v := .tuple #[.int .i64 (at_ : Int), .int .i64 0]) (by simp [results, Tryd.results15, go_sem]) rfl ?_
      exact ⟨rfl, hb01⟩
    · rw [if_neg hk] at hfe
      have hfa : fdAt l key = 0 := by unfold fdAt; rw [hfe]; rfl
      rw [hfa, hfe]
      have hkk : (p.key == key) = false := by simpa using hk
      clear hE hx hC hK hfe hfa hA hp
      go_enter Tryd.func15, Tryd.ntmps15
      go_wp2_with fail
      refine (lower_any (some ⟨b, off, none⟩) l c key _ (hsl.out.below hb0) hl hT0.out).mono ?_
      unfold GivesII
      rw [HE.out, HX.out]
      rintro e w1 ⟨rfl, hb1⟩
      have hb01 := bext hb0 hb1
      have d0 : w1.cell? ⟨w.heap.size, 0, none⟩ = some (.slice (some ⟨b, off, none⟩) l.length c) := (bX.below hb1 bX.lt).cell 0
      have d1 : w1.cell? ⟨b, off + at_ * 3, none⟩ = some (.int .i64 p.key) := ((bcell hb01).1 b _ hbl).trans c1
      clear c1 c2 c3 bX hb1
      go_wp2
      refine bodyPost_ret (v := .tuple #[.int .i64 0, .int .i64 6]) (by simp [results, Tryd.results15, go_sem]) rfl ?_
      exact ⟨rfl, hb01⟩
  · have hfe : fdE l key = E := by unfold fdE; rw [hE, if_pos h0]
    have hfa : fdAt l key = 0 := by unfold fdAt; rw [hfe, if_neg h0]
    rw [hfa, hfe]
    have HE := Lib.hid hE
    have hA' := Lib.hid hA
    clear hE hfe hfa
    go_enter Tryd.func15, Tryd.ntmps15
    go_wp2_with fail
    refine (lower_any A l c key _ (hA'.out.below hb0) hl hT0.out).mono ?_
    unfold GivesII
    rw [HE.out]
    rintro e w1 ⟨rfl, hb1⟩
    go_wp2
    refine bodyPost_ret (v := .tuple #[.int .i64 0, .int .i64 E]) (by simp [results, Tryd.results15, go_sem]) rfl ?_
    exact ⟨rfl, bext hb0 hb1⟩

set_option maxHeartbeats 1000000 in
theorem within_ok (n x : Nat) (w : World) (hn : n ≤ 65536) (hx : x < n) :
    Calls Tryd.prog 67 #[.int .i64 (n : Nat), .int .i64 (x : Nat)] w fun r w' => r = .returned (.int .i64 0) ∧ w = w' := by
  have h0 : askedE (n : Nat) = 0 := by unfold askedE; rw [if_neg (by omega), if_neg (by omega)]
  have h1 : ¬ (x : Int) < 0 := by omega
  have h2 : ¬ (n : Int) ≤ (x : Int) := by omega
  have H0 := Lib.hid h0
  clear h0
  go_enter Tryd.func67, Tryd.ntmps67
  go_wp2_with fail
  refine (asked_any (n : Nat) _).mono ?_
  rw [H0.out]
  rintro e w1 ⟨rfl, rfl⟩
  go_wp2
  go_ret
  exact ⟨rfl, rfl⟩
set_option maxHeartbeats 1000000 in
theorem eytzRank_ok (n x : Nat) (w : World) (hn : n ≤ 65536) (hx : x < n) :
    Calls Tryd.prog 21 #[.int .i64 (n : Nat), .int .i64 (x : Nat)] w (GivesII ((inord n 0).idxOf x) 0 w) := by
  have i0 : (0 : Int) ≤ (x : Int) := by omega
  have i1 : (x : Int) < (n : Int) := by omega
  go_enter Tryd.func21, Tryd.ntmps21
  go_wp2_with fail
  refine (within_ok n x _ hn hx).mono ?_
  rintro e w1 ⟨rfl, rfl⟩
  go_wp2_with fail
  refine (order_ok n hn _).mono ?_
  rintro e w2 ⟨rfl, ho, hb⟩
  have hr : x < (ranks n).length := by rw [ranks_length]; exact hx
  have cr : w2.cell? ⟨w.heap.size, x, none⟩ = some (.int .i64 ((inord n 0).idxOf x : Nat)) := by
    rw [ho.cell]; simp [hr, ranks_get hx]
  clear ho
  generalize (inord n 0).idxOf x = r at *
  go_wp2
  refine bodyPost_ret (v := .tuple #[.int .i64 (r : Nat), .int .i64 0]) (by simp [results, Tryd.results21, go_sem]) rfl ?_
  exact ⟨rfl, hb⟩

set_option maxHeartbeats 1000000 in
theorem rank_any (A : Option Addr) (l : List Ent) (c : Nat) (key : Int) (w : World) (hA : Sl w A (l.flatMap Ent.cells)) (hl : l.length ≤ 4611686018427387903) (hT : TabAt 1 Lib.deBruijn64tab w) :
    Calls Tryd.prog 16 #[.agg #[.slice A l.length c], .int .i64 key] w (GivesII (rkN l key) (chkE l) w) := by
  have hb0 : Below w.heap.size w (w.alloc (.cells #[.slice A l.length c] 24)) := (Below.refl _ _).alloc (Nat.le_refl _) _
  have bX := Blk.new w 24 #[.slice A l.length c]
  have hT0 := Lib.hid (tab_below (tab_lt hT) hT hb0)
  have hA' := Lib.hid hA
  by_cases hC : chkE l = 0
  · have hlen := (chk_ok hC).2.2
    have hrk : rkN l key = lowK l key := by unfold rkN; rw [if_pos hC]
    by_cases hK : lowK l key = l.length
    · obtain ⟨h6, ha⟩ := low_six hC hK
      rw [hrk, hK, hC]
      have H6 := Lib.hid h6
      have HAt := Lib.hid ha
      clear hrk hK hC h6 ha hA
      go_enter Tryd.func16, Tryd.ntmps16
      go_wp2_with fail
      refine (lower_any A l c key _ (hA'.out.below hb0) hl hT0.out).mono ?_
      unfold GivesII
      rw [H6.out, HAt.out]
      rintro e w1 ⟨rfl, hb1⟩
      have d0 : w1.cell? ⟨w.heap.size, 0, none⟩ = some (.slice A l.length c) := (bX.below hb1 bX.lt).cell 0
      have hb01 := bext hb0 hb1
      clear bX hb1
      go_wp2
      refine bodyPost_ret (v := .tuple #[.int .i64 (l.length : Nat), .int .i64 0]) (by simp [results, Tryd.results16, go_sem]) rfl ?_
      exact ⟨rfl, hb01⟩
    · obtain ⟨h6, hat, hal⟩ := low_at hC hK
      have hle := lowK_le l key
      have hidx : (inord l.length 0).idxOf (lowAt l key) = lowK l key := by
        obtain ⟨h1, h2⟩ := List.getElem?_eq_some_iff.1 hat
        rw [← h2]
        exact idx_inord h1
      rw [hrk, hC]
      have H6 := Lib.hid h6
      have HI := Lib.hid hidx
      obtain ⟨at_, hx⟩ : ∃ at_, lowAt l key = at_ := ⟨_, rfl⟩
      obtain ⟨K, hk⟩ : ∃ K, lowK l key = K := ⟨_, rfl⟩
      rw [hx] at hal
      rw [hk]
      have HX := Lib.hid hx
      have HK := Lib.hid hk
      clear hrk hK hC h6 hat hidx hA hle hx hk
      go_enter Tryd.func16, Tryd.ntmps16
      go_wp2_with fail
      refine (lower_any A l c key _ (hA'.out.below hb0) hl hT0.out).mono ?_
      unfold GivesII
      rw [H6.out, HX.out]
      rintro e w1 ⟨rfl, hb1⟩
      have d0 : w1.cell? ⟨w.heap.size, 0, none⟩ = some (.slice A l.length c) := (bX.below hb1 bX.lt).cell 0
      have hb01 := bext hb0 hb1
      clear bX hb1
      go_wp2_with fail
      refine (eytzRank_ok l.length at_ _ hlen hal).mono ?_
      unfold GivesII
      rw [← HX.out, HI.out, HK.out]
      rintro e w2 ⟨rfl, hb2⟩
      go_wp2
      refine bodyPost_ret (v := .tuple #[.int .i64 (K : Nat), .int .i64 0]) (by simp [results, Tryd.results16, go_sem]) rfl ?_
      exact ⟨rfl, bext hb01 hb2⟩
  · obtain ⟨h1, h2⟩ := low_bad key hC
    have hrk : rkN l key = 0 := by unfold rkN; rw [if_neg hC]
    have hne : ¬ chkE l = 6 := by rcases chk_vals l with h | h | h | h <;> omega
    obtain ⟨E, hE⟩ : ∃ E, chkE l = E := ⟨_, rfl⟩
    rw [hrk, hE]
    rw [hE] at hC hne h1
    have H1 := Lib.hid h1
    have H2 := Lib.hid h2
    clear h1 h2 hrk hE hA
    go_enter Tryd.func16, Tryd.ntmps16
    go_wp2_with fail
    refine (lower_any A l c key _ (hA'.out.below hb0) hl hT0.out).mono ?_
    unfold GivesII
    rw [H1.out, H2.out]
    rintro e w1 ⟨rfl, hb1⟩
    go_wp2
    refine bodyPost_ret (v := .tuple #[.int .i64 0, .int .i64 E]) (by simp [results, Tryd.results16, go_sem]) rfl ?_
    exact ⟨rfl, bext hb0 hb1⟩
end Go.Proofs.YtokomclcgegfkaaDoor
