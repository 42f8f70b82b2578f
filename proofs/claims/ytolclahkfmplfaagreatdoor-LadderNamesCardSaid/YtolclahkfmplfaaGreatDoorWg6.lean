/- Ld Le Lf Lg Run1 Ko: texts of the claim, in this order. -/
import Derived.Test.YtolclahkfmplfaaGreatDoorWg5
import Derived.Laws.Bits64
import Derived.Lib.SliceRun
import Derived.Test.YtolclahkfmplfaaGreatDoorWg4
/- Contracts: the place of Lower, Find, Rank. -/
namespace Go.Proofs.YtolclahkfmplfaaGreatDoor
open Go Go.RowKit
set_option maxRecDepth 100000

/-- hands back two numbers -/
def GivesII (a e : Int) (w : World) (r : Ending) (w' : World) : Prop := r = .returned (.tuple #[.int .i64 a, .int .i64 e]) ∧ Below w.heap.size w w'
def belowT (l : List Ent) (key : Int) (x : Nat) : Bool := decide ((entAt l x).key < key)
/-- how many keys are below one -/
def lowK (l : List Ent) (key : Int) : Nat := (inord l.length 0).countP (belowT l key)
def lowE (l : List Ent) (key : Int) : Int := if chkE l ≠ 0 then chkE l else if lowK l key = l.length then 6 else 0
def lowAt (l : List Ent) (key : Int) : Nat := if lowE l key = 0 then (inord l.length 0).getD (lowK l key) 0 else 0
theorem inL_pairs {l : List Ent} (h : rises ((inL l).map Ent.key) = true) (key : Int) : (inord l.length 0).Pairwise (fun a b => belowT l key b = true → belowT l key a = true) := by
  unfold rises at h
  have h := of_decide_eq_true h
  unfold inL at h
  rw [List.map_map] at h
  have h2 := List.pairwise_map.1 h
  refine h2.imp fun {a b} hab => ?_
  intro hb
  unfold belowT at hb ⊢
  have hb := of_decide_eq_true hb
  exact decide_eq_true (Int.lt_trans hab hb)
theorem lowK_le (l : List Ent) (key : Int) : lowK l key ≤ l.length := by
  have : (inord l.length 0).countP (belowT l key) ≤ (inord l.length 0).length := List.countP_le_length
  rw [inord_length] at this
  exact this

theorem not_u64 (m : Nat) (hm : m < 18446744073709551616) : bits BinOp.xor IntKind.u64 IntKind.u64.max (m : Int) = ((18446744073709551615 - m : Nat) : Int) := by
  have h1 : IntKind.u64.max = ((18446744073709551615 : Nat) : Int) := rfl
  rw [h1, bits_xor_u64_nat _ _ (by omega) hm]
  congr 1
  refine Nat.eq_of_testBit_eq fun i => ?_
  have h2 := Nat.testBit_two_pow_sub_succ (n := 64) (x := m) (by simpa using hm) i
  have h3 := Nat.testBit_two_pow_sub_one 64 i
  rw [Nat.testBit_xor]
  rw [show (2 : Nat) ^ 64 - 1 = 18446744073709551615 by rfl] at h3
  rw [show (2 : Nat) ^ 64 - (m + 1) = 18446744073709551615 - m by omega] at h2
  rw [h3, h2]
  by_cases hi : i < 64
  · simp [hi]
  · have : m.testBit i = false := Nat.testBit_lt_two_pow (Nat.lt_of_lt_of_le hm (by rw [show (18446744073709551616 : Nat) = 2 ^ 64 by rfl]; exact Nat.pow_le_pow_right (by omega) (by omega)))
    simp [hi, this]

set_option maxHeartbeats 1000000 in
theorem turn_any (k key : Int) (b : Nat) (w : World) (hc : w.cell? ⟨b, 0, none⟩ = some (.int .i64 key)) :
    Calls Tryz.prog 77 #[.int .i64 k, .pointer (some ⟨b, 0, none⟩)] w fun r w' => r = .returned (.int .i64 (if decide (k < key) = true then 1 else 0)) ∧ Below w.heap.size w w' := by
  by_cases h : k < key
  · rw [decide_eq_true h, if_pos rfl]
    go_enter Tryz.func77, Tryz.ntmps77
    go_wp2
    go_ret
    exact ⟨rfl, Below.refl _ _⟩
  · rw [decide_eq_false h, if_neg (by simp)]
    go_enter Tryz.func77, Tryz.ntmps77
    go_wp2
    go_ret
    exact ⟨rfl, Below.refl _ _⟩

set_option maxHeartbeats 2000000 in
theorem lower_ok (A : Option Addr) (l : List Ent) (c : Nat) (key : Int) (w : World) (hA : Sl w A (l.flatMap Ent.cells)) (hT : TabAt 1 Lib.deBruijn64tab w) (hC : chkE l = 0) :
    Calls Tryz.prog 57 #[.agg #[.slice A l.length c], .int .i64 key] w (GivesII (lowAt l key) (lowE l key) w) := by
  have hsg : IntKind.u64.signed = false := rfl
  have hmf : ∀ (fn : Fn) (first cap : Array Value) (w : World), (Instr.makeFunc fn first cap).run Tryz.prog w = .ok (.func fn first cap) w := fun _ _ _ _ => rfl
  obtain ⟨_, hris, hlen⟩ := chk_ok hC
  have HP := Lib.hid (inL_pairs hris key)
  have hLE : lowE l key = if lowK l key = l.length then 6 else 0 := by unfold lowE; rw [if_neg (by omega)]
  have hKl := lowK_le l key
  have hb0 : Below w.heap.size w ((w.alloc (.cells #[.slice A l.length c] 49)).alloc (.cells #[.int .i64 key] 2)) := ((Below.refl _ _).alloc (Nat.le_refl _) _).alloc (by simp) _
  have bX : Blk ((w.alloc (.cells #[.slice A l.length c] 49)).alloc (.cells #[.int .i64 key] 2)) w.heap.size 49 #[.slice A l.length c] := (Blk.new w _ _).alloc _
  have bK : Blk ((w.alloc (.cells #[.slice A l.length c] 49)).alloc (.cells #[.int .i64 key] 2)) (w.heap.size + 1) 2 #[.int .i64 key] := by
    have := Blk.new (w.alloc (.cells #[.slice A l.length c] 49)) 2 #[.int .i64 key]
    rwa [World.size_alloc] at this
  have HC := Lib.hid hC
  have HLE := Lib.hid hLE
  have HT := Lib.hid hT
  have hTl := tab_lt hT
  clear hC hLE hris hT
  go_enter Tryz.func57, Tryz.ntmps57
  go_wp2_with fail
  refine (check_any A l c _ (hA.below hb0) (by omega)).mono ?_
  rw [HC.out]
  rintro e w1 ⟨rfl, hb1⟩
  have hb01 := bext hb0 hb1
  have bX1 := bX.below hb1 bX.lt
  have bK1 := bK.below hb1 bK.lt
  clear bX bK hb0 hb1
  go_wp2_with fail
  go_loopw [8] (fun n wr => ∃ m : Nat, n = .int .i64 (m : Nat) ∧ WayAt l.length (belowT l key) m ∧ m ≤ 2 * l.length + 1 ∧ Below w1.heap.size w1 wr) (fun n _ => l.length + 1 - (intOf n).toNat)
  case atStart => exact ⟨1, rfl, WayAt.start _ _, by omega, Below.refl _ _⟩
  case round =>
    obtain ⟨m, rfl, hw, hm, hb⟩ := hrel
    have bXr := bX1.below hb bX1.lt
    have bKr := bK1.below hb bK1.lt
    have c0 : wr.cell? ⟨w.heap.size, 0, none⟩ = some (.slice A l.length c) := bXr.cell 0
    have ck : wr.cell? ⟨w.heap.size + 1, 0, none⟩ = some (.int .i64 key) := bKr.cell 0
    by_cases hlt : m ≤ l.length
    · obtain ⟨j, rfl⟩ : ∃ j, m = j + 1 := ⟨m - 1, by have := hw.1; omega⟩
      have hjl : j < l.length := by omega
      obtain ⟨b, off, rfl, hbl, c1, c2, c3⟩ := hA.entB (bext hb01 hb) j hjl
      have hst := Lib.hid (hw.step HP.out hlt)
      have hbt : Hid (belowT l key (j + 1 - 1) = decide ((l[j]'hjl).key < key)) := Lib.hid (by rw [Nat.add_sub_cancel]; unfold belowT; rw [entAt_get hjl])
      generalize (l[j]'hjl) = p at *
      have i0 : (0 : Int) ≤ (j : Int) := by omega
      have i1 : (j : Int) < (l.length : Int) := by omega
      have w1' : IntKind.i64.wrap ((j : Int) + 1 - 1) = (j : Int) := by rw [show (j : Int) + 1 - 1 = (j : Int) by omega]; exact IntWalk.i64_in _ (by omega)
      have w2' : IntKind.i64.wrap (2 * ((j : Int) + 1)) = 2 * ((j : Int) + 1) := IntWalk.i64_in _ (by omega)
      clear hw HP bXr bKr
      go_wp2_with fail
      refine (turn_any p.key key _ _ ck).mono ?_
      rw [← hbt.out]
      rintro e w2 ⟨rfl, hb2⟩
      obtain ⟨B, hB⟩ : ∃ B : Nat, (if belowT l key (j + 1 - 1) = true then 1 else 0 : Nat) = B := ⟨_, rfl⟩
      have hBI : (if belowT l key (j + 1 - 1) = true then (1 : Int) else 0) = (B : Int) := by rw [← hB]; split <;> rfl
      have hB1 : B ≤ 1 := by rw [← hB]; split <;> omega
      have hst2 := hst.out
      rw [hB] at hst2
      have hst3 := Lib.hid hst2
      rw [hBI]
      have w3' : IntKind.i64.wrap (2 * ((j : Int) + 1) + (B : Int)) = 2 * ((j : Int) + 1) + (B : Int) := IntWalk.i64_in _ (by omega)
      clear hst hst2 hbt hB hBI
      go_wp2
      go_roundw
      case rel => exact ⟨2 * (j + 1) + B, by go_num, hst3.out, by omega, bext hb hb2⟩
      case measure => simp [intOf]; omega
    · have hx := Lib.hid (not_u64 m (by omega))
      have hdone := Lib.hid (hw.done hlt)
      have hanc := Lib.hid (anc_ctz (m := m) (by omega))
      have hancl := anc_le m
      obtain ⟨a, ha⟩ : ∃ a, anc m = a := ⟨_, rfl⟩
      obtain ⟨cz, hcz⟩ : ∃ cz, Lib.ctz 64 (18446744073709551615 - m) = cz := ⟨_, rfl⟩
      have hcl : cz < 64 := by
        rw [← hcz]; unfold Lib.ctz; rw [if_neg (by omega)]
        obtain ⟨_, _, h⟩ := Lib.ctzFrom_spec 64 (18446744073709551615 - m) (by omega) (by omega)
        exact h
      rw [ha] at hancl
      have hanc2 := Lib.hid (show a = m / 2 ^ (cz + 1) by rw [← ha, ← hcz]; exact hanc.out)
      have hdone2 := Lib.hid (show (inord l.length 0)[lowK l key]? = (if a = 0 then none else some (a - 1)) by rw [← ha]; exact hdone.out)
      have hwz : IntKind.i64.wrap ((cz : Int) + 1) = (cz : Int) + 1 := IntWalk.i64_in _ (by omega)
      have HCZ := Lib.hid hcz
      clear hdone hanc ha hcz hw
      go_wp2_with fail
      rw [hx.out]
      refine (tz_any (18446744073709551615 - m) _ (by omega) (by omega) (tab_below hTl HT.out (bext hb01 hb))).mono ?_
      rw [HCZ.out]
      rintro e w2 ⟨rfl, rfl⟩
      have hd : (m : Int) / 2 ^ (cz + 1) = (a : Int) := by rw [hanc2.out]; simp
      by_cases h0 : a = 0
      · subst h0
        have hd2 := hdone2.out
        rw [if_pos rfl] at hd2
        have hK : lowK l key = l.length := by have := List.getElem?_eq_none_iff.1 hd2; rw [inord_length] at this; omega
        have hE : lowE l key = 6 := by rw [HLE.out, if_pos hK]
        have hAt : lowAt l key = 0 := by unfold lowAt; rw [if_neg (by omega)]
        have HEE := Lib.hid hE
        have HAt := Lib.hid hAt
        have hd3 : (m : Int) / 2 ^ (cz + 1) = 0 := by simpa using hd
        clear hd hd2 hK hE hAt hdone2 hanc2 hancl
        go_wp2
        refine bodyPost_ret (v := .tuple #[.int .i64 0, .int .i64 6]) (by simp [results, Tryz.results57, go_sem]) rfl ?_
        exact ⟨by rw [HEE.out, HAt.out]; rfl, bext hb01 hb⟩
      · obtain ⟨j, rfl⟩ : ∃ j, a = j + 1 := ⟨a - 1, by omega⟩
        have hd2 := hdone2.out
        rw [if_neg (by omega), Nat.add_sub_cancel] at hd2
        have hK : lowK l key < l.length := by have := (List.getElem?_eq_some_iff.1 hd2).1; rw [inord_length] at this; exact this
        have hE : lowE l key = 0 := by rw [HLE.out, if_neg (by omega)]
        have hAt : lowAt l key = j := by unfold lowAt; rw [if_pos hE, List.getD_eq_getElem?_getD, hd2]; rfl
        have HEE := Lib.hid hE
        have HAt := Lib.hid hAt
        have hd3 : (m : Int) / 2 ^ (cz + 1) = (j : Int) + 1 := by rw [hd]; omega
        have hnz : ((j : Int) + 1 == 0) = false := by rw [beq_eq_false_iff_ne]; omega
        have hw5 : wrap64 (j : Int) = (j : Int) := IntWalk.wrap64_in (j : Int) (by omega)
        have hw4 : wrap64 ((j : Int) + 1 - 1) = (j : Int) := by rw [show (j : Int) + 1 - 1 = (j : Int) by omega]; exact hw5
        clear hd hd2 hK hE hAt hdone2 hanc2 hancl
        go_wp2
        refine bodyPost_ret (v := .tuple #[.int .i64 (j : Int), .int .i64 0]) (by simp [results, Tryz.results57, go_sem, hw5]) rfl ?_
        exact ⟨by rw [HEE.out, HAt.out], bext hb01 hb⟩
end Go.Proofs.YtolclahkfmplfaaGreatDoor

/- Contracts: Lower, Find, Rank, for every run. -/
namespace Go.Proofs.YtolclahkfmplfaaGreatDoor
open Go Go.RowKit
set_option maxRecDepth 100000

theorem chk_vals (l : List Ent) : chkE l = 0 ∨ chkE l = 4 ∨ chkE l = 8 ∨ chkE l = 130 := by
  unfold chkE fairE riseE
  repeat' split
  all_goals simp_all
theorem low_bad {l : List Ent} (key : Int) (h : ¬ chkE l = 0) : lowE l key = chkE l ∧ lowAt l key = 0 := by
  have h1 : lowE l key = chkE l := by unfold lowE; rw [if_pos h]
  exact ⟨h1, by unfold lowAt; rw [h1, if_neg h]⟩
theorem low_six {l : List Ent} {key : Int} (h : chkE l = 0) (hk : lowK l key = l.length) : lowE l key = 6 ∧ lowAt l key = 0 := by
  have h1 : lowE l key = 6 := by unfold lowE; rw [if_neg (by omega), if_pos hk]
  exact ⟨h1, by unfold lowAt; rw [h1]; rfl⟩
theorem low_at {l : List Ent} {key : Int} (h : chkE l = 0) (hk : ¬ lowK l key = l.length) : lowE l key = 0 ∧ (inord l.length 0)[lowK l key]? = some (lowAt l key) ∧ lowAt l key < l.length := by
  have h1 : lowE l key = 0 := by unfold lowE; rw [if_neg (by omega), if_neg hk]
  have hle := lowK_le l key
  have hlt : lowK l key < (inord l.length 0).length := by rw [inord_length]; omega
  have h2 : (inord l.length 0)[lowK l key]? = some (lowAt l key) := by unfold lowAt; rw [if_pos h1, List.getD_eq_getElem?_getD, List.getElem?_eq_getElem hlt]; rfl
  exact ⟨h1, h2, inord_lt (List.mem_of_getElem? h2)⟩
/-- what Find tells -/
def fdE (l : List Ent) (key : Int) : Int := if lowE l key ≠ 0 then lowE l key else if (entAt l (lowAt l key)).key = key then 0 else 6
def fdAt (l : List Ent) (key : Int) : Nat := if fdE l key = 0 then lowAt l key else 0
/-- what Rank tells -/
def rkN (l : List Ent) (key : Int) : Nat := if chkE l = 0 then lowK l key else 0

set_option maxHeartbeats 1000000 in
theorem lower_any (A : Option Addr) (l : List Ent) (c : Nat) (key : Int) (w : World) (hA : Sl w A (l.flatMap Ent.cells)) (hl : l.length ≤ 4611686018427387903) (hT : TabAt 1 Lib.deBruijn64tab w) :
    Calls Tryz.prog 57 #[.agg #[.slice A l.length c], .int .i64 key] w (GivesII (lowAt l key) (lowE l key) w) := by
  by_cases hC : chkE l = 0
  · exact lower_ok A l c key w hA hT hC
  · obtain ⟨h1, h2⟩ := low_bad key hC
    obtain ⟨E, hE⟩ : ∃ E, chkE l = E := ⟨_, rfl⟩
    rw [h1, h2, hE]
    rw [hE] at hC
    have HE := Lib.hid hE
    clear h1 h2 hE
    have hb0 : Below w.heap.size w ((w.alloc (.cells #[.slice A l.length c] 49)).alloc (.cells #[.int .i64 key] 2)) := ((Below.refl _ _).alloc (Nat.le_refl _) _).alloc (by simp) _
    go_enter Tryz.func57, Tryz.ntmps57
    go_wp2_with fail
    refine (check_any A l c _ (hA.below hb0) hl).mono ?_
    rw [HE.out]
    rintro e w1 ⟨rfl, hb1⟩
    go_wp2
    refine bodyPost_ret (v := .tuple #[.int .i64 0, .int .i64 E]) (by simp [results, Tryz.results57, go_sem]) rfl ?_
    exact ⟨rfl, bext hb0 hb1⟩

set_option maxHeartbeats 1000000 in
theorem find_any (A : Option Addr) (l : List Ent) (c : Nat) (key : Int) (w : World) (hA : Sl w A (l.flatMap Ent.cells)) (hl : l.length ≤ 4611686018427387903) (hT : TabAt 1 Lib.deBruijn64tab w) :
    Calls Tryz.prog 79 #[.agg #[.slice A l.length c], .int .i64 key] w (GivesII (fdAt l key) (fdE l key) w) := by
  have hb0 : Below w.heap.size w (w.alloc (.cells #[.slice A l.length c] 49)) := (Below.refl _ _).alloc (Nat.le_refl _) _
  have bX := Blk.new w 49 #[.slice A l.length c]
  have hT0 := Lib.hid (tab_below (tab_lt hT) hT hb0)
  obtain ⟨E, hE⟩ : ∃ E, lowE l key = E := ⟨_, rfl⟩
  by_cases h0 : E = 0
  · subst h0
    have hC : chkE l = 0 := by
      rcases chk_vals l with h | h | h | h
      · exact h
      all_goals (have := (low_bad key (show ¬ chkE l = 0 by omega)).1; omega)
    have hK : ¬ lowK l key = l.length := fun h => by have := (low_six hC h).1; omega
    obtain ⟨_, _, hat⟩ := low_at hC hK
    obtain ⟨at_, hx⟩ : ∃ at_, lowAt l key = at_ := ⟨_, rfl⟩
    rw [hx] at hat
    have hfe : fdE l key = if (entAt l at_).key = key then 0 else 6 := by unfold fdE; rw [if_neg (by omega), hx]
    rw [entAt_get hat] at hfe
    obtain ⟨b, off, rfl, hbl, c1, c2, c3⟩ := hA.ent at_ hat
    have hsl := Lib.hid hA
    generalize hp : (l[at_]'hat) = p at *
    have HE := Lib.hid hE
    have HX := Lib.hid hx
    have i0 : (0 : Int) ≤ (at_ : Int) := by omega
    have i1 : (at_ : Int) < (l.length : Int) := by omega
    by_cases hk : p.key = key
    · rw [if_pos hk] at hfe
      have hfa : fdAt l key = at_ := by unfold fdAt; rw [if_pos hfe, hx]
      rw [hfa, hfe]
      have hkk : (p.key == key) = true := by simpa using hk
      clear hE hx hC hK hfe hfa hA hp
      go_enter Tryz.func79, Tryz.ntmps79
      go_wp2_with fail
      refine (lower_any (some ⟨b, off, none⟩) l c key _ (hsl.out.below hb0) hl hT0.out).mono ?_
      unfold GivesII
      rw [HE.out, HX.out]
      rintro e w1 ⟨rfl, hb1⟩
      have hb01 := bext hb0 hb1
      have d0 : w1.cell? ⟨w.heap.size, 0, none⟩ = some (.slice (some ⟨b, off, none⟩) l.length c) := (bX.below hb1 bX.lt).cell 0
      have d1 : w1.cell? ⟨b, off + at_ * 3, none⟩ = some (.int .i64 p.key) := ((bcell hb01).1 b _ hbl).trans c1
      clear c1 c2 c3 bX hb1
      go_wp2
      refine bodyPost_ret (v := .tuple #[.int .i64 (at_ : Int), .int .i64 0]) (by simp [results, Tryz.results79, go_sem]) rfl ?_
      exact ⟨rfl, hb01⟩
    · rw [if_neg hk] at hfe
      have hfa : fdAt l key = 0 := by unfold fdAt; rw [hfe]; rfl
      rw [hfa, hfe]
      have hkk : (p.key == key) = false := by simpa using hk
      clear hE hx hC hK hfe hfa hA hp
      go_enter Tryz.func79, Tryz.ntmps79
      go_wp2_with fail
      refine (lower_any (some ⟨b, off, none⟩) l c key _ (hsl.out.below hb0) hl hT0.out).mono ?_
      unfold GivesII
      rw [HE.out, HX.out]
      rintro e w1 ⟨rfl, hb1⟩
      have hb01 := bext hb0 hb1
      have d0 : w1.cell? ⟨w.heap.size, 0, none⟩ = some (.slice (some ⟨b, off, none⟩) l.length c) := (bX.below hb1 bX.lt).cell 0
      have d1 : w1.cell? ⟨b, off + at_ * 3, none⟩ = some (.int .i64 p.key) := ((bcell hb01).1 b _ hbl).trans c1
      clear c1 c2 c3 bX hb1
      go_wp2
      refine bodyPost_ret (v := .tuple #[.int .i64 0, .int .i64 6]) (by simp [results, Tryz.results79, go_sem]) rfl ?_
      exact ⟨rfl, hb01⟩
  · have hfe : fdE l key = E := by unfold fdE; rw [hE, if_pos h0]
    have hfa : fdAt l key = 0 := by unfold fdAt; rw [hfe, if_neg h0]
    rw [hfa, hfe]
    have HE := Lib.hid hE
    have hA' := Lib.hid hA
    clear hE hfe hfa
    go_enter Tryz.func79, Tryz.ntmps79
    go_wp2_with fail
    refine (lower_any A l c key _ (hA'.out.below hb0) hl hT0.out).mono ?_
    unfold GivesII
    rw [HE.out]
    rintro e w1 ⟨rfl, hb1⟩
    go_wp2
    refine bodyPost_ret (v := .tuple #[.int .i64 0, .int .i64 E]) (by simp [results, Tryz.results79, go_sem]) rfl ?_
    exact ⟨rfl, bext hb0 hb1⟩

set_option maxHeartbeats 1000000 in
theorem within_ok (n x : Nat) (w : World) (hn : n ≤ 65536) (hx : x < n) :
    Calls Tryz.prog 81 #[.int .i64 (n : Nat), .int .i64 (x : Nat)] w fun r w' => r = .returned (.int .i64 0) ∧ w = w' := by
  have h0 : askedE (n : Nat) = 0 := by unfold askedE; rw [if_neg (by omega), if_neg (by omega)]
  have h1 : ¬ (x : Int) < 0 := by omega
  have h2 : ¬ (n : Int) ≤ (x : Int) := by omega
  have H0 := Lib.hid h0
  clear h0
  go_enter Tryz.func81, Tryz.ntmps81
  go_wp2_with fail
  refine (asked_any (n : Nat) _).mono ?_
  rw [H0.out]
  rintro e w1 ⟨rfl, rfl⟩
  go_wp2
  go_ret
  exact ⟨rfl, rfl⟩
set_option maxHeartbeats 1000000 in
theorem eytzRank_ok (n x : Nat) (w : World) (hn : n ≤ 65536) (hx : x < n) :
    Calls Tryz.prog 80 #[.int .i64 (n : Nat), .int .i64 (x : Nat)] w (GivesII ((inord n 0).idxOf x) 0 w) := by
  have i0 : (0 : Int) ≤ (x : Int) := by omega
  have i1 : (x : Int) < (n : Int) := by omega
  go_enter Tryz.func80, Tryz.ntmps80
  go_wp2_with fail
  refine (within_ok n x _ hn hx).mono ?_
  rintro e w1 ⟨rfl, rfl⟩
  go_wp2_with fail
  refine (order_ok n hn _).mono ?_
  rintro e w2 ⟨rfl, ho, hb⟩
  have hr : x < (ranks n).length := by rw [ranks_length]; exact hx
  have cr : w2.cell? ⟨w.heap.size, x, none⟩ = some (.int .i64 ((inord n 0).idxOf x : Nat)) := by
    rw [ho.cell]; simp [hr, ranks_get hx]
  clear ho
  generalize (inord n 0).idxOf x = r at *
  go_wp2
  refine bodyPost_ret (v := .tuple #[.int .i64 (r : Nat), .int .i64 0]) (by simp [results, Tryz.results80, go_sem]) rfl ?_
  exact ⟨rfl, hb⟩

set_option maxHeartbeats 1000000 in
theorem rank_any (A : Option Addr) (l : List Ent) (c : Nat) (key : Int) (w : World) (hA : Sl w A (l.flatMap Ent.cells)) (hl : l.length ≤ 4611686018427387903) (hT : TabAt 1 Lib.deBruijn64tab w) :
    Calls Tryz.prog 59 #[.agg #[.slice A l.length c], .int .i64 key] w (GivesII (rkN l key) (chkE l) w) := by
  have hb0 : Below w.heap.size w (w.alloc (.cells #[.slice A l.length c] 49)) := (Below.refl _ _).alloc (Nat.le_refl _) _
  have bX := Blk.new w 49 #[.slice A l.length c]
  have hT0 := Lib.hid (tab_below (tab_lt hT) hT hb0)
  have hA' := Lib.hid hA
  by_cases hC : chkE l = 0
  · have hlen := (chk_ok hC).2.2
    have hrk : rkN l key = lowK l key := by unfold rkN; rw [if_pos hC]
    by_cases hK : lowK l key = l.length
    · obtain ⟨h6, ha⟩ := low_six hC hK
      rw [hrk, hK, hC]
      have H6 := Lib.hid h6
      have HAt := Lib.hid ha
      clear hrk hK hC h6 ha hA
      go_enter Tryz.func59, Tryz.ntmps59
      go_wp2_with fail
      refine (lower_any A l c key _ (hA'.out.below hb0) hl hT0.out).mono ?_
      unfold GivesII
      rw [H6.out, HAt.out]
      rintro e w1 ⟨rfl, hb1⟩
      have d0 : w1.cell? ⟨w.heap.size, 0, none⟩ = some (.slice A l.length c) := (bX.below hb1 bX.lt).cell 0
      have hb01 := bext hb0 hb1
      clear bX hb1
      go_wp2
      refine bodyPost_ret (v := .tuple #[.int .i64 (l.length : Nat), .int .i64 0]) (by simp [results, Tryz.results59, go_sem]) rfl ?_
      exact ⟨rfl, hb01⟩
    · obtain ⟨h6, hat, hal⟩ := low_at hC hK
      have hle := lowK_le l key
      have hidx : (inord l.length 0).idxOf (lowAt l key) = lowK l key := by
        obtain ⟨h1, h2⟩ := List.getElem?_eq_some_iff.1 hat
        rw [← h2]
        exact idx_inord h1
      rw [hrk, hC]
      have H6 := Lib.hid h6
      have HI := Lib.hid hidx
      obtain ⟨at_, hx⟩ : ∃ at_, lowAt l key = at_ := ⟨_, rfl⟩
      obtain ⟨K, hk⟩ : ∃ K, lowK l key = K := ⟨_, rfl⟩
      rw [hx] at hal
      rw [hk]
      have HX := Lib.hid hx
      have HK := Lib.hid hk
      clear hrk hK hC h6 hat hidx hA hle hx hk
      go_enter Tryz.func59, Tryz.ntmps59
      go_wp2_with fail
      refine (lower_any A l c key _ (hA'.out.below hb0) hl hT0.out).mono ?_
      unfold GivesII
      rw [H6.out, HX.out]
      rintro e w1 ⟨rfl, hb1⟩
      have d0 : w1.cell? ⟨w.heap.size, 0, none⟩ = some (.slice A l.length c) := (bX.below hb1 bX.lt).cell 0
      have hb01 := bext hb0 hb1
      clear bX hb1
      go_wp2_with fail
      refine (eytzRank_ok l.length at_ _ hlen hal).mono ?_
      unfold GivesII
      rw [← HX.out, HI.out, HK.out]
      rintro e w2 ⟨rfl, hb2⟩
      go_wp2
      refine bodyPost_ret (v := .tuple #[.int .i64 (K : Nat), .int .i64 0]) (by simp [results, Tryz.results59, go_sem]) rfl ?_
      exact ⟨rfl, bext hb01 hb2⟩
  · obtain ⟨h1, h2⟩ := low_bad key hC
    have hrk : rkN l key = 0 := by unfold rkN; rw [if_neg hC]
    have hne : ¬ chkE l = 6 := by rcases chk_vals l with h | h | h | h <;> omega
    obtain ⟨E, hE⟩ : ∃ E, chkE l = E := ⟨_, rfl⟩
    rw [hrk, hE]
    rw [hE] at hC hne h1
    have H1 := Lib.hid h1
    have H2 := Lib.hid h2
    clear h1 h2 hrk hE hA
    go_enter Tryz.func59, Tryz.ntmps59
    go_wp2_with fail
    refine (lower_any A l c key _ (hA'.out.below hb0) hl hT0.out).mono ?_
    unfold GivesII
    rw [H1.out, H2.out]
    rintro e w1 ⟨rfl, hb1⟩
    go_wp2
    refine bodyPost_ret (v := .tuple #[.int .i64 0, .int .i64 E]) (by simp [results, Tryz.results59, go_sem]) rfl ?_
    exact ⟨rfl, bext hb0 hb1⟩
end Go.Proofs.YtolclahkfmplfaaGreatDoor

/- Contract: two runs compared; plain facts: laid out and sorted again. -/
namespace Go.Proofs.YtolclahkfmplfaaGreatDoor
open Go Go.RowKit
set_option maxRecDepth 100000

theorem in_laid (l : List Ent) : inL (laid l) = l := by
  refine List.ext_getElem? fun k => ?_
  by_cases hk : k < l.length
  · have hk2 : k < (inL (laid l)).length := by rw [inL_length, laid_length]; exact hk
    have hk3 : k < (inord (laid l).length 0).length := by rw [inord_length, laid_length]; exact hk
    rw [List.getElem?_eq_getElem hk2, List.getElem?_eq_getElem hk, inL_get]
    congr 1
    have hp : (inord (laid l).length 0)[k]'hk3 < (laid l).length := inord_lt (List.getElem_mem hk3)
    rw [entAt_get hp]
    have hidx := idx_inord hk3
    have h2 : ∀ a (ha : a < (laid l).length), (inord (laid l).length 0).idxOf a = k → (laid l)[a]'ha = l[k]'hk := by
      intro a ha he
      rw [laid_length] at he
      have hal : a < l.length := by rwa [laid_length] at ha
      have hr : a < (ranks l.length).length := by rw [ranks_length]; exact hal
      have : (laid l)[a]'ha = entAt l ((ranks l.length)[a]'hr) := by simp [laid]
      rw [this, ranks_get hal, he, entAt_get hk]
    exact h2 _ hp hidx
  · rw [List.getElem?_eq_none (by rw [inL_length, laid_length]; omega), List.getElem?_eq_none (by omega)]
theorem laid_in (x : List Ent) : laid (inL x) = x := by
  refine List.ext_getElem? fun a => ?_
  by_cases ha : a < x.length
  · have ha1 : a < (inL x).length := by rw [inL_length]; exact ha
    have ha2 : a < (laid (inL x)).length := by rw [laid_length]; exact ha1
    rw [List.getElem?_eq_getElem ha2, List.getElem?_eq_getElem ha]
    congr 1
    have hr : a < (ranks (inL x).length).length := by rw [ranks_length]; exact ha1
    have h1 : (laid (inL x))[a]'ha2 = entAt (inL x) ((ranks (inL x).length)[a]'hr) := by simp [laid]
    rw [h1, ranks_get ha1]
    have hlt := ranks_lt ha1
    rw [entAt_get hlt]
    have hlt2 : (inord (inL x).length 0).idxOf a < (inord x.length 0).length := by rw [inord_length, ← inL_length x]; exact hlt
    have h3 : ∀ k (hk : k < (inL x).length), k = (inord x.length 0).idxOf a → (inL x)[k]'hk = x[a]'ha := by
      intro k hk he
      rw [inL_get]
      subst he
      rw [inord_idx ha, entAt_get ha]
    exact h3 _ hlt (by rw [inL_length])
  · rw [List.getElem?_eq_none (by rw [laid_length, inL_length]; omega), List.getElem?_eq_none (by omega)]
theorem laid_mem {l : List Ent} {e : Ent} (h : e ∈ laid l) : e ∈ l := by
  obtain ⟨r, hr, rfl⟩ := List.mem_map.1 h
  unfold ranks at hr
  obtain ⟨a, ha, rfl⟩ := List.mem_map.1 hr
  have ha2 : a < l.length := by simpa using ha
  rw [entAt_get (ranks_lt ha2)]
  exact List.getElem_mem _
theorem inL_mem {l : List Ent} {e : Ent} (h : e ∈ inL l) : e ∈ l := by
  obtain ⟨r, hr, rfl⟩ := List.mem_map.1 h
  rw [entAt_get (inord_lt hr)]
  exact List.getElem_mem _
theorem build_parts {l : List Ent} (h : buildE l = 0) : fairE l = 0 ∧ rises (l.map Ent.key) = true := by
  unfold buildE at h
  unfold fairE
  split at h
  · cases h
  · rename_i h1
    split at h
    · cases h
    · rename_i h2
      split at h
      · rename_i h3; exact ⟨by rw [if_neg h1, if_neg h2], h3⟩
      · cases h
theorem fair_sub {l m : List Ent} (hlen : m.length ≤ l.length) (hm : ∀ e ∈ m, e ∈ l) (h : fairE l = 0) : fairE m = 0 := by
  have hl := fair_len h
  unfold fairE at h ⊢
  rw [if_neg (by omega)] at h ⊢
  cases hb : m.any badEnt
  · rfl
  · obtain ⟨e, he, hbe⟩ := List.any_eq_true.1 hb
    rw [if_pos (List.any_eq_true.2 ⟨e, hm e he, hbe⟩)] at h
    cases h
theorem build_chk {l : List Ent} (h : buildE l = 0) : chkE (laid l) = 0 := by
  obtain ⟨h1, h2⟩ := build_parts h
  have hf := fair_sub (m := laid l) (by rw [laid_length]; exact Nat.le_refl _) (fun e he => laid_mem he) h1
  unfold chkE
  rw [if_neg (by omega), in_laid]
  unfold riseE
  rw [if_pos h2]
theorem chk_build {x : List Ent} (h : chkE x = 0) : buildE (inL x) = 0 := by
  obtain ⟨h1, h2, h3⟩ := chk_ok h
  have hf := fair_sub (m := inL x) (by rw [inL_length]; exact Nat.le_refl _) (fun e he => inL_mem he) h1
  have hl := fair_len hf
  unfold fairE at hf
  rw [if_neg (by omega)] at hf
  unfold buildE
  rw [if_neg (by omega)]
  split at hf
  · cases hf
  · rename_i hb
    rw [if_neg hb, if_pos h2]

end Go.Proofs.YtolclahkfmplfaaGreatDoor

/- Contracts: the references of bound; copies of runs. -/
namespace Go.Proofs.YtolclahkfmplfaaGreatDoor
open Go Go.RowKit
set_option maxRecDepth 100000

theorem inL_perm (l : List Ent) : (inL l).Perm l := by
  have h := (inord_perm l.length).map (entAt l)
  have e : (List.range l.length).map (entAt l) = l := by
    refine List.ext_getElem? fun i => ?_
    by_cases hi : i < l.length
    · simp [hi, entAt_get hi]
    · rw [List.getElem?_eq_none (by simp; omega), List.getElem?_eq_none (by omega)]
  rw [e] at h
  exact h
def belK (l : List Ent) (key : Int) : Nat := l.countP (fun e => decide (e.key < key))
theorem lowK_bel (l : List Ent) (key : Int) : lowK l key = belK l key := by
  have h := (inL_perm l).countP_eq (fun e => decide (e.key < key))
  unfold belK
  rw [← h]
  unfold lowK inL
  rw [List.countP_map]
  rfl
theorem belK_succ {l : List Ent} {k : Nat} (h : k < l.length) (key : Int) : belK (l.take (k + 1)) key = belK (l.take k) key + (if (l[k]'h).key < key then 1 else 0) := by
  unfold belK
  rw [List.take_succ_eq_append_getElem h, List.countP_append, List.countP_cons, List.countP_nil]
  simp
theorem belK_le (l : List Ent) (key : Int) : belK l key ≤ l.length := List.countP_le_length




end Go.Proofs.YtolclahkfmplfaaGreatDoor

/- Contracts: pairs that are the same, entries of pairs, run.One and run.Of and their references. -/
namespace Go.Proofs.YtolclahkfmplfaaGreatDoor
open Go Go.RowKit
set_option maxRecDepth 100000

theorem pr_stood : Tryz.prog.stoodInHeld 40 = false := by kernel_rfl
theorem pr_guard : Tryz.prog.eqGuardType Tryz.prog.depth 40 = false := by kernel_rfl
theorem pr_info : (Tryz.prog.info? 40).map (fun i => (i.zero, i.size, i.bytes)) = some (some (.agg #[.int .i64 0, .int .i64 0]), 2, 16) := by kernel_rfl
def neP (a b : Pr) : Bool := decide (a ≠ b)
theorem run_neq_pr (a b : Pr) (w : World) :
    (binOp .neq 40 (.agg #[.int .i64 a.key, .int .i64 a.val]) (.agg #[.int .i64 b.key, .int .i64 b.val])).run Tryz.prog w = .ok (.bool (neP a b)) w := by
  have h1 := pr_stood
  have h2 := pr_guard
  have h3 := Tryz.underlying40
  obtain ⟨k, v⟩ := a
  obtain ⟨k', v'⟩ := b
  simp only [go_sem, h1, h3]
  simp [go_sem, neP]
  by_cases hk : k = k' <;> by_cases hv : v = v' <;> simp [hk, hv]

set_option maxRecDepth 100000 in
set_option maxHeartbeats 1000000 in
theorem samePairs_any (A B : Option Addr) (l m : List Pr) (c d : Nat) (w : World) (hA : Sl w A (l.flatMap Pr.cells)) (hB : Sl w B (m.flatMap Pr.cells)) (_hl : l.length ≤ 4611686018427387903) (hm : m.length ≤ 4611686018427387903) :
    Calls Tryz.prog 37 #[.slice A l.length c, .slice B m.length d] w fun r w' => r = .returned (.bool (decide (l = m))) ∧ Below w.heap.size w w' := by
  by_cases hlen : l.length = m.length
  · have hz : ((l.length : Int) != (m.length : Int)) = false := by simp [hlen]
    have hz2 : (l.length : Int) ≤ (m.length : Int) := by omega
    have HL := Lib.hid hlen
    clear hlen
    go_enter Tryz.func37, Tryz.ntmps37
    go_wp2
    go_loopw [5] (fun i wr => ∃ k : Nat, k ≤ l.length ∧ i = .int .i64 k ∧ Below w.heap.size w wr ∧ Hid (l.take k = m.take k)) (fun i _ => l.length - (intOf i).toNat)
    case atStart => exact ⟨0, Nat.zero_le _, rfl, Below.refl _ _, rfl⟩
    case round =>
      obtain ⟨k, hk, rfl, hb, hn⟩ := hrel
      by_cases hlt : k < l.length
      · have hlt2 : k < m.length := by omega
        obtain ⟨b, off, rfl, hbl, c1, c2⟩ := hA.prB hb k hlt
        obtain ⟨b', off', rfl, hbl', d1, d2⟩ := hB.prB hb k hlt2
        have i0 : (0 : Int) ≤ (k : Int) := by omega
        have i1 : (k : Int) < (l.length : Int) := by omega
        have i2 : (k : Int) < (m.length : Int) := by omega
        clear hA hB
        have hne := fun w => run_neq_pr (l[k]'hlt) (m[k]'hlt2) w
        have hgu := pr_guard
        go_wp2
        go_quiet (fail)
        clear hne hgu
        go_wp2
        · have hx : neP (l[k]'hlt) (m[k]'hlt2) = true := by assumption
          go_ret
          refine ⟨ret_bool ?_, bdrew hb _⟩
          symm
          rw [decide_eq_false_iff_not]
          rintro rfl
          simp [neP] at hx
        · have hx : neP (l[k]'hlt) (m[k]'hlt2) = false := by assumption
          go_roundw
          case rel =>
            refine ⟨k + 1, by omega, by go_num, bdrew hb _, ?_⟩
            show _ = _
            rw [List.take_succ_eq_append_getElem hlt, List.take_succ_eq_append_getElem hlt2, hn.out]
            simp [neP] at hx
            rw [hx]
          case measure => simp [intOf]; omega
      · go_wp2
        go_ret
        refine ⟨ret_bool ?_, hb⟩
        have := hn.out
        rw [List.take_of_length_le (by omega), List.take_of_length_le (by have := HL.out; omega)] at this
        rw [this, decide_eq_true rfl]
  · have hz : ((l.length : Int) != (m.length : Int)) = true := by simp; omega
    have HL := Lib.hid hlen
    clear hlen
    go_enter Tryz.func37, Tryz.ntmps37
    go_wp2
    go_ret
    refine ⟨ret_bool ?_, Below.refl _ _⟩
    symm
    rw [decide_eq_false_iff_not]
    rintro rfl
    exact HL.out rfl

/-- pairs as live entries -/
def aliveE (p : Pr) : Ent := ⟨p.key, p.val, false⟩


set_option maxRecDepth 100000 in
set_option maxHeartbeats 1000000 in
theorem runOne_any (x : Ent) (w : World) :
    Calls Tryz.prog 47 #[.agg #[.int .i64 x.key, .int .i64 x.val, .bool x.dead]] w (GivesRun 46 (buildL [x]) (buildE [x]) w) := by
  obtain ⟨W0, hW0⟩ : ∃ W0, ((w.alloc (.cells #[.int .i64 x.key, .int .i64 x.val, .bool x.dead] 46)).alloc (.cells #[.slice none 0 0] 49)).alloc (.cells #[.int .i64 x.key, .int .i64 x.val, .bool x.dead] 46) = W0 := ⟨_, rfl⟩
  have hb0 : Below w.heap.size w W0 := by rw [← hW0]; exact (((Below.refl _ _).alloc (Nat.le_refl _) _).alloc (by simp) _).alloc (by simp; omega) _
  have hr0 : Blk W0 (w.heap.size + 1) 49 #[.slice none 0 0] := by
    rw [← hW0]; have := Blk.new (w.alloc (.cells #[.int .i64 x.key, .int .i64 x.val, .bool x.dead] 46)) 49 #[.slice none 0 0]
    rw [World.size_alloc] at this
    exact this.alloc _
  have hx0 : Blk W0 (w.heap.size + 1 + 1) 46 #[.int .i64 x.key, .int .i64 x.val, .bool x.dead] := by
    rw [← hW0]; have := Blk.new ((w.alloc (.cells #[.int .i64 x.key, .int .i64 x.val, .bool x.dead] 46)).alloc (.cells #[.slice none 0 0] 49)) 46 #[.int .i64 x.key, .int .i64 x.val, .bool x.dead]
    rwa [World.size_alloc, World.size_alloc] at this
  have hs0 : Sl W0 (some ⟨w.heap.size + 1 + 1, 0, none⟩) ([x].flatMap Ent.cells) := hx0.sl 0 _ (by intro j u hu; simpa [Ent.cells] using hu)
  have hsz := hx0.lt
  go_enter Tryz.func47, Tryz.ntmps47
  go_wp2_with fail
  try rw [hW0]
  clear hW0
  refine (build_any _ [x] 1 _ hs0 (by simp)).mono ?_
  rintro e w1 ⟨A1, c1, rfl, hown1, hb1⟩
  have hb01 : Below w.heap.size w w1 := bext hb0 hb1
  have hr1 : Blk w1 (w.heap.size + 1) 49 #[.slice none 0 0] := hr0.below hb1 (by omega)
  have hc1 : w1.cell? ⟨w.heap.size + 1, 0, none⟩ = some (.slice none 0 0) := hr1.cell 0
  have hf1 : w1.frozen? ⟨w.heap.size + 1, 0, none⟩ = false := hr1.frozen 0
  go_wp2
  refine bodyPost_ret (v := .tuple #[.agg #[.slice A1 (buildL [x]).length c1], .int .i64 (buildE [x])]) (by simp [results, Tryz.results47, go_sem, hc1]) rfl ?_
  refine ⟨A1, c1, rfl, own_far (own_mono hown1 (by omega)) ?_ _, hb01.setCell (p := ⟨w.heap.size + 1, 0, none⟩) (by simp) _⟩
  intro e
  have := (hown1.lt _ e).1
  dsimp only at this
  omega



set_option maxRecDepth 100000 in
set_option maxHeartbeats 2000000 in
theorem runOf_any (A : Option Addr) (l : List Pr) (c : Nat) (w : World) (hA : Sl w A (l.flatMap Pr.cells)) (hn : l.length ≤ 1000000) :
    Calls Tryz.prog 26 #[.slice A l.length c] w (GivesRun 46 (buildL (l.map aliveE)) (buildE (l.map aliveE)) w) := by
  obtain ⟨i0, hi, hz0, hz1, hz2⟩ := info_parts ent_info
  have hmk := fun W => run_make_rowN (P := Tryz.prog) 47 46 i0 _ Tryz.underlying47 hi hz0 l.length (by rw [hz2]; omega) (by omega) W
  rw [hz1] at hmk
  clear hi hz0 hz1 hz2
  obtain ⟨W0, hW0⟩ : ∃ W0, (w.alloc (.cells #[.slice none 0 0] 49)).alloc (.cells (madeCells (Value.agg #[Value.int IntKind.i64 0, Value.int IntKind.i64 0, Value.bool false]).cells (l.length * 3)) 46) = W0 := ⟨_, rfl⟩
  have hb0 : Below w.heap.size w W0 := by rw [← hW0]; exact ((Below.refl _ _).alloc (Nat.le_refl _) _).alloc (by simp) _
  have hr0 : Blk W0 w.heap.size 49 #[.slice none 0 0] := by rw [← hW0]; exact (Blk.new w _ _).alloc _
  have hg0 : Blk W0 (w.heap.size + 1) 46 (madeCells (Value.agg #[Value.int IntKind.i64 0, Value.int IntKind.i64 0, Value.bool false]).cells (l.length * 3)) := by
    rw [← hW0]; have := Blk.new (w.alloc (.cells #[.slice none 0 0] 49)) 46 (madeCells (Value.agg #[Value.int IntKind.i64 0, Value.int IntKind.i64 0, Value.bool false]).cells (l.length * 3))
    rwa [World.size_alloc] at this
  go_enter Tryz.func26, Tryz.ntmps26
  go_wp2
  have hW0' : (w.alloc (.cells #[.slice none 0 0] 49)).alloc (.cells (madeCells #[Value.int IntKind.i64 0, Value.int IntKind.i64 0, Value.bool false] (l.length * 3)) 46) = W0 := hW0
  rw [hW0']
  clear hW0 hW0' hmk
  go_loopw [12] (fun i wr => ∃ k : Nat, k ≤ l.length ∧ i = .int .i64 k ∧ Mod (fun b => b = w.heap.size + 1) W0 wr ∧
      ∃ cur : Array Value, Hid (cur.size = l.length * 3) ∧ Blk wr (w.heap.size + 1) 46 cur ∧ Hid (cur.toList.take (k * 3) = ((l.take k).map aliveE).flatMap Ent.cells))
      (fun i _ => l.length - (intOf i).toNat)
  case atStart => exact ⟨0, Nat.zero_le _, rfl, Mod.refl _ _, _, by show _ = _; simp [madeCells, Value.cells], hg0, by show _ = _; simp⟩
  case round =>
    obtain ⟨k, hk, rfl, hm, cur, hcs, hcur, hct⟩ := hrel
    have hb : Below w.heap.size w wr := hb0.trans (hm.below hb0.size (by intro k h; omega))
    have hs : w.heap.size + 1 < wr.heap.size := hcur.lt
    by_cases hlt : k < l.length
    · obtain ⟨b, off, rfl, hbl, c1, c2⟩ := hA.prB hb k hlt
      have hsz := hcs.out
      obtain ⟨v1, e1⟩ : ∃ v, wr.cell? ⟨w.heap.size + 1, k * 3, none⟩ = some v := ⟨_, (hcur.cell _).trans (Array.getElem?_eq_getElem (show k * 3 < cur.size by omega))⟩
      obtain ⟨v2, e2⟩ : ∃ v, wr.cell? ⟨w.heap.size + 1, k * 3 + 1, none⟩ = some v := ⟨_, (hcur.cell _).trans (Array.getElem?_eq_getElem (show k * 3 + 1 < cur.size by omega))⟩
      obtain ⟨v3, e3⟩ : ∃ v, wr.cell? ⟨w.heap.size + 1, k * 3 + 2, none⟩ = some v := ⟨_, (hcur.cell _).trans (Array.getElem?_eq_getElem (show k * 3 + 2 < cur.size by omega))⟩
      have f1 := hcur.frozen (k * 3)
      have f2 := hcur.frozen (k * 3 + 1)
      have f3 := hcur.frozen (k * 3 + 2)
      have hki : (0 : Int) ≤ (k : Int) := by omega
      have hki2 : (k : Int) < (l.length : Int) := by omega
      clear hsz hA hbl
      go_wp2
      go_roundw
      case rel =>
        refine ⟨k + 1, by omega, by go_num, (((hm.setCell (p := ⟨w.heap.size + 1, k * 3, none⟩) rfl _).setCell (p := ⟨w.heap.size + 1, k * 3 + 1, none⟩) rfl _).setCell (p := ⟨w.heap.size + 1, k * 3 + 2, none⟩) rfl _).alloc _, _, ?_, (((hcur.set_ (k * 3) _).set_ (k * 3 + 1) _).set_ (k * 3 + 2) _).alloc _, ?_⟩
        · show _ = _; simpa using hcs.out
        · show _ = _
          rw [take_set3 _ _ _ (by rw [hcs.out]; omega) hct.out, List.take_succ_eq_append_getElem hlt, List.map_append, List.flatMap_append]
          simp [Ent.cells, aliveE]
      case measure => simp [intOf]; omega
    · have hkn := Lib.hid (show k = l.length by omega)
      have hr4 : Blk wr w.heap.size 49 #[.slice none 0 0] := hr0.mod hm (by omega)
      have hct' := hct.out
      rw [hkn.out, List.take_length] at hct'
      have hsl : Sl wr (some ⟨w.heap.size + 1, 0, none⟩) ((l.map aliveE).flatMap Ent.cells) := hcur.sl 0 _ (by
        intro j u hu
        rw [← hct', List.getElem?_take] at hu
        split at hu
        · simpa using hu
        · cases hu)
      have HCT := Lib.hid hct'
      clear hct'
      go_wp2_with fail
      refine (build_n _ (l.map aliveE) l.length l.length _ (by simp) hsl (by simp; omega)).mono ?_
      rintro e w2 ⟨A2, c2, rfl, hown2, hb2⟩
      have hb02 : Below w.heap.size w w2 := bext hb hb2
      have hr2 : Blk w2 w.heap.size 49 #[.slice none 0 0] := hr4.below hb2 (by omega)
      have hc2 : w2.cell? ⟨w.heap.size, 0, none⟩ = some (.slice none 0 0) := hr2.cell 0
      have hf2 : w2.frozen? ⟨w.heap.size, 0, none⟩ = false := hr2.frozen 0
      go_wp2
      refine bodyPost_ret (v := .tuple #[.agg #[.slice A2 (buildL (l.map aliveE)).length c2], .int .i64 (buildE (l.map aliveE))]) (by simp [results, Tryz.results26, go_sem, hc2]) rfl ?_
      refine ⟨A2, c2, rfl, own_far (own_mono hown2 (by omega)) ?_ _, hb02.setCell (p := ⟨w.heap.size, 0, none⟩) (by simp) _⟩
      intro e
      have := (hown2.lt _ e).1
      dsimp only at this
      omega
end Go.Proofs.YtolclahkfmplfaaGreatDoor

/- Contracts of the references of chapter 25: shelfmarkref25 Check, Both, All, Alive, and of shelfmarkref24 Plain, Alive. -/
namespace Go.Proofs.YtolclahkfmplfaaGreatDoor
open Go Go.RowKit
set_option maxRecDepth 100000

theorem bothE_nil_right (a : List Ent) : bothE a [] = a := by cases a <;> simp [bothE]
theorem bothE_lt {x y : Ent} {a b : List Ent} (h : x.key < y.key) : bothE (x :: a) (y :: b) = x :: bothE a (y :: b) := by rw [bothE, if_pos h]
theorem bothE_eq {x y : Ent} {a b : List Ent} (h : x.key = y.key) : bothE (x :: a) (y :: b) = x :: bothE a b := by rw [bothE, if_neg (by omega), if_pos h]
theorem bothE_gt2 {x y : Ent} {a b : List Ent} (h : y.key < x.key) : bothE (x :: a) (y :: b) = y :: bothE (x :: a) b := by rw [bothE, if_neg (by omega), if_neg (by omega)]
theorem drop_at {l : List Ent} {i : Nat} (h : i < l.length) : l.drop i = l[i] :: l.drop (i + 1) := (List.getElem_cons_drop h).symm


/-! ### the live ones -/
def liveE (l : List Ent) : List Ent := l.filter (fun e => !e.dead)
def plainE (l : List Ent) : List Pr := (liveE l).map (fun e => ⟨e.key, e.val⟩)
theorem plain_alive (l : List Ent) : (plainE l).map aliveE = liveE l := by
  unfold plainE
  rw [List.map_map]
  have : ∀ e ∈ liveE l, (aliveE ∘ fun e : Ent => (⟨e.key, e.val⟩ : Pr)) e = e := by
    intro e he
    have hd : e.dead = false := by simpa using (List.mem_filter.1 he).2
    obtain ⟨k, v, d⟩ := e
    dsimp at hd
    subst hd
    rfl
  rw [List.map_congr_left this, List.map_id']
theorem live_succ {l : List Ent} {k : Nat} (h : k < l.length) : liveE (l.take (k + 1)) = liveE (l.take k) ++ (if (l[k]'h).dead = true then [] else [l[k]'h]) := by
  unfold liveE
  rw [List.take_succ_eq_append_getElem h, List.filter_append]
  cases hd : (l[k]'h).dead <;> simp [List.filter, hd]
theorem live_le (l : List Ent) : (liveE l).length ≤ l.length := List.length_filter_le _ _
theorem live_ris {l : List Ent} (h : RisE l) : RisE (liveE l) := List.Pairwise.filter _ h
theorem pair_info2 : (Tryz.prog.info? 40).map (fun i => (i.zero, i.size, i.bytes)) = some (some (.agg #[.int .i64 0, .int .i64 0]), 2, 16) := by kernel_rfl



/-! ### runs -/
def chkAllE : List (List Ent) → Int
  | [] => 0
  | r :: rs => if chkE r = 0 then chkAllE rs else chkE r
theorem chkAll_ok : ∀ {rs : List (List Ent)}, chkAllE rs = 0 → ∀ r ∈ rs, chkE r = 0
  | [], _, _, h => by simp at h
  | r0 :: rs, h, r, hr => by
    rw [chkAllE] at h
    by_cases h0 : chkE r0 = 0
    · rw [if_pos h0] at h
      rcases List.mem_cons.1 hr with rfl | hr
      · exact h0
      · exact chkAll_ok h r hr
    · rw [if_neg h0] at h; exact absurd h h0
theorem chkAll_drop {rs : List (List Ent)} {k : Nat} (h : k < rs.length) : chkAllE (rs.drop k) = if chkE (rs[k]'h) = 0 then chkAllE (rs.drop (k + 1)) else chkE (rs[k]'h) := by
  rw [← List.getElem_cons_drop h, chkAllE]
/-- runs in memory -/
structure RunsAt (w : World) (B : Option Addr) (Rs : List Rm) : Prop where
  sl : Sl w B (Rs.map Rm.v)
  ok : ∀ r ∈ Rs, r.Ok w
theorem Rm.Ok.below {w w' : World} {r : Rm} (h : r.Ok w) (hb : Below w.heap.size w w') : r.Ok w' := ⟨h.sl.below hb, h.lc, h.c⟩
theorem RunsAt.below {w w' : World} {B : Option Addr} {Rs : List Rm} (h : RunsAt w B Rs) (hb : Below w.heap.size w w') : RunsAt w' B Rs := ⟨h.sl.below hb, fun r hr => (h.ok r hr).below hb⟩


theorem all_take_len : ∀ (rs : List (List Ent)) (k T : Nat), (rs.map List.length).sum ≤ T → (allE (rs.take k)).length + ((rs.drop k).map List.length).sum ≤ T := by
  intro rs k T h
  have h1 := fold_len (rs.take k) []
  have h2 : ((rs.take k).map List.length).sum + ((rs.drop k).map List.length).sum = (rs.map List.length).sum := by
    rw [← List.sum_append, ← List.map_append, List.take_append_drop]
  unfold allE
  rw [List.length_nil, Nat.zero_add] at h1
  omega
theorem all_succ {rs : List (List Ent)} {k : Nat} (h : k < rs.length) : allE (rs.take (k + 1)) = bothE (allE (rs.take k)) (rs[k]'h) := by
  unfold allE
  rw [List.take_succ_eq_append_getElem h, List.foldl_append]; rfl
/-- what the runs are, in order -/
def inS (Rs : List Rm) : List (List Ent) := Rs.map (fun r => inL r.l)
theorem inS_sum (Rs : List Rm) : ((inS Rs).map List.length).sum = (Rs.map (fun r => r.l.length)).sum := by
  unfold inS
  rw [List.map_map]
  congr 1
  exact List.map_congr_left (fun r _ => inL_length r.l)


def mrgE (Rs : List Rm) : Int := if chkAllE (Rs.map Rm.l) = 0 then (if (allE (inS Rs)).length > 65536 then 4 else 0) else chkAllE (Rs.map Rm.l)
def bareE (bare : Bool) (l : List Ent) : List Ent := if bare = true then liveE l else l
def mrgL (Rs : List Rm) (bare : Bool) : List Ent := if mrgE Rs = 0 then laid (bareE bare (allE (inS Rs))) else []
theorem chk_len {l : List Ent} (h : chkE l = 0) : l.length ≤ 65536 := (chk_ok h).2.2
end Go.Proofs.YtolclahkfmplfaaGreatDoor
