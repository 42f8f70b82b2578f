/- Ld Le Lf Lg Ko: texts of the claim, in this order. -/
import Derived.Test.YthbppblmecdekaaDoorWb5
import Derived.Laws.Bits64
import Derived.Lib.SliceRun
import Derived.Test.YthbppblmecdekaaDoorWb3
/- Contracts: the place of Lower, Find, Rank. -/
namespace Go.Proofs.YthbppblmecdekaaDoor
open Go Go.RowKit
set_option maxRecDepth 100000

/-- hands back two numbers -/
def GivesII (a e : Int) (w : World) (r : Ending) (w' : World) : Prop := r = .returned (.tuple #[.int .i64 a, .int .i64 e]) ∧ Below w.heap.size w w'
def belowT (l : List Ent) (key : Int) (x : Nat) : Bool := decide ((entAt l x).key < key)
/-- how many keys are below one -/
def lowK (l : List Ent) (key : Int) : Nat := (inord l.length 0).countP (belowT l key)
def lowE (l : List Ent) (key : Int) : Int := if chkE l ≠ 0 then chkE l else if lowK l key = l.length then 6 else 0
def lowAt (l : List Ent) (key : Int) : Nat := if lowE l key = 0 then (inord l.length 0).getD (lowK l key) 0 else 0
theorem inL_pairs {l : List Ent} (h : rises ((inL l).map Ent.key) = true) (key : Int) : (inord l.length 0).Pairwise (fun a b => belowT l key b = true → belowT l key a = true) := by
  unfold rises at h
  have h := of_decide_eq_true h
  unfold inL at h
  rw [List.map_map] at h
  have h2 := List.pairwise_map.1 h
  refine h2.imp fun {a b} hab => ?_
  intro hb
  unfold belowT at hb ⊢
  have hb := of_decide_eq_true hb
  exact decide_eq_true (Int.lt_trans hab hb)
theorem lowK_le (l : List Ent) (key : Int) : lowK l key ≤ l.length := by
  have : (inord l.length 0).countP (belowT l key) ≤ (inord l.length 0).length := List.countP_le_length
  rw [inord_length] at this
  exact this

theorem not_u64 (m : Nat) (hm : m < 18446744073709551616) : bits BinOp.xor IntKind.u64 IntKind.u64.max (m : Int) = ((18446744073709551615 - m : Nat) : Int) := by
  have h1 : IntKind.u64.max = ((18446744073709551615 : Nat) : Int) := rfl
  rw [h1, bits_xor_u64_nat _ _ (by omega) hm]
  congr 1
  refine Nat.eq_of_testBit_eq fun i => ?_
  have h2 := Nat.testBit_two_pow_sub_succ (n := 64) (x := m) (by simpa using hm) i
  have h3 := Nat.testBit_two_pow_sub_one 64 i
  rw [Nat.testBit_xor]
  rw [show (2 : Nat) ^ 64 - 1 = 18446744073709551615 by rfl] at h3
  rw [show (2 : Nat) ^ 64 - (m + 1) = 18446744073709551615 - m by omega] at h2
  rw [h3, h2]
  by_cases hi : i < 64
  · simp [hi]
  · have : m.testBit i = false := Nat.testBit_lt_two_pow (Nat.lt_of_lt_of_le hm (by rw [show (18446744073709551616 : Nat) = 2 ^ 64 by rfl]; exact Nat.pow_le_pow_right (by omega) (by omega)))
    simp [hi, this]

set_option maxHeartbeats 1000000 in
theorem turn_any (k key : Int) (b : Nat) (w : World) (hc : w.cell? ⟨b, 0, none⟩ = some (.int .i64 key)) :
    Calls Tryd.prog 127 #[.int .i64 k, .pointer (some ⟨b, 0, none⟩)] w fun r w' => r = .returned (.int .i64 (if decide (k < key) = true then 1 else 0)) ∧ Below w.heap.size w w' := by
  by_cases h : k < key
  · rw [decide_eq_true h, if_pos rfl]
    go_enter Tryd.func127, Tryd.ntmps127
    go_wp2
    go_ret
    exact ⟨rfl, Below.refl _ _⟩
  · rw [decide_eq_false h, if_neg (by simp)]
    go_enter Tryd.func127, Tryd.ntmps127
    go_wp2
    go_ret
    exact ⟨rfl, Below.refl _ _⟩

set_option maxHeartbeats 2000000 in
theorem lower_ok (A : Option Addr) (l : List Ent) (c : Nat) (key : Int) (w : World) (hA : Sl w A (l.flatMap Ent.cells)) (hT : TabAt 1 Lib.deBruijn64tab w) (hC : chkE l = 0) :
    Calls Tryd.prog 104 #[.agg #[.slice A l.length c], .int .i64 key] w (GivesII (lowAt l key) (lowE l key) w) := by
  have hsg : IntKind.u64.signed = false := rfl
  have hmf : ∀ (fn : Fn) (first cap : Array Value) (w : World), (Instr.makeFunc fn first cap).run Tryd.prog w = .ok (.func fn first cap) w := fun _ _ _ _ => rfl
  obtain ⟨_, hris, hlen⟩ := chk_ok hC
  have HP := Lib.hid (inL_pairs hris key)
  have hLE : lowE l key = if lowK l key = l.length then 6 else 0 := by unfold lowE; rw [if_neg (by omega)]
  have hKl := lowK_le l key
  have hb0 : Below w.heap.size w ((w.alloc (.cells #[.slice A l.length c] 61)).alloc (.cells #[.int .i64 key] 2)) := ((Below.refl _ _).alloc (Nat.le_refl _) _).alloc (by simp) _
  have bX : Blk ((w.alloc (.cells #[.slice A l.length c] 61)).alloc (.cells #[.int .i64 key] 2)) w.heap.size 61 #[.slice A l.length c] := (Blk.new w _ _).alloc _
  have bK : Blk ((w.alloc (.cells #[.slice A l.length c] 61)).alloc (.cells #[.int .i64 key] 2)) (w.heap.size + 1) 2 #[.int .i64 key] := by
    have := Blk.new (w.alloc (.cells #[.slice A l.length c] 61)) 2 #[.int .i64 key]
    rwa [World.size_alloc] at this
  have HC := Lib.hid hC
  have HLE := Lib.hid hLE
  have HT := Lib.hid hT
  have hTl := tab_lt hT
  clear hC hLE hris hT
  go_enter Tryd.func104, Tryd.ntmps104
  go_wp2_with fail
  refine (check_any A l c _ (hA.below hb0) (by omega)).mono ?_
  rw [HC.out]
  rintro e w1 ⟨rfl, hb1⟩
  have hb01 := bext hb0 hb1
  have bX1 := bX.below hb1 bX.lt
  have bK1 := bK.below hb1 bK.lt
  clear bX bK hb0 hb1
  go_wp2_with fail
  go_loopw [8] (fun n wr => ∃ m : Nat, n = .int .i64 (m : Nat) ∧ WayAt l.length (belowT l key) m ∧ m ≤ 2 * l.length + 1 ∧ Below w1.heap.size w1 wr) (fun n _ => l.length + 1 - (intOf n).toNat)
  case atStart => exact ⟨1, rfl, WayAt.start _ _, by omega, Below.refl _ _⟩
  case round =>
    obtain ⟨m, rfl, hw, hm, hb⟩ := hrel
    have bXr := bX1.below hb bX1.lt
    have bKr := bK1.below hb bK1.lt
    have c0 : wr.cell? ⟨w.heap.size, 0, none⟩ = some (.slice A l.length c) := bXr.cell 0
    have ck : wr.cell? ⟨w.heap.size + 1, 0, none⟩ = some (.int .i64 key) := bKr.cell 0
    by_cases hlt : m ≤ l.length
    · obtain ⟨j, rfl⟩ : ∃ j, m = j + 1 := ⟨m - 1, by have := hw.1; omega⟩
      have hjl : j < l.length := by omega
      obtain ⟨b, off, rfl, hbl, c1, c2, c3⟩ := hA.entB (bext hb01 hb) j hjl
      have hst := Lib.hid (hw.step HP.out hlt)
      have hbt : Hid (belowT l key (j + 1 - 1) = decide ((l[j]'hjl).key < key)) := Lib.hid (by rw [Nat.add_sub_cancel]; unfold belowT; rw [entAt_get hjl])
      generalize (l[j]'hjl) = p at *
      have i0 : (0 : Int) ≤ (j : Int) := by omega
      have i1 : (j : Int) < (l.length : Int) := by omega
      have w1' : IntKind.i64.wrap ((j : Int) + 1 - 1) = (j : Int) := by rw [show (j : Int) + 1 - 1 = (j : Int) by omega]; exact IntWalk.i64_in _ (by omega)
      have w2' : IntKind.i64.wrap (2 * ((j : Int) + 1)) = 2 * ((j : Int) + 1) := IntWalk.i64_in _ (by omega)
      clear hw HP bXr bKr
      go_wp2_with fail
      refine (turn_any p.key key _ _ ck).mono ?_
      rw [← hbt.out]
      rintro e w2 ⟨rfl, hb2⟩
      obtain ⟨B, hB⟩ : ∃ B : Nat, (if belowT l key (j + 1 - 1) = true then 1 else 0 : Nat) = B := ⟨_, rfl⟩
      have hBI : (if belowT l key (j + 1 - 1) = true then (1 : Int) else 0) = (B : Int) := by rw [← hB]; split <;> rfl
      have hB1 : B ≤ 1 := by rw [← hB]; split <;> omega
      have hst2 := hst.out
      rw [hB] at hst2
      have hst3 := Lib.hid hst2
      rw [hBI]
      have w3' : IntKind.i64.wrap (2 * ((j : Int) + 1) + (B : Int)) = 2 * ((j : Int) + 1) + (B : Int) := IntWalk.i64_in _ (by omega)
      clear hst hst2 hbt hB hBI
      go_wp2
      go_roundw
      case rel => exact ⟨2 * (j + 1) + B, by go_num, hst3.out, by omega, bext hb hb2⟩
      case measure => simp [intOf]; omega
    · have hx := Lib.hid (not_u64 m (by omega))
      have hdone := Lib.hid (hw.done hlt)
      have hanc := Lib.hid (anc_ctz (m := m) (by omega))
      have hancl := anc_le m
      obtain ⟨a, ha⟩ : ∃ a, anc m = a := ⟨_, rfl⟩
      obtain ⟨cz, hcz⟩ : ∃ cz, Lib.ctz 64 (18446744073709551615 - m) = cz := ⟨_, rfl⟩
      have hcl : cz < 64 := by
        rw [← hcz]; unfold Lib.ctz; rw [if_neg (by omega)]
        obtain ⟨_, _, h⟩ := Lib.ctzFrom_spec 64 (18446744073709551615 - m) (by omega) (by omega)
        exact h
      rw [ha] at hancl
      have hanc2 := Lib.hid (show a = m / 2 ^ (cz + 1) by rw [← ha, ← hcz]; exact hanc.out)
      have hdone2 := Lib.hid (show (inord l.length 0)[lowK l key]? = (if a = 0 then none else some (a - 1)) by rw [← ha]; exact hdone.out)
      have hwz : IntKind.i64.wrap ((cz : Int) + 1) = (cz : Int) + 1 := IntWalk.i64_in _ (by omega)
      have HCZ := Lib.hid hcz
      clear hdone hanc ha hcz hw
      go_wp2_with fail
      rw [hx.out]
      refine (tz_any (18446744073709551615 - m) _ (by omega) (by omega) (tab_below hTl HT.out (bext hb01 hb))).mono ?_
      rw [HCZ.out]
      rintro e w2 ⟨rfl, rfl⟩
      have hd : (m : Int) / 2 ^ (cz + 1) = (a : Int) := by rw [hanc2.out]; simp
      by_cases h0 : a = 0
      · subst h0
        have hd2 := hdone2.out
        rw [if_pos rfl] at hd2
        have hK : lowK l key = l.length := by have := List.getElem?_eq_none_iff.1 hd2; rw [inord_length] at this; omega
        have hE : lowE l key = 6 := by rw [HLE.out, if_pos hK]
        have hAt : lowAt l key = 0 := by unfold lowAt; rw [if_neg (by omega)]
        have HEE := Lib.hid hE
        have HAt := Lib.hid hAt
        have hd3 : (m : Int) / 2 ^ (cz + 1) = 0 := by simpa using hd
        clear hd hd2 hK hE hAt hdone2 hanc2 hancl
        go_wp2
        refine bodyPost_ret (v := .tuple #[.int .i64 0, .int .i64 6]) (by simp [results, Tryd.results104, go_sem]) rfl ?_
        exact ⟨by rw [HEE.out, HAt.out]; rfl, bext hb01 hb⟩
      · obtain ⟨j, rfl⟩ : ∃ j, a = j + 1 := ⟨a - 1, by omega⟩
        have hd2 := hdone2.out
        rw [if_neg (by omega), Nat.add_sub_cancel] at hd2
        have hK : lowK l key < l.length := by have := (List.getElem?_eq_some_iff.1 hd2).1; rw [inord_length] at this; exact this
        have hE : lowE l key = 0 := by rw [HLE.out, if_neg (by omega)]
        have hAt : lowAt l key = j := by unfold lowAt; rw [if_pos hE, List.getD_eq_getElem?_getD, hd2]; rfl
        have HEE := Lib.hid hE
        have HAt := Lib.hid hAt
        have hd3 : (m : Int) / 2 ^ (cz + 1) = (j : Int) + 1 := by rw [hd]; omega
        have hnz : ((j : Int) + 1 == 0) = false := by rw [beq_eq_false_iff_ne]; omega
        have hw5 : wrap64 (j : Int) = (j : Int) := IntWalk.wrap64_in (j : Int) (by omega)
        have hw4 : wrap64 ((j : Int) + 1 - 1) = (j : Int) := by rw [show (j : Int) + 1 - 1 = (j : Int) by omega]; exact hw5
        clear hd hd2 hK hE hAt hdone2 hanc2 hancl
        go_wp2
        refine bodyPost_ret (v := .tuple #[.int .i64 (j : Int), .int .i64 0]) (by simp [results, Tryd.results104, go_sem, hw5]) rfl ?_
        exact ⟨by rw [HEE.out, HAt.out], bext hb01 hb⟩
end Go.Proofs.YthbppblmecdekaaDoor

/- Contracts: Lower, Find, Rank, for every run. -/
namespace Go.Proofs.YthbppblmecdekaaDoor
open Go Go.RowKit
set_option maxRecDepth 100000

theorem chk_vals (l : List Ent) : chkE l = 0 ∨ chkE l = 4 ∨ chkE l = 8 ∨ chkE l = 130 := by
  unfold chkE fairE riseE
  repeat' split
  all_goals simp_all
theorem low_bad {l : List Ent} (key : Int) (h : ¬ chkE l = 0) : lowE l key = chkE l ∧ lowAt l key = 0 := by
  have h1 : lowE l key = chkE l := by unfold lowE; rw [if_pos h]
  exact ⟨h1, by unfold lowAt; rw [h1, if_neg h]⟩
theorem low_six {l : List Ent} {key : Int} (h : chkE l = 0) (hk : lowK l key = l.length) : lowE l key = 6 ∧ lowAt l key = 0 := by
  have h1 : lowE l key = 6 := by unfold lowE; rw [if_neg (by omega), if_pos hk]
  exact ⟨h1, by unfold lowAt; rw [h1]; rfl⟩
theorem low_at {l : List Ent} {key : Int} (h : chkE l = 0) (hk : ¬ lowK l key = l.length) : lowE l key = 0 ∧ (inord l.length 0)[lowK l key]? = some (lowAt l key) ∧ lowAt l key < l.length := by
  have h1 : lowE l key = 0 := by unfold lowE; rw [if_neg (by omega), if_neg hk]
  have hle := lowK_le l key
  have hlt : lowK l key < (inord l.length 0).length := by rw [inord_length]; omega
  have h2 : (inord l.length 0)[lowK l key]? = some (lowAt l key) := by unfold lowAt; rw [if_pos h1, List.getD_eq_getElem?_getD, List.getElem?_eq_getElem hlt]; rfl
  exact ⟨h1, h2, inord_lt (List.mem_of_getElem? h2)⟩
/-- what Find tells -/
def fdE (l : List Ent) (key : Int) : Int := if lowE l key ≠ 0 then lowE l key else if (entAt l (lowAt l key)).key = key then 0 else 6
def fdAt (l : List Ent) (key : Int) : Nat := if fdE l key = 0 then lowAt l key else 0
/-- what Rank tells -/
def rkN (l : List Ent) (key : Int) : Nat := if chkE l = 0 then lowK l key else 0

set_option maxHeartbeats 1000000 in
theorem lower_any (A : Option Addr) (l : List Ent) (c : Nat) (key : Int) (w : World) (hA : Sl w A (l.flatMap Ent.cells)) (hl : l.length ≤ 4611686018427387903) (hT : TabAt 1 Lib.deBruijn64tab w) :
    Calls Tryd.prog 104 #[.agg #[.slice A l.length c], .int .i64 key] w (GivesII (lowAt l key) (lowE l key) w) := by
  by_cases hC : chkE l = 0
  · exact lower_ok A l c key w hA hT hC
  · obtain ⟨h1, h2⟩ := low_bad key hC
    obtain ⟨E, hE⟩ : ∃ E, chkE l = E := ⟨_, rfl⟩
    rw [h1, h2, hE]
    rw [hE] at hC
    have HE := Lib.hid hE
    clear h1 h2 hE
    have hb0 : Below w.heap.size w ((w.alloc (.cells #[.slice A l.length c] 61)).alloc (.cells #[.int .i64 key] 2)) := ((Below.refl _ _).alloc (Nat.le_refl _) _).alloc (by simp) _
    go_enter Tryd.func104, Tryd.ntmps104
    go_wp2_with fail
    refine (check_any A l c _ (hA.below hb0) hl).mono ?_
    rw [HE.out]
    rintro e w1 ⟨rfl, hb1⟩
    go_wp2
    refine bodyPost_ret (v := .tuple #[.int .i64 0, .int .i64 E]) (by simp [results, Tryd.results104, go_sem]) rfl ?_
    exact ⟨rfl, bext hb0 hb1⟩

set_option maxHeartbeats 1000000 in
theorem find_any (A : Option Addr) (l : List Ent) (c : Nat) (key : Int) (w : World) (hA : Sl w A (l.flatMap Ent.cells)) (hl : l.length ≤ 4611686018427387903) (hT : TabAt 1 Lib.deBruijn64tab w) :
    Calls Tryd.prog 115 #[.agg #[.slice A l.length c], .int .i64 key] w (GivesII (fdAt l key) (fdE l key) w) := by
  have hb0 : Below w.heap.size w (w.alloc (.cells #[.slice A l.length c] 61)) := (Below.refl _ _).alloc (Nat.le_refl _) _
  have bX := Blk.new w 61 #[.slice A l.length c]
  have hT0 := Lib.hid (tab_below (tab_lt hT) hT hb0)
  obtain ⟨E, hE⟩ : ∃ E, lowE l key = E := ⟨_, rfl⟩
  by_cases h0 : E = 0
  · subst h0
    have hC : chkE l = 0 := by
      rcases chk_vals l with h | h | h | h
      · exact h
      all_goals (have := (low_bad key (show ¬ chkE l = 0 by omega)).1; omega)
    have hK : ¬ lowK l key = l.length := fun h => by have := (low_six hC h).1; omega
    obtain ⟨_, _, hat⟩ := low_at hC hK
    obtain ⟨at_, hx⟩ : ∃ at_, lowAt l key = at_ := ⟨_, rfl⟩
    rw [hx] at hat
    have hfe : fdE l key = if (entAt l at_).key = key then 0 else 6 := by unfold fdE; rw [if_neg (by omega), hx]
    rw [entAt_get hat] at hfe
    obtain ⟨b, off, rfl, hbl, c1, c2, c3⟩ := hA.ent at_ hat
    have hsl := Lib.hid hA
    generalize hp : (l[at_]'hat) = p at *
    have HE := Lib.hid hE
    have HX := Lib.hid hx
    have i0 : (0 : Int) ≤ (at_ : Int) := by omega
    have i1 : (at_ : Int) < (l.length : Int) := by omega
    by_cases hk : p.key = key
    · rw [if_pos hk] at hfe
      have hfa : fdAt l key = at_ := by unfold fdAt; rw [if_pos hfe, hx]
      rw [hfa, hfe]
      have hkk : (p.key == key) = true := by simpa using hk
      clear hE hx hC hK hfe hfa hA hp
      go_enter Tryd.func115, Tryd.ntmps115
      go_wp2_with fail
      refine (lower_any (some ⟨b, off, none⟩) l c key _ (hsl.out.below hb0) hl hT0.out).mono ?_
      unfold GivesII
      rw [HE.out, HX.out]
      rintro e w1 ⟨rfl, hb1⟩
      have hb01 := bext hb0 hb1
      have d0 : w1.cell? ⟨w.heap.size, 0, none⟩ = some (.slice (some ⟨b, off, none⟩) l.length c) := (bX.below hb1 bX.lt).cell 0
      have d1 : w1.cell? ⟨b, off + at_ * 3, none⟩ = some (.int .i64 p.key) := ((bcell hb01).1 b _ hbl).trans c1
      clear c1 c2 c3 bX hb1
      go_wp2
      refine bodyPost_ret (v := .tuple #[.int .i64 (at_ : Int), .int .i64 0]) (by simp [results, Tryd.results115, go_sem]) rfl ?_
      exact ⟨rfl, hb01⟩
    · rw [if_neg hk] at hfe
      have hfa : fdAt l key = 0 := by unfold fdAt; rw [hfe]; rfl
      rw [hfa, hfe]
      have hkk : (p.key == key) = false := by simpa using hk
      clear hE hx hC hK hfe hfa hA hp
      go_enter Tryd.func115, Tryd.ntmps115
      go_wp2_with fail
      refine (lower_any (some ⟨b, off, none⟩) l c key _ (hsl.out.below hb0) hl hT0.out).mono ?_
      unfold GivesII
      rw [HE.out, HX.out]
      rintro e w1 ⟨rfl, hb1⟩
      have hb01 := bext hb0 hb1
      have d0 : w1.cell? ⟨w.heap.size, 0, none⟩ = some (.slice (some ⟨b, off, none⟩) l.length c) := (bX.below hb1 bX.lt).cell 0
      have d1 : w1.cell? ⟨b, off + at_ * 3, none⟩ = some (.int .i64 p.key) := ((bcell hb01).1 b _ hbl).trans c1
      clear c1 c2 c3 bX hb1
      go_wp2
      refine bodyPost_ret (v := .tuple #[.int .i64 0, .int .i64 6]) (by simp [results, Tryd.results115, go_sem]) rfl ?_
      exact ⟨rfl, hb01⟩
  · have hfe : fdE l key = E := by unfold fdE; rw [hE, if_pos h0]
    have hfa : fdAt l key = 0 := by unfold fdAt; rw [hfe, if_neg h0]
    rw [hfa, hfe]
    have HE := Lib.hid hE
    have hA' := Lib.hid hA
    clear hE hfe hfa
    go_enter Tryd.func115, Tryd.ntmps115
    go_wp2_with fail
    refine (lower_any A l c key _ (hA'.out.below hb0) hl hT0.out).mono ?_
    unfold GivesII
    rw [HE.out]
    rintro e w1 ⟨rfl, hb1⟩
    go_wp2
    refine bodyPost_ret (v := .tuple #[.int .i64 0, .int .i64 E]) (by simp [results, Tryd.results115, go_sem]) rfl ?_
    exact ⟨rfl, bext hb0 hb1⟩

set_option maxHeartbeats 1000000 in
theorem within_ok (n x : Nat) (w : World) (hn : n ≤ 65536) (hx : x < n) :
    Calls Tryd.prog 130 #[.int .i64 (n : Nat), .int .i64 (x : Nat)] w fun r w' => r = .returned (.int .i64 0) ∧ w = w' := by
  have h0 : askedE (n : Nat) = 0 := by unfold askedE; rw [if_neg (by omega), if_neg (by omega)]
  have h1 : ¬ (x : Int) < 0 := by omega
  have h2 : ¬ (n : Int) ≤ (x : Int) := by omega
  have H0 := Lib.hid h0
  clear h0
  go_enter Tryd.func130, Tryd.ntmps130
  go_wp2_with fail
  refine (asked_any (n : Nat) _).mono ?_
  rw [H0.out]
  rintro e w1 ⟨rfl, rfl⟩
  go_wp2
  go_ret
  exact ⟨rfl, rfl⟩
set_option maxHeartbeats 1000000 in
theorem eytzRank_ok (n x : Nat) (w : World) (hn : n ≤ 65536) (hx : x < n) :
    Calls Tryd.prog 129 #[.int .i64 (n : Nat), .int .i64 (x : Nat)] w (GivesII ((inord n 0).idxOf x) 0 w) := by
  have i0 : (0 : Int) ≤ (x : Int) := by omega
  have i1 : (x : Int) < (n : Int) := by omega
  go_enter Tryd.func129, Tryd.ntmps129
  go_wp2_with fail
  refine (within_ok n x _ hn hx).mono ?_
  rintro e w1 ⟨rfl, rfl⟩
  go_wp2_with fail
  refine (order_ok n hn _).mono ?_
  rintro e w2 ⟨rfl, ho, hb⟩
  have hr : x < (ranks n).length := by rw [ranks_length]; exact hx
  have cr : w2.cell? ⟨w.heap.size, x, none⟩ = some (.int .i64 ((inord n 0).idxOf x : Nat)) := by
    rw [ho.cell]; simp [hr, ranks_get hx]
  clear ho
  generalize (inord n 0).idxOf x = r at *
  go_wp2
  refine bodyPost_ret (v := .tuple #[.int .i64 (r : Nat), .int .i64 0]) (by simp [results, Tryd.results129, go_sem]) rfl ?_
  exact ⟨rfl, hb⟩

set_option maxHeartbeats 1000000 in
theorem rank_any (A : Option Addr) (l : List Ent) (c : Nat) (key : Int) (w : World) (hA : Sl w A (l.flatMap Ent.cells)) (hl : l.length ≤ 4611686018427387903) (hT : TabAt 1 Lib.deBruijn64tab w) :
    Calls Tryd.prog 105 #[.agg #[.slice A l.length c], .int .i64 key] w (GivesII (rkN l key) (chkE l) w) := by
  have hb0 : Below w.heap.size w (w.alloc (.cells #[.slice A l.length c] 61)) := (Below.refl _ _).alloc (Nat.le_refl _) _
  have bX := Blk.new w 61 #[.slice A l.length c]
  have hT0 := Lib.hid (tab_below (tab_lt hT) hT hb0)
  have hA' := Lib.hid hA
  by_cases hC : chkE l = 0
  · have hlen := (chk_ok hC).2.2
    have hrk : rkN l key = lowK l key := by unfold rkN; rw [if_pos hC]
    by_cases hK : lowK l key = l.length
    · obtain ⟨h6, ha⟩ := low_six hC hK
      rw [hrk, hK, hC]
      have H6 := Lib.hid h6
      have HAt := Lib.hid ha
      clear hrk hK hC h6 ha hA
      go_enter Tryd.func105, Tryd.ntmps105
      go_wp2_with fail
      refine (lower_any A l c key _ (hA'.out.below hb0) hl hT0.out).mono ?_
      unfold GivesII
      rw [H6.out, HAt.out]
      rintro e w1 ⟨rfl, hb1⟩
      have d0 : w1.cell? ⟨w.heap.size, 0, none⟩ = some (.slice A l.length c) := (bX.below hb1 bX.lt).cell 0
      have hb01 := bext hb0 hb1
      clear bX hb1
      go_wp2
      refine bodyPost_ret (v := .tuple #[.int .i64 (l.length : Nat), .int .i64 0]) (by simp [results, Tryd.results105, go_sem]) rfl ?_
      exact ⟨rfl, hb01⟩
    · obtain ⟨h6, hat, hal⟩ := low_at hC hK
      have hle := lowK_le l key
      have hidx : (inord l.length 0).idxOf (lowAt l key) = lowK l key := by
        obtain ⟨h1, h2⟩ := List.getElem?_eq_some_iff.1 hat
        rw [← h2]
        exact idx_inord h1
      rw [hrk, hC]
      have H6 := Lib.hid h6
      have HI := Lib.hid hidx
      obtain ⟨at_, hx⟩ : ∃ at_, lowAt l key = at_ := ⟨_, rfl⟩
      obtain ⟨K, hk⟩ : ∃ K, lowK l key = K := ⟨_, rfl⟩
      rw [hx] at hal
      rw [hk]
      have HX := Lib.hid hx
      have HK := Lib.hid hk
      clear hrk hK hC h6 hat hidx hA hle hx hk
      go_enter Tryd.func105, Tryd.ntmps105
      go_wp2_with fail
      refine (lower_any A l c key _ (hA'.out.below hb0) hl hT0.out).mono ?_
      unfold GivesII
      rw [H6.out, HX.out]
      rintro e w1 ⟨rfl, hb1⟩
      have d0 : w1.cell? ⟨w.heap.size, 0, none⟩ = some (.slice A l.length c) := (bX.below hb1 bX.lt).cell 0
      have hb01 := bext hb0 hb1
      clear bX hb1
      go_wp2_with fail
      refine (eytzRank_ok l.length at_ _ hlen hal).mono ?_
      unfold GivesII
      rw [← HX.out, HI.out, HK.out]
      rintro e w2 ⟨rfl, hb2⟩
      go_wp2
      refine bodyPost_ret (v := .tuple #[.int .i64 (K : Nat), .int .i64 0]) (by simp [results, Tryd.results105, go_sem]) rfl ?_
      exact ⟨rfl, bext hb01 hb2⟩
  · obtain ⟨h1, h2⟩ := low_bad key hC
    have hrk : rkN l key = 0 := by unfold rkN; rw [if_neg hC]
    have hne : ¬ chkE l = 6 := by rcases chk_vals l with h | h | h | h <;> omega
    obtain ⟨E, hE⟩ : ∃ E, chkE l = E := ⟨_, rfl⟩
    rw [hrk, hE]
    rw [hE] at hC hne h1
    have H1 := Lib.hid h1
    have H2 := Lib.hid h2
    clear h1 h2 hrk hE hA
    go_enter Tryd.func105, Tryd.ntmps105
    go_wp2_with fail
    refine (lower_any A l c key _ (hA'.out.below hb0) hl hT0.out).mono ?_
    unfold GivesII
    rw [H1.out, H2.out]
    rintro e w1 ⟨rfl, hb1⟩
    go_wp2
    refine bodyPost_ret (v := .tuple #[.int .i64 0, .int .i64 E]) (by simp [results, Tryd.results105, go_sem]) rfl ?_
    exact ⟨rfl, bext hb0 hb1⟩
end Go.Proofs.YthbppblmecdekaaDoor

/- Contract: two runs compared; plain facts: laid out and sorted again. -/
namespace Go.Proofs.YthbppblmecdekaaDoor
open Go Go.RowKit
set_option maxRecDepth 100000

theorem in_laid (l : List Ent) : inL (laid l) = l := by
  refine List.ext_getElem? fun k => ?_
  by_cases hk : k < l.length
  · have hk2 : k < (inL (laid l)).length := by rw [inL_length, laid_length]; exact hk
    have hk3 : k < (inord (laid l).length 0).length := by rw [inord_length, laid_length]; exact hk
    rw [List.getElem?_eq_getElem hk2, List.getElem?_eq_getElem hk, inL_get]
    congr 1
    have hp : (inord (laid l).length 0)[k]'hk3 < (laid l).length := inord_lt (List.getElem_mem hk3)
    rw [entAt_get hp]
    have hidx := idx_inord hk3
    have h2 : ∀ a (ha : a < (laid l).length), (inord (laid l).length 0).idxOf a = k → (laid l)[a]'ha = l[k]'hk := by
      intro a ha he
      rw [laid_length] at he
      have hal : a < l.length := by rwa [laid_length] at ha
      have hr : a < (ranks l.length).length := by rw [ranks_length]; exact hal
      have : (laid l)[a]'ha = entAt l ((ranks l.length)[a]'hr) := by simp [laid]
      rw [this, ranks_get hal, he, entAt_get hk]
    exact h2 _ hp hidx
  · rw [List.getElem?_eq_none (by rw [inL_length, laid_length]; omega), List.getElem?_eq_none (by omega)]
theorem laid_in (x : List Ent) : laid (inL x) = x := by
  refine List.ext_getElem? fun a => ?_
  by_cases ha : a < x.length
  · have ha1 : a < (inL x).length := by rw [inL_length]; exact ha
    have ha2 : a < (laid (inL x)).length := by rw [laid_length]; exact ha1
    rw [List.getElem?_eq_getElem ha2, List.getElem?_eq_getElem ha]
    congr 1
    have hr : a < (ranks (inL x).length).length := by rw [ranks_length]; exact ha1
    have h1 : (laid (inL x))[a]'ha2 = entAt (inL x) ((ranks (inL x).length)[a]'hr) := by simp [laid]
    rw [h1, ranks_get ha1]
    have hlt := ranks_lt ha1
    rw [entAt_get hlt]
    have hlt2 : (inord (inL x).length 0).idxOf a < (inord x.length 0).length := by rw [inord_length, ← inL_length x]; exact hlt
    have h3 : ∀ k (hk : k < (inL x).length), k = (inord x.length 0).idxOf a → (inL x)[k]'hk = x[a]'ha := by
      intro k hk he
      rw [inL_get]
      subst he
      rw [inord_idx ha, entAt_get ha]
    exact h3 _ hlt (by rw [inL_length])
  · rw [List.getElem?_eq_none (by rw [laid_length, inL_length]; omega), List.getElem?_eq_none (by omega)]
theorem laid_mem {l : List Ent} {e : Ent} (h : e ∈ laid l) : e ∈ l := by
  obtain ⟨r, hr, rfl⟩ := List.mem_map.1 h
  unfold ranks at hr
  obtain ⟨a, ha, rfl⟩ := List.mem_map.1 hr
  have ha2 : a < l.length := by simpa using ha
  rw [entAt_get (ranks_lt ha2)]
  exact List.getElem_mem _
theorem inL_mem {l : List Ent} {e : Ent} (h : e ∈ inL l) : e ∈ l := by
  obtain ⟨r, hr, rfl⟩ := List.mem_map.1 h
  rw [entAt_get (inord_lt hr)]
  exact List.getElem_mem _
theorem build_parts {l : List Ent} (h : buildE l = 0) : fairE l = 0 ∧ rises (l.map Ent.key) = true := by
  unfold buildE at h
  unfold fairE
  split at h
  · cases h
  · rename_i h1
    split at h
    · cases h
    · rename_i h2
      split at h
      · rename_i h3; exact ⟨by rw [if_neg h1, if_neg h2], h3⟩
      · cases h
theorem fair_sub {l m : List Ent} (hlen : m.length ≤ l.length) (hm : ∀ e ∈ m, e ∈ l) (h : fairE l = 0) : fairE m = 0 := by
  have hl := fair_len h
  unfold fairE at h ⊢
  rw [if_neg (by omega)] at h ⊢
  cases hb : m.any badEnt
  · rfl
  · obtain ⟨e, he, hbe⟩ := List.any_eq_true.1 hb
    rw [if_pos (List.any_eq_true.2 ⟨e, hm e he, hbe⟩)] at h
    cases h
theorem build_chk {l : List Ent} (h : buildE l = 0) : chkE (laid l) = 0 := by
  obtain ⟨h1, h2⟩ := build_parts h
  have hf := fair_sub (m := laid l) (by rw [laid_length]; exact Nat.le_refl _) (fun e he => laid_mem he) h1
  unfold chkE
  rw [if_neg (by omega), in_laid]
  unfold riseE
  rw [if_pos h2]
theorem chk_build {x : List Ent} (h : chkE x = 0) : buildE (inL x) = 0 := by
  obtain ⟨h1, h2, h3⟩ := chk_ok h
  have hf := fair_sub (m := inL x) (by rw [inL_length]; exact Nat.le_refl _) (fun e he => inL_mem he) h1
  have hl := fair_len hf
  unfold fairE at hf
  rw [if_neg (by omega)] at hf
  unfold buildE
  rw [if_neg (by omega)]
  split at hf
  · cases hf
  · rename_i hb
    rw [if_neg hb, if_pos h2]

set_option maxHeartbeats 1000000 in
theorem equalE_any (A B : Option Addr) (l m : List Ent) (c d : Nat) (w : World) (hA : Sl w A (l.flatMap Ent.cells)) (hB : Sl w B (m.flatMap Ent.cells)) (_hl : l.length ≤ 4611686018427387903) (hm : m.length ≤ 4611686018427387903) :
    Calls Tryd.prog 98 #[.slice A l.length c, .slice B m.length d] w fun r w' => r = .returned (.bool (decide (l = m))) ∧ Below w.heap.size w w' := by
  by_cases hlen : l.length = m.length
  · have hz : ((l.length : Int) != (m.length : Int)) = false := by simp [hlen]
    have hz2 : (l.length : Int) ≤ (m.length : Int) := by omega
    have HL := Lib.hid hlen
    clear hlen
    go_enter Tryd.func98, Tryd.ntmps98
    go_wp2
    go_loopw [13] (fun i wr => ∃ k : Nat, k ≤ l.length ∧ i = .int .i64 k ∧ Below w.heap.size w wr ∧ Hid (l.take k = m.take k)) (fun i _ => l.length - (intOf i).toNat)
    case atStart => exact ⟨0, Nat.zero_le _, rfl, Below.refl _ _, rfl⟩
    case round =>
      obtain ⟨k, hk, rfl, hb, hn⟩ := hrel
      by_cases hlt : k < l.length
      · have hlt2 : k < m.length := by omega
        obtain ⟨b, off, rfl, hbl, c1, c2, c3⟩ := hA.entB hb k hlt
        obtain ⟨b', off', rfl, hbl', d1, d2, d3⟩ := hB.entB hb k hlt2
        have i0 : (0 : Int) ≤ (k : Int) := by omega
        have i1 : (k : Int) < (l.length : Int) := by omega
        have i2 : (k : Int) < (m.length : Int) := by omega
        clear hA hB
        have hne := fun w => run_neq_ent (l[k]'hlt) (m[k]'hlt2) w
        have hgu := ent_guard
        go_wp2
        go_quiet (fail)
        clear hne hgu
        go_wp2
        · have hx : neE (l[k]'hlt) (m[k]'hlt2) = true := by assumption
          go_ret
          refine ⟨ret_bool ?_, bdrew hb _⟩
          symm
          rw [decide_eq_false_iff_not]
          rintro rfl
          simp [neE] at hx
        · have hx : neE (l[k]'hlt) (m[k]'hlt2) = false := by assumption
          go_roundw
          case rel =>
            refine ⟨k + 1, by omega, by go_num, bdrew hb _, ?_⟩
            show _ = _
            rw [List.take_succ_eq_append_getElem hlt, List.take_succ_eq_append_getElem hlt2, hn.out]
            simp [neE] at hx
            rw [hx]
          case measure => simp [intOf]; omega
      · go_wp2
        go_ret
        refine ⟨ret_bool ?_, hb⟩
        have := hn.out
        rw [List.take_of_length_le (by omega), List.take_of_length_le (by have := HL.out; omega)] at this
        rw [this, decide_eq_true rfl]
  · have hz : ((l.length : Int) != (m.length : Int)) = true := by simp; omega
    have HL := Lib.hid hlen
    clear hlen
    go_enter Tryd.func98, Tryd.ntmps98
    go_wp2
    go_ret
    refine ⟨ret_bool ?_, Below.refl _ _⟩
    symm
    rw [decide_eq_false_iff_not]
    rintro rfl
    exact HL.out rfl
set_option maxHeartbeats 1000000 in
theorem boundSame_any (A B : Option Addr) (l m : List Ent) (c d : Nat) (w : World) (hA : Sl w A (l.flatMap Ent.cells)) (hB : Sl w B (m.flatMap Ent.cells)) (hl : l.length ≤ 4611686018427387903) (hm : m.length ≤ 4611686018427387903) :
    Calls Tryd.prog 62 #[.agg #[.slice A l.length c], .agg #[.slice B m.length d]] w fun r w' => r = .returned (.bool (decide (l = m))) ∧ Below w.heap.size w w' := by
  have hb0 : Below w.heap.size w ((w.alloc (.cells #[.slice A l.length c] 61)).alloc (.cells #[.slice B m.length d] 61)) := ((Below.refl _ _).alloc (Nat.le_refl _) _).alloc (by simp) _
  go_enter Tryd.func62, Tryd.ntmps62
  go_wp2_with fail
  refine (equalE_any A B l m c d _ (hA.below hb0) (hB.below hb0) hl hm).mono ?_
  rintro e w1 ⟨rfl, hb1⟩
  go_wp2
  go_ret
  exact ⟨rfl, bext hb0 hb1⟩
end Go.Proofs.YthbppblmecdekaaDoor

/- Contracts: the references of bound; copies of runs. -/
namespace Go.Proofs.YthbppblmecdekaaDoor
open Go Go.RowKit
set_option maxRecDepth 100000

theorem inL_perm (l : List Ent) : (inL l).Perm l := by
  have h := (inord_perm l.length).map (entAt l)
  have e : (List.range l.length).map (entAt l) = l := by
    refine List.ext_getElem? fun i => ?_
    by_cases hi : i < l.length
    · simp [hi, entAt_get hi]
    · rw [List.getElem?_eq_none (by simp; omega), List.getElem?_eq_none (by omega)]
  rw [e] at h
  exact h
def belK (l : List Ent) (key : Int) : Nat := l.countP (fun e => decide (e.key < key))
theorem lowK_bel (l : List Ent) (key : Int) : lowK l key = belK l key := by
  have h := (inL_perm l).countP_eq (fun e => decide (e.key < key))
  unfold belK
  rw [← h]
  unfold lowK inL
  rw [List.countP_map]
  rfl
theorem belK_succ {l : List Ent} {k : Nat} (h : k < l.length) (key : Int) : belK (l.take (k + 1)) key = belK (l.take k) key + (if (l[k]'h).key < key then 1 else 0) := by
  unfold belK
  rw [List.take_succ_eq_append_getElem h, List.countP_append, List.countP_cons, List.countP_nil]
  simp
theorem belK_le (l : List Ent) (key : Int) : belK l key ≤ l.length := List.countP_le_length

set_option maxHeartbeats 1000000 in
theorem refCheck_any (A : Option Addr) (l : List Ent) (c : Nat) (w : World) (hA : Sl w A (l.flatMap Ent.cells)) (hl : l.length ≤ 4611686018427387903) :
    Calls Tryd.prog 92 #[.agg #[.slice A l.length c]] w fun r w' => r = .returned (.int .i64 (chkE l)) ∧ Below w.heap.size w w' := by
  have hb0 : Below w.heap.size w (w.alloc (.cells #[.slice A l.length c] 61)) := (Below.refl _ _).alloc (Nat.le_refl _) _
  have bX := Blk.new w 61 #[.slice A l.length c]
  have hA' := Lib.hid hA
  clear hA
  by_cases h1 : l.length > 65536
  · have hE : chkE l = 4 := by unfold chkE fairE; rw [if_pos h1]; rfl
    rw [hE]
    have h1' : (65536 : Int) < (l.length : Int) := by omega
    go_enter Tryd.func92, Tryd.ntmps92
    go_wp2
    go_ret
    exact ⟨rfl, hb0⟩
  · have h1' : ¬ (65536 : Int) < (l.length : Int) := by omega
    cases h2 : l.any badEnt
    · have hE : chkE l = riseE (inL l) := by unfold chkE fairE; rw [if_neg h1, h2]; rfl
      rw [hE]
      have H2 := Lib.hid h2
      have HL := Lib.hid (inL_length l)
      obtain ⟨b, hb⟩ : ∃ b, rises ((inL l).map Ent.key) = b := ⟨_, rfl⟩
      have HB := Lib.hid hb
      have hR : riseE (inL l) = if b = true then 0 else 130 := by unfold riseE; rw [hb]
      rw [hR]
      clear h2 hE hb hR
      go_enter Tryd.func92, Tryd.ntmps92
      go_wp2_with fail
      refine (refFair_any A l c _ (hA'.out.below hb0) hl).mono ?_
      rw [H2.out]
      rintro e w1 ⟨rfl, rfl⟩
      have c0 := bX.cell 0
      go_wp2_with fail
      refine (refIn_any A l c _ (hA'.out.below hb0) (by omega)).mono ?_
      rintro e w2 ⟨A2, c2, rfl, ho2, hb2⟩
      have hb02 := bext hb0 hb2
      have hs2 := Lib.hid (own_sl ho2)
      clear ho2 c0
      go_wp2_with fail
      rw [← HL.out]
      refine (refRising_any A2 (inL l) c2 _ hs2.out (by rw [HL.out]; omega)).mono ?_
      rw [HB.out]
      rintro e w3 ⟨rfl, hb3⟩
      cases b
      · go_wp2
        go_ret
        exact ⟨rfl, bext hb02 hb3⟩
      · go_wp2
        go_ret
        exact ⟨rfl, bext hb02 hb3⟩
    · have hE : chkE l = 8 := by unfold chkE fairE; rw [if_neg h1, h2]; rfl
      rw [hE]
      have H2 := Lib.hid h2
      clear h2 hE
      go_enter Tryd.func92, Tryd.ntmps92
      go_wp2_with fail
      refine (refFair_any A l c _ (hA'.out.below hb0) hl).mono ?_
      rw [H2.out]
      rintro e w1 ⟨rfl, rfl⟩
      go_wp2
      go_ret
      exact ⟨rfl, hb0⟩



end Go.Proofs.YthbppblmecdekaaDoor

/- Contracts of the references of chapter 25: shelfmarkref25 Check, Both, All, Alive, and of shelfmarkref24 Plain, Alive. -/
namespace Go.Proofs.YthbppblmecdekaaDoor
open Go Go.RowKit
set_option maxRecDepth 100000

theorem bothE_nil_right (a : List Ent) : bothE a [] = a := by cases a <;> simp [bothE]
theorem bothE_lt {x y : Ent} {a b : List Ent} (h : x.key < y.key) : bothE (x :: a) (y :: b) = x :: bothE a (y :: b) := by rw [bothE, if_pos h]
theorem bothE_eq {x y : Ent} {a b : List Ent} (h : x.key = y.key) : bothE (x :: a) (y :: b) = x :: bothE a b := by rw [bothE, if_neg (by omega), if_pos h]
theorem bothE_gt2 {x y : Ent} {a b : List Ent} (h : y.key < x.key) : bothE (x :: a) (y :: b) = y :: bothE (x :: a) b := by rw [bothE, if_neg (by omega), if_neg (by omega)]
theorem drop_at {l : List Ent} {i : Nat} (h : i < l.length) : l.drop i = l[i] :: l.drop (i + 1) := (List.getElem_cons_drop h).symm

set_option maxHeartbeats 4000000 in
theorem both_any (A B : Option Addr) (a b : List Ent) (c d : Nat) (w : World) (hA : Sl w A (a.flatMap Ent.cells)) (hB : Sl w B (b.flatMap Ent.cells)) (hl : a.length + b.length ≤ 1099511627776) :
    Calls Tryd.prog 123 #[.slice A a.length c, .slice B b.length d] w (GivesOwn 27 3 (bothE a b).length ((bothE a b).flatMap Ent.cells) w) := by
  obtain ⟨te0, hI⟩ := info_parts ent_info
  have HI := Lib.hid hI
  clear hI
  go_enter Tryd.func123, Tryd.ntmps123
  go_wp2
  go_loopw [5, 6, 7] (fun v x y wr => ∃ (o : List Ent) (i k : Nat) (Ao : Option Addr) (co : Nat), v = .slice Ao o.length co ∧ x = .int .i64 i ∧ y = .int .i64 k ∧ i ≤ a.length ∧ k ≤ b.length ∧
      wr.ownsRow w.heap.size 27 3 (.slice Ao o.length co) o.length (o.flatMap Ent.cells) ∧ Below w.heap.size w wr ∧ Hid (o ++ bothE (a.drop i) (b.drop k) = bothE a b)) (fun _ x y _ => a.length + b.length - (intOf x).toNat - (intOf y).toNat)
  case atStart => exact ⟨[], 0, 0, none, 0, rfl, rfl, rfl, Nat.zero_le _, Nat.zero_le _, World.ownsRow_nil _ _ _ _, Below.refl _ _, by show _ = _; simp⟩
  case round =>
    obtain ⟨o, i, k, Ao, co, rfl, rfl, rfl, hi, hk, hown, hb, hrest⟩ := hrel
    have hol : o.length ≤ 1099511627776 := by
      have h1 := congrArg List.length hrest.out
      have h2 := bothE_len _ a b (Nat.le_refl _)
      rw [List.length_append] at h1
      omega
    have HOW := Lib.hid hown
    have HB := Lib.hid hb
    have hbs := hb.size
    have i0 : (0 : Int) ≤ (i : Int) := by omega
    have k0 : (0 : Int) ≤ (k : Int) := by omega
    have HA := Lib.hid hA
    have HBB := Lib.hid hB
    clear hown hb
    by_cases hka : k = b.length
    · have HKA := Lib.hid hka
      have hkz : ((k : Int) == (b.length : Int)) = true := by simp [hka]
      have hkd : decide ((k : Int) < (b.length : Int)) = false := decide_eq_false (by omega)
      have hkd2 : decide (k < b.length) = false := decide_eq_false (by omega)
      by_cases hia : i < a.length
      · have hid : decide ((i : Int) < (a.length : Int)) = true := decide_eq_true (by omega)
        have hid2 : decide (i < a.length) = true := decide_eq_true hia
        have i1 : (i : Int) < (a.length : Int) := by omega
        obtain ⟨ba, oa, rfl, hbl, e1, e2, e3⟩ := HA.out.entB HB.out i hia
        obtain ⟨x, hx⟩ : ∃ x, a[i]'hia = x := ⟨_, rfl⟩
        rw [hx] at e1 e2 e3
        have heq : Hid ((o ++ [x]) ++ bothE (a.drop (i + 1)) (b.drop k) = bothE a b) := by
          show _ = _
          have h := hrest.out
          rw [List.drop_eq_nil_of_le (by omega : b.length ≤ k), bothE_nil_right, drop_at hia, hx] at h
          rw [List.drop_eq_nil_of_le (by omega : b.length ≤ k), bothE_nil_right, ← h]
          simp
        clear hka hx hA hB
        go_wp2_with fail
        go_quiet (fail)
        go_wp2_with fail
        go_quiet (fail)
        go_wp2_with (at_builtin; refine wpList_append_sl _ rfl (.tmp 60) (.tmp 65) _ rfl w.heap.size 27 te0 _ 3 24 Tryd.underlying59 HI.out.1 HI.out.2.1 HI.out.2.2.1 HI.out.2.2.2 rfl (by omega) (.slice Ao o.length co) o.length _ rfl (HOW.out.alloc _) _ 1 _ [.int .i64 x.key, .int .i64 x.val, .bool x.dead] rfl (by exact sl_new1 _ _ _) rfl (by simp [Value.oneCell']) (by unfold maxLen; omega) (by omega) (by simp; omega) ?_; intro v2 w2 hown2 hg2; obtain ⟨A2, q2, rfl, hle2, hmx2⟩ := own_form hown2; have HO2 := Lib.hid hown2; clear hown2)
        go_roundw
        case rel =>
          refine ⟨o ++ [x], i + 1, k, A2, q2, by simp, by go_num, by go_num, by omega, by omega, ?_, ?_, heq⟩
          · simpa [Ent.cells] using HO2.out
          · exact ((by first | exact HB.out | exact bdrew HB.out _ | exact bdrew (bdrew HB.out _) _ : Below w.heap.size w _).alloc (by simp; omega) _).grown hg2 (by simp; omega) (fun q hq => (HOW.out.lt q hq).1)
        case measure => simp [intOf]; omega
      · have hid : decide ((i : Int) < (a.length : Int)) = false := decide_eq_false (by omega)
        have HIA := Lib.hid (show i = a.length by omega)
        have heq : Hid (o = bothE a b) := by
          show _ = _
          have h := hrest.out
          rw [List.drop_eq_nil_of_le (by omega : b.length ≤ k), List.drop_eq_nil_of_le (by omega : a.length ≤ i), bothE_nil_right, List.append_nil] at h
          exact h
        clear hka
        go_wp2
        go_ret
        exact ⟨Ao, co, by rw [heq.out]; rfl, by rw [← heq.out]; exact HOW.out, HB.out⟩
    · have hkb : k < b.length := by omega
      have hkz : ((k : Int) == (b.length : Int)) = false := beq_eq_false_iff_ne.2 (by omega)
      have hkd : decide ((k : Int) < (b.length : Int)) = true := decide_eq_true (by omega)
      have hkd2 : decide (k < b.length) = true := decide_eq_true hkb
      have k1 : (k : Int) < (b.length : Int) := by omega
      obtain ⟨bb, ob, rfl, hbl2, f1, f2, f3⟩ := HBB.out.entB HB.out k hkb
      obtain ⟨y, hy⟩ : ∃ y, b[k]'hkb = y := ⟨_, rfl⟩
      rw [hy] at f1 f2 f3
      by_cases hia : i < a.length
      · have hid : decide ((i : Int) < (a.length : Int)) = true := decide_eq_true (by omega)
        have hid2 : decide (i < a.length) = true := decide_eq_true hia
        have i1 : (i : Int) < (a.length : Int) := by omega
        obtain ⟨ba, oa, rfl, hbl, e1, e2, e3⟩ := HA.out.entB HB.out i hia
        obtain ⟨x, hx⟩ : ∃ x, a[i]'hia = x := ⟨_, rfl⟩
        rw [hx] at e1 e2 e3
        have hr := hrest.out
        rw [drop_at hia, drop_at hkb, hx, hy] at hr
        have hda := drop_at hia
        have hdb := drop_at hkb
        rw [hx] at hda
        rw [hy] at hdb
        rcases Int.lt_trichotomy x.key y.key with hlt | hkeq | hgt
        · have hc1 : decide (x.key ≤ y.key) = true := decide_eq_true (by omega)
          have hc2 : (x.key == y.key) = false := beq_eq_false_iff_ne.2 (by omega)
          have heq : Hid ((o ++ [x]) ++ bothE (a.drop (i + 1)) (b.drop k) = bothE a b) := by
            show _ = _
            rw [bothE_lt hlt] at hr
            rw [hdb, ← hr]; simp
          clear hr hda hdb hx hy hA hB hka hlt
          go_wp2_with fail
          go_quiet (fail)
          go_wp2_with fail
          go_quiet (fail)
          go_wp2_with (at_builtin; refine wpList_append_sl _ rfl (.tmp 60) (.tmp 65) _ rfl w.heap.size 27 te0 _ 3 24 Tryd.underlying59 HI.out.1 HI.out.2.1 HI.out.2.2.1 HI.out.2.2.2 rfl (by omega) (.slice Ao o.length co) o.length _ rfl (HOW.out.alloc _) _ 1 _ [.int .i64 x.key, .int .i64 x.val, .bool x.dead] rfl (by exact sl_new1 _ _ _) rfl (by simp [Value.oneCell']) (by unfold maxLen; omega) (by omega) (by simp; omega) ?_; intro v2 w2 hown2 hg2; obtain ⟨A2, q2, rfl, hle2, hmx2⟩ := own_form hown2; have HO2 := Lib.hid hown2; clear hown2)
          go_roundw
          case rel =>
            refine ⟨o ++ [x], i + 1, k, A2, q2, by simp, by go_num, by go_num, by omega, by omega, ?_, ?_, heq⟩
            · simpa [Ent.cells] using HO2.out
            · exact ((by first | exact HB.out | exact bdrew HB.out _ | exact bdrew (bdrew HB.out _) _ : Below w.heap.size w _).alloc (by simp; omega) _).grown hg2 (by simp; omega) (fun q hq => (HOW.out.lt q hq).1)
          case measure => simp [intOf]; omega
        · have hc1 : decide (x.key ≤ y.key) = true := decide_eq_true (by omega)
          have hc2 : (x.key == y.key) = true := beq_iff_eq.2 hkeq
          have heq : Hid ((o ++ [x]) ++ bothE (a.drop (i + 1)) (b.drop (k + 1)) = bothE a b) := by
            show _ = _
            rw [bothE_eq hkeq] at hr
            rw [← hr]; simp
          clear hr hda hdb hx hy hA hB hka hkeq
          go_wp2_with fail
          go_quiet (fail)
          go_wp2_with fail
          go_quiet (fail)
          go_wp2_with (at_builtin; refine wpList_append_sl _ rfl (.tmp 60) (.tmp 65) _ rfl w.heap.size 27 te0 _ 3 24 Tryd.underlying59 HI.out.1 HI.out.2.1 HI.out.2.2.1 HI.out.2.2.2 rfl (by omega) (.slice Ao o.length co) o.length _ rfl (HOW.out.alloc _) _ 1 _ [.int .i64 x.key, .int .i64 x.val, .bool x.dead] rfl (by exact sl_new1 _ _ _) rfl (by simp [Value.oneCell']) (by unfold maxLen; omega) (by omega) (by simp; omega) ?_; intro v2 w2 hown2 hg2; obtain ⟨A2, q2, rfl, hle2, hmx2⟩ := own_form hown2; have HO2 := Lib.hid hown2; clear hown2)
          go_roundw
          case rel =>
            refine ⟨o ++ [x], i + 1, k + 1, A2, q2, by simp, by go_num, by go_num, by omega, by omega, ?_, ?_, heq⟩
            · simpa [Ent.cells] using HO2.out
            · exact ((by first | exact HB.out | exact bdrew HB.out _ | exact bdrew (bdrew HB.out _) _ : Below w.heap.size w _).alloc (by simp; omega) _).grown hg2 (by simp; omega) (fun q hq => (HOW.out.lt q hq).1)
          case measure => simp [intOf]; omega
        · have hc1 : decide (x.key ≤ y.key) = false := decide_eq_false (by omega)
          have heq : Hid ((o ++ [y]) ++ bothE (a.drop i) (b.drop (k + 1)) = bothE a b) := by
            show _ = _
            rw [bothE_gt2 hgt] at hr
            rw [hda, ← hr]; simp
          clear hr hda hdb hx hy hA hB hka hgt
          go_wp2_with fail
          go_quiet (fail)
          go_wp2_with (at_builtin; refine wpList_append_sl _ rfl (.tmp 69) (.tmp 74) _ rfl w.heap.size 27 te0 _ 3 24 Tryd.underlying59 HI.out.1 HI.out.2.1 HI.out.2.2.1 HI.out.2.2.2 rfl (by omega) (.slice Ao o.length co) o.length _ rfl (HOW.out.alloc _) _ 1 _ [.int .i64 y.key, .int .i64 y.val, .bool y.dead] rfl (by exact sl_new1 _ _ _) rfl (by simp [Value.oneCell']) (by unfold maxLen; omega) (by omega) (by simp; omega) ?_; intro v2 w2 hown2 hg2; obtain ⟨A2, q2, rfl, hle2, hmx2⟩ := own_form hown2; have HO2 := Lib.hid hown2; clear hown2)
          go_roundw
          case rel =>
            refine ⟨o ++ [y], i, k + 1, A2, q2, by simp, by go_num, by go_num, by omega, by omega, ?_, ?_, heq⟩
            · simpa [Ent.cells] using HO2.out
            · exact ((by first | exact HB.out | exact bdrew HB.out _ | exact bdrew (bdrew HB.out _) _ : Below w.heap.size w _).alloc (by simp; omega) _).grown hg2 (by simp; omega) (fun q hq => (HOW.out.lt q hq).1)
          case measure => simp [intOf]; omega
      · have hid : decide ((i : Int) < (a.length : Int)) = false := decide_eq_false (by omega)
        have hid2 : decide (i < a.length) = false := decide_eq_false hia
        have heq : Hid ((o ++ [y]) ++ bothE (a.drop i) (b.drop (k + 1)) = bothE a b) := by
          show _ = _
          have hr := hrest.out
          rw [List.drop_eq_nil_of_le (by omega : a.length ≤ i), drop_at hkb, hy, bothE] at hr
          rw [List.drop_eq_nil_of_le (by omega : a.length ≤ i), bothE, ← hr]; simp
        clear hy hA hB hka
        go_wp2_with fail
        go_quiet (fail)
        go_wp2_with (at_builtin; refine wpList_append_sl _ rfl (.tmp 69) (.tmp 74) _ rfl w.heap.size 27 te0 _ 3 24 Tryd.underlying59 HI.out.1 HI.out.2.1 HI.out.2.2.1 HI.out.2.2.2 rfl (by omega) (.slice Ao o.length co) o.length _ rfl (HOW.out.alloc _) _ 1 _ [.int .i64 y.key, .int .i64 y.val, .bool y.dead] rfl (by exact sl_new1 _ _ _) rfl (by simp [Value.oneCell']) (by unfold maxLen; omega) (by omega) (by simp; omega) ?_; intro v2 w2 hown2 hg2; obtain ⟨A2, q2, rfl, hle2, hmx2⟩ := own_form hown2; have HO2 := Lib.hid hown2; clear hown2)
        go_roundw
        case rel =>
          refine ⟨o ++ [y], i, k + 1, A2, q2, by simp, by go_num, by go_num, by omega, by omega, ?_, ?_, heq⟩
          · simpa [Ent.cells] using HO2.out
          · exact ((by first | exact HB.out | exact bdrew HB.out _ | exact bdrew (bdrew HB.out _) _ : Below w.heap.size w _).alloc (by simp; omega) _).grown hg2 (by simp; omega) (fun q hq => (HOW.out.lt q hq).1)
        case measure => simp [intOf]; omega

/-! ### the live ones -/
def liveE (l : List Ent) : List Ent := l.filter (fun e => !e.dead)
def plainE (l : List Ent) : List Pr := (liveE l).map (fun e => ⟨e.key, e.val⟩)
theorem plain_alive (l : List Ent) : (plainE l).map aliveE = liveE l := by
  unfold plainE
  rw [List.map_map]
  have : ∀ e ∈ liveE l, (aliveE ∘ fun e : Ent => (⟨e.key, e.val⟩ : Pr)) e = e := by
    intro e he
    have hd : e.dead = false := by simpa using (List.mem_filter.1 he).2
    obtain ⟨k, v, d⟩ := e
    dsimp at hd
    subst hd
    rfl
  rw [List.map_congr_left this, List.map_id']
theorem live_succ {l : List Ent} {k : Nat} (h : k < l.length) : liveE (l.take (k + 1)) = liveE (l.take k) ++ (if (l[k]'h).dead = true then [] else [l[k]'h]) := by
  unfold liveE
  rw [List.take_succ_eq_append_getElem h, List.filter_append]
  cases hd : (l[k]'h).dead <;> simp [List.filter, hd]
theorem live_le (l : List Ent) : (liveE l).length ≤ l.length := List.length_filter_le _ _
theorem live_ris {l : List Ent} (h : RisE l) : RisE (liveE l) := List.Pairwise.filter _ h
theorem pair_info2 : (Tryd.prog.info? 56).map (fun i => (i.zero, i.size, i.bytes)) = some (some (.agg #[.int .i64 0, .int .i64 0]), 2, 16) := by kernel_rfl

set_option maxHeartbeats 2000000 in
theorem refPlain_any (A : Option Addr) (l : List Ent) (c : Nat) (w : World) (hA : Sl w A (l.flatMap Ent.cells)) (hn : l.length ≤ 1099511627776) :
    Calls Tryd.prog 95 #[.slice A l.length c] w (GivesOwn 56 2 (plainE l).length ((plainE l).flatMap Pr.cells) w) := by
  obtain ⟨i0, hi, hz0, hz1, hz2⟩ := info_parts pair_info2
  go_enter Tryd.func95, Tryd.ntmps95
  go_wp2
  go_loopw [3, 4] (fun v i wr => ∃ (k : Nat) (o : List Pr) (A' : Option Addr) (c' : Nat), k ≤ l.length ∧ i = .int .i64 k ∧ Below w.heap.size w wr ∧ v = .slice A' o.length c' ∧
      wr.ownsRow w.heap.size 56 2 (.slice A' o.length c') o.length (o.flatMap Pr.cells) ∧ Hid (o = plainE (l.take k))) (fun _ i _ => l.length - (intOf i).toNat)
  case atStart => exact ⟨0, [], none, 0, Nat.zero_le _, rfl, Below.refl _ _, rfl, World.ownsRow_nil _ _ _ _, rfl⟩
  case round =>
    obtain ⟨k, o, A', c', hk, rfl, hb, rfl, hown, ho⟩ := hrel
    have hbs := hb.size
    by_cases hlt : k < l.length
    · obtain ⟨b, off, rfl, hbl, c1, c2, c3⟩ := hA.entB hb k hlt
      have hol : o.length ≤ k := by rw [ho.out]; unfold plainE; rw [List.length_map]; have := live_le (l.take k); simp at this; omega
      have hki : (0 : Int) ≤ (k : Int) := by omega
      have hki2 : (k : Int) < (l.length : Int) := by omega
      have hs := live_succ hlt
      obtain ⟨x, hx⟩ : ∃ x, l[k]'hlt = x := ⟨_, rfl⟩
      rw [hx] at c1 c2 c3 hs
      cases hd : x.dead
      · rw [hd] at c3 hs
        have hnew : Hid (o ++ [⟨x.key, x.val⟩] = plainE (l.take (k + 1))) := by
          show _ = _
          rw [ho.out]; unfold plainE; rw [hs]; simp
        have HOW := Lib.hid hown
        clear hd hs hx
        go_wp2_with fail
        go_region_law (
          (refine step_append_sl _ (by rfl) _ _ _ (by rfl) w.heap.size 56 i0 _ 2 16 Tryd.underlying38 hi hz0 hz1 hz2 rfl (by omega) (.slice A' o.length c') o.length _ (by rfl) ((HOW.out.alloc _).drew) _ 1 _ [.int .i64 x.key, .int .i64 x.val] (by rfl) ((Blk.new wr _ _).sl 0 _ (by intro j u hu; simpa using hu)) (by rfl) (by simp [Value.oneCell']) (by unfold maxLen; omega) (by omega) (by simp; omega) ?_; intro v2 w2 hown2 hg2; obtain ⟨A2, z2, rfl, hle2, hmx2⟩ := own_form hown2; have HO2 := Lib.hid hown2; clear hown2))
        all_goals
          go_wp2
          go_roundw
          case rel =>
            exact ⟨k + 1, o ++ [⟨x.key, x.val⟩], A2, z2, by omega, by go_num, ((hb.alloc hbs _).drew).grown hg2 (by simp; omega) (fun k hk => (HOW.out.lt k hk).1), by simp, by simpa [Pr.cells] using HO2.out, hnew⟩
          case measure => simp [intOf]; omega
      · rw [hd] at c3 hs
        have hnew : Hid (o = plainE (l.take (k + 1))) := by
          show _ = _
          rw [ho.out]; unfold plainE; rw [hs]; simp
        clear hd hs hx
        go_wp2_with fail
        go_roundw
        case rel => exact ⟨k + 1, o, A', c', by omega, by go_num, hb, rfl, hown, hnew⟩
        case measure => simp [intOf]; omega
    · have hkn := Lib.hid (show k = l.length by omega)
      go_wp2
      go_ret
      have h := hown
      have ho2 := ho.out
      rw [hkn.out, List.take_of_length_le (Nat.le_refl _)] at ho2
      rw [ho2] at h ⊢
      exact ⟨A', c', rfl, h, hb⟩


/-! ### runs -/
def chkAllE : List (List Ent) → Int
  | [] => 0
  | r :: rs => if chkE r = 0 then chkAllE rs else chkE r
theorem chkAll_ok : ∀ {rs : List (List Ent)}, chkAllE rs = 0 → ∀ r ∈ rs, chkE r = 0
  | [], _, _, h => by simp at h
  | r0 :: rs, h, r, hr => by
    rw [chkAllE] at h
    by_cases h0 : chkE r0 = 0
    · rw [if_pos h0] at h
      rcases List.mem_cons.1 hr with rfl | hr
      · exact h0
      · exact chkAll_ok h r hr
    · rw [if_neg h0] at h; exact absurd h h0
theorem chkAll_drop {rs : List (List Ent)} {k : Nat} (h : k < rs.length) : chkAllE (rs.drop k) = if chkE (rs[k]'h) = 0 then chkAllE (rs.drop (k + 1)) else chkE (rs[k]'h) := by
  rw [← List.getElem_cons_drop h, chkAllE]
/-- runs in memory -/
structure RunsAt (w : World) (B : Option Addr) (Rs : List Rm) : Prop where
  sl : Sl w B (Rs.map Rm.v)
  ok : ∀ r ∈ Rs, r.Ok w
theorem Rm.Ok.below {w w' : World} {r : Rm} (h : r.Ok w) (hb : Below w.heap.size w w') : r.Ok w' := ⟨h.sl.below hb, h.lc, h.c⟩
theorem RunsAt.below {w w' : World} {B : Option Addr} {Rs : List Rm} (h : RunsAt w B Rs) (hb : Below w.heap.size w w') : RunsAt w' B Rs := ⟨h.sl.below hb, fun r hr => (h.ok r hr).below hb⟩


theorem all_take_len : ∀ (rs : List (List Ent)) (k T : Nat), (rs.map List.length).sum ≤ T → (allE (rs.take k)).length + ((rs.drop k).map List.length).sum ≤ T := by
  intro rs k T h
  have h1 := fold_len (rs.take k) []
  have h2 : ((rs.take k).map List.length).sum + ((rs.drop k).map List.length).sum = (rs.map List.length).sum := by
    rw [← List.sum_append, ← List.map_append, List.take_append_drop]
  unfold allE
  rw [List.length_nil, Nat.zero_add] at h1
  omega
theorem all_succ {rs : List (List Ent)} {k : Nat} (h : k < rs.length) : allE (rs.take (k + 1)) = bothE (allE (rs.take k)) (rs[k]'h) := by
  unfold allE
  rw [List.take_succ_eq_append_getElem h, List.foldl_append]; rfl
/-- what the runs are, in order -/
def inS (Rs : List Rm) : List (List Ent) := Rs.map (fun r => inL r.l)
theorem inS_sum (Rs : List Rm) : ((inS Rs).map List.length).sum = (Rs.map (fun r => r.l.length)).sum := by
  unfold inS
  rw [List.map_map]
  congr 1
  exact List.map_congr_left (fun r _ => inL_length r.l)

set_option maxHeartbeats 1000000 in
theorem refAll_any (B : Option Addr) (Rs : List Rm) (c T : Nat) (w : World) (hB : RunsAt w B Rs) (hl : Rs.length ≤ 4611686018427387903) (hsm : ∀ r ∈ Rs, r.l.length ≤ 65536) (hT : (Rs.map (fun r => r.l.length)).sum ≤ T) (hT2 : T ≤ 1099511627776) :
    Calls Tryd.prog 96 #[.slice B Rs.length c] w (GivesOwn 27 3 (allE (inS Rs)).length ((allE (inS Rs)).flatMap Ent.cells) w) := by
  rw [← inS_sum] at hT
  have HT := Lib.hid hT
  clear hT
  go_enter Tryd.func96, Tryd.ntmps96
  go_wp2
  go_loopw [3, 4] (fun v i wr => ∃ (k : Nat) (o : List Ent) (A' : Option Addr) (c' : Nat), k ≤ Rs.length ∧ i = .int .i64 k ∧ Below w.heap.size w wr ∧ v = .slice A' o.length c' ∧
      wr.ownsRow w.heap.size 27 3 (.slice A' o.length c') o.length (o.flatMap Ent.cells) ∧ Hid (o = allE ((inS Rs).take k))) (fun _ i _ => Rs.length - (intOf i).toNat)
  case atStart => exact ⟨0, [], none, 0, Nat.zero_le _, rfl, Below.refl _ _, rfl, World.ownsRow_nil _ _ _ _, rfl⟩
  case round =>
    obtain ⟨k, o, A', c', hk, rfl, hb, rfl, hown, ho⟩ := hrel
    by_cases hlt : k < Rs.length
    · have hlt2 : k < (inS Rs).length := by unfold inS; simpa using hlt
      obtain ⟨b, off, rfl, hbl, cp⟩ := hB.sl.oneB hb k hlt
      have hok := (hB.ok _ (List.getElem_mem hlt)).below hb
      have hs := all_succ hlt2
      have hlen := all_take_len (inS Rs) k T HT.out
      rw [List.drop_eq_getElem_cons hlt2, List.map_cons, List.sum_cons] at hlen
      have hgi : (inS Rs)[k]'hlt2 = inL (Rs[k]'hlt).l := by simp [inS]
      have hsmr := hsm _ (List.getElem_mem hlt)
      rw [hgi] at hs hlen
      rw [← ho.out] at hlen hs
      obtain ⟨r, hr⟩ : ∃ r, Rs[k]'hlt = r := ⟨_, rfl⟩
      rw [hr] at cp hok hs hlen hsmr
      obtain ⟨l, A, cl⟩ := r
      have cp1 : wr.cell? ⟨b, off + k, none⟩ = some (.slice A l.length cl) := cp
      dsimp only at hs hlen hsmr
      rw [inL_length] at hlen
      have hki : (0 : Int) ≤ (k : Int) := by omega
      have hki2 : (k : Int) < (Rs.length : Int) := by omega
      have HS := Lib.hid hs
      have HOK := Lib.hid hok.sl
      have HL := Lib.hid (inL_length l)
      have HOW := Lib.hid hown
      have hol : o.length + l.length ≤ 1099511627776 := by omega
      clear cp hr hs hok hgi hlen hown
      go_wp2_with fail
      refine (refIn_any A l cl _ HOK.out hsmr).mono ?_
      rintro e w1 ⟨A1, c1, rfl, ho1, hb1⟩
      have hs1 := own_sl ho1
      have HSO := Lib.hid ((own_sl HOW.out).below hb1)
      clear ho1
      go_wp2_with fail
      rw [← HL.out]
      refine (both_any A' A1 o (inL l) c' c1 _ HSO.out hs1 (by rw [HL.out]; omega)).mono ?_
      rw [← HS.out]
      rintro e w2 ⟨A2, c2, rfl, ho2, hb2⟩
      have HO2 := Lib.hid (own_mono (B' := w.heap.size) ho2 (Nat.le_trans hb.size hb1.size))
      clear ho2
      go_wp2
      go_roundw
      case rel => exact ⟨k + 1, _, A2, c2, by omega, by go_num, bext hb (bext hb1 hb2), rfl, HO2.out, rfl⟩
      case measure => simp [intOf]; omega
    · have hkn : k = Rs.length := by omega
      have h : o = allE (inS Rs) := by rw [ho.out, List.take_of_length_le (by unfold inS; simp; omega)]
      have H := Lib.hid h
      clear h hkn
      go_wp2
      go_ret
      exact ⟨A', c', by rw [H.out]; rfl, by rw [← H.out]; exact hown, hb⟩

def mrgE (Rs : List Rm) : Int := if chkAllE (Rs.map Rm.l) = 0 then (if (allE (inS Rs)).length > 65536 then 4 else 0) else chkAllE (Rs.map Rm.l)
def bareE (bare : Bool) (l : List Ent) : List Ent := if bare = true then liveE l else l
def mrgL (Rs : List Rm) (bare : Bool) : List Ent := if mrgE Rs = 0 then laid (bareE bare (allE (inS Rs))) else []
theorem chk_len {l : List Ent} (h : chkE l = 0) : l.length ≤ 65536 := (chk_ok h).2.2
end Go.Proofs.YthbppblmecdekaaDoor
