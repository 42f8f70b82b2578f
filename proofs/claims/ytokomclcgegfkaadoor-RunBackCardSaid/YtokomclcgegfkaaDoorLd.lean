/- Contracts: the place of Lower, Find, Rank. -/
import Derived.Test.YtokomclcgegfkaaDoorLb
import Derived.Laws.Bits64
namespace Go.Proofs.YtokomclcgegfkaaDoor
open Go Go.RowKit
set_option maxRecDepth 100000

/-- hands back two numbers -/
def GivesII (a e : Int) (w : World) (r : Ending) (w' : World) : Prop := r = .returned (.tuple #[.int .i64 a, .int .i64 e]) ∧ Below w.heap.size w w'
def belowT (l : List Ent) (key : Int) (x : Nat) : Bool := decide ((entAt l x).key < key)
/-- how many keys are below one -/
def lowK (l : List Ent) (key : Int) : Nat := (inord l.length 0).countP (belowT l key)
def lowE (l : List Ent) (key : Int) : Int := if chkE l ≠ 0 then chkE l else if lowK l key = l.length then 6 else 0
def lowAt (l : List Ent) (key : Int) : Nat := if lowE l key = 0 then (inord l.length 0).getD (lowK l key) 0 else 0
theorem inL_pairs {l : List Ent} (h : rises ((inL l).map Ent.key) = true) (key : Int) : (inord l.length 0).Pairwise (fun a b => belowT l key b = true → belowT l key a = true) := by
  unfold rises at h
  have h := of_decide_eq_true h
  unfold inL at h
  rw [List.map_map] at h
  have h2 := List.pairwise_map.1 h
  refine h2.imp fun {a b} hab => ?_
  intro hb
  unfold belowT at hb ⊢
  have hb := of_decide_eq_true hb
  exact decide_eq_true (Int.lt_trans hab hb)
theorem lowK_le (l : List Ent) (key : Int) : lowK l key ≤ l.length := by
  have : (inord l.length 0).countP (belowT l key) ≤ (inord l.length 0).length := List.countP_le_length
  rw [inord_length] at this
  exact this

theorem not_u64 (m : Nat) (hm : m < 18446744073709551616) : bits BinOp.xor IntKind.u64 IntKind.u64.max (m : Int) = ((18446744073709551615 - m : Nat) : Int) := by
  have h1 : IntKind.u64.max = ((18446744073709551615 : Nat) : Int) := rfl
  rw [h1, bits_xor_u64_nat _ _ (by omega) hm]
  congr 1
  refine Nat.eq_of_testBit_eq fun i => ?_
  have h2 := Nat.testBit_two_pow_sub_succ (n := 64) (x := m) (by simpa using hm) i
  have h3 := Nat.testBit_two_pow_sub_one 64 i
  rw [Nat.testBit_xor]
  rw [show (2 : Nat) ^ 64 - 1 = 18446744073709551615 by rfl] at h3
  rw [show (2 : Nat) ^ 64 - (m + 1) = 18446744073709551615 - m by omega] at h2
  rw [h3, h2]
  by_cases hi : i < 64
  · simp [hi]
  · have : m.testBit i = false := Nat.testBit_lt_two_pow (Nat.lt_of_lt_of_le hm (by rw [show (18446744073709551616 : Nat) = 2 ^ 64 by rfl]; exact Nat.pow_le_pow_right (by omega) (by omega)))
    simp [hi, this]

set_option maxHeartbeats 1000000 in
theorem turn_any (k key : Int) (b : Nat) (w : World) (hc : w.cell? ⟨b, 0, none⟩ = some (.int .i64 key)) :
    Calls Tryd.prog 62 #[.int .i64 k, .pointer (some ⟨b, 0, none⟩)] w fun r w' => r = .returned (.int .i64 (if decide (k < key) = true then 1 else 0)) ∧ Below w.heap.size w w' := by
  by_cases h : k < key
  · rw [decide_eq_true h, if_pos rfl]
    go_enter Tryd.func62, Tryd.ntmps62
    go_wp2
    go_ret
    exact ⟨rfl, Below.refl _ _⟩
  · rw [decide_eq_false h, if_neg (by simp)]
    go_enter Tryd.func62, Tryd.ntmps62
    go_wp2
    go_ret
    exact ⟨rfl, Below.refl _ _⟩

set_option maxHeartbeats 2000000 in
theorem lower_ok (A : Option Addr) (l : List Ent) (c : Nat) (key : Int) (w : World) (hA : Sl w A (l.flatMap Ent.cells)) (hT : TabAt 1 Lib.deBruijn64tab w) (hC : chkE l = 0) :
    Calls Tryd.prog 17 #[.agg #[.slice A l.length c], .int .i64 key] w (GivesII (lowAt l key) (lowE l key) w) := by
  have hsg : IntKind.u64.signed = false := rfl
  have hmf : ∀ (fn : Fn) (first cap : Array Value) (w : World), (Instr.makeFunc fn first cap).run Tryd.prog w = .ok (.func fn first cap) w := fun _ _ _ _ => rfl
  obtain ⟨_, hris, hlen⟩ := chk_ok hC
  have HP := Lib.hid (inL_pairs hris key)
  have hLE : lowE l key = if lowK l key = l.length then 6 else 0 := by unfold lowE; rw [if_neg (by omega)]
  have hKl := lowK_le l key
  have hb0 : Below w.heap.size w ((w.alloc (.cells #[.slice A l.length c] 24)).alloc (.cells #[.int .i64 key] 2)) := ((Below.refl _ _).alloc (Nat.le_refl _) _).alloc (by simp) _
  have bX : Blk ((w.alloc (.cells #[.slice A l.length c] 24)).alloc (.cells #[.int .i64 key] 2)) w.heap.size 24 #[.slice A l.length c] := (Blk.new w _ _).alloc _
  have bK : Blk ((w.alloc (.cells #[.slice A l.length c] 24)).alloc (.cells #[.int .i64 key] 2)) (w.heap.size + 1) 2 #[.int .i64 key] := by
    have := Blk.new (w.alloc (.cells #[.slice A l.length c] 24)) 2 #[.int .i64 key]
    rwa [World.size_alloc] at this
  have HC := Lib.hid hC
  have HLE := Lib.hid hLE
  have HT := Lib.hid hT
  have hTl := tab_lt hT
  clear hC hLE hris hT
  go_enter Tryd.func17, Tryd.ntmps17
  go_wp2_with fail
  refine (check_any A l c _ (hA.below hb0) (by omega)).mono ?_
  rw [HC.out]
  rintro e w1 ⟨rfl, hb1⟩
  have hb01 := bext hb0 hb1
  have bX1 := bX.below hb1 bX.lt
  have bK1 := bK.below hb1 bK.lt
  clear bX bK hb0 hb1
  go_wp2_with fail
  go_loopw [8] (fun n wr => ∃ m : Nat, n = .int .i64 (m : Nat) ∧ WayAt l.length (belowT l key) m ∧ m ≤ 2 * l.length + 1 ∧ Below w1.heap.size w1 wr) (fun n _ => l.length + 1 - (intOf n).toNat)
  case atStart => exact ⟨1, rfl, WayAt.start _ _, by omega, Below.refl _ _⟩
  case round =>
    obtain ⟨m, rfl, hw, hm, hb⟩ := hrel
    have bXr := bX1.below hb bX1.lt
    have bKr := bK1.below hb bK1.lt
    have c0 : wr.cell? ⟨w.heap.size, 0, none⟩ = some (.slice A l.length c) := bXr.cell 0
    have ck : wr.cell? ⟨w.heap.size + 1, 0, none⟩ = some (.int .i64 key) := bKr.cell 0
    by_cases hlt : m ≤ l.length
    · obtain ⟨j, rfl⟩ : ∃ j, m = j + 1 := ⟨m - 1, by have := hw.1; omega⟩
      have hjl : j < l.length := by omega
      obtain ⟨b, off, rfl, hbl, c1, c2, c3⟩ := hA.entB (bext hb01 hb) j hjl
      have hst := Lib.hid (hw.step HP.out hlt)
      have hbt : Hid (belowT l key (j + 1 - 1) = decide ((l[j]'hjl).key < key)) := Lib.hid (by rw [Nat.add_sub_cancel]; unfold belowT; rw [entAt_get hjl])
      generalize (l[j]'hjl) = p at *
      have i0 : (0 : Int) ≤ (j : Int) := by omega
      have i1 : (j : Int) < (l.length : Int) := by omega
      have w1' : IntKind.i64.wrap ((j : Int) + 1 - 1) = (j : Int) := by rw [show (j : Int) + 1 - 1 = (j : Int) by omega]; exact IntWalk.i64_in _ (by omega)
      have w2' : IntKind.i64.wrap (2 * ((j : Int) + 1)) = 2 * ((j : Int) + 1) := IntWalk.i64_in _ (by omega)
      clear hw HP bXr bKr
      go_wp2_with fail
      refine (turn_any p.key key _ _ ck).mono ?_
      rw [← hbt.out]
      rintro e w2 ⟨rfl, hb2⟩
      obtain ⟨B, hB⟩ : ∃ B : Nat, (if belowT l key (j + 1 - 1) = true then 1 else 0 : Nat) = B := ⟨_, rfl⟩
      have hBI : (if belowT l key (j + 1 - 1) = true then (1 : Int) else 0) = (B : Int) := by rw [← hB]; split <;> rfl
      have hB1 : B ≤ 1 := by rw [← hB]; split <;> omega
      have hst2 := hst.out
      rw [hB] at hst2
      have hst3 := Lib.hid hst2
      rw [hBI]
      have w3' : IntKind.i64.wrap (2 * ((j : Int) + 1) + (B : Int)) = 2 * ((j : Int) + 1) + (B : Int) := IntWalk.i64_in _ (by omega)
      clear hst hst2 hbt hB hBI
      go_wp2
      go_roundw
      case rel => exact ⟨2 * (j + 1) + B, by go_num, hst3.out, by omega, bext hb hb2⟩
      case measure => simp [intOf]; omega
    · have hx := Lib.hid (not_u64 m (by omega))
      have hdone := Lib.hid (hw.done hlt)
      have hanc := Lib.hid (anc_ctz (m := m) (by omega))
      have hancl := anc_le m
      obtain ⟨a, ha⟩ : ∃ a, anc m = a := ⟨_, rfl⟩
      obtain ⟨cz, hcz⟩ : ∃ cz, Lib.ctz 64 (18446744073709551615 - m) = cz := ⟨_, rfl⟩
      have hcl : cz < 64 := by
        rw [← hcz]; unfold Lib.ctz; rw [if_neg (by omega)]
        obtain ⟨_, _, h⟩ := Lib.ctzFrom_spec 64 (18446744073709551615 - m) (by omega) (by omega)
        exact h
      rw [ha] at hancl
      have hanc2 := Lib.hid (show a = m / 2 ^ (cz + 1) by rw [← ha, ← hcz]; exact hanc.out)
      have hdone2 := Lib.hid (show (inord l.length 0)[lowK l key]? = (if a = 0 then none else some (a - 1)) by rw [← ha]; exact hdone.out)
      have hwz : IntKind.i64.wrap ((cz : Int) + 1) = (cz : Int) + 1 := IntWalk.i64_in _ (by omega)
      have HCZ := Lib.hid hcz
      clear hdone hanc ha hcz hw
      go_wp2_with fail
      rw [hx.out]
      refine (tz_any (18446744073709551615 - m) _ (by omega) (by omega) (tab_below hTl HT.out (bext hb01 hb))).mono ?_
      rw [HCZ.out]
      rintro e w2 ⟨rfl, rfl⟩
      have hd : (m : Int) / 2 ^ (cz + 1) = (a : Int) := by rw [hanc2.out]; simp
      by_cases h0 : a = 0
      · subst h0
        have hd2 := hdone2.out
        rw [if_pos rfl] at hd2
        have hK : lowK l key = l.length := by have := List.getElem?_eq_none_iff.1 hd2; rw [inord_length] at this; omega
        have hE : lowE l key = 6 := by rw [HLE.out, if_pos hK]
        have hAt : lowAt l key = 0 := by unfold lowAt; rw [if_neg (by omega)]
        have HEE := Lib.hid hE
        have HAt := Lib.hid hAt
        have hd3 : (m : Int) / 2 ^ (cz + 1) = 0 := by simpa using hd
        clear hd hd2 hK hE hAt hdone2 hanc2 hancl
        go_wp2
        refine bodyPost_ret (v := .tuple #[.int .i64 0, .int .i64 6]) (by simp [results, Tryd.results17, go_sem]) rfl ?_
        exact ⟨by rw [HEE.out, HAt.out]; rfl, bext hb01 hb⟩
      · obtain ⟨j, rfl⟩ : ∃ j, a = j + 1 := ⟨a - 1, by omega⟩
        have hd2 := hdone2.out
        rw [if_neg (by omega), Nat.add_sub_cancel] at hd2
        have hK : lowK l key < l.length := by have := (List.getElem?_eq_some_iff.1 hd2).1; rw [inord_length] at this; exact this
        have hE : lowE l key = 0 := by rw [HLE.out, if_neg (by omega)]
        have hAt : lowAt l key = j := by unfold lowAt; rw [if_pos hE, List.getD_eq_getElem?_getD, hd2]; rfl
        have HEE := Lib.hid hE
        have HAt := Lib.hid hAt
        have hd3 : (m : Int) / 2 ^ (cz + 1) = (j : Int) + 1 := by rw [hd]; omega
        have hnz : ((j : Int) + 1 == 0) = false := by rw [beq_eq_false_iff_ne]; omega
        have hw5 : wrap64 (j : Int) = (j : Int) := IntWalk.wrap64_in (j : Int) (by omega)
        have hw4 : wrap64 ((j : Int) + 1 - 1) = (j : Int) := by rw [show (j : Int) + 1 - 1 = (j : Int) by omega]; exact hw5
        clear hd hd2 hK hE hAt hdone2 hanc2 hancl
        go_wp2
        refine bodyPost_ret (v := .tuple #[.int .i64 (j : Int), .int .i64 0]) (by simp [results, Tryd.results17, go_sem, hw5]) rfl ?_
        exact ⟨by rw [HEE.out, HAt.out], bext hb01 hb⟩
end Go.Proofs.YtokomclcgegfkaaDoor
