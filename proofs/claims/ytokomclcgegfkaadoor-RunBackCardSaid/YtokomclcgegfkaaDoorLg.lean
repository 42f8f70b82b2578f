/- Contracts: the references of bound; copies of runs. -/
import Derived.Test.YtokomclcgegfkaaDoorLe
import Derived.Test.YtokomclcgegfkaaDoorLf
import Derived.Lib.SliceRun
namespace Go.Proofs.YtokomclcgegfkaaDoor
open Go Go.RowKit
set_option maxRecDepth 100000

theorem inL_perm (l : List Ent) : (inL l).Perm l := by
  have h := (inord_perm l.length).map (entAt l)
  have e : (List.range l.length).map (entAt l) = l := by
    refine List.ext_getElem? fun i => ?_
    by_cases hi : i < l.length
    · simp [hi, entAt_get hi]
    · rw [List.getElem?_eq_none (by simp; omega), List.getElem?_eq_none (by omega)]
  rw [e] at h
  exact h
def belK (l : List Ent) (key : Int) : Nat := l.countP (fun e => decide (e.key < key))
theorem lowK_bel (l : List Ent) (key : Int) : lowK l key = belK l key := by
  have h := (inL_perm l).countP_eq (fun e => decide (e.key < key))
  unfold belK
  rw [← h]
  unfold lowK inL
  rw [List.countP_map]
  rfl
theorem belK_succ {l : List Ent} {k : Nat} (h : k < l.length) (key : Int) : belK (l.take (k + 1)) key = belK (l.take k) key + (if (l[k]'h).key < key then 1 else 0) := by
  unfold belK
  rw [List.take_succ_eq_append_getElem h, List.countP_append, List.countP_cons, List.countP_nil]
  simp
theorem belK_le (l : List Ent) (key : Int) : belK l key ≤ l.length := List.countP_le_length

set_option maxHeartbeats 1000000 in
theorem refCheck_any (A : Option Addr) (l : List Ent) (c : Nat) (w : World) (hA : Sl w A (l.flatMap Ent.cells)) (hl : l.length ≤ 4611686018427387903) :
    Calls Tryd.prog 30 #[.agg #[.slice A l.length c]] w fun r w' => r = .returned (.int .i64 (chkE l)) ∧ Below w.heap.size w w' := by
  have hb0 : Below w.heap.size w (w.alloc (.cells #[.slice A l.length c] 24)) := (Below.refl _ _).alloc (Nat.le_refl _) _
  have bX := Blk.new w 24 #[.slice A l.length c]
  have hA' := Lib.hid hA
  clear hA
  by_cases h1 : l.length > 65536
  · have hE : chkE l = 4 := by unfold chkE fairE; rw [if_pos h1]; rfl
    rw [hE]
    have h1' : (65536 : Int) < (l.length : Int) := by omega
    go_enter Tryd.func30, Tryd.ntmps30
    go_wp2
    go_ret
    exact ⟨rfl, hb0⟩
  · have h1' : ¬ (65536 : Int) < (l.length : Int) := by omega
    cases h2 : l.any badEnt
    · have hE : chkE l = riseE (inL l) := by unfold chkE fairE; rw [if_neg h1, h2]; rfl
      rw [hE]
      have H2 := Lib.hid h2
      have HL := Lib.hid (inL_length l)
      obtain ⟨b, hb⟩ : ∃ b, rises ((inL l).map Ent.key) = b := ⟨_, rfl⟩
      have HB := Lib.hid hb
      have hR : riseE (inL l) = if b = true then 0 else 130 := by unfold riseE; rw [hb]
      rw [hR]
      clear h2 hE hb hR
      go_enter Tryd.func30, Tryd.ntmps30
      go_wp2_with fail
      refine (refFair_any A l c _ (hA'.out.below hb0) hl).mono ?_
      rw [H2.out]
      rintro e w1 ⟨rfl, rfl⟩
      have c0 := bX.cell 0
      go_wp2_with fail
      refine (refIn_any A l c _ (hA'.out.below hb0) (by omega)).mono ?_
      rintro e w2 ⟨A2, c2, rfl, ho2, hb2⟩
      have hb02 := bext hb0 hb2
      have hs2 := Lib.hid (own_sl ho2)
      clear ho2 c0
      go_wp2_with fail
      rw [← HL.out]
      refine (refRising_any A2 (inL l) c2 _ hs2.out (by rw [HL.out]; omega)).mono ?_
      rw [HB.out]
      rintro e w3 ⟨rfl, hb3⟩
      cases b
      · go_wp2
        go_ret
        exact ⟨rfl, bext hb02 hb3⟩
      · go_wp2
        go_ret
        exact ⟨rfl, bext hb02 hb3⟩
    · have hE : chkE l = 8 := by unfold chkE fairE; rw [if_neg h1, h2]; rfl
      rw [hE]
      have H2 := Lib.hid h2
      clear h2 hE
      go_enter Tryd.func30, Tryd.ntmps30
      go_wp2_with fail
      refine (refFair_any A l c _ (hA'.out.below hb0) hl).mono ?_
      rw [H2.out]
      rintro e w1 ⟨rfl, rfl⟩
      go_wp2
      go_ret
      exact ⟨rfl, hb0⟩

set_option maxHeartbeats 1000000 in
theorem refSorted_any (A : Option Addr) (l : List Ent) (c : Nat) (w : World) (hA : Sl w A (l.flatMap Ent.cells)) (hl : l.length ≤ 4611686018427387903) :
    Calls Tryd.prog 26 #[.agg #[.slice A l.length c]] w (GivesEnts (sortL l) (chkE l) w) := by
  have hb0 : Below w.heap.size w (w.alloc (.cells #[.slice A l.length c] 24)) := (Below.refl _ _).alloc (Nat.le_refl _) _
  have bX := Blk.new w 24 #[.slice A l.length c]
  have hA' := Lib.hid hA
  clear hA
  obtain ⟨E, hE⟩ : ∃ E, chkE l = E := ⟨_, rfl⟩
  by_cases h0 : E = 0
  · subst h0
    have hl2 := (chk_ok hE).2.2
    have hS : sortL l = inL l := by unfold sortL; rw [if_pos hE]
    rw [hS, hE]
    have HE := Lib.hid hE
    have HL := Lib.hid (inL_length l)
    clear hE hS
    go_enter Tryd.func26, Tryd.ntmps26
    go_wp2_with fail
    refine (refCheck_any A l c _ (hA'.out.below hb0) hl).mono ?_
    rw [HE.out]
    rintro e w1 ⟨rfl, hb1⟩
    have hb01 := bext hb0 hb1
    have bX1 := bX.below hb1 bX.lt
    have c0 : w1.cell? ⟨w.heap.size, 0, none⟩ = some (.slice A l.length c) := bX1.cell 0
    clear bX hb1
    go_wp2_with fail
    refine (refIn_any A l c _ (hA'.out.below hb01) hl2).mono ?_
    rintro e w2 ⟨A2, c2, rfl, ho2, hb2⟩
    have ho2 := Lib.hid (own_mono ho2 hb01.size)
    go_wp2
    refine bodyPost_ret (v := .tuple #[.slice A2 l.length c2, .int .i64 0]) (by simp [results, Tryd.results26, go_sem]) rfl ?_
    exact ⟨A2, c2, by rw [HL.out], by rw [HL.out]; exact ho2.out, bext hb01 hb2⟩
  · have hS : sortL l = [] := by unfold sortL; rw [if_neg (by omega)]
    rw [hS, hE]
    have HE := Lib.hid hE
    clear hE hS
    go_enter Tryd.func26, Tryd.ntmps26
    go_wp2_with fail
    refine (refCheck_any A l c _ (hA'.out.below hb0) hl).mono ?_
    rw [HE.out]
    rintro e w1 ⟨rfl, hb1⟩
    have hb01 := bext hb0 hb1
    have bX1 := bX.below hb1 bX.lt
    have c0 : w1.cell? ⟨w.heap.size, 0, none⟩ = some (.slice A l.length c) := bX1.cell 0
    clear bX hb1
    go_wp2
    refine bodyPost_ret (v := .tuple #[.slice none 0 0, .int .i64 E]) (by simp [results, Tryd.results26, go_sem]) rfl ?_
    exact ⟨none, 0, rfl, World.ownsRow_nil _ _ _ _, hb01⟩
set_option maxHeartbeats 1000000 in
theorem refBelow_any (A : Option Addr) (l : List Ent) (c : Nat) (key : Int) (w : World) (hA : Sl w A (l.flatMap Ent.cells)) (hl : l.length ≤ 4611686018427387903) :
    Calls Tryd.prog 72 #[.slice A l.length c, .int .i64 key] w fun r w' => r = .returned (.int .i64 (belK l key)) ∧ Below w.heap.size w w' := by
  go_enter Tryd.func72, Tryd.ntmps72
  go_wp2
  go_loopw [5, 6] (fun n i wr => ∃ k : Nat, k ≤ l.length ∧ i = .int .i64 k ∧ n = .int .i64 (belK (l.take k) key) ∧ Below w.heap.size w wr) (fun _ i _ => l.length - (intOf i).toNat)
  case atStart => exact ⟨0, Nat.zero_le _, rfl, rfl, Below.refl _ _⟩
  case round =>
    obtain ⟨k, hk, rfl, rfl, hb⟩ := hrel
    have hle := belK_le (l.take k) key
    have hlt' : (l.take k).length ≤ k := List.length_take_le _ _
    by_cases hlt : k < l.length
    · obtain ⟨b, off, rfl, hbl, c1, c2, c3⟩ := hA.entB hb k hlt
      have i0 : (0 : Int) ≤ (k : Int) := by omega
      have i1 : (k : Int) < (l.length : Int) := by omega
      have hs := belK_succ hlt key
      generalize (l[k]'hlt) = p at *
      clear hA c2 c3
      by_cases hx : p.key < key
      · rw [if_pos hx] at hs
        have HS := Lib.hid hs
        clear hs
        go_wp2
        go_roundw
        case rel => exact ⟨k + 1, by omega, by go_num, by rw [HS.out]; go_num, hb⟩
        case measure => simp [intOf]; omega
      · rw [if_neg hx] at hs
        have HS := Lib.hid hs
        clear hs
        go_wp2
        go_roundw
        case rel => exact ⟨k + 1, by omega, by go_num, by rw [HS.out]; rfl, hb⟩
        case measure => simp [intOf]; omega
    · go_wp2
      go_ret
      exact ⟨ret_int (by rw [List.take_of_length_le (by omega)]), hb⟩
set_option maxHeartbeats 1000000 in
theorem refRank_any (A : Option Addr) (l : List Ent) (c : Nat) (key : Int) (w : World) (hA : Sl w A (l.flatMap Ent.cells)) (hl : l.length ≤ 4611686018427387903) :
    Calls Tryd.prog 29 #[.agg #[.slice A l.length c], .int .i64 key] w (GivesII (rkN l key) (chkE l) w) := by
  have hb0 : Below w.heap.size w (w.alloc (.cells #[.slice A l.length c] 24)) := (Below.refl _ _).alloc (Nat.le_refl _) _
  have bX := Blk.new w 24 #[.slice A l.length c]
  have hA' := Lib.hid hA
  clear hA
  obtain ⟨E, hE⟩ : ∃ E, chkE l = E := ⟨_, rfl⟩
  by_cases h0 : E = 0
  · subst h0
    have hS : rkN l key = belK l key := by unfold rkN; rw [if_pos hE, lowK_bel]
    rw [hS, hE]
    have HE := Lib.hid hE
    clear hE hS
    go_enter Tryd.func29, Tryd.ntmps29
    go_wp2_with fail
    refine (refCheck_any A l c _ (hA'.out.below hb0) hl).mono ?_
    rw [HE.out]
    rintro e w1 ⟨rfl, hb1⟩
    have hb01 := bext hb0 hb1
    have bX1 := bX.below hb1 bX.lt
    have c0 : w1.cell? ⟨w.heap.size, 0, none⟩ = some (.slice A l.length c) := bX1.cell 0
    clear bX hb1
    go_wp2_with fail
    refine (refBelow_any A l c key _ (hA'.out.below hb01) hl).mono ?_
    rintro e w2 ⟨rfl, hb2⟩
    go_wp2
    refine bodyPost_ret (v := .tuple #[.int .i64 (belK l key : Nat), .int .i64 0]) (by simp [results, Tryd.results29, go_sem]) rfl ?_
    exact ⟨rfl, bext hb01 hb2⟩
  · have hS : rkN l key = 0 := by unfold rkN; rw [if_neg (by omega)]
    rw [hS, hE]
    have HE := Lib.hid hE
    clear hE hS
    go_enter Tryd.func29, Tryd.ntmps29
    go_wp2_with fail
    refine (refCheck_any A l c _ (hA'.out.below hb0) hl).mono ?_
    rw [HE.out]
    rintro e w1 ⟨rfl, hb1⟩
    have hb01 := bext hb0 hb1
    have bX1 := bX.below hb1 bX.lt
    have c0 : w1.cell? ⟨w.heap.size, 0, none⟩ = some (.slice A l.length c) := bX1.cell 0
    clear bX hb1
    go_wp2
    refine bodyPost_ret (v := .tuple #[.int .i64 0, .int .i64 E]) (by simp [results, Tryd.results29, go_sem]) rfl ?_
    exact ⟨rfl, hb01⟩

set_option maxHeartbeats 1000000 in
theorem refLower_any (A : Option Addr) (l : List Ent) (c : Nat) (key : Int) (w : World) (hA : Sl w A (l.flatMap Ent.cells)) (hl : l.length ≤ 4611686018427387903) :
    Calls Tryd.prog 27 #[.agg #[.slice A l.length c], .int .i64 key] w (GivesII (lowAt l key) (lowE l key) w) := by
  have hb0 : Below w.heap.size w (w.alloc (.cells #[.slice A l.length c] 24)) := (Below.refl _ _).alloc (Nat.le_refl _) _
  have bX := Blk.new w 24 #[.slice A l.length c]
  have hA' := Lib.hid hA
  clear hA
  obtain ⟨E, hE⟩ : ∃ E, chkE l = E := ⟨_, rfl⟩
  by_cases h0 : E = 0
  · subst h0
    have hl2 := (chk_ok hE).2.2
    obtain ⟨K, hK⟩ : ∃ K, lowK l key = K := ⟨_, rfl⟩
    have hR : rkN l key = K := by unfold rkN; rw [if_pos hE, hK]
    have hKl := lowK_le l key
    rw [hK] at hKl
    have HE := Lib.hid hE
    have HR := Lib.hid hR
    by_cases he : K = l.length
    · obtain ⟨g1, g2⟩ := low_six hE (hK.trans he)
      rw [g1, g2]
      have hKI : ((K : Int) == (l.length : Int)) = true := by rw [beq_iff_eq]; omega
      clear hE hR hK g1 g2 he
      go_enter Tryd.func27, Tryd.ntmps27
      go_wp2_with fail
      refine (refRank_any A l c key _ (hA'.out.below hb0) hl).mono ?_
      unfold GivesII
      rw [HE.out, HR.out]
      rintro e w1 ⟨rfl, hb1⟩
      have hb01 := bext hb0 hb1
      have bX1 := bX.below hb1 bX.lt
      have c0 : w1.cell? ⟨w.heap.size, 0, none⟩ = some (.slice A l.length c) := bX1.cell 0
      clear bX hb1
      go_wp2
      refine bodyPost_ret (v := .tuple #[.int .i64 0, .int .i64 6]) (by simp [results, Tryd.results27, go_sem]) rfl ?_
      exact ⟨rfl, hb01⟩
    · obtain ⟨g1, g2, g3⟩ := low_at hE (by rw [hK]; exact he)
      rw [hK] at g2
      rw [g1]
      obtain ⟨a, ha⟩ : ∃ a, lowAt l key = a := ⟨_, rfl⟩
      rw [ha] at g2 g3
      rw [ha]
      have hKI : ((K : Int) == (l.length : Int)) = false := by rw [beq_eq_false_iff_ne]; omega
      have i0 : (0 : Int) ≤ (K : Int) := by omega
      have HG := Lib.hid g2
      have HN := Lib.hid (inord_length l.length)
      have i1 : (K : Int) < ((inord l.length 0).length : Int) := by rw [inord_length]; omega
      have hKn : K < (inord l.length 0).length := by rw [inord_length]; omega
      clear hE hR hK g1 g2 g3 he ha
      go_enter Tryd.func27, Tryd.ntmps27
      go_wp2_with fail
      refine (refRank_any A l c key _ (hA'.out.below hb0) hl).mono ?_
      unfold GivesII
      rw [HE.out, HR.out]
      rintro e w1 ⟨rfl, hb1⟩
      have hb01 := bext hb0 hb1
      have bX1 := bX.below hb1 bX.lt
      have c0 : w1.cell? ⟨w.heap.size, 0, none⟩ = some (.slice A l.length c) := bX1.cell 0
      clear bX hb1
      go_wp2_with fail
      refine (refPlaces_any l.length l.length 0 _ _ _ rfl rfl hl2 (by omega) (by omega)).mono ?_
      rintro e w2 ⟨A2, c2, rfl, ho2, hb2⟩
      have hs2 := own_sl ho2
      obtain ⟨b2, o2, rfl, _, cp⟩ := hs2.one K hKn
      have cp' : w2.cell? ⟨b2, o2 + K, none⟩ = some (.int .i64 (a : Nat)) := by
        rw [cp]
        have := (List.getElem?_eq_some_iff.1 HG.out).2
        rw [this]
        rfl
      clear cp ho2 hs2 c0
      go_wp2
      refine bodyPost_ret (v := .tuple #[.int .i64 (a : Nat), .int .i64 0]) (by simp [results, Tryd.results27, go_sem]) rfl ?_
      exact ⟨rfl, bext hb01 hb2⟩
  · obtain ⟨g1, g2⟩ := low_bad key (show ¬ chkE l = 0 by omega)
    rw [g1, g2, hE]
    have hR : rkN l key = 0 := by unfold rkN; rw [if_neg (by omega)]
    have HE := Lib.hid hE
    have HR := Lib.hid hR
    clear hE hR g1 g2
    go_enter Tryd.func27, Tryd.ntmps27
    go_wp2_with fail
    refine (refRank_any A l c key _ (hA'.out.below hb0) hl).mono ?_
    unfold GivesII
    rw [HE.out, HR.out]
    rintro e w1 ⟨rfl, hb1⟩
    have hb01 := bext hb0 hb1
    have bX1 := bX.below hb1 bX.lt
    have c0 : w1.cell? ⟨w.heap.size, 0, none⟩ = some (.slice A l.length c) := bX1.cell 0
    clear bX hb1
    go_wp2
    refine bodyPost_ret (v := .tuple #[.int .i64 0, .int .i64 E]) (by simp [results, Tryd.results27, go_sem]) rfl ?_
    exact ⟨rfl, hb01⟩

set_option maxHeartbeats 1000000 in
theorem refFind_any (A : Option Addr) (l : List Ent) (c : Nat) (key : Int) (w : World) (hA : Sl w A (l.flatMap Ent.cells)) (hl : l.length ≤ 4611686018427387903) :
    Calls Tryd.prog 28 #[.agg #[.slice A l.length c], .int .i64 key] w (GivesII (fdAt l key) (fdE l key) w) := by
  have hb0 : Below w.heap.size w (w.alloc (.cells #[.slice A l.length c] 24)) := (Below.refl _ _).alloc (Nat.le_refl _) _
  have bX := Blk.new w 24 #[.slice A l.length c]
  have hA' := Lib.hid hA
  clear hA
  obtain ⟨E, hE⟩ : ∃ E, lowE l key = E := ⟨_, rfl⟩
  by_cases h0 : E = 0
  · subst h0
    have hC : chkE l = 0 := by
      rcases chk_vals l with h | h | h | h
      · exact h
      all_goals (have := (low_bad key (show ¬ chkE l = 0 by omega)).1; omega)
    have hK : ¬ lowK l key = l.length := fun h => by have := (low_six hC h).1; omega
    obtain ⟨_, _, hat⟩ := low_at hC hK
    obtain ⟨a, hx⟩ : ∃ a, lowAt l key = a := ⟨_, rfl⟩
    rw [hx] at hat
    obtain ⟨p, hp⟩ : ∃ p, l[a]'hat = p := ⟨_, rfl⟩
    have hfe : fdE l key = if p.key = key then 0 else 6 := by unfold fdE; rw [if_neg (by omega), hx, entAt_get hat, hp]
    have HE := Lib.hid hE
    have HX := Lib.hid hx
    have i0 : (0 : Int) ≤ (a : Int) := by omega
    have i1 : (a : Int) < (l.length : Int) := by omega
    by_cases hk : p.key = key
    · rw [if_pos hk] at hfe
      have hfa : fdAt l key = a := by unfold fdAt; rw [if_pos hfe, hx]
      rw [hfa, hfe]
      have hkk : (p.key == key) = true := by simpa using hk
      clear hE hx hC hK hfe hfa hk
      go_enter Tryd.func28, Tryd.ntmps28
      go_wp2_with fail
      refine (refLower_any A l c key _ (hA'.out.below hb0) hl).mono ?_
      unfold GivesII
      rw [HE.out, HX.out]
      rintro e w1 ⟨rfl, hb1⟩
      have hb01 := bext hb0 hb1
      have bX1 := bX.below hb1 bX.lt
      have c0 : w1.cell? ⟨w.heap.size, 0, none⟩ = some (.slice A l.length c) := bX1.cell 0
      clear bX hb1
      have d1 := (hA'.out.below hb01).ent a hat
      obtain ⟨b, off, rfl, hbl, q1, q2, q3⟩ := d1
      rw [hp] at q1
      clear q2 q3 hp
      go_wp2
      refine bodyPost_ret (v := .tuple #[.int .i64 (a : Int), .int .i64 0]) (by simp [results, Tryd.results28, go_sem]) rfl ?_
      exact ⟨rfl, hb01⟩
    · rw [if_neg hk] at hfe
      have hfa : fdAt l key = 0 := by unfold fdAt; rw [hfe]; rfl
      rw [hfa, hfe]
      have hkk : (p.key == key) = false := by simpa using hk
      clear hE hx hC hK hfe hfa hk
      go_enter Tryd.func28, Tryd.ntmps28
      go_wp2_with fail
      refine (refLower_any A l c key _ (hA'.out.below hb0) hl).mono ?_
      unfold GivesII
      rw [HE.out, HX.out]
      rintro e w1 ⟨rfl, hb1⟩
      have hb01 := bext hb0 hb1
      have bX1 := bX.below hb1 bX.lt
      have c0 : w1.cell? ⟨w.heap.size, 0, none⟩ = some (.slice A l.length c) := bX1.cell 0
      clear bX hb1
      have d1 := (hA'.out.below hb01).ent a hat
      obtain ⟨b, off, rfl, hbl, q1, q2, q3⟩ := d1
      rw [hp] at q1
      clear q2 q3 hp
      go_wp2
      refine bodyPost_ret (v := .tuple #[.int .i64 0, .int .i64 6]) (by simp [results, Tryd.results28, go_sem]) rfl ?_
      exact ⟨rfl, hb01⟩
  · have hfe : fdE l key = E := by unfold fdE; rw [hE, if_pos h0]
    have hfa : fdAt l key = 0 := by unfold fdAt; rw [hfe, if_neg h0]
    have hx : lowAt l key = 0 := by unfold lowAt; rw [hE, if_neg h0]
    rw [hfa, hfe]
    have HE := Lib.hid hE
    have HX := Lib.hid hx
    clear hE hfe hfa hx
    go_enter Tryd.func28, Tryd.ntmps28
    go_wp2_with fail
    refine (refLower_any A l c key _ (hA'.out.below hb0) hl).mono ?_
    unfold GivesII
    rw [HE.out, HX.out]
    rintro e w1 ⟨rfl, hb1⟩
    have hb01 := bext hb0 hb1
    have bX1 := bX.below hb1 bX.lt
    have c0 : w1.cell? ⟨w.heap.size, 0, none⟩ = some (.slice A l.length c) := bX1.cell 0
    clear bX hb1
    go_wp2
    refine bodyPost_ret (v := .tuple #[.int .i64 0, .int .i64 E]) (by simp [results, Tryd.results28, go_sem]) rfl ?_
    exact ⟨rfl, hb01⟩
end Go.Proofs.YtokomclcgegfkaaDoor
