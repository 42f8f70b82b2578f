/- The law RunWhole: for every run and key it returns true; its arguments stay as they were. -/
import Derived.Test.YtokomclcgegfkaaDoorRv
import Derived.Test.YtokomclcgegfkaaDoorRw
namespace Go.Proofs.YtokomclcgegfkaaDoor
open Go Go.RowKit
set_option maxRecDepth 100000
def eqP (a b : Pr) : Bool := decide (a = b)
theorem run_eql_pr (a b : Pr) (w : World) :
    (binOp .eql 61 (.agg #[.int .i64 a.key, .int .i64 a.val]) (.agg #[.int .i64 b.key, .int .i64 b.val])).run Tryd.prog w = .ok (.bool (eqP a b)) w := by
  have h1 := pr_stood
  have h3 := Tryd.underlying61
  obtain ⟨k, v⟩ := a
  obtain ⟨k', v'⟩ := b
  simp only [go_sem, h1, h3]
  simp [go_sem, eqP]
  by_cases hk : k = k' <;> by_cases hv : v = v' <;> simp [hk, hv]
theorem met_succ {m : List Pr} {k : Nat} (h : k < m.length) (q : Pr) : decide (q ∈ m.take (k + 1)) = (decide (q ∈ m.take k) || eqP (m[k]'h) q) := by
  have h0 : q ∈ m.take (k + 1) ↔ q ∈ m.take k ∨ q = m[k]'h := by rw [List.take_succ_eq_append_getElem h, List.mem_append, List.mem_singleton]
  unfold eqP
  rw [Bool.eq_iff_iff, decide_eq_true_iff, h0, Bool.or_eq_true, decide_eq_true_iff, decide_eq_true_iff]
  exact ⟨fun h => h.imp id Eq.symm, fun h => h.imp id Eq.symm⟩
set_option maxHeartbeats 8000000 in
theorem runWhole_any (A : Option Addr) (l : List Ent) (c : Nat) (key : Int) (w : World) (hA : Sl w A (l.flatMap Ent.cells)) (hT : TabAt 1 Lib.deBruijn64tab w) : Calls Tryd.prog 8 #[.agg #[.slice A l.length c], .int .i64 key] w fun r w' => r = .returned (.bool true) ∧ Below w.heap.size w w' := by
  have HA := Lib.hid hA
  have HT := Lib.hid hT
  clear hA hT
  obtain ⟨E, hE⟩ : ∃ E, chkE l = E := ⟨_, rfl⟩
  obtain ⟨x1, hx1⟩ : ∃ x, gtX l key = x := ⟨_, rfl⟩
  obtain ⟨e1, he1⟩ : ∃ x, gtE l key = x := ⟨_, rfl⟩
  obtain ⟨x2, hx2⟩ : ∃ x, nxX l key = x := ⟨_, rfl⟩
  obtain ⟨e2, he2⟩ : ∃ x, nxE l key = x := ⟨_, rfl⟩
  obtain ⟨x3, hx3⟩ : ∃ x, lsX l key = x := ⟨_, rfl⟩
  obtain ⟨e3, he3⟩ : ∃ x, lsE l key = x := ⟨_, rfl⟩
  obtain ⟨m, hm⟩ : ∃ x, prL l = x := ⟨_, rfl⟩
  have hml : m.length ≤ l.length := by
    rw [← hm, pr_lv]; unfold lvN
    split
    · exact live_le l
    · exact Nat.zero_le _
  have hwh : chkE l = 0 → WholeOk l key := fun h => whole h key
  have hbad : ¬ chkE l = 0 → gtE l key = chkE l ∧ prL l = [] := fun h => ls_bad h
  rw [hE, hm, he1] at hbad
  have HWH := Lib.hid hwh
  have HBAD := Lib.hid hbad
  have HE := Lib.hid hE
  have HX1 := Lib.hid hx1
  have HE1 := Lib.hid he1
  have HX2 := Lib.hid hx2
  have HE2 := Lib.hid he2
  have HX3 := Lib.hid hx3
  have HE3 := Lib.hid he3
  have HM := Lib.hid hm
  have HML := Lib.hid hml
  clear hE hx1 he1 hx2 he2 hx3 he3 hm hml hwh hbad
  go_enter Tryd.func8, Tryd.ntmps8
  have HF := Lib.hid (Below.refl w.heap.size w)
  have HY1 := Lib.hid (HA.out)
  have HY2 := Lib.hid (HT.out)
  go_upto_region 1 with fail
  obtain ⟨U3, h5⟩ : ∃ U, w.alloc (.cells #[.slice A l.length c] 24) = U := ⟨_, rfl⟩
  have ba6 : Below w.heap.size w U3 := by rw [← h5]; exact (Below.refl _ _).alloc (Nat.le_refl _) _
  have bn7 : Blk U3 w.heap.size 24 #[.slice A l.length c] := by rw [← h5]; exact Blk.new _ _ _
  try rw [h5]
  have HF8 := Lib.hid (bext HF.out ba6)
  have HY9 := Lib.hid (HY1.out.below ba6)
  have HY10 := Lib.hid (tab_below' HY2.out ba6)
  clear HF HY1 HY2
  obtain ⟨g4, h11⟩ : ∃ g, w.heap.size = g := ⟨_, rfl⟩
  rw [h11] at bn7
  try rw [h11]
  have HX12 := Lib.hid bn7
  clear h5 ba6 bn7 h11
  go_wp2_with fail
  refine (alive24_any _ HY10.out).mono ?_
  rintro e w13 ⟨rfl, hb14⟩
  have HF15 := Lib.hid (bext HF8.out hb14)
  have HX16 := Lib.hid (HX12.out.below hb14 HX12.out.lt)
  have HY17 := Lib.hid (HY9.out.below hb14)
  have HY18 := Lib.hid (tab_below' HY10.out hb14)
  clear HF8 HX12 HY9 HY10
  clear hb14
  by_cases h3 : 300 < l.length
  case pos =>
    have h4 : (300 : Int) < (l.length : Int) := by omega
    have c0 : w13.cell? ⟨g4, 0, none⟩ = some (.slice A l.length c) := HX16.out.cell 0
    go_wp2
    go_ret
    exact ⟨rfl, HF15.out⟩
  case neg =>
  have h4 : ¬ (300 : Int) < (l.length : Int) := by omega
  have hl6 : l.length ≤ 300 := by omega
  have hl : l.length ≤ 4611686018427387903 := by omega
  have c19 : w13.cell? ⟨g4, 0, none⟩ = some (.slice A l.length c) := HX16.out.cell 0
  have l20 : g4 < w13.heap.size := HX16.out.lt
  go_wp2_with fail
  clear c19 l20
  refine (pairs_any A l c _ HY17.out hl).mono ?_
  rw [HM.out, HE.out]
  rintro e w21 ⟨A2, c2, rfl, ho2, hb22⟩
  have HF23 := Lib.hid (bext HF15.out hb22)
  have HX24 := Lib.hid (HX16.out.below hb22 HX16.out.lt)
  have HY25 := Lib.hid (HY17.out.below hb22)
  have HY26 := Lib.hid (tab_below' HY18.out hb22)
  clear HF15 HX16 HY17 HY18
  clear hb22
  have HY27 := Lib.hid (own_sl ho2)
  clear ho2
  have c28 : w21.cell? ⟨g4, 0, none⟩ = some (.slice A l.length c) := HX24.out.cell 0
  have l29 : g4 < w21.heap.size := HX24.out.lt
  go_wp2_with fail
  clear c28 l29
  refine (runGet_any A l c key _ HY25.out hl HY26.out).mono ?_
  unfold GivesX
  rw [HX1.out, HE1.out]
  rintro e w30 ⟨rfl, hb31⟩
  have HF32 := Lib.hid (bext HF23.out hb31)
  have HX33 := Lib.hid (HX24.out.below hb31 HX24.out.lt)
  have HY34 := Lib.hid (HY25.out.below hb31)
  have HY35 := Lib.hid (tab_below' HY26.out hb31)
  have HY36 := Lib.hid (HY27.out.below hb31)
  clear HF23 HX24 HY25 HY26 HY27
  clear hb31
  go_upto_region 6 with fail
  obtain ⟨U37, h39⟩ : ∃ U, w30.alloc (.cells #[.int .i64 x1.key, .int .i64 x1.val, .bool x1.dead] 29) = U := ⟨_, rfl⟩
  have ba40 : Below w30.heap.size w30 U37 := by rw [← h39]; exact (Below.refl _ _).alloc (Nat.le_refl _) _
  have bn41 : Blk U37 w30.heap.size 29 #[.int .i64 x1.key, .int .i64 x1.val, .bool x1.dead] := by rw [← h39]; exact Blk.new _ _ _
  try rw [h39]
  have HF42 := Lib.hid (bext HF32.out ba40)
  have HX43 := Lib.hid (HX33.out.below ba40 HX33.out.lt)
  have HY44 := Lib.hid (HY34.out.below ba40)
  have HY45 := Lib.hid (tab_below' HY35.out ba40)
  have HY46 := Lib.hid (HY36.out.below ba40)
  clear HF32 HX33 HY34 HY35 HY36
  obtain ⟨g38, h47⟩ : ∃ g, w30.heap.size = g := ⟨_, rfl⟩
  rw [h47] at bn41
  try rw [h47]
  have HX48 := Lib.hid bn41
  clear h39 ba40 bn41 h47
  by_cases h0 : E = 0
  case neg =>
    obtain ⟨h5, h6⟩ := HBAD.out h0
    subst h5 h6
    have h1 : (e1 != 0) = true := by simpa using h0
    go_wp2
    go_ret
    exact ⟨rfl, HF42.out⟩
  case pos =>
  subst h0
  have HW := Lib.hid (HWH.out HE.out)
  go_wp2_with fail
  obtain ⟨q, hq⟩ : ∃ q : Pr, (⟨key, x1.val⟩ : Pr) = q := ⟨_, rfl⟩
  have HQ := Lib.hid hq
  clear hq
  go_loopw [10, 11] (fun v i wr => ∃ k : Nat, k ≤ m.length ∧ i = .int .i64 k ∧ v = .bool (decide (q ∈ m.take k)) ∧ Below U37.heap.size U37 wr) (fun _ i _ => m.length - (intOf i).toNat)
  case atStart => exact ⟨0, Nat.zero_le _, rfl, by simp, Below.refl _ _⟩
  case round =>
    obtain ⟨k, hk, rfl, rfl, hb⟩ := hrel
    by_cases hlt : k < m.length
    case pos =>
      obtain ⟨b, off, rfl, hbl, c1', c2'⟩ := HY46.out.prB hb k hlt
      have by_ := HX48.out.below hb HX48.out.lt
      have cy : wr.cell? ⟨g38, 1, none⟩ = some (.int .i64 x1.val) := by_.cell 1
      have hs := met_succ hlt q
      obtain ⟨p, hp⟩ : ∃ p, m[k]'hlt = p := ⟨_, rfl⟩
      rw [hp] at c1' c2' hs
      have i0 : (0 : Int) ≤ (k : Int) := by omega
      have i1 : (k : Int) < (m.length : Int) := by omega
      have hpp := fun w => run_eql_pr p ⟨key, x1.val⟩ w
      dsimp only at hpp
      rw [HQ.out] at hpp
      have HB := Lib.hid hb
      have hmx := HML.out
      clear hp hb by_
      cases hd : decide (q ∈ m.take k)
      all_goals
        rw [hd] at hs
        have HS := Lib.hid hs
        clear hs hd
        go_wp2_with fail
        go_region
        all_goals
          go_wp2
          go_roundw
          case rel => exact ⟨k + 1, by omega, by go_num, by rw [HS.out]; rfl, HB.out.drew⟩
          case measure => simp [intOf]; omega
    case neg =>
    have hkm : m.take k = m := List.take_of_length_le (by omega)
    rw [hkm]
    clear hkm hk
    have HF49 := Lib.hid (bext HF42.out hb)
    have HX50 := Lib.hid (HX43.out.below hb HX43.out.lt)
    have HX51 := Lib.hid (HX48.out.below hb HX48.out.lt)
    have HY52 := Lib.hid (HY44.out.below hb)
    have HY53 := Lib.hid (tab_below' HY45.out hb)
    have HY54 := Lib.hid (HY46.out.below hb)
    clear HF42 HX43 HX48 HY44 HY45 HY46
    clear hb
    have c55 : wr.cell? ⟨g4, 0, none⟩ = some (.slice A l.length c) := HX50.out.cell 0
    have l56 : g4 < wr.heap.size := HX50.out.lt
    go_wp2_with fail
    clear c55 l56
    refine (runNext_any A l c key _ HY52.out hl HY53.out).mono ?_
    unfold GivesX
    rw [HX2.out, HE2.out]
    rintro e w57 ⟨rfl, hb58⟩
    have HF59 := Lib.hid (bext HF49.out hb58)
    have HX60 := Lib.hid (HX50.out.below hb58 HX50.out.lt)
    have HX61 := Lib.hid (HX51.out.below hb58 HX51.out.lt)
    have HY62 := Lib.hid (HY52.out.below hb58)
    have HY63 := Lib.hid (tab_below' HY53.out hb58)
    have HY64 := Lib.hid (HY54.out.below hb58)
    clear HF49 HX50 HX51 HY52 HY53 HY54
    clear hb58
    go_upto_region 14 with fail
    obtain ⟨U65, h67⟩ : ∃ U, w57.alloc (.cells #[.int .i64 x2.key, .int .i64 x2.val, .bool x2.dead] 29) = U := ⟨_, rfl⟩
    have ba68 : Below w57.heap.size w57 U65 := by rw [← h67]; exact (Below.refl _ _).alloc (Nat.le_refl _) _
    have bn69 : Blk U65 w57.heap.size 29 #[.int .i64 x2.key, .int .i64 x2.val, .bool x2.dead] := by rw [← h67]; exact Blk.new _ _ _
    try rw [h67]
    have HF70 := Lib.hid (bext HF59.out ba68)
    have HX71 := Lib.hid (HX60.out.below ba68 HX60.out.lt)
    have HX72 := Lib.hid (HX61.out.below ba68 HX61.out.lt)
    have HY73 := Lib.hid (HY62.out.below ba68)
    have HY74 := Lib.hid (tab_below' HY63.out ba68)
    have HY75 := Lib.hid (HY64.out.below ba68)
    clear HF59 HX60 HX61 HY62 HY63 HY64
    obtain ⟨g66, h76⟩ : ∃ g, w57.heap.size = g := ⟨_, rfl⟩
    rw [h76] at bn69
    try rw [h76]
    have HX77 := Lib.hid bn69
    clear h67 ba68 bn69 h76
    have c78 : U65.cell? ⟨g4, 0, none⟩ = some (.slice A l.length c) := HX71.out.cell 0
    have l79 : g4 < U65.heap.size := HX71.out.lt
    go_wp2_with fail
    clear c78 l79
    refine (runLast_any A l c key _ HY73.out hl HY74.out).mono ?_
    unfold GivesX
    rw [HX3.out, HE3.out]
    rintro e w80 ⟨rfl, hb81⟩
    have HF82 := Lib.hid (bext HF70.out hb81)
    have HX83 := Lib.hid (HX71.out.below hb81 HX71.out.lt)
    have HX84 := Lib.hid (HX72.out.below hb81 HX72.out.lt)
    have HX85 := Lib.hid (HX77.out.below hb81 HX77.out.lt)
    have HY86 := Lib.hid (HY73.out.below hb81)
    have HY87 := Lib.hid (tab_below' HY74.out hb81)
    have HY88 := Lib.hid (HY75.out.below hb81)
    clear HF70 HX71 HX72 HX77 HY73 HY74 HY75
    clear hb81
    go_upto_region 15 with fail
    obtain ⟨U89, h91⟩ : ∃ U, w80.alloc (.cells #[.int .i64 x3.key, .int .i64 x3.val, .bool x3.dead] 29) = U := ⟨_, rfl⟩
    have ba92 : Below w80.heap.size w80 U89 := by rw [← h91]; exact (Below.refl _ _).alloc (Nat.le_refl _) _
    have bn93 : Blk U89 w80.heap.size 29 #[.int .i64 x3.key, .int .i64 x3.val, .bool x3.dead] := by rw [← h91]; exact Blk.new _ _ _
    try rw [h91]
    have HF94 := Lib.hid (bext HF82.out ba92)
    have HX95 := Lib.hid (HX83.out.below ba92 HX83.out.lt)
    have HX96 := Lib.hid (HX84.out.below ba92 HX84.out.lt)
    have HX97 := Lib.hid (HX85.out.below ba92 HX85.out.lt)
    have HY98 := Lib.hid (HY86.out.below ba92)
    have HY99 := Lib.hid (tab_below' HY87.out ba92)
    have HY100 := Lib.hid (HY88.out.below ba92)
    clear HF82 HX83 HX84 HX85 HY86 HY87 HY88
    obtain ⟨g90, h101⟩ : ∃ g, w80.heap.size = g := ⟨_, rfl⟩
    rw [h101] at bn93
    try rw [h101]
    have HX102 := Lib.hid bn93
    clear h91 ba92 bn93 h101
    obtain ⟨M, hM⟩ : ∃ M, decide (q ∈ m) = M := ⟨_, rfl⟩
    rw [hM]
    have HMM := Lib.hid hM
    clear hM
    go_wp2_with fail
    go_loopw [16, 17] (fun i _ wr2 => ∃ k : Nat, k ≤ l.length ∧ i = .int .i64 k ∧ wr2 = U89) (fun i _ _ => l.length - (intOf i).toNat)
    case atStart => exact ⟨0, Nat.zero_le _, rfl, rfl⟩
    case round =>
      obtain ⟨k, hk, rfl, hw⟩ := hrel
      have hw2 := hw.symm
      subst hw2
      have bx0 := HX95.out.cell 0
      have c0 : U89.cell? ⟨g4, 0, none⟩ = some (.slice A l.length c) := bx0
      clear bx0
      by_cases hlt : k < l.length
      case pos =>
        obtain ⟨b, off, rfl, hbl, c1', c2', c3'⟩ := HY98.out.ent k hlt
        have hlo := HW.out.lo k hlt
        have hhi := HW.out.hi k hlt
        rw [HE2.out, HX2.out] at hlo
        rw [HE3.out, HX3.out] at hhi
        obtain ⟨p, hp⟩ : ∃ p, l[k]'hlt = p := ⟨_, rfl⟩
        rw [hp] at c1' c2' c3' hlo hhi
        have i0 : (0 : Int) ≤ (k : Int) := by omega
        have i1 : (k : Int) < (l.length : Int) := by omega
        have cn : U89.cell? ⟨g66, 0, none⟩ = some (.int .i64 x2.key) := HX97.out.cell 0
        have cl : U89.cell? ⟨g90, 0, none⟩ = some (.int .i64 x3.key) := HX102.out.cell 0
        clear hp
        by_cases hkk : key ≤ p.key
        · obtain ⟨hz, hle⟩ := hlo hkk
          subst hz
          have d1 : decide (key ≤ p.key) = true := decide_eq_true hkk
          have d2 : decide (p.key < key) = false := decide_eq_false (by omega)
          have d3 : decide (p.key < x2.key) = false := decide_eq_false (by omega)
          clear hlo hhi
          go_wp2
          go_roundw
          case rel => exact ⟨k + 1, by omega, by go_num, by first | exact trivial | rfl⟩
          case measure => simp [intOf]; omega
        · have hkk2 : p.key < key := by omega
          obtain ⟨hz, hle⟩ := hhi hkk2
          subst hz
          have d1 : decide (key ≤ p.key) = false := decide_eq_false hkk
          have d2 : decide (p.key < key) = true := decide_eq_true hkk2
          have d3 : decide (x3.key < p.key) = false := decide_eq_false (by omega)
          clear hlo hhi
          go_wp2
          go_roundw
          case rel => exact ⟨k + 1, by omega, by go_num, by first | exact trivial | rfl⟩
          case measure => simp [intOf]; omega
      case neg =>
      have hme := HW.out.met
      have hth := HW.out.there
      have hsa := HW.out.same
      have hla := HW.out.last
      rw [HX1.out, HE1.out, HM.out, HQ.out, HMM.out] at hme
      rw [HE1.out, HE2.out, HX2.out] at hth
      rw [HE1.out, HX1.out, HX2.out] at hsa
      rw [HE3.out, HX3.out] at hla
      have c103 : U89.cell? ⟨g38, 0, none⟩ = some (.int .i64 x1.key) := HX96.out.cell 0
      have c104 : U89.cell? ⟨g38, 1, none⟩ = some (.int .i64 x1.val) := HX96.out.cell 1
      have c105 : U89.cell? ⟨g38, 2, none⟩ = some (.bool x1.dead) := HX96.out.cell 2
      have l106 : g38 < U89.heap.size := HX96.out.lt
      have c107 : U89.cell? ⟨g66, 0, none⟩ = some (.int .i64 x2.key) := HX97.out.cell 0
      have c108 : U89.cell? ⟨g66, 1, none⟩ = some (.int .i64 x2.val) := HX97.out.cell 1
      have c109 : U89.cell? ⟨g66, 2, none⟩ = some (.bool x2.dead) := HX97.out.cell 2
      have l110 : g66 < U89.heap.size := HX97.out.lt
      have c111 : U89.cell? ⟨g90, 0, none⟩ = some (.int .i64 x3.key) := HX102.out.cell 0
      have c112 : U89.cell? ⟨g90, 1, none⟩ = some (.int .i64 x3.val) := HX102.out.cell 1
      have c113 : U89.cell? ⟨g90, 2, none⟩ = some (.bool x3.dead) := HX102.out.cell 2
      have l114 : g90 < U89.heap.size := HX102.out.lt
      by_cases h1 : e1 = 0
      · have hx := hsa h1
        subst h1 hx
        have hth2 : e2 = 0 ∧ x1.key = key := by simpa using hth
        obtain ⟨h2, hk2⟩ := hth2
        subst h2
        have d1 : (x1.key == key) = true := by simpa using hk2
        have d2 : decide (x1.key = key) = true := decide_eq_true hk2
        have hM : M = !x1.dead := by simpa using hme
        subst hM
        have hxx := fun w => run_eql_ent x1 x1 w
        have hxy := eqX_self x1
        clear hth hsa hme hk2
        by_cases h3 : e3 = 0
        · have hlt3 := hla h3
          subst h3
          have d3 : decide (x3.key < key) = true := decide_eq_true hlt3
          clear hla
          go_wp2
          go_ret
          exact ⟨rfl, HF94.out⟩
        · have d3 : (e3 != 0) = true := by simpa using h3
          have d4 : (e3 == 0) = false := by simpa using h3
          clear hla
          go_wp2
          go_ret
          exact ⟨rfl, HF94.out⟩
      · have hM : M = false := by simpa [h1] using hme
        subst hM
        have d1 : (e1 == 0) = false := by simpa using h1
        have d2 : (e1 != 0) = true := by simpa using h1
        clear hme hsa
        by_cases h2 : e2 = 0
        · subst h2
          have hk2 : ¬ x2.key = key := by simpa [h1] using hth
          have d5 : (x2.key == key) = false := by simpa using hk2
          have d6 : decide (x2.key = key) = false := decide_eq_false hk2
          clear hth hk2
          by_cases h3 : e3 = 0
          · have hlt3 := hla h3
            subst h3
            have d3 : decide (x3.key < key) = true := decide_eq_true hlt3
            clear hla
            go_wp2
            go_ret
            exact ⟨rfl, HF94.out⟩
          · have d3 : (e3 != 0) = true := by simpa using h3
            have d4 : (e3 == 0) = false := by simpa using h3
            clear hla
            go_wp2
            go_ret
            exact ⟨rfl, HF94.out⟩
        · have d5 : (e2 == 0) = false := by simpa using h2
          clear hth
          by_cases h3 : e3 = 0
          · have hlt3 := hla h3
            subst h3
            have d3 : decide (x3.key < key) = true := decide_eq_true hlt3
            clear hla
            go_wp2
            go_ret
            exact ⟨rfl, HF94.out⟩
          · have d3 : (e3 != 0) = true := by simpa using h3
            have d4 : (e3 == 0) = false := by simpa using h3
            clear hla
            go_wp2
            go_ret
            exact ⟨rfl, HF94.out⟩
end Go.Proofs.YtokomclcgegfkaaDoor
