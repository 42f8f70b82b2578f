/- The law ModelParts: for every number, pairs, operations and place it returns true; its arguments stay as they were. -/
import Derived.Test.YtibgpghlnfcilaaMv
import Derived.Test.YtibgpghlnfcilaaRun
import Derived.Test.YtibgpghlnfcilaaMargs2
import Derived.Test.YtibgpghlnfcilaaRows
import Derived.Deep.RegionHeld3
import Derived.IntWalk
namespace Go.Proofs.Ytibgpghlnfcilaa
open Go Go.ChangeShapes Go.WideShapes Go.ChangeAt Go.RowKit
set_option maxRecDepth 100000

/-! ### plain -/
theorem scan_len (l : List Pr) (a b n : Int) : (scanL l a b n).length ≤ l.length := by unfold scanL; simp; omega
theorem ask_len (l : List Pr) (o : Opn) : (askA l o).pairs.length ≤ l.length := by
  unfold askA
  repeat' split
  all_goals first | exact Nat.zero_le _ | (rw [oneA_pairs]; exact Nat.zero_le _) | exact scan_len _ _ _ _
theorem doA_len (most : Int) (l : List Pr) (o : Opn) : (doA most l o).pairs.length ≤ l.length := by
  unfold doA
  repeat' split
  all_goals first | exact Nat.zero_le _ | exact ask_len _ _
theorem runA_len {most : Int} : ∀ (os : List Opn) {l : List Pr}, checkE most l = 0 → ∀ a ∈ runA most l os, a.pairs.length ≤ 16384
  | [], _, _, a, ha => by simp [runA] at ha
  | o :: os, l, h, a, ha => by
    obtain ⟨h1, h2, h3, _⟩ := check_ok h
    rcases List.mem_cons.1 ha with rfl | ha
    · have := doA_len most l o; omega
    · exact runA_len os (step_check h o) a ha

/-! ### parts of a list of operations in memory -/
theorem flatG_take {α : Type} (enc : α → List Value) (s : Nat) (hs : ∀ x, (enc x).length = s) (l : List α) (k : Nat) : (l.flatMap enc).take (k * s) = (l.take k).flatMap enc := by
  by_cases h : k ≤ l.length
  · have e : l.flatMap enc = (l.take k).flatMap enc ++ (l.drop k).flatMap enc := by rw [← List.flatMap_append, List.take_append_drop]
    rw [e, List.take_left' (by rw [flat_length enc s hs]; simp [Nat.min_eq_left h])]
  · rw [List.take_of_length_le (by rw [flat_length enc s hs]; exact Nat.mul_le_mul_right _ (by omega)), List.take_of_length_le (by omega)]
theorem flatG_drop {α : Type} (enc : α → List Value) (s : Nat) (hs : ∀ x, (enc x).length = s) (l : List α) (k : Nat) : (l.flatMap enc).drop (k * s) = (l.drop k).flatMap enc := by
  by_cases h : k ≤ l.length
  · have e : l.flatMap enc = (l.take k).flatMap enc ++ (l.drop k).flatMap enc := by rw [← List.flatMap_append, List.take_append_drop]
    rw [e, List.drop_left' (by rw [flat_length enc s hs]; simp [Nat.min_eq_left h])]
  · rw [List.drop_eq_nil_of_le (by rw [flat_length enc s hs]; exact Nat.mul_le_mul_right _ (by omega)), List.drop_eq_nil_of_le (by omega)]; rfl
theorem OpsAt.take {w : World} {B : Option Addr} {l : List OpM} (h : OpsAt w B l) (k : Nat) : OpsAt w B (l.take k) := by
  refine ⟨?_, fun x hx => h.2 x (List.mem_of_mem_take hx)⟩
  rcases h.1 with h | ⟨b, off, h1, h2, h3⟩
  · left; rw [← flatG_take OpM.cells 6 OpM.cells_length, h]; simp
  · refine .inr ⟨b, off, h1, h2, fun j u hu => h3 j u ?_⟩
    rw [← flatG_take OpM.cells 6 OpM.cells_length, List.getElem?_take] at hu
    split at hu
    · exact hu
    · cases hu
theorem OpsAt.drop {w : World} {B : Option Addr} {l : List OpM} (h : OpsAt w B l) (k : Nat) : OpsAt w (B.map (fun x => x.add (k * 6))) (l.drop k) := by
  refine ⟨?_, fun x hx => h.2 x (List.mem_of_mem_drop hx)⟩
  rcases h.1 with h | ⟨b, off, h1, h2, h3⟩
  · left; rw [← flatG_drop OpM.cells 6 OpM.cells_length, h]; simp
  · subst h1
    refine .inr ⟨b, off + k * 6, by simp [Addr.add_lit], h2, fun j u hu => ?_⟩
    rw [← flatG_drop OpM.cells 6 OpM.cells_length, List.getElem?_drop] at hu
    have := h3 _ u hu
    rwa [Nat.add_assoc]
theorem OpsAt.nil (w : World) (B : Option Addr) : OpsAt w B [] := ⟨.inl rfl, by simp⟩

theorem an_at {w : World} {A : Option Addr} {l : List AnM} (h : AnsAt w A l) (i : Nat) (hi : i < l.length) : ∃ b off, A = some ⟨b, off, none⟩ ∧ b < w.heap.size ∧
    w.cell? ⟨b, off + i * 4, none⟩ = some (.int .i64 (l[i]'hi).a.pair.key) ∧ w.cell? ⟨b, off + i * 4 + 1, none⟩ = some (.int .i64 (l[i]'hi).a.pair.val) ∧
    w.cell? ⟨b, off + i * 4 + 2, none⟩ = some (.int .i64 (l[i]'hi).a.n) ∧ w.cell? ⟨b, off + i * 4 + 3, none⟩ = some (.slice (l[i]'hi).A (l[i]'hi).a.pairs.length (l[i]'hi).c) ∧
    Sl w (l[i]'hi).A ((l[i]'hi).a.pairs.flatMap Pr.cells) := by
  obtain ⟨b, off, h1, h2, h3⟩ := h.1.an i hi
  exact ⟨b, off, h1, h2, h3 0 _ rfl, h3 1 _ rfl, h3 2 _ rfl, h3 3 _ rfl, h.2 _ (List.getElem_mem hi)⟩
theorem part_left {xs ys : List AnM} {L1 L2 : List Answ} (h1 : xs.map AnM.a = L1 ++ L2) (h2 : ys.map AnM.a = L1) (j : Nat) (hx : j < xs.length) (hy : j < ys.length) : (xs[j]'hx).a = (ys[j]'hy).a := by
  have e : (xs.map AnM.a)[j]? = (ys.map AnM.a)[j]? := by
    rw [h1, h2, List.getElem?_append_left]
    rw [← h2, List.length_map]; exact hy
  rw [List.getElem?_map, List.getElem?_map, List.getElem?_eq_getElem hx, List.getElem?_eq_getElem hy] at e
  simpa using e
theorem part_right {xs ys : List AnM} {L1 L2 : List Answ} (h1 : xs.map AnM.a = L1 ++ L2) (h2 : ys.map AnM.a = L2) (k d : Nat) (hk : L1.length = k) (hx : k + d < xs.length) (hy : d < ys.length) : (xs[k + d]'hx).a = (ys[d]'hy).a := by
  have e : (xs.map AnM.a)[k + d]? = (ys.map AnM.a)[d]? := by
    rw [h1, h2, List.getElem?_append_right (by omega), hk, Nat.add_sub_cancel_left]
  rw [List.getElem?_map, List.getElem?_map, List.getElem?_eq_getElem hx, List.getElem?_eq_getElem hy] at e
  simpa using e
theorem mem_map_a {xs : List AnM} {L : List Answ} (h : xs.map AnM.a = L) (hL : ∀ a ∈ L, a.pairs.length ≤ 16384) (i : Nat) (hi : i < xs.length) : (xs[i]'hi).a.pairs.length ≤ 16384 :=
  hL _ (h ▸ List.mem_map.2 ⟨_, List.getElem_mem hi, rfl⟩)
theorem int_left {l l1 l2 : List Int} (h : l = l1 ++ l2) (j : Nat) (hx : j < l.length) (hy : j < l1.length) : l[j]'hx = l1[j]'hy := by
  subst h; exact List.getElem_append_left hy
theorem int_right {l l1 l2 : List Int} (h : l = l1 ++ l2) (k d : Nat) (hk : l1.length = k) (hx : k + d < l.length) (hy : d < l2.length) : l[k + d]'hx = l2[d]'hy := by
  subst h
  rw [List.getElem_append_right (by omega)]
  congr 1
  omega

theorem run_n (most : Int) (A : Option Addr) (l : List Pr) (c : Nat) (B : Option Addr) (ops : List OpM) (n b : Nat) (w : World) (hn : ops.length = n) (hA : Sl w A (l.flatMap Pr.cells)) (hO : OpsAt w B ops) (hm : n ≤ 1000) (hp : ∀ x ∈ ops, x.o.pairs.length ≤ 100000) (hC : checkE most l = 0) :
    Calls Try.prog 23 #[.int .i64 most, .slice A l.length c, .slice B n b] w (GivesRun (runL most l (ops.map OpM.o)) (runA most l (ops.map OpM.o)) (runE most l (ops.map OpM.o)) 0 w) := by
  subst hn
  exact run_ok most A l c B ops b w hA hO hm hp hC

set_option maxHeartbeats 16000000 in
theorem modelParts_any (most : Int) (A : Option Addr) (l : List Pr) (c : Nat) (B : Option Addr) (ops : List OpM) (b : Nat) (at_ : Int) (w : World) (hA : Sl w A (l.flatMap Pr.cells)) (hlc : l.length ≤ c) (hO : OpsAt w B ops) (hob : ops.length ≤ b) (hbm : b ≤ maxLen) :
    Calls Try.prog 8 #[.int .i64 most, .slice A l.length c, .slice B ops.length b, .int .i64 at_] w fun r w' => r = .returned (.bool true) ∧ Below w.heap.size w w' := by
  unfold maxLen at hbm
  by_cases h1 : 200 < l.length
  · go_enter Try.func8, Try.ntmps8
    go_wp2_with fail
    refine (alive_any _).mono ?_
    rintro e w1 ⟨rfl, hb1⟩
    go_wp2
    go_ret
    exact ⟨rfl, hb1⟩
  by_cases hg : greatB ops 40 = true
  · go_enter Try.func8, Try.ntmps8
    go_wp2_with fail
    refine (alive_any _).mono ?_
    rintro e w1 ⟨rfl, hb1⟩
    go_wp2_with fail
    refine (great_any B ops b 40 _ (hO.below hb1).1 (by omega)).mono ?_
    rw [hg]
    rintro e w2 ⟨rfl, hb2⟩
    go_wp2
    go_ret
    exact ⟨rfl, bext hb1 hb2⟩
  have hg : greatB ops 40 = false := by simpa using hg
  have hgo : ops.length ≤ 40 ∧ fewB ops := by
    have h := of_decide_eq_false hg
    constructor
    · have : ¬ (40 : Int) < (ops.length : Int) := fun h' => h (.inl h')
      omega
    · exact Decidable.byContradiction fun h' => h (.inr h')
  obtain ⟨hgn, hgf⟩ := hgo
  by_cases h2 : at_ < 0
  · go_enter Try.func8, Try.ntmps8
    go_wp2_with fail
    refine (alive_any _).mono ?_
    rintro e w1 ⟨rfl, hb1⟩
    go_wp2_with fail
    refine (great_any B ops b 40 _ (hO.below hb1).1 (by omega)).mono ?_
    rw [hg]
    rintro e w2 ⟨rfl, hb2⟩
    go_wp2
    go_ret
    exact ⟨rfl, bext hb1 hb2⟩
  by_cases h3 : (ops.length : Int) < at_
  · go_enter Try.func8, Try.ntmps8
    go_wp2_with fail
    refine (alive_any _).mono ?_
    rintro e w1 ⟨rfl, hb1⟩
    go_wp2_with fail
    refine (great_any B ops b 40 _ (hO.below hb1).1 (by omega)).mono ?_
    rw [hg]
    rintro e w2 ⟨rfl, hb2⟩
    go_wp2
    go_ret
    exact ⟨rfl, bext hb1 hb2⟩
  obtain ⟨k, rfl⟩ : ∃ k : Nat, at_ = (k : Int) := ⟨at_.toNat, by omega⟩
  have hkn : k ≤ ops.length := by omega
  have hkI : (k : Int) ≤ (b : Int) := by omega
  have hfew := Lib.hid hgf
  have HG := Lib.hid hg
  have hO := Lib.hid hO
  have hA := Lib.hid hA
  clear hgf hg
  obtain ⟨C, hC⟩ : ∃ C, checkE most l = C := ⟨_, rfl⟩
  have HC := Lib.hid hC
  clear hC
  by_cases c0 : C = 0
  case neg =>
    go_enter Try.func8, Try.ntmps8
    go_wp2_with fail
    refine (alive_any _).mono ?_
    rintro e w1 ⟨rfl, hb1⟩
    go_wp2_with fail
    refine (great_any B ops b 40 _ (hO.out.below hb1).1 (by omega)).mono ?_
    rw [HG.out]
    rintro e w2 ⟨rfl, hb2⟩
    have hb02 := bext hb1 hb2
    go_wp2_with fail
    refine (run_bad most A l c B ops.length b _ (hA.out.below hb02) (by omega) C HC.out c0).mono ?_
    rintro e3 w3 ⟨A3, c3, B3, b3, C3, d3, xs, rfl, hf3, hx3, hxs, hc3, hb3⟩
    have hb03 := bext hb02 hb3
    clear hxs
    go_wp2_with fail
    refine (run_bad most A l c B k b _ (hA.out.below hb03) (by omega) C HC.out c0).mono ?_
    rintro e4 w4 ⟨A4, c4, B4, b4, C4, d4, ys, rfl, hf4, hy4, hys, hc4, hb4⟩
    clear hys
    go_wp2
    go_ret
    exact ⟨rfl, bext hb03 hb4⟩
  subst c0
  obtain ⟨R, hR⟩ : ∃ R, runL most l (ops.map OpM.o) = R := ⟨_, rfl⟩
  obtain ⟨R1, hR1⟩ : ∃ R1, runL most l ((ops.take k).map OpM.o) = R1 := ⟨_, rfl⟩
  have happ : ops.map OpM.o = (ops.take k).map OpM.o ++ (ops.drop k).map OpM.o := by rw [← List.map_append, List.take_append_drop]
  have hR2 : runL most R1 ((ops.drop k).map OpM.o) = R := by rw [← hR, happ, runL_append, hR1]
  have hEs : runE most l (ops.map OpM.o) = runE most l ((ops.take k).map OpM.o) ++ runE most R1 ((ops.drop k).map OpM.o) := by rw [happ, runE_append, hR1]
  have hAs : runA most l (ops.map OpM.o) = runA most l ((ops.take k).map OpM.o) ++ runA most R1 ((ops.drop k).map OpM.o) := by rw [happ, runA_append, hR1]
  have hC1 : checkE most R1 = 0 := hR1 ▸ run_check _ HC.out
  have hCR : checkE most R = 0 := hR ▸ run_check _ HC.out
  obtain ⟨m1, m2, m3, _⟩ := check_ok hC1
  obtain ⟨_, _, n3, _⟩ := check_ok hCR
  have hal := runA_len (ops.map OpM.o) HC.out
  have hal1 := runA_len ((ops.take k).map OpM.o) HC.out
  have hal2 := runA_len ((ops.drop k).map OpM.o) hC1
  have HR := Lib.hid hR
  have HR1 := Lib.hid hR1
  have HR2 := Lib.hid hR2
  have HEs := Lib.hid hEs
  have HAs := Lib.hid hAs
  have HC1 := Lib.hid hC1
  have hal := Lib.hid hal
  have hal1 := Lib.hid hal1
  have hal2 := Lib.hid hal2
  clear hR hR1 happ hR2 hEs hAs hC1 hCR
  go_enter Try.func8, Try.ntmps8
  go_wp2_with fail
  refine (alive_any _).mono ?_
  rintro e w1 ⟨rfl, hb1⟩
  go_wp2_with fail
  refine (great_any B ops b 40 _ (hO.out.below hb1).1 (by omega)).mono ?_
  rw [HG.out]
  rintro e w2 ⟨rfl, hb2⟩
  have hb02 := bext hb1 hb2
  go_wp2_with fail
  refine (run_ok most A l c B ops b _ (hA.out.below hb02) (hO.out.below hb02) (by omega) (fun x hx => Nat.le_trans (hfew.out x hx) (by omega)) HC.out).mono ?_
  rw [HR.out]
  rintro e3 w3 ⟨A3, c3, B3, b3, C3, d3, xs, he, hf3, hx3, hxs, hc3, hb3⟩
  have l3 : xs.length = ops.length := by have := congrArg List.length hxs; rw [List.length_map, runA_length, List.length_map] at this; exact this
  have l3' : (runE most l (ops.map OpM.o)).length = ops.length := by rw [runE_length, List.length_map]
  rw [l3, l3'] at he
  subst he
  have hb03 := bext hb02 hb3
  have hxs := Lib.hid hxs
  have hc3 := Lib.hid hc3
  have hx3 := Lib.hid hx3
  have L3 := Lib.hid l3
  have L3' := Lib.hid l3'
  clear l3 l3'
  go_wp2_with fail
  refine (run_n most A l c B (ops.take k) k b _ (by rw [List.length_take]; omega) (hA.out.below hb03) ((hO.out.take k).below hb03) (by omega) (fun x hx => Nat.le_trans (hfew.out x (List.mem_of_mem_take hx)) (by omega)) HC.out).mono ?_
  rw [HR1.out]
  rintro e4 w4 ⟨A4, c4, B4, b4, C4, d4, ys, he, hf4, hy4, hys, hc4, hb4⟩
  have l4 : ys.length = k := by have := congrArg List.length hys; rw [List.length_map, runA_length, List.length_map, List.length_take] at this; omega
  have l4' : (runE most l ((ops.take k).map OpM.o)).length = k := by rw [runE_length, List.length_map, List.length_take]; omega
  rw [l4, l4'] at he
  subst he
  have hb04 := bext hb03 hb4
  have hys := Lib.hid hys
  have hc4 := Lib.hid hc4
  have hy4 := Lib.hid hy4
  have L4 := Lib.hid l4
  have L4' := Lib.hid l4'
  clear l4 l4'
  by_cases hbk : b = k
  · have hdn : ops.drop k = [] := List.drop_eq_nil_of_le (by omega)
    have hnil : ∀ {W : World}, OpsAt W B (ops.drop k) := by rw [hdn]; exact OpsAt.nil _ _
    obtain rfl : k = b := by omega
    go_wp2_with fail
    refine (run_n most A4 R1 c4 B (ops.drop k) 0 0 _ (by rw [List.length_drop]; omega) (hf4.sl) hnil (by omega) (fun x hx => Nat.le_trans (hfew.out x (List.mem_of_mem_drop hx)) (by omega)) HC1.out).mono ?_
    rw [HR2.out]
    rintro e5 w5 ⟨A5, c5, B5, b5, C5, d5, zs, he, hf5, hz5, hzs, hc5, hb5⟩
    have l5 : zs.length = 0 := by have := congrArg List.length hzs; rw [List.length_map, runA_length, List.length_map, List.length_drop] at this; omega
    have l5' : (runE most R1 ((ops.drop k).map OpM.o)).length = 0 := by rw [runE_length, List.length_map, List.length_drop]; omega
    rw [l5, l5'] at he
    subst he
    have hb05 := bext hb04 hb5
    have hq1 : ((0 : Int) != (ops.length : Int) - (k : Int)) = false := by simp; omega
    have hzs := Lib.hid hzs
    have hc5 := Lib.hid hc5
    have hz5 := Lib.hid hz5
    have L5 := Lib.hid l5
    have L5' := Lib.hid l5'
    clear l5 l5'
    go_wp2_with fail
    refine (samePairs_any A3 A5 R R c3 c5 _ (hf3.sl.below (bext hb4 hb5)) hf5.sl (by omega) (by omega)).mono ?_
    rw [decide_eq_true rfl]
    rintro e6 w6 ⟨rfl, hb6⟩
    have hb06 := bext hb05 hb6
    go_wp2_with fail
    go_loopw [22] (fun i wr => ∃ j : Nat, j ≤ ops.length ∧ i = .int .i64 j ∧ Below w6.heap.size w6 wr) (fun i _ => ops.length - (intOf i).toNat)
    case atStart => exact ⟨0, Nat.zero_le _, rfl, Below.refl _ _⟩
    case round =>
      obtain ⟨j, hj, rfl, hbr⟩ := hrel
      by_cases hlt : j < ops.length
      · have i0 : (0 : Int) ≤ (j : Int) := by omega
        have i1 : (j : Int) < (ops.length : Int) := by omega
        by_cases hjk : j < k
        · have i2 : (j : Int) < (k : Int) := by omega
          have g1 : decide ((k : Int) ≤ (j : Int)) = false := decide_eq_false (by omega)
          have g2 : decide (k ≤ j) = false := decide_eq_false (by omega)
          have g3 : ¬ k ≤ j := by omega
          obtain ⟨bx, ox, ex, lx, x0, x1, x2, x3, sx⟩ := an_at (hx3.out.below (bext hb4 (bext hb5 (bext hb6 hbr)))) j (by rw [L3.out]; exact hlt)
          obtain ⟨bw, oy, ey, ly, y0, y1, y2, y3, sy⟩ := an_at (hy4.out.below (bext hb5 (bext hb6 hbr))) j (by rw [L4.out]; exact hjk)
          obtain ⟨be, oe, ee, le, e0⟩ := (hc3.out.below (bext hb4 (bext hb5 (bext hb6 hbr)))).one j (by rw [L3'.out]; exact hlt)
          obtain ⟨bf, of, ef, lf, f0⟩ := (hc4.out.below (bext hb5 (bext hb6 hbr))).one j (by rw [L4'.out]; exact hjk)
          have hXY : (xs[j]'(by rw [L3.out]; exact hlt)).a = (ys[j]'(by rw [L4.out]; exact hjk)).a := part_left (hxs.out.trans HAs.out) hys.out j _ _
          have hEF : (runE most l (ops.map OpM.o))[j]'(by rw [L3'.out]; exact hlt) = (runE most l ((ops.take k).map OpM.o))[j]'(by rw [L4'.out]; exact hjk) := int_left HEs.out j _ _
          have bX := mem_map_a hxs.out hal.out j (by rw [L3.out]; exact hlt)
          have bY := mem_map_a hys.out hal1.out j (by rw [L4.out]; exact hjk)
          generalize (xs[j]'(by rw [L3.out]; exact hlt)) = X at *
          generalize (ys[j]'(by rw [L4.out]; exact hjk)) = Y at *
          generalize ((runE most l (ops.map OpM.o))[j]'(by rw [L3'.out]; exact hlt)) = v1 at *
          generalize ((runE most l ((ops.take k).map OpM.o))[j]'(by rw [L4'.out]; exact hjk)) = v2 at *
          subst hEF ex ey ee ef
          unfold intV at e0 f0
          have HXY := Lib.hid hXY
          have sx := Lib.hid sx
          have sy := Lib.hid sy
          clear hXY
          have cX : X.a.pairs.length ≤ 4611686018427387903 := by omega
          have cY : Y.a.pairs.length ≤ 4611686018427387903 := by omega
          go_wp2_with fail
          refine wp_region_noPanic ?_
          refine wp_region_held_drew (S := fun w' => (∀ bq jq, bq < wr.heap.size → w'.cell? ⟨bq, jq, none⟩ = wr.cell? ⟨bq, jq, none⟩) ∧ (∀ bq jq, bq < wr.heap.size → w'.frozen? ⟨bq, jq, none⟩ = wr.frozen? ⟨bq, jq, none⟩) ∧ wr.heap.size ≤ w'.heap.size ∧ Below wr.heap.size wr w') (by kernel_rfl) SB.init (fun hHeld => ?_)
          refine wpAnyH_take (i := 0) (oi := { dst := some 152, op := Op.move (Operand.tmp 22), type := 3, pos := "outright.go:104", after := #[], guard := none }) (v := ?vc0) rfl (by kernel_rfl) (by kernel_rfl) (by kernel_rfl) (fun _ _ _ h => h) (Or.inl ⟨by rfl, ?yc0⟩) (by assumption) ?rc0
          case yc0 => (intro w' hSw; (try dsimp only at hSw); go_simp; try with_reducible rfl)
          case' rc0 => simp only [Act.put, List.setIfInBounds_toArray, List.set_cons_zero, List.set_cons_succ]
          refine wpAnyH_take (i := 1) (oi := { dst := some 153, op := Op.move (Operand.tmp 3), type := 3, pos := "outright.go:104", after := #[], guard := none }) (v := ?vc1) rfl (by kernel_rfl) (by kernel_rfl) (by kernel_rfl) (fun _ _ _ h => h) (Or.inl ⟨by rfl, ?yc1⟩) (by assumption) ?rc1
          case yc1 => (intro w' hSw; (try dsimp only at hSw); go_simp; try with_reducible rfl)
          case' rc1 => simp only [Act.put, List.setIfInBounds_toArray, List.set_cons_zero, List.set_cons_succ]
          refine wpAnyH_take (i := 2) (oi := { dst := some 154, op := Op.binOp BinOp.lss 3 (Operand.tmp 152) (Operand.tmp 153) 3, type := 4, pos := "outright.go:104", after := #[{ on := 0, ground := Go.Ground.data }, { on := 1, ground := Go.Ground.data }], guard := none }) (v := ?vc2) rfl (by kernel_rfl) (by kernel_rfl) (by kernel_rfl) (fun _ _ _ h => h) (Or.inl ⟨by rfl, ?yc2⟩) (by assumption) ?rc2
          case yc2 => (intro w' hSw; (try dsimp only at hSw); go_simp; try with_reducible rfl)
          case' rc2 => simp only [Act.put, List.setIfInBounds_toArray, List.set_cons_zero, List.set_cons_succ]
          refine wpAnyH_take (i := 3) (oi := { dst := some 155, op := Op.move (Operand.tmp 154), type := 4, pos := "outright.go:104", after := #[{ on := 2, ground := Go.Ground.data }], guard := none }) (v := ?vc3) rfl (by kernel_rfl) (by kernel_rfl) (by kernel_rfl) (fun _ _ _ h => h) (Or.inl ⟨by rfl, ?yc3⟩) (by assumption) ?rc3
          case yc3 => (intro w' hSw; (try dsimp only at hSw); go_simp; try with_reducible rfl)
          case' rc3 => simp only [Act.put, List.setIfInBounds_toArray, List.set_cons_zero, List.set_cons_succ]
          refine wpAnyH_take (i := 4) (oi := { dst := some 156, op := Op.move (Operand.tmp 11), type := 48, pos := "outright.go:104", after := #[{ on := 3, ground := Go.Ground.guard }], guard := some (3, true) }) (v := ?vc4) rfl (by kernel_rfl) (by kernel_rfl) (by kernel_rfl) (fun _ _ _ h => h) (Or.inl ⟨by rfl, ?yc4⟩) (by assumption) ?rc4
          case yc4 => (intro w' hSw; (try dsimp only at hSw); go_simp; try with_reducible rfl)
          case' rc4 => simp only [Act.put, List.setIfInBounds_toArray, List.set_cons_zero, List.set_cons_succ]
          refine wpAnyH_take (i := 5) (oi := { dst := some 157, op := Op.move (Operand.tmp 22), type := 3, pos := "outright.go:104", after := #[{ on := 3, ground := Go.Ground.guard }], guard := some (3, true) }) (v := ?vc5) rfl (by kernel_rfl) (by kernel_rfl) (by kernel_rfl) (fun _ _ _ h => h) (Or.inl ⟨by rfl, ?yc5⟩) (by assumption) ?rc5
          case yc5 => (intro w' hSw; (try dsimp only at hSw); go_simp; try with_reducible rfl)
          case' rc5 => simp only [Act.put, List.setIfInBounds_toArray, List.set_cons_zero, List.set_cons_succ]
          refine wpAnyH_take (i := 6) (oi := { dst := some 158, op := Op.indexAddr 48 (Operand.tmp 156) (Operand.tmp 157), type := 0, pos := "outright.go:104", after := #[{ on := 4, ground := Go.Ground.data }, { on := 5, ground := Go.Ground.data }, { on := 3, ground := Go.Ground.guard }], guard := some (3, true) }) (v := ?vc6) rfl (by kernel_rfl) (by kernel_rfl) (by kernel_rfl) (fun _ _ _ h => h) (Or.inl ⟨by rfl, ?yc6⟩) (by assumption) ?rc6
          case yc6 => (intro w' hSw; (try dsimp only at hSw); go_simp; try with_reducible rfl)
          case' rc6 => simp only [Act.put, List.setIfInBounds_toArray, List.set_cons_zero, List.set_cons_succ]
          refine wpAnyH_take (i := 7) (oi := { dst := some 159, op := Op.load 30 (Operand.tmp 158), type := 30, pos := "outright.go:104", after := #[{ on := 6, ground := Go.Ground.data }, { on := 3, ground := Go.Ground.guard }], guard := some (3, true) }) (v := ?vc7) rfl (by kernel_rfl) (by kernel_rfl) (by kernel_rfl) (fun _ _ _ h => h) (Or.inl ⟨by rfl, ?yc7⟩) (by assumption) ?rc7
          case yc7 => (intro w' hSw; (try dsimp only at hSw); go_simp; try with_reducible rfl)
          case' rc7 => simp only [Act.put, List.setIfInBounds_toArray, List.set_cons_zero, List.set_cons_succ]
          refine wpAnyH_take (i := 8) (oi := { dst := some 160, op := Op.move (Operand.tmp 15), type := 48, pos := "outright.go:104", after := #[{ on := 3, ground := Go.Ground.guard }], guard := some (3, true) }) (v := ?vc8) rfl (by kernel_rfl) (by kernel_rfl) (by kernel_rfl) (fun _ _ _ h => h) (Or.inl ⟨by rfl, ?yc8⟩) (by assumption) ?rc8
          case yc8 => (intro w' hSw; (try dsimp only at hSw); go_simp; try with_reducible rfl)
          case' rc8 => simp only [Act.put, List.setIfInBounds_toArray, List.set_cons_zero, List.set_cons_succ]
          refine wpAnyH_take (i := 9) (oi := { dst := some 161, op := Op.move (Operand.tmp 22), type := 3, pos := "outright.go:104", after := #[{ on := 3, ground := Go.Ground.guard }], guard := some (3, true) }) (v := ?vc9) rfl (by kernel_rfl) (by kernel_rfl) (by kernel_rfl) (fun _ _ _ h => h) (Or.inl ⟨by rfl, ?yc9⟩) (by assumption) ?rc9
          case yc9 => (intro w' hSw; (try dsimp only at hSw); go_simp; try with_reducible rfl)
          case' rc9 => simp only [Act.put, List.setIfInBounds_toArray, List.set_cons_zero, List.set_cons_succ]
          refine wpAnyH_take (i := 10) (oi := { dst := some 162, op := Op.indexAddr 48 (Operand.tmp 160) (Operand.tmp 161), type := 0, pos := "outright.go:104", after := #[{ on := 8, ground := Go.Ground.data }, { on := 9, ground := Go.Ground.data }, { on := 3, ground := Go.Ground.guard }], guard := some (3, true) }) (v := ?vc10) rfl (by kernel_rfl) (by kernel_rfl) (by kernel_rfl) (fun _ _ _ h => h) (Or.inl ⟨by rfl, ?yc10⟩) (by assumption) ?rc10
          case yc10 => (intro w' hSw; (try dsimp only at hSw); go_simp; try with_reducible rfl)
          case' rc10 => simp only [Act.put, List.setIfInBounds_toArray, List.set_cons_zero, List.set_cons_succ]
          refine wpAnyH_take (i := 11) (oi := { dst := some 163, op := Op.load 30 (Operand.tmp 162), type := 30, pos := "outright.go:104", after := #[{ on := 10, ground := Go.Ground.data }, { on := 3, ground := Go.Ground.guard }], guard := some (3, true) }) (v := ?vc11) rfl (by kernel_rfl) (by kernel_rfl) (by kernel_rfl) (fun _ _ _ h => h) (Or.inl ⟨by rfl, ?yc11⟩) (by assumption) ?rc11
          case yc11 => (intro w' hSw; (try dsimp only at hSw); go_simp; try with_reducible rfl)
          case' rc11 => simp only [Act.put, List.setIfInBounds_toArray, List.set_cons_zero, List.set_cons_succ]
          refine wpAnyH_ready (rs := [12]) (by kernel_rfl) (by simp) ?_
          refine AllReadyH.cons (o := { dst := some 164, op := Op.call { callee := Callee.value (Operand.func 20), args := #[Operand.tmp 159, Operand.tmp 163], argTypes := #[30, 30] }, type := 4, pos := "outright.go:104", after := #[{ on := 7, ground := Go.Ground.data }, { on := 11, ground := Go.Ground.data }, { on := 3, ground := Go.Ground.chain }, { on := 3, ground := Go.Ground.guard }], guard := some (3, true) }) rfl (fun K hK => ?_) AllReadyH.nil
          go_simp
          refine (sameAns_any X.a Y.a X.A Y.A X.c Y.c _ (sx.out.below (SB.bel (by assumption))) (sy.out.below (SB.bel (by assumption))) cX cY).mono ?_
          rw [decide_eq_true HXY.out]
          rintro e7 w7 ⟨rfl, hb7⟩
          try go_wp2_with fail
          refine hK.out _ _ (SB.below hb7 hHeld) (fun hHeld2 => ?_)
          clear hK K hHeld
          try simp only [Act.put, List.setIfInBounds_toArray, List.set_cons_zero, List.set_cons_succ]
          refine wpAnyH_take (i := 13) (oi := { dst := some 165, op := Op.unOp UnOp.not 4 (Operand.tmp 164), type := 4, pos := "outright.go:104", after := #[{ on := 12, ground := Go.Ground.data }, { on := 3, ground := Go.Ground.guard }], guard := some (3, true) }) (v := ?vc13) rfl (by kernel_rfl) (by kernel_rfl) (by kernel_rfl) (fun _ _ _ h => h) (Or.inl ⟨by rfl, ?yc13⟩) (by assumption) ?rc13
          case yc13 => (intro w' hSw; (try dsimp only at hSw); go_simp; try with_reducible rfl)
          case' rc13 => simp only [Act.put, List.setIfInBounds_toArray, List.set_cons_zero, List.set_cons_succ]
          refine wpAnyH_take (i := 14) (oi := { dst := some 166, op := Op.move (Operand.tmp 165), type := 4, pos := "outright.go:104", after := #[{ on := 13, ground := Go.Ground.data }, { on := 12, ground := Go.Ground.chain }, { on := 3, ground := Go.Ground.guard }], guard := some (3, true) }) (v := ?vc14) rfl (by kernel_rfl) (by kernel_rfl) (by kernel_rfl) (fun _ _ _ h => h) (Or.inl ⟨by rfl, ?yc14⟩) (by assumption) ?rc14
          case yc14 => (intro w' hSw; (try dsimp only at hSw); go_simp; try with_reducible rfl)
          case' rc14 => simp only [Act.put, List.setIfInBounds_toArray, List.set_cons_zero, List.set_cons_succ]
          refine wpAnyH_take (i := 15) (oi := { dst := some 167, op := Op.move (Operand.tmp 12), type := 49, pos := "outright.go:104", after := #[{ on := 14, ground := Go.Ground.guard }], guard := some (14, false) }) (v := ?vc15) rfl (by kernel_rfl) (by kernel_rfl) (by kernel_rfl) (fun _ _ _ h => h) (Or.inl ⟨by rfl, ?yc15⟩) (by assumption) ?rc15
          case yc15 => (intro w' hSw; (try dsimp only at hSw); go_simp; try with_reducible rfl)
          case' rc15 => simp only [Act.put, List.setIfInBounds_toArray, List.set_cons_zero, List.set_cons_succ]
          refine wpAnyH_take (i := 16) (oi := { dst := some 168, op := Op.move (Operand.tmp 22), type := 3, pos := "outright.go:104", after := #[{ on := 14, ground := Go.Ground.guard }], guard := some (14, false) }) (v := ?vc16) rfl (by kernel_rfl) (by kernel_rfl) (by kernel_rfl) (fun _ _ _ h => h) (Or.inl ⟨by rfl, ?yc16⟩) (by assumption) ?rc16
          case yc16 => (intro w' hSw; (try dsimp only at hSw); go_simp; try with_reducible rfl)
          case' rc16 => simp only [Act.put, List.setIfInBounds_toArray, List.set_cons_zero, List.set_cons_succ]
          refine wpAnyH_take (i := 17) (oi := { dst := some 169, op := Op.indexAddr 49 (Operand.tmp 167) (Operand.tmp 168), type := 0, pos := "outright.go:104", after := #[{ on := 15, ground := Go.Ground.data }, { on := 16, ground := Go.Ground.data }, { on := 14, ground := Go.Ground.guard }], guard := some (14, false) }) (v := ?vc17) rfl (by kernel_rfl) (by kernel_rfl) (by kernel_rfl) (fun _ _ _ h => h) (Or.inl ⟨by rfl, ?yc17⟩) (by assumption) ?rc17
          case yc17 => (intro w' hSw; (try dsimp only at hSw); go_simp; try with_reducible rfl)
          case' rc17 => simp only [Act.put, List.setIfInBounds_toArray, List.set_cons_zero, List.set_cons_succ]
          refine wpAnyH_take (i := 18) (oi := { dst := some 170, op := Op.load 32 (Operand.tmp 169), type := 32, pos := "outright.go:104", after := #[{ on := 17, ground := Go.Ground.data }, { on := 14, ground := Go.Ground.guard }], guard := some (14, false) }) (v := ?vc18) rfl (by kernel_rfl) (by kernel_rfl) (by kernel_rfl) (fun _ _ _ h => h) (Or.inl ⟨by rfl, ?yc18⟩) (by assumption) ?rc18
          case yc18 => (intro w' hSw; (try dsimp only at hSw); go_simp; try with_reducible rfl)
          case' rc18 => simp only [Act.put, List.setIfInBounds_toArray, List.set_cons_zero, List.set_cons_succ]
          refine wpAnyH_take (i := 19) (oi := { dst := some 171, op := Op.move (Operand.tmp 16), type := 49, pos := "outright.go:104", after := #[{ on := 14, ground := Go.Ground.guard }], guard := some (14, false) }) (v := ?vc19) rfl (by kernel_rfl) (by kernel_rfl) (by kernel_rfl) (fun _ _ _ h => h) (Or.inl ⟨by rfl, ?yc19⟩) (by assumption) ?rc19
          case yc19 => (intro w' hSw; (try dsimp only at hSw); go_simp; try with_reducible rfl)
          case' rc19 => simp only [Act.put, List.setIfInBounds_toArray, List.set_cons_zero, List.set_cons_succ]
          refine wpAnyH_take (i := 20) (oi := { dst := some 172, op := Op.move (Operand.tmp 22), type := 3, pos := "outright.go:104", after := #[{ on := 14, ground := Go.Ground.guard }], guard := some (14, false) }) (v := ?vc20) rfl (by kernel_rfl) (by kernel_rfl) (by kernel_rfl) (fun _ _ _ h => h) (Or.inl ⟨by rfl, ?yc20⟩) (by assumption) ?rc20
          case yc20 => (intro w' hSw; (try dsimp only at hSw); go_simp; try with_reducible rfl)
          case' rc20 => simp only [Act.put, List.setIfInBounds_toArray, List.set_cons_zero, List.set_cons_succ]
          refine wpAnyH_take (i := 21) (oi := { dst := some 173, op := Op.indexAddr 49 (Operand.tmp 171) (Operand.tmp 172), type := 0, pos := "outright.go:104", after := #[{ on := 19, ground := Go.Ground.data }, { on := 20, ground := Go.Ground.data }, { on := 14, ground := Go.Ground.guard }], guard := some (14, false) }) (v := ?vc21) rfl (by kernel_rfl) (by kernel_rfl) (by kernel_rfl) (fun _ _ _ h => h) (Or.inl ⟨by rfl, ?yc21⟩) (by assumption) ?rc21
          case yc21 => (intro w' hSw; (try dsimp only at hSw); go_simp; try with_reducible rfl)
          case' rc21 => simp only [Act.put, List.setIfInBounds_toArray, List.set_cons_zero, List.set_cons_succ]
          refine wpAnyH_take (i := 22) (oi := { dst := some 174, op := Op.load 32 (Operand.tmp 173), type := 32, pos := "outright.go:104", after := #[{ on := 21, ground := Go.Ground.data }, { on := 14, ground := Go.Ground.guard }], guard := some (14, false) }) (v := ?vc22) rfl (by kernel_rfl) (by kernel_rfl) (by kernel_rfl) (fun _ _ _ h => h) (Or.inl ⟨by rfl, ?yc22⟩) (by assumption) ?rc22
          case yc22 => (intro w' hSw; (try dsimp only at hSw); go_simp; try with_reducible rfl)
          case' rc22 => simp only [Act.put, List.setIfInBounds_toArray, List.set_cons_zero, List.set_cons_succ]
          refine wpAnyH_take (i := 23) (oi := { dst := some 175, op := Op.binOp BinOp.neq 32 (Operand.tmp 170) (Operand.tmp 174) 32, type := 4, pos := "outright.go:104", after := #[{ on := 18, ground := Go.Ground.data }, { on := 22, ground := Go.Ground.data }, { on := 14, ground := Go.Ground.guard }], guard := some (14, false) }) (v := ?vc23) rfl (by kernel_rfl) (by kernel_rfl) (by kernel_rfl) (fun _ _ _ h => h) (Or.inl ⟨by rfl, ?yc23⟩) (by assumption) ?rc23
          case yc23 => (intro w' hSw; (try dsimp only at hSw); go_simp; try with_reducible rfl)
          case' rc23 => simp only [Act.put, List.setIfInBounds_toArray, List.set_cons_zero, List.set_cons_succ]
          refine wpAnyH_take (i := 24) (oi := { dst := some 176, op := Op.pick (Operand.tmp 166) (Operand.const (Value.bool true)) (Operand.tmp 175), type := 4, pos := "outright.go:104", after := #[{ on := 14, ground := Go.Ground.data }, { on := 23, ground := Go.Ground.data }, { on := 3, ground := Go.Ground.guard }], guard := some (3, true) }) (v := ?vc24) rfl (by kernel_rfl) (by kernel_rfl) (by kernel_rfl) (fun _ _ _ h => h) (Or.inl ⟨by rfl, ?yc24⟩) (by assumption) ?rc24
          case yc24 => (intro w' hSw; (try dsimp only at hSw); go_simp; try with_reducible rfl)
          case' rc24 => simp only [Act.put, List.setIfInBounds_toArray, List.set_cons_zero, List.set_cons_succ]
          refine wpAnyH_take (i := 25) (oi := { dst := some 177, op := Op.pick (Operand.tmp 155) (Operand.tmp 176) (Operand.const (Value.bool false)), type := 4, pos := "outright.go:104", after := #[{ on := 3, ground := Go.Ground.data }, { on := 24, ground := Go.Ground.data }], guard := none }) (v := ?vc25) rfl (by kernel_rfl) (by kernel_rfl) (by kernel_rfl) (fun _ _ _ h => h) (Or.inl ⟨by rfl, ?yc25⟩) (by assumption) ?rc25
          case yc25 => (intro w' hSw; (try dsimp only at hSw); go_simp; try with_reducible rfl)
          case' rc25 => simp only [Act.put, List.setIfInBounds_toArray, List.set_cons_zero, List.set_cons_succ]
          refine wpAnyH_take (i := 26) (oi := { dst := some 178, op := Op.move (Operand.tmp 177), type := 4, pos := "outright.go:104", after := #[{ on := 25, ground := Go.Ground.data }, { on := 14, ground := Go.Ground.chain }], guard := none }) (v := ?vc26) rfl (by kernel_rfl) (by kernel_rfl) (by kernel_rfl) (fun _ _ _ h => h) (Or.inl ⟨by rfl, ?yc26⟩) (by assumption) ?rc26
          case yc26 => (intro w' hSw; (try dsimp only at hSw); go_simp; try with_reducible rfl)
          case' rc26 => simp only [Act.put, List.setIfInBounds_toArray, List.set_cons_zero, List.set_cons_succ]
          refine wpAnyH_take (i := 27) (oi := { dst := some 179, op := Op.move (Operand.tmp 22), type := 3, pos := "outright.go:104", after := #[{ on := 26, ground := Go.Ground.guard }], guard := some (26, false) }) (v := ?vc27) rfl (by kernel_rfl) (by kernel_rfl) (by kernel_rfl) (fun _ _ _ h => h) (Or.inl ⟨by rfl, ?yc27⟩) (by assumption) ?rc27
          case yc27 => (intro w' hSw; (try dsimp only at hSw); go_simp; try with_reducible rfl)
          case' rc27 => simp only [Act.put, List.setIfInBounds_toArray, List.set_cons_zero, List.set_cons_succ]
          refine wpAnyH_take (i := 28) (oi := { dst := some 180, op := Op.move (Operand.tmp 3), type := 3, pos := "outright.go:104", after := #[{ on := 26, ground := Go.Ground.guard }], guard := some (26, false) }) (v := ?vc28) rfl (by kernel_rfl) (by kernel_rfl) (by kernel_rfl) (fun _ _ _ h => h) (Or.inl ⟨by rfl, ?yc28⟩) (by assumption) ?rc28
          case yc28 => (intro w' hSw; (try dsimp only at hSw); go_simp; try with_reducible rfl)
          case' rc28 => simp only [Act.put, List.setIfInBounds_toArray, List.set_cons_zero, List.set_cons_succ]
          refine wpAnyH_take (i := 29) (oi := { dst := some 181, op := Op.binOp BinOp.geq 3 (Operand.tmp 179) (Operand.tmp 180) 3, type := 4, pos := "outright.go:104", after := #[{ on := 27, ground := Go.Ground.data }, { on := 28, ground := Go.Ground.data }, { on := 26, ground := Go.Ground.guard }], guard := some (26, false) }) (v := ?vc29) rfl (by kernel_rfl) (by kernel_rfl) (by kernel_rfl) (fun _ _ _ h => h) (Or.inl ⟨by rfl, ?yc29⟩) (by assumption) ?rc29
          case yc29 => (intro w' hSw; (try dsimp only at hSw); go_simp; try with_reducible rfl)
          case' rc29 => simp only [Act.put, List.setIfInBounds_toArray, List.set_cons_zero, List.set_cons_succ]
          refine wpAnyH_take (i := 30) (oi := { dst := some 182, op := Op.move (Operand.tmp 181), type := 4, pos := "outright.go:104", after := #[{ on := 29, ground := Go.Ground.data }, { on := 26, ground := Go.Ground.chain }, { on := 26, ground := Go.Ground.guard }], guard := some (26, false) }) (v := ?vc30) rfl (by kernel_rfl) (by kernel_rfl) (by kernel_rfl) (fun _ _ _ h => h) (Or.inl ⟨by rfl, ?yc30⟩) (by assumption) ?rc30
          case yc30 => (intro w' hSw; (try dsimp only at hSw); go_simp; try with_reducible rfl)
          case' rc30 => simp only [Act.put, List.setIfInBounds_toArray, List.set_cons_zero, List.set_cons_succ]
          refine wpAnyH_take (i := 31) (oi := { dst := some 183, op := Op.move (Operand.tmp 11), type := 48, pos := "outright.go:104", after := #[{ on := 30, ground := Go.Ground.guard }], guard := some (30, true) }) (v := undef) rfl (by kernel_rfl) (by kernel_rfl) (by kernel_rfl) (fun _ _ _ h => h) (Or.inr ⟨by rfl, rfl⟩) (by assumption) ?_
          simp only [Act.put, List.setIfInBounds_toArray, List.set_cons_zero, List.set_cons_succ]
          refine wpAnyH_take (i := 32) (oi := { dst := some 184, op := Op.move (Operand.tmp 22), type := 3, pos := "outright.go:104", after := #[{ on := 30, ground := Go.Ground.guard }], guard := some (30, true) }) (v := undef) rfl (by kernel_rfl) (by kernel_rfl) (by kernel_rfl) (fun _ _ _ h => h) (Or.inr ⟨by rfl, rfl⟩) (by assumption) ?_
          simp only [Act.put, List.setIfInBounds_toArray, List.set_cons_zero, List.set_cons_succ]
          refine wpAnyH_take (i := 33) (oi := { dst := some 185, op := Op.indexAddr 48 (Operand.tmp 183) (Operand.tmp 184), type := 0, pos := "outright.go:104", after := #[{ on := 31, ground := Go.Ground.data }, { on := 32, ground := Go.Ground.data }, { on := 30, ground := Go.Ground.guard }], guard := some (30, true) }) (v := undef) rfl (by kernel_rfl) (by kernel_rfl) (by kernel_rfl) (fun _ _ _ h => h) (Or.inr ⟨by rfl, rfl⟩) (by assumption) ?_
          simp only [Act.put, List.setIfInBounds_toArray, List.set_cons_zero, List.set_cons_succ]
          refine wpAnyH_take (i := 34) (oi := { dst := some 186, op := Op.load 30 (Operand.tmp 185), type := 30, pos := "outright.go:104", after := #[{ on := 33, ground := Go.Ground.data }, { on := 30, ground := Go.Ground.guard }], guard := some (30, true) }) (v := undef) rfl (by kernel_rfl) (by kernel_rfl) (by kernel_rfl) (fun _ _ _ h => h) (Or.inr ⟨by rfl, rfl⟩) (by assumption) ?_
          simp only [Act.put, List.setIfInBounds_toArray, List.set_cons_zero, List.set_cons_succ]
          refine wpAnyH_take (i := 35) (oi := { dst := some 187, op := Op.move (Operand.tmp 19), type := 48, pos := "outright.go:104", after := #[{ on := 30, ground := Go.Ground.guard }], guard := some (30, true) }) (v := undef) rfl (by kernel_rfl) (by kernel_rfl) (by kernel_rfl) (fun _ _ _ h => h) (Or.inr ⟨by rfl, rfl⟩) (by assumption) ?_
          simp only [Act.put, List.setIfInBounds_toArray, List.set_cons_zero, List.set_cons_succ]
          refine wpAnyH_take (i := 36) (oi := { dst := some 188, op := Op.move (Operand.tmp 22), type := 3, pos := "outright.go:104", after := #[{ on := 30, ground := Go.Ground.guard }], guard := some (30, true) }) (v := undef) rfl (by kernel_rfl) (by kernel_rfl) (by kernel_rfl) (fun _ _ _ h => h) (Or.inr ⟨by rfl, rfl⟩) (by assumption) ?_
          simp only [Act.put, List.setIfInBounds_toArray, List.set_cons_zero, List.set_cons_succ]
          refine wpAnyH_take (i := 37) (oi := { dst := some 189, op := Op.move (Operand.tmp 3), type := 3, pos := "outright.go:104", after := #[{ on := 30, ground := Go.Ground.guard }], guard := some (30, true) }) (v := undef) rfl (by kernel_rfl) (by kernel_rfl) (by kernel_rfl) (fun _ _ _ h => h) (Or.inr ⟨by rfl, rfl⟩) (by assumption) ?_
          simp only [Act.put, List.setIfInBounds_toArray, List.set_cons_zero, List.set_cons_succ]
          refine wpAnyH_take (i := 38) (oi := { dst := some 190, op := Op.binOp BinOp.sub 3 (Operand.tmp 188) (Operand.tmp 189) 3, type := 3, pos := "outright.go:104", after := #[{ on := 36, ground := Go.Ground.data }, { on := 37, ground := Go.Ground.data }, { on := 30, ground := Go.Ground.guard }], guard := some (30, true) }) (v := undef) rfl (by kernel_rfl) (by kernel_rfl) (by kernel_rfl) (fun _ _ _ h => h) (Or.inr ⟨by rfl, rfl⟩) (by assumption) ?_
          simp only [Act.put, List.setIfInBounds_toArray, List.set_cons_zero, List.set_cons_succ]
          refine wpAnyH_take (i := 39) (oi := { dst := some 191, op := Op.indexAddr 48 (Operand.tmp 187) (Operand.tmp 190), type := 0, pos := "outright.go:104", after := #[{ on := 35, ground := Go.Ground.data }, { on := 38, ground := Go.Ground.data }, { on := 30, ground := Go.Ground.guard }], guard := some (30, true) }) (v := undef) rfl (by kernel_rfl) (by kernel_rfl) (by kernel_rfl) (fun _ _ _ h => h) (Or.inr ⟨by rfl, rfl⟩) (by assumption) ?_
          simp only [Act.put, List.setIfInBounds_toArray, List.set_cons_zero, List.set_cons_succ]
          refine wpAnyH_take (i := 40) (oi := { dst := some 192, op := Op.load 30 (Operand.tmp 191), type := 30, pos := "outright.go:104", after := #[{ on := 39, ground := Go.Ground.data }, { on := 30, ground := Go.Ground.guard }], guard := some (30, true) }) (v := undef) rfl (by kernel_rfl) (by kernel_rfl) (by kernel_rfl) (fun _ _ _ h => h) (Or.inr ⟨by rfl, rfl⟩) (by assumption) ?_
          simp only [Act.put, List.setIfInBounds_toArray, List.set_cons_zero, List.set_cons_succ]
          refine wpAnyH_take (i := 41) (oi := { dst := some 193, op := Op.call { callee := Callee.value (Operand.func 20), args := #[Operand.tmp 186, Operand.tmp 192], argTypes := #[30, 30] }, type := 4, pos := "outright.go:104", after := #[{ on := 34, ground := Go.Ground.data }, { on := 40, ground := Go.Ground.data }, { on := 30, ground := Go.Ground.chain }, { on := 30, ground := Go.Ground.guard }], guard := some (30, true) }) (v := undef) rfl (by kernel_rfl) (by kernel_rfl) (by kernel_rfl) (fun _ _ _ h => h) (Or.inr ⟨by rfl, rfl⟩) (by assumption) ?_
          simp only [Act.put, List.setIfInBounds_toArray, List.set_cons_zero, List.set_cons_succ]
          refine wpAnyH_take (i := 42) (oi := { dst := some 194, op := Op.unOp UnOp.not 4 (Operand.tmp 193), type := 4, pos := "outright.go:104", after := #[{ on := 41, ground := Go.Ground.data }, { on := 30, ground := Go.Ground.guard }], guard := some (30, true) }) (v := undef) rfl (by kernel_rfl) (by kernel_rfl) (by kernel_rfl) (fun _ _ _ h => h) (Or.inr ⟨by rfl, rfl⟩) (by assumption) ?_
          simp only [Act.put, List.setIfInBounds_toArray, List.set_cons_zero, List.set_cons_succ]
          refine wpAnyH_take (i := 43) (oi := { dst := some 195, op := Op.move (Operand.tmp 194), type := 4, pos := "outright.go:104", after := #[{ on := 42, ground := Go.Ground.data }, { on := 41, ground := Go.Ground.chain }, { on := 30, ground := Go.Ground.guard }], guard := some (30, true) }) (v := undef) rfl (by kernel_rfl) (by kernel_rfl) (by kernel_rfl) (fun _ _ _ h => h) (Or.inr ⟨by rfl, rfl⟩) (by assumption) ?_
          simp only [Act.put, List.setIfInBounds_toArray, List.set_cons_zero, List.set_cons_succ]
          refine wpAnyH_take (i := 44) (oi := { dst := some 196, op := Op.move (Operand.tmp 12), type := 49, pos := "outright.go:104", after := #[{ on := 43, ground := Go.Ground.guard }], guard := some (43, false) }) (v := undef) rfl (by kernel_rfl) (by kernel_rfl) (by kernel_rfl) (fun _ _ _ h => h) (Or.inr ⟨by rfl, rfl⟩) (by assumption) ?_
          simp only [Act.put, List.setIfInBounds_toArray, List.set_cons_zero, List.set_cons_succ]
          refine wpAnyH_take (i := 45) (oi := { dst := some 197, op := Op.move (Operand.tmp 22), type := 3, pos := "outright.go:104", after := #[{ on := 43, ground := Go.Ground.guard }], guard := some (43, false) }) (v := undef) rfl (by kernel_rfl) (by kernel_rfl) (by kernel_rfl) (fun _ _ _ h => h) (Or.inr ⟨by rfl, rfl⟩) (by assumption) ?_
          simp only [Act.put, List.setIfInBounds_toArray, List.set_cons_zero, List.set_cons_succ]
          refine wpAnyH_take (i := 46) (oi := { dst := some 198, op := Op.indexAddr 49 (Operand.tmp 196) (Operand.tmp 197), type := 0, pos := "outright.go:104", after := #[{ on := 44, ground := Go.Ground.data }, { on := 45, ground := Go.Ground.data }, { on := 43, ground := Go.Ground.guard }], guard := some (43, false) }) (v := undef) rfl (by kernel_rfl) (by kernel_rfl) (by kernel_rfl) (fun _ _ _ h => h) (Or.inr ⟨by rfl, rfl⟩) (by assumption) ?_
          simp only [Act.put, List.setIfInBounds_toArray, List.set_cons_zero, List.set_cons_succ]
          refine wpAnyH_take (i := 47) (oi := { dst := some 199, op := Op.load 32 (Operand.tmp 198), type := 32, pos := "outright.go:104", after := #[{ on := 46, ground := Go.Ground.data }, { on := 43, ground := Go.Ground.guard }], guard := some (43, false) }) (v := undef) rfl (by kernel_rfl) (by kernel_rfl) (by kernel_rfl) (fun _ _ _ h => h) (Or.inr ⟨by rfl, rfl⟩) (by assumption) ?_
          simp only [Act.put, List.setIfInBounds_toArray, List.set_cons_zero, List.set_cons_succ]
          refine wpAnyH_take (i := 48) (oi := { dst := some 200, op := Op.move (Operand.tmp 20), type := 49, pos := "outright.go:104", after := #[{ on := 43, ground := Go.Ground.guard }], guard := some (43, false) }) (v := undef) rfl (by kernel_rfl) (by kernel_rfl) (by kernel_rfl) (fun _ _ _ h => h) (Or.inr ⟨by rfl, rfl⟩) (by assumption) ?_
          simp only [Act.put, List.setIfInBounds_toArray, List.set_cons_zero, List.set_cons_succ]
          refine wpAnyH_take (i := 49) (oi := { dst := some 201, op := Op.move (Operand.tmp 22), type := 3, pos := "outright.go:104", after := #[{ on := 43, ground := Go.Ground.guard }], guard := some (43, false) }) (v := undef) rfl (by kernel_rfl) (by kernel_rfl) (by kernel_rfl) (fun _ _ _ h => h) (Or.inr ⟨by rfl, rfl⟩) (by assumption) ?_
          simp only [Act.put, List.setIfInBounds_toArray, List.set_cons_zero, List.set_cons_succ]
          refine wpAnyH_take (i := 50) (oi := { dst := some 202, op := Op.move (Operand.tmp 3), type := 3, pos := "outright.go:104", after := #[{ on := 43, ground := Go.Ground.guard }], guard := some (43, false) }) (v := undef) rfl (by kernel_rfl) (by kernel_rfl) (by kernel_rfl) (fun _ _ _ h => h) (Or.inr ⟨by rfl, rfl⟩) (by assumption) ?_
          simp only [Act.put, List.setIfInBounds_toArray, List.set_cons_zero, List.set_cons_succ]
          refine wpAnyH_take (i := 51) (oi := { dst := some 203, op := Op.binOp BinOp.sub 3 (Operand.tmp 201) (Operand.tmp 202) 3, type := 3, pos := "outright.go:104", after := #[{ on := 49, ground := Go.Ground.data }, { on := 50, ground := Go.Ground.data }, { on := 43, ground := Go.Ground.guard }], guard := some (43, false) }) (v := undef) rfl (by kernel_rfl) (by kernel_rfl) (by kernel_rfl) (fun _ _ _ h => h) (Or.inr ⟨by rfl, rfl⟩) (by assumption) ?_
          simp only [Act.put, List.setIfInBounds_toArray, List.set_cons_zero, List.set_cons_succ]
          refine wpAnyH_take (i := 52) (oi := { dst := some 204, op := Op.indexAddr 49 (Operand.tmp 200) (Operand.tmp 203), type := 0, pos := "outright.go:104", after := #[{ on := 48, ground := Go.Ground.data }, { on := 51, ground := Go.Ground.data }, { on := 43, ground := Go.Ground.guard }], guard := some (43, false) }) (v := undef) rfl (by kernel_rfl) (by kernel_rfl) (by kernel_rfl) (fun _ _ _ h => h) (Or.inr ⟨by rfl, rfl⟩) (by assumption) ?_
          simp only [Act.put, List.setIfInBounds_toArray, List.set_cons_zero, List.set_cons_succ]
          refine wpAnyH_take (i := 53) (oi := { dst := some 205, op := Op.load 32 (Operand.tmp 204), type := 32, pos := "outright.go:104", after := #[{ on := 52, ground := Go.Ground.data }, { on := 43, ground := Go.Ground.guard }], guard := some (43, false) }) (v := undef) rfl (by kernel_rfl) (by kernel_rfl) (by kernel_rfl) (fun _ _ _ h => h) (Or.inr ⟨by rfl, rfl⟩) (by assumption) ?_
          simp only [Act.put, List.setIfInBounds_toArray, List.set_cons_zero, List.set_cons_succ]
          refine wpAnyH_take (i := 54) (oi := { dst := some 206, op := Op.binOp BinOp.neq 32 (Operand.tmp 199) (Operand.tmp 205) 32, type := 4, pos := "outright.go:104", after := #[{ on := 47, ground := Go.Ground.data }, { on := 53, ground := Go.Ground.data }, { on := 43, ground := Go.Ground.guard }], guard := some (43, false) }) (v := undef) rfl (by kernel_rfl) (by kernel_rfl) (by kernel_rfl) (fun _ _ _ h => h) (Or.inr ⟨by rfl, rfl⟩) (by assumption) ?_
          simp only [Act.put, List.setIfInBounds_toArray, List.set_cons_zero, List.set_cons_succ]
          refine wpAnyH_take (i := 55) (oi := { dst := some 207, op := Op.pick (Operand.tmp 195) (Operand.const (Value.bool true)) (Operand.tmp 206), type := 4, pos := "outright.go:104", after := #[{ on := 43, ground := Go.Ground.data }, { on := 54, ground := Go.Ground.data }, { on := 30, ground := Go.Ground.guard }], guard := some (30, true) }) (v := undef) rfl (by kernel_rfl) (by kernel_rfl) (by kernel_rfl) (fun _ _ _ h => h) (Or.inr ⟨by rfl, rfl⟩) (by assumption) ?_
          simp only [Act.put, List.setIfInBounds_toArray, List.set_cons_zero, List.set_cons_succ]
          refine wpAnyH_take (i := 56) (oi := { dst := some 208, op := Op.pick (Operand.tmp 182) (Operand.tmp 207) (Operand.const (Value.bool false)), type := 4, pos := "outright.go:104", after := #[{ on := 30, ground := Go.Ground.data }, { on := 55, ground := Go.Ground.data }, { on := 26, ground := Go.Ground.guard }], guard := some (26, false) }) (v := ?vc56) rfl (by kernel_rfl) (by kernel_rfl) (by kernel_rfl) (fun _ _ _ h => h) (Or.inl ⟨by rfl, ?yc56⟩) (by assumption) ?rc56
          case yc56 => (intro w' hSw; (try dsimp only at hSw); go_simp; try with_reducible rfl)
          case' rc56 => simp only [Act.put, List.setIfInBounds_toArray, List.set_cons_zero, List.set_cons_succ]
          refine wpAnyH_take (i := 57) (oi := { dst := some 209, op := Op.pick (Operand.tmp 178) (Operand.const (Value.bool true)) (Operand.tmp 208), type := 4, pos := "outright.go:104", after := #[{ on := 26, ground := Go.Ground.data }, { on := 56, ground := Go.Ground.data }], guard := none }) (v := ?vc57) rfl (by kernel_rfl) (by kernel_rfl) (by kernel_rfl) (fun _ _ _ h => h) (Or.inl ⟨by rfl, ?yc57⟩) (by assumption) ?rc57
          case yc57 => (intro w' hSw; (try dsimp only at hSw); go_simp; try with_reducible rfl)
          case' rc57 => simp only [Act.put, List.setIfInBounds_toArray, List.set_cons_zero, List.set_cons_succ]
          refine wpAnyH_done (by kernel_rfl) ?_ _
          refine NoPanic.normal ?_
          have hs := SB.bel hHeld2
          go_wp2
          go_roundw
          case rel => exact ⟨j + 1, by omega, by go_num, bext hbr hs⟩
          case measure => simp [intOf]; omega
        · omega
      · go_wp2
        go_ret
        exact ⟨rfl, bext hb06 hbr⟩
  · go_wp2_with fail
    refine (run_n most A4 R1 c4 (B.map (fun x => x.add (k * 6))) (ops.drop k) (ops.length - k) (b - k) _ (by rw [List.length_drop]) (hf4.sl) ((hO.out.drop k).below hb04) (by omega) (fun x hx => Nat.le_trans (hfew.out x (List.mem_of_mem_drop hx)) (by omega)) HC1.out).mono ?_
    rw [HR2.out]
    rintro e5 w5 ⟨A5, c5, B5, b5, C5, d5, zs, he, hf5, hz5, hzs, hc5, hb5⟩
    have l5 : zs.length = ops.length - k := by have := congrArg List.length hzs; rw [List.length_map, runA_length, List.length_map, List.length_drop] at this; exact this
    have l5' : (runE most R1 ((ops.drop k).map OpM.o)).length = ops.length - k := by rw [runE_length, List.length_map, List.length_drop]
    rw [l5, l5'] at he
    subst he
    have hb05 := bext hb04 hb5
    have hq1 : (((ops.length - k : Nat) : Int) != (ops.length : Int) - (k : Int)) = false := by simp; omega
    have hzs := Lib.hid hzs
    have hc5 := Lib.hid hc5
    have hz5 := Lib.hid hz5
    have L5 := Lib.hid l5
    have L5' := Lib.hid l5'
    clear l5 l5'
    go_wp2_with fail
    refine (samePairs_any A3 A5 R R c3 c5 _ (hf3.sl.below (bext hb4 hb5)) hf5.sl (by omega) (by omega)).mono ?_
    rw [decide_eq_true rfl]
    rintro e6 w6 ⟨rfl, hb6⟩
    have hb06 := bext hb05 hb6
    go_wp2_with fail
    go_loopw [22] (fun i wr => ∃ j : Nat, j ≤ ops.length ∧ i = .int .i64 j ∧ Below w6.heap.size w6 wr) (fun i _ => ops.length - (intOf i).toNat)
    case atStart => exact ⟨0, Nat.zero_le _, rfl, Below.refl _ _⟩
    case round =>
      obtain ⟨j, hj, rfl, hbr⟩ := hrel
      by_cases hlt : j < ops.length
      · have i0 : (0 : Int) ≤ (j : Int) := by omega
        have i1 : (j : Int) < (ops.length : Int) := by omega
        by_cases hjk : j < k
        · have i2 : (j : Int) < (k : Int) := by omega
          have g1 : decide ((k : Int) ≤ (j : Int)) = false := decide_eq_false (by omega)
          have g2 : decide (k ≤ j) = false := decide_eq_false (by omega)
          have g3 : ¬ k ≤ j := by omega
          obtain ⟨bx, ox, ex, lx, x0, x1, x2, x3, sx⟩ := an_at (hx3.out.below (bext hb4 (bext hb5 (bext hb6 hbr)))) j (by rw [L3.out]; exact hlt)
          obtain ⟨bw, oy, ey, ly, y0, y1, y2, y3, sy⟩ := an_at (hy4.out.below (bext hb5 (bext hb6 hbr))) j (by rw [L4.out]; exact hjk)
          obtain ⟨be, oe, ee, le, e0⟩ := (hc3.out.below (bext hb4 (bext hb5 (bext hb6 hbr)))).one j (by rw [L3'.out]; exact hlt)
          obtain ⟨bf, of, ef, lf, f0⟩ := (hc4.out.below (bext hb5 (bext hb6 hbr))).one j (by rw [L4'.out]; exact hjk)
          have hXY : (xs[j]'(by rw [L3.out]; exact hlt)).a = (ys[j]'(by rw [L4.out]; exact hjk)).a := part_left (hxs.out.trans HAs.out) hys.out j _ _
          have hEF : (runE most l (ops.map OpM.o))[j]'(by rw [L3'.out]; exact hlt) = (runE most l ((ops.take k).map OpM.o))[j]'(by rw [L4'.out]; exact hjk) := int_left HEs.out j _ _
          have bX := mem_map_a hxs.out hal.out j (by rw [L3.out]; exact hlt)
          have bY := mem_map_a hys.out hal1.out j (by rw [L4.out]; exact hjk)
          generalize (xs[j]'(by rw [L3.out]; exact hlt)) = X at *
          generalize (ys[j]'(by rw [L4.out]; exact hjk)) = Y at *
          generalize ((runE most l (ops.map OpM.o))[j]'(by rw [L3'.out]; exact hlt)) = v1 at *
          generalize ((runE most l ((ops.take k).map OpM.o))[j]'(by rw [L4'.out]; exact hjk)) = v2 at *
          subst hEF ex ey ee ef
          unfold intV at e0 f0
          have HXY := Lib.hid hXY
          have sx := Lib.hid sx
          have sy := Lib.hid sy
          clear hXY
          have cX : X.a.pairs.length ≤ 4611686018427387903 := by omega
          have cY : Y.a.pairs.length ≤ 4611686018427387903 := by omega
          go_wp2_with fail
          refine wp_region_noPanic ?_
          refine wp_region_held_drew (S := fun w' => (∀ bq jq, bq < wr.heap.size → w'.cell? ⟨bq, jq, none⟩ = wr.cell? ⟨bq, jq, none⟩) ∧ (∀ bq jq, bq < wr.heap.size → w'.frozen? ⟨bq, jq, none⟩ = wr.frozen? ⟨bq, jq, none⟩) ∧ wr.heap.size ≤ w'.heap.size ∧ Below wr.heap.size wr w') (by kernel_rfl) SB.init (fun hHeld => ?_)
          refine wpAnyH_take (i := 0) (oi := { dst := some 152, op := Op.move (Operand.tmp 22), type := 3, pos := "outright.go:104", after := #[], guard := none }) (v := ?va0) rfl (by kernel_rfl) (by kernel_rfl) (by kernel_rfl) (fun _ _ _ h => h) (Or.inl ⟨by rfl, ?ya0⟩) (by assumption) ?ra0
          case ya0 => (intro w' hSw; (try dsimp only at hSw); go_simp; try with_reducible rfl)
          case' ra0 => simp only [Act.put, List.setIfInBounds_toArray, List.set_cons_zero, List.set_cons_succ]
          refine wpAnyH_take (i := 1) (oi := { dst := some 153, op := Op.move (Operand.tmp 3), type := 3, pos := "outright.go:104", after := #[], guard := none }) (v := ?va1) rfl (by kernel_rfl) (by kernel_rfl) (by kernel_rfl) (fun _ _ _ h => h) (Or.inl ⟨by rfl, ?ya1⟩) (by assumption) ?ra1
          case ya1 => (intro w' hSw; (try dsimp only at hSw); go_simp; try with_reducible rfl)
          case' ra1 => simp only [Act.put, List.setIfInBounds_toArray, List.set_cons_zero, List.set_cons_succ]
          refine wpAnyH_take (i := 2) (oi := { dst := some 154, op := Op.binOp BinOp.lss 3 (Operand.tmp 152) (Operand.tmp 153) 3, type := 4, pos := "outright.go:104", after := #[{ on := 0, ground := Go.Ground.data }, { on := 1, ground := Go.Ground.data }], guard := none }) (v := ?va2) rfl (by kernel_rfl) (by kernel_rfl) (by kernel_rfl) (fun _ _ _ h => h) (Or.inl ⟨by rfl, ?ya2⟩) (by assumption) ?ra2
          case ya2 => (intro w' hSw; (try dsimp only at hSw); go_simp; try with_reducible rfl)
          case' ra2 => simp only [Act.put, List.setIfInBounds_toArray, List.set_cons_zero, List.set_cons_succ]
          refine wpAnyH_take (i := 3) (oi := { dst := some 155, op := Op.move (Operand.tmp 154), type := 4, pos := "outright.go:104", after := #[{ on := 2, ground := Go.Ground.data }], guard := none }) (v := ?va3) rfl (by kernel_rfl) (by kernel_rfl) (by kernel_rfl) (fun _ _ _ h => h) (Or.inl ⟨by rfl, ?ya3⟩) (by assumption) ?ra3
          case ya3 => (intro w' hSw; (try dsimp only at hSw); go_simp; try with_reducible rfl)
          case' ra3 => simp only [Act.put, List.setIfInBounds_toArray, List.set_cons_zero, List.set_cons_succ]
          refine wpAnyH_take (i := 4) (oi := { dst := some 156, op := Op.move (Operand.tmp 11), type := 48, pos := "outright.go:104", after := #[{ on := 3, ground := Go.Ground.guard }], guard := some (3, true) }) (v := ?va4) rfl (by kernel_rfl) (by kernel_rfl) (by kernel_rfl) (fun _ _ _ h => h) (Or.inl ⟨by rfl, ?ya4⟩) (by assumption) ?ra4
          case ya4 => (intro w' hSw; (try dsimp only at hSw); go_simp; try with_reducible rfl)
          case' ra4 => simp only [Act.put, List.setIfInBounds_toArray, List.set_cons_zero, List.set_cons_succ]
          refine wpAnyH_take (i := 5) (oi := { dst := some 157, op := Op.move (Operand.tmp 22), type := 3, pos := "outright.go:104", after := #[{ on := 3, ground := Go.Ground.guard }], guard := some (3, true) }) (v := ?va5) rfl (by kernel_rfl) (by kernel_rfl) (by kernel_rfl) (fun _ _ _ h => h) (Or.inl ⟨by rfl, ?ya5⟩) (by assumption) ?ra5
          case ya5 => (intro w' hSw; (try dsimp only at hSw); go_simp; try with_reducible rfl)
          case' ra5 => simp only [Act.put, List.setIfInBounds_toArray, List.set_cons_zero, List.set_cons_succ]
          refine wpAnyH_take (i := 6) (oi := { dst := some 158, op := Op.indexAddr 48 (Operand.tmp 156) (Operand.tmp 157), type := 0, pos := "outright.go:104", after := #[{ on := 4, ground := Go.Ground.data }, { on := 5, ground := Go.Ground.data }, { on := 3, ground := Go.Ground.guard }], guard := some (3, true) }) (v := ?va6) rfl (by kernel_rfl) (by kernel_rfl) (by kernel_rfl) (fun _ _ _ h => h) (Or.inl ⟨by rfl, ?ya6⟩) (by assumption) ?ra6
          case ya6 => (intro w' hSw; (try dsimp only at hSw); go_simp; try with_reducible rfl)
          case' ra6 => simp only [Act.put, List.setIfInBounds_toArray, List.set_cons_zero, List.set_cons_succ]
          refine wpAnyH_take (i := 7) (oi := { dst := some 159, op := Op.load 30 (Operand.tmp 158), type := 30, pos := "outright.go:104", after := #[{ on := 6, ground := Go.Ground.data }, { on := 3, ground := Go.Ground.guard }], guard := some (3, true) }) (v := ?va7) rfl (by kernel_rfl) (by kernel_rfl) (by kernel_rfl) (fun _ _ _ h => h) (Or.inl ⟨by rfl, ?ya7⟩) (by assumption) ?ra7
          case ya7 => (intro w' hSw; (try dsimp only at hSw); go_simp; try with_reducible rfl)
          case' ra7 => simp only [Act.put, List.setIfInBounds_toArray, List.set_cons_zero, List.set_cons_succ]
          refine wpAnyH_take (i := 8) (oi := { dst := some 160, op := Op.move (Operand.tmp 15), type := 48, pos := "outright.go:104", after := #[{ on := 3, ground := Go.Ground.guard }], guard := some (3, true) }) (v := ?va8) rfl (by kernel_rfl) (by kernel_rfl) (by kernel_rfl) (fun _ _ _ h => h) (Or.inl ⟨by rfl, ?ya8⟩) (by assumption) ?ra8
          case ya8 => (intro w' hSw; (try dsimp only at hSw); go_simp; try with_reducible rfl)
          case' ra8 => simp only [Act.put, List.setIfInBounds_toArray, List.set_cons_zero, List.set_cons_succ]
          refine wpAnyH_take (i := 9) (oi := { dst := some 161, op := Op.move (Operand.tmp 22), type := 3, pos := "outright.go:104", after := #[{ on := 3, ground := Go.Ground.guard }], guard := some (3, true) }) (v := ?va9) rfl (by kernel_rfl) (by kernel_rfl) (by kernel_rfl) (fun _ _ _ h => h) (Or.inl ⟨by rfl, ?ya9⟩) (by assumption) ?ra9
          case ya9 => (intro w' hSw; (try dsimp only at hSw); go_simp; try with_reducible rfl)
          case' ra9 => simp only [Act.put, List.setIfInBounds_toArray, List.set_cons_zero, List.set_cons_succ]
          refine wpAnyH_take (i := 10) (oi := { dst := some 162, op := Op.indexAddr 48 (Operand.tmp 160) (Operand.tmp 161), type := 0, pos := "outright.go:104", after := #[{ on := 8, ground := Go.Ground.data }, { on := 9, ground := Go.Ground.data }, { on := 3, ground := Go.Ground.guard }], guard := some (3, true) }) (v := ?va10) rfl (by kernel_rfl) (by kernel_rfl) (by kernel_rfl) (fun _ _ _ h => h) (Or.inl ⟨by rfl, ?ya10⟩) (by assumption) ?ra10
          case ya10 => (intro w' hSw; (try dsimp only at hSw); go_simp; try with_reducible rfl)
          case' ra10 => simp only [Act.put, List.setIfInBounds_toArray, List.set_cons_zero, List.set_cons_succ]
          refine wpAnyH_take (i := 11) (oi := { dst := some 163, op := Op.load 30 (Operand.tmp 162), type := 30, pos := "outright.go:104", after := #[{ on := 10, ground := Go.Ground.data }, { on := 3, ground := Go.Ground.guard }], guard := some (3, true) }) (v := ?va11) rfl (by kernel_rfl) (by kernel_rfl) (by kernel_rfl) (fun _ _ _ h => h) (Or.inl ⟨by rfl, ?ya11⟩) (by assumption) ?ra11
          case ya11 => (intro w' hSw; (try dsimp only at hSw); go_simp; try with_reducible rfl)
          case' ra11 => simp only [Act.put, List.setIfInBounds_toArray, List.set_cons_zero, List.set_cons_succ]
          refine wpAnyH_ready (rs := [12]) (by kernel_rfl) (by simp) ?_
          refine AllReadyH.cons (o := { dst := some 164, op := Op.call { callee := Callee.value (Operand.func 20), args := #[Operand.tmp 159, Operand.tmp 163], argTypes := #[30, 30] }, type := 4, pos := "outright.go:104", after := #[{ on := 7, ground := Go.Ground.data }, { on := 11, ground := Go.Ground.data }, { on := 3, ground := Go.Ground.chain }, { on := 3, ground := Go.Ground.guard }], guard := some (3, true) }) rfl (fun K hK => ?_) AllReadyH.nil
          go_simp
          refine (sameAns_any X.a Y.a X.A Y.A X.c Y.c _ (sx.out.below (SB.bel (by assumption))) (sy.out.below (SB.bel (by assumption))) cX cY).mono ?_
          rw [decide_eq_true HXY.out]
          rintro e7 w7 ⟨rfl, hb7⟩
          try go_wp2_with fail
          refine hK.out _ _ (SB.below hb7 hHeld) (fun hHeld2 => ?_)
          clear hK K hHeld
          try simp only [Act.put, List.setIfInBounds_toArray, List.set_cons_zero, List.set_cons_succ]
          refine wpAnyH_take (i := 13) (oi := { dst := some 165, op := Op.unOp UnOp.not 4 (Operand.tmp 164), type := 4, pos := "outright.go:104", after := #[{ on := 12, ground := Go.Ground.data }, { on := 3, ground := Go.Ground.guard }], guard := some (3, true) }) (v := ?va13) rfl (by kernel_rfl) (by kernel_rfl) (by kernel_rfl) (fun _ _ _ h => h) (Or.inl ⟨by rfl, ?ya13⟩) (by assumption) ?ra13
          case ya13 => (intro w' hSw; (try dsimp only at hSw); go_simp; try with_reducible rfl)
          case' ra13 => simp only [Act.put, List.setIfInBounds_toArray, List.set_cons_zero, List.set_cons_succ]
          refine wpAnyH_take (i := 14) (oi := { dst := some 166, op := Op.move (Operand.tmp 165), type := 4, pos := "outright.go:104", after := #[{ on := 13, ground := Go.Ground.data }, { on := 12, ground := Go.Ground.chain }, { on := 3, ground := Go.Ground.guard }], guard := some (3, true) }) (v := ?va14) rfl (by kernel_rfl) (by kernel_rfl) (by kernel_rfl) (fun _ _ _ h => h) (Or.inl ⟨by rfl, ?ya14⟩) (by assumption) ?ra14
          case ya14 => (intro w' hSw; (try dsimp only at hSw); go_simp; try with_reducible rfl)
          case' ra14 => simp only [Act.put, List.setIfInBounds_toArray, List.set_cons_zero, List.set_cons_succ]
          refine wpAnyH_take (i := 15) (oi := { dst := some 167, op := Op.move (Operand.tmp 12), type := 49, pos := "outright.go:104", after := #[{ on := 14, ground := Go.Ground.guard }], guard := some (14, false) }) (v := ?va15) rfl (by kernel_rfl) (by kernel_rfl) (by kernel_rfl) (fun _ _ _ h => h) (Or.inl ⟨by rfl, ?ya15⟩) (by assumption) ?ra15
          case ya15 => (intro w' hSw; (try dsimp only at hSw); go_simp; try with_reducible rfl)
          case' ra15 => simp only [Act.put, List.setIfInBounds_toArray, List.set_cons_zero, List.set_cons_succ]
          refine wpAnyH_take (i := 16) (oi := { dst := some 168, op := Op.move (Operand.tmp 22), type := 3, pos := "outright.go:104", after := #[{ on := 14, ground := Go.Ground.guard }], guard := some (14, false) }) (v := ?va16) rfl (by kernel_rfl) (by kernel_rfl) (by kernel_rfl) (fun _ _ _ h => h) (Or.inl ⟨by rfl, ?ya16⟩) (by assumption) ?ra16
          case ya16 => (intro w' hSw; (try dsimp only at hSw); go_simp; try with_reducible rfl)
          case' ra16 => simp only [Act.put, List.setIfInBounds_toArray, List.set_cons_zero, List.set_cons_succ]
          refine wpAnyH_take (i := 17) (oi := { dst := some 169, op := Op.indexAddr 49 (Operand.tmp 167) (Operand.tmp 168), type := 0, pos := "outright.go:104", after := #[{ on := 15, ground := Go.Ground.data }, { on := 16, ground := Go.Ground.data }, { on := 14, ground := Go.Ground.guard }], guard := some (14, false) }) (v := ?va17) rfl (by kernel_rfl) (by kernel_rfl) (by kernel_rfl) (fun _ _ _ h => h) (Or.inl ⟨by rfl, ?ya17⟩) (by assumption) ?ra17
          case ya17 => (intro w' hSw; (try dsimp only at hSw); go_simp; try with_reducible rfl)
          case' ra17 => simp only [Act.put, List.setIfInBounds_toArray, List.set_cons_zero, List.set_cons_succ]
          refine wpAnyH_take (i := 18) (oi := { dst := some 170, op := Op.load 32 (Operand.tmp 169), type := 32, pos := "outright.go:104", after := #[{ on := 17, ground := Go.Ground.data }, { on := 14, ground := Go.Ground.guard }], guard := some (14, false) }) (v := ?va18) rfl (by kernel_rfl) (by kernel_rfl) (by kernel_rfl) (fun _ _ _ h => h) (Or.inl ⟨by rfl, ?ya18⟩) (by assumption) ?ra18
          case ya18 => (intro w' hSw; (try dsimp only at hSw); go_simp; try with_reducible rfl)
          case' ra18 => simp only [Act.put, List.setIfInBounds_toArray, List.set_cons_zero, List.set_cons_succ]
          refine wpAnyH_take (i := 19) (oi := { dst := some 171, op := Op.move (Operand.tmp 16), type := 49, pos := "outright.go:104", after := #[{ on := 14, ground := Go.Ground.guard }], guard := some (14, false) }) (v := ?va19) rfl (by kernel_rfl) (by kernel_rfl) (by kernel_rfl) (fun _ _ _ h => h) (Or.inl ⟨by rfl, ?ya19⟩) (by assumption) ?ra19
          case ya19 => (intro w' hSw; (try dsimp only at hSw); go_simp; try with_reducible rfl)
          case' ra19 => simp only [Act.put, List.setIfInBounds_toArray, List.set_cons_zero, List.set_cons_succ]
          refine wpAnyH_take (i := 20) (oi := { dst := some 172, op := Op.move (Operand.tmp 22), type := 3, pos := "outright.go:104", after := #[{ on := 14, ground := Go.Ground.guard }], guard := some (14, false) }) (v := ?va20) rfl (by kernel_rfl) (by kernel_rfl) (by kernel_rfl) (fun _ _ _ h => h) (Or.inl ⟨by rfl, ?ya20⟩) (by assumption) ?ra20
          case ya20 => (intro w' hSw; (try dsimp only at hSw); go_simp; try with_reducible rfl)
          case' ra20 => simp only [Act.put, List.setIfInBounds_toArray, List.set_cons_zero, List.set_cons_succ]
          refine wpAnyH_take (i := 21) (oi := { dst := some 173, op := Op.indexAddr 49 (Operand.tmp 171) (Operand.tmp 172), type := 0, pos := "outright.go:104", after := #[{ on := 19, ground := Go.Ground.data }, { on := 20, ground := Go.Ground.data }, { on := 14, ground := Go.Ground.guard }], guard := some (14, false) }) (v := ?va21) rfl (by kernel_rfl) (by kernel_rfl) (by kernel_rfl) (fun _ _ _ h => h) (Or.inl ⟨by rfl, ?ya21⟩) (by assumption) ?ra21
          case ya21 => (intro w' hSw; (try dsimp only at hSw); go_simp; try with_reducible rfl)
          case' ra21 => simp only [Act.put, List.setIfInBounds_toArray, List.set_cons_zero, List.set_cons_succ]
          refine wpAnyH_take (i := 22) (oi := { dst := some 174, op := Op.load 32 (Operand.tmp 173), type := 32, pos := "outright.go:104", after := #[{ on := 21, ground := Go.Ground.data }, { on := 14, ground := Go.Ground.guard }], guard := some (14, false) }) (v := ?va22) rfl (by kernel_rfl) (by kernel_rfl) (by kernel_rfl) (fun _ _ _ h => h) (Or.inl ⟨by rfl, ?ya22⟩) (by assumption) ?ra22
          case ya22 => (intro w' hSw; (try dsimp only at hSw); go_simp; try with_reducible rfl)
          case' ra22 => simp only [Act.put, List.setIfInBounds_toArray, List.set_cons_zero, List.set_cons_succ]
          refine wpAnyH_take (i := 23) (oi := { dst := some 175, op := Op.binOp BinOp.neq 32 (Operand.tmp 170) (Operand.tmp 174) 32, type := 4, pos := "outright.go:104", after := #[{ on := 18, ground := Go.Ground.data }, { on := 22, ground := Go.Ground.data }, { on := 14, ground := Go.Ground.guard }], guard := some (14, false) }) (v := ?va23) rfl (by kernel_rfl) (by kernel_rfl) (by kernel_rfl) (fun _ _ _ h => h) (Or.inl ⟨by rfl, ?ya23⟩) (by assumption) ?ra23
          case ya23 => (intro w' hSw; (try dsimp only at hSw); go_simp; try with_reducible rfl)
          case' ra23 => simp only [Act.put, List.setIfInBounds_toArray, List.set_cons_zero, List.set_cons_succ]
          refine wpAnyH_take (i := 24) (oi := { dst := some 176, op := Op.pick (Operand.tmp 166) (Operand.const (Value.bool true)) (Operand.tmp 175), type := 4, pos := "outright.go:104", after := #[{ on := 14, ground := Go.Ground.data }, { on := 23, ground := Go.Ground.data }, { on := 3, ground := Go.Ground.guard }], guard := some (3, true) }) (v := ?va24) rfl (by kernel_rfl) (by kernel_rfl) (by kernel_rfl) (fun _ _ _ h => h) (Or.inl ⟨by rfl, ?ya24⟩) (by assumption) ?ra24
          case ya24 => (intro w' hSw; (try dsimp only at hSw); go_simp; try with_reducible rfl)
          case' ra24 => simp only [Act.put, List.setIfInBounds_toArray, List.set_cons_zero, List.set_cons_succ]
          refine wpAnyH_take (i := 25) (oi := { dst := some 177, op := Op.pick (Operand.tmp 155) (Operand.tmp 176) (Operand.const (Value.bool false)), type := 4, pos := "outright.go:104", after := #[{ on := 3, ground := Go.Ground.data }, { on := 24, ground := Go.Ground.data }], guard := none }) (v := ?va25) rfl (by kernel_rfl) (by kernel_rfl) (by kernel_rfl) (fun _ _ _ h => h) (Or.inl ⟨by rfl, ?ya25⟩) (by assumption) ?ra25
          case ya25 => (intro w' hSw; (try dsimp only at hSw); go_simp; try with_reducible rfl)
          case' ra25 => simp only [Act.put, List.setIfInBounds_toArray, List.set_cons_zero, List.set_cons_succ]
          refine wpAnyH_take (i := 26) (oi := { dst := some 178, op := Op.move (Operand.tmp 177), type := 4, pos := "outright.go:104", after := #[{ on := 25, ground := Go.Ground.data }, { on := 14, ground := Go.Ground.chain }], guard := none }) (v := ?va26) rfl (by kernel_rfl) (by kernel_rfl) (by kernel_rfl) (fun _ _ _ h => h) (Or.inl ⟨by rfl, ?ya26⟩) (by assumption) ?ra26
          case ya26 => (intro w' hSw; (try dsimp only at hSw); go_simp; try with_reducible rfl)
          case' ra26 => simp only [Act.put, List.setIfInBounds_toArray, List.set_cons_zero, List.set_cons_succ]
          refine wpAnyH_take (i := 27) (oi := { dst := some 179, op := Op.move (Operand.tmp 22), type := 3, pos := "outright.go:104", after := #[{ on := 26, ground := Go.Ground.guard }], guard := some (26, false) }) (v := ?va27) rfl (by kernel_rfl) (by kernel_rfl) (by kernel_rfl) (fun _ _ _ h => h) (Or.inl ⟨by rfl, ?ya27⟩) (by assumption) ?ra27
          case ya27 => (intro w' hSw; (try dsimp only at hSw); go_simp; try with_reducible rfl)
          case' ra27 => simp only [Act.put, List.setIfInBounds_toArray, List.set_cons_zero, List.set_cons_succ]
          refine wpAnyH_take (i := 28) (oi := { dst := some 180, op := Op.move (Operand.tmp 3), type := 3, pos := "outright.go:104", after := #[{ on := 26, ground := Go.Ground.guard }], guard := some (26, false) }) (v := ?va28) rfl (by kernel_rfl) (by kernel_rfl) (by kernel_rfl) (fun _ _ _ h => h) (Or.inl ⟨by rfl, ?ya28⟩) (by assumption) ?ra28
          case ya28 => (intro w' hSw; (try dsimp only at hSw); go_simp; try with_reducible rfl)
          case' ra28 => simp only [Act.put, List.setIfInBounds_toArray, List.set_cons_zero, List.set_cons_succ]
          refine wpAnyH_take (i := 29) (oi := { dst := some 181, op := Op.binOp BinOp.geq 3 (Operand.tmp 179) (Operand.tmp 180) 3, type := 4, pos := "outright.go:104", after := #[{ on := 27, ground := Go.Ground.data }, { on := 28, ground := Go.Ground.data }, { on := 26, ground := Go.Ground.guard }], guard := some (26, false) }) (v := ?va29) rfl (by kernel_rfl) (by kernel_rfl) (by kernel_rfl) (fun _ _ _ h => h) (Or.inl ⟨by rfl, ?ya29⟩) (by assumption) ?ra29
          case ya29 => (intro w' hSw; (try dsimp only at hSw); go_simp; try with_reducible rfl)
          case' ra29 => simp only [Act.put, List.setIfInBounds_toArray, List.set_cons_zero, List.set_cons_succ]
          refine wpAnyH_take (i := 30) (oi := { dst := some 182, op := Op.move (Operand.tmp 181), type := 4, pos := "outright.go:104", after := #[{ on := 29, ground := Go.Ground.data }, { on := 26, ground := Go.Ground.chain }, { on := 26, ground := Go.Ground.guard }], guard := some (26, false) }) (v := ?va30) rfl (by kernel_rfl) (by kernel_rfl) (by kernel_rfl) (fun _ _ _ h => h) (Or.inl ⟨by rfl, ?ya30⟩) (by assumption) ?ra30
          case ya30 => (intro w' hSw; (try dsimp only at hSw); go_simp; try with_reducible rfl)
          case' ra30 => simp only [Act.put, List.setIfInBounds_toArray, List.set_cons_zero, List.set_cons_succ]
          refine wpAnyH_take (i := 31) (oi := { dst := some 183, op := Op.move (Operand.tmp 11), type := 48, pos := "outright.go:104", after := #[{ on := 30, ground := Go.Ground.guard }], guard := some (30, true) }) (v := undef) rfl (by kernel_rfl) (by kernel_rfl) (by kernel_rfl) (fun _ _ _ h => h) (Or.inr ⟨by rfl, rfl⟩) (by assumption) ?_
          simp only [Act.put, List.setIfInBounds_toArray, List.set_cons_zero, List.set_cons_succ]
          refine wpAnyH_take (i := 32) (oi := { dst := some 184, op := Op.move (Operand.tmp 22), type := 3, pos := "outright.go:104", after := #[{ on := 30, ground := Go.Ground.guard }], guard := some (30, true) }) (v := undef) rfl (by kernel_rfl) (by kernel_rfl) (by kernel_rfl) (fun _ _ _ h => h) (Or.inr ⟨by rfl, rfl⟩) (by assumption) ?_
          simp only [Act.put, List.setIfInBounds_toArray, List.set_cons_zero, List.set_cons_succ]
          refine wpAnyH_take (i := 33) (oi := { dst := some 185, op := Op.indexAddr 48 (Operand.tmp 183) (Operand.tmp 184), type := 0, pos := "outright.go:104", after := #[{ on := 31, ground := Go.Ground.data }, { on := 32, ground := Go.Ground.data }, { on := 30, ground := Go.Ground.guard }], guard := some (30, true) }) (v := undef) rfl (by kernel_rfl) (by kernel_rfl) (by kernel_rfl) (fun _ _ _ h => h) (Or.inr ⟨by rfl, rfl⟩) (by assumption) ?_
          simp only [Act.put, List.setIfInBounds_toArray, List.set_cons_zero, List.set_cons_succ]
          refine wpAnyH_take (i := 34) (oi := { dst := some 186, op := Op.load 30 (Operand.tmp 185), type := 30, pos := "outright.go:104", after := #[{ on := 33, ground := Go.Ground.data }, { on := 30, ground := Go.Ground.guard }], guard := some (30, true) }) (v := undef) rfl (by kernel_rfl) (by kernel_rfl) (by kernel_rfl) (fun _ _ _ h => h) (Or.inr ⟨by rfl, rfl⟩) (by assumption) ?_
          simp only [Act.put, List.setIfInBounds_toArray, List.set_cons_zero, List.set_cons_succ]
          refine wpAnyH_take (i := 35) (oi := { dst := some 187, op := Op.move (Operand.tmp 19), type := 48, pos := "outright.go:104", after := #[{ on := 30, ground := Go.Ground.guard }], guard := some (30, true) }) (v := undef) rfl (by kernel_rfl) (by kernel_rfl) (by kernel_rfl) (fun _ _ _ h => h) (Or.inr ⟨by rfl, rfl⟩) (by assumption) ?_
          simp only [Act.put, List.setIfInBounds_toArray, List.set_cons_zero, List.set_cons_succ]
          refine wpAnyH_take (i := 36) (oi := { dst := some 188, op := Op.move (Operand.tmp 22), type := 3, pos := "outright.go:104", after := #[{ on := 30, ground := Go.Ground.guard }], guard := some (30, true) }) (v := undef) rfl (by kernel_rfl) (by kernel_rfl) (by kernel_rfl) (fun _ _ _ h => h) (Or.inr ⟨by rfl, rfl⟩) (by assumption) ?_
          simp only [Act.put, List.setIfInBounds_toArray, List.set_cons_zero, List.set_cons_succ]
          refine wpAnyH_take (i := 37) (oi := { dst := some 189, op := Op.move (Operand.tmp 3), type := 3, pos := "outright.go:104", after := #[{ on := 30, ground := Go.Ground.guard }], guard := some (30, true) }) (v := undef) rfl (by kernel_rfl) (by kernel_rfl) (by kernel_rfl) (fun _ _ _ h => h) (Or.inr ⟨by rfl, rfl⟩) (by assumption) ?_
          simp only [Act.put, List.setIfInBounds_toArray, List.set_cons_zero, List.set_cons_succ]
          refine wpAnyH_take (i := 38) (oi := { dst := some 190, op := Op.binOp BinOp.sub 3 (Operand.tmp 188) (Operand.tmp 189) 3, type := 3, pos := "outright.go:104", after := #[{ on := 36, ground := Go.Ground.data }, { on := 37, ground := Go.Ground.data }, { on := 30, ground := Go.Ground.guard }], guard := some (30, true) }) (v := undef) rfl (by kernel_rfl) (by kernel_rfl) (by kernel_rfl) (fun _ _ _ h => h) (Or.inr ⟨by rfl, rfl⟩) (by assumption) ?_
          simp only [Act.put, List.setIfInBounds_toArray, List.set_cons_zero, List.set_cons_succ]
          refine wpAnyH_take (i := 39) (oi := { dst := some 191, op := Op.indexAddr 48 (Operand.tmp 187) (Operand.tmp 190), type := 0, pos := "outright.go:104", after := #[{ on := 35, ground := Go.Ground.data }, { on := 38, ground := Go.Ground.data }, { on := 30, ground := Go.Ground.guard }], guard := some (30, true) }) (v := undef) rfl (by kernel_rfl) (by kernel_rfl) (by kernel_rfl) (fun _ _ _ h => h) (Or.inr ⟨by rfl, rfl⟩) (by assumption) ?_
          simp only [Act.put, List.setIfInBounds_toArray, List.set_cons_zero, List.set_cons_succ]
          refine wpAnyH_take (i := 40) (oi := { dst := some 192, op := Op.load 30 (Operand.tmp 191), type := 30, pos := "outright.go:104", after := #[{ on := 39, ground := Go.Ground.data }, { on := 30, ground := Go.Ground.guard }], guard := some (30, true) }) (v := undef) rfl (by kernel_rfl) (by kernel_rfl) (by kernel_rfl) (fun _ _ _ h => h) (Or.inr ⟨by rfl, rfl⟩) (by assumption) ?_
          simp only [Act.put, List.setIfInBounds_toArray, List.set_cons_zero, List.set_cons_succ]
          refine wpAnyH_take (i := 41) (oi := { dst := some 193, op := Op.call { callee := Callee.value (Operand.func 20), args := #[Operand.tmp 186, Operand.tmp 192], argTypes := #[30, 30] }, type := 4, pos := "outright.go:104", after := #[{ on := 34, ground := Go.Ground.data }, { on := 40, ground := Go.Ground.data }, { on := 30, ground := Go.Ground.chain }, { on := 30, ground := Go.Ground.guard }], guard := some (30, true) }) (v := undef) rfl (by kernel_rfl) (by kernel_rfl) (by kernel_rfl) (fun _ _ _ h => h) (Or.inr ⟨by rfl, rfl⟩) (by assumption) ?_
          simp only [Act.put, List.setIfInBounds_toArray, List.set_cons_zero, List.set_cons_succ]
          refine wpAnyH_take (i := 42) (oi := { dst := some 194, op := Op.unOp UnOp.not 4 (Operand.tmp 193), type := 4, pos := "outright.go:104", after := #[{ on := 41, ground := Go.Ground.data }, { on := 30, ground := Go.Ground.guard }], guard := some (30, true) }) (v := undef) rfl (by kernel_rfl) (by kernel_rfl) (by kernel_rfl) (fun _ _ _ h => h) (Or.inr ⟨by rfl, rfl⟩) (by assumption) ?_
          simp only [Act.put, List.setIfInBounds_toArray, List.set_cons_zero, List.set_cons_succ]
          refine wpAnyH_take (i := 43) (oi := { dst := some 195, op := Op.move (Operand.tmp 194), type := 4, pos := "outright.go:104", after := #[{ on := 42, ground := Go.Ground.data }, { on := 41, ground := Go.Ground.chain }, { on := 30, ground := Go.Ground.guard }], guard := some (30, true) }) (v := undef) rfl (by kernel_rfl) (by kernel_rfl) (by kernel_rfl) (fun _ _ _ h => h) (Or.inr ⟨by rfl, rfl⟩) (by assumption) ?_
          simp only [Act.put, List.setIfInBounds_toArray, List.set_cons_zero, List.set_cons_succ]
          refine wpAnyH_take (i := 44) (oi := { dst := some 196, op := Op.move (Operand.tmp 12), type := 49, pos := "outright.go:104", after := #[{ on := 43, ground := Go.Ground.guard }], guard := some (43, false) }) (v := undef) rfl (by kernel_rfl) (by kernel_rfl) (by kernel_rfl) (fun _ _ _ h => h) (Or.inr ⟨by rfl, rfl⟩) (by assumption) ?_
          simp only [Act.put, List.setIfInBounds_toArray, List.set_cons_zero, List.set_cons_succ]
          refine wpAnyH_take (i := 45) (oi := { dst := some 197, op := Op.move (Operand.tmp 22), type := 3, pos := "outright.go:104", after := #[{ on := 43, ground := Go.Ground.guard }], guard := some (43, false) }) (v := undef) rfl (by kernel_rfl) (by kernel_rfl) (by kernel_rfl) (fun _ _ _ h => h) (Or.inr ⟨by rfl, rfl⟩) (by assumption) ?_
          simp only [Act.put, List.setIfInBounds_toArray, List.set_cons_zero, List.set_cons_succ]
          refine wpAnyH_take (i := 46) (oi := { dst := some 198, op := Op.indexAddr 49 (Operand.tmp 196) (Operand.tmp 197), type := 0, pos := "outright.go:104", after := #[{ on := 44, ground := Go.Ground.data }, { on := 45, ground := Go.Ground.data }, { on := 43, ground := Go.Ground.guard }], guard := some (43, false) }) (v := undef) rfl (by kernel_rfl) (by kernel_rfl) (by kernel_rfl) (fun _ _ _ h => h) (Or.inr ⟨by rfl, rfl⟩) (by assumption) ?_
          simp only [Act.put, List.setIfInBounds_toArray, List.set_cons_zero, List.set_cons_succ]
          refine wpAnyH_take (i := 47) (oi := { dst := some 199, op := Op.load 32 (Operand.tmp 198), type := 32, pos := "outright.go:104", after := #[{ on := 46, ground := Go.Ground.data }, { on := 43, ground := Go.Ground.guard }], guard := some (43, false) }) (v := undef) rfl (by kernel_rfl) (by kernel_rfl) (by kernel_rfl) (fun _ _ _ h => h) (Or.inr ⟨by rfl, rfl⟩) (by assumption) ?_
          simp only [Act.put, List.setIfInBounds_toArray, List.set_cons_zero, List.set_cons_succ]
          refine wpAnyH_take (i := 48) (oi := { dst := some 200, op := Op.move (Operand.tmp 20), type := 49, pos := "outright.go:104", after := #[{ on := 43, ground := Go.Ground.guard }], guard := some (43, false) }) (v := undef) rfl (by kernel_rfl) (by kernel_rfl) (by kernel_rfl) (fun _ _ _ h => h) (Or.inr ⟨by rfl, rfl⟩) (by assumption) ?_
          simp only [Act.put, List.setIfInBounds_toArray, List.set_cons_zero, List.set_cons_succ]
          refine wpAnyH_take (i := 49) (oi := { dst := some 201, op := Op.move (Operand.tmp 22), type := 3, pos := "outright.go:104", after := #[{ on := 43, ground := Go.Ground.guard }], guard := some (43, false) }) (v := undef) rfl (by kernel_rfl) (by kernel_rfl) (by kernel_rfl) (fun _ _ _ h => h) (Or.inr ⟨by rfl, rfl⟩) (by assumption) ?_
          simp only [Act.put, List.setIfInBounds_toArray, List.set_cons_zero, List.set_cons_succ]
          refine wpAnyH_take (i := 50) (oi := { dst := some 202, op := Op.move (Operand.tmp 3), type := 3, pos := "outright.go:104", after := #[{ on := 43, ground := Go.Ground.guard }], guard := some (43, false) }) (v := undef) rfl (by kernel_rfl) (by kernel_rfl) (by kernel_rfl) (fun _ _ _ h => h) (Or.inr ⟨by rfl, rfl⟩) (by assumption) ?_
          simp only [Act.put, List.setIfInBounds_toArray, List.set_cons_zero, List.set_cons_succ]
          refine wpAnyH_take (i := 51) (oi := { dst := some 203, op := Op.binOp BinOp.sub 3 (Operand.tmp 201) (Operand.tmp 202) 3, type := 3, pos := "outright.go:104", after := #[{ on := 49, ground := Go.Ground.data }, { on := 50, ground := Go.Ground.data }, { on := 43, ground := Go.Ground.guard }], guard := some (43, false) }) (v := undef) rfl (by kernel_rfl) (by kernel_rfl) (by kernel_rfl) (fun _ _ _ h => h) (Or.inr ⟨by rfl, rfl⟩) (by assumption) ?_
          simp only [Act.put, List.setIfInBounds_toArray, List.set_cons_zero, List.set_cons_succ]
          refine wpAnyH_take (i := 52) (oi := { dst := some 204, op := Op.indexAddr 49 (Operand.tmp 200) (Operand.tmp 203), type := 0, pos := "outright.go:104", after := #[{ on := 48, ground := Go.Ground.data }, { on := 51, ground := Go.Ground.data }, { on := 43, ground := Go.Ground.guard }], guard := some (43, false) }) (v := undef) rfl (by kernel_rfl) (by kernel_rfl) (by kernel_rfl) (fun _ _ _ h => h) (Or.inr ⟨by rfl, rfl⟩) (by assumption) ?_
          simp only [Act.put, List.setIfInBounds_toArray, List.set_cons_zero, List.set_cons_succ]
          refine wpAnyH_take (i := 53) (oi := { dst := some 205, op := Op.load 32 (Operand.tmp 204), type := 32, pos := "outright.go:104", after := #[{ on := 52, ground := Go.Ground.data }, { on := 43, ground := Go.Ground.guard }], guard := some (43, false) }) (v := undef) rfl (by kernel_rfl) (by kernel_rfl) (by kernel_rfl) (fun _ _ _ h => h) (Or.inr ⟨by rfl, rfl⟩) (by assumption) ?_
          simp only [Act.put, List.setIfInBounds_toArray, List.set_cons_zero, List.set_cons_succ]
          refine wpAnyH_take (i := 54) (oi := { dst := some 206, op := Op.binOp BinOp.neq 32 (Operand.tmp 199) (Operand.tmp 205) 32, type := 4, pos := "outright.go:104", after := #[{ on := 47, ground := Go.Ground.data }, { on := 53, ground := Go.Ground.data }, { on := 43, ground := Go.Ground.guard }], guard := some (43, false) }) (v := undef) rfl (by kernel_rfl) (by kernel_rfl) (by kernel_rfl) (fun _ _ _ h => h) (Or.inr ⟨by rfl, rfl⟩) (by assumption) ?_
          simp only [Act.put, List.setIfInBounds_toArray, List.set_cons_zero, List.set_cons_succ]
          refine wpAnyH_take (i := 55) (oi := { dst := some 207, op := Op.pick (Operand.tmp 195) (Operand.const (Value.bool true)) (Operand.tmp 206), type := 4, pos := "outright.go:104", after := #[{ on := 43, ground := Go.Ground.data }, { on := 54, ground := Go.Ground.data }, { on := 30, ground := Go.Ground.guard }], guard := some (30, true) }) (v := undef) rfl (by kernel_rfl) (by kernel_rfl) (by kernel_rfl) (fun _ _ _ h => h) (Or.inr ⟨by rfl, rfl⟩) (by assumption) ?_
          simp only [Act.put, List.setIfInBounds_toArray, List.set_cons_zero, List.set_cons_succ]
          refine wpAnyH_take (i := 56) (oi := { dst := some 208, op := Op.pick (Operand.tmp 182) (Operand.tmp 207) (Operand.const (Value.bool false)), type := 4, pos := "outright.go:104", after := #[{ on := 30, ground := Go.Ground.data }, { on := 55, ground := Go.Ground.data }, { on := 26, ground := Go.Ground.guard }], guard := some (26, false) }) (v := ?va56) rfl (by kernel_rfl) (by kernel_rfl) (by kernel_rfl) (fun _ _ _ h => h) (Or.inl ⟨by rfl, ?ya56⟩) (by assumption) ?ra56
          case ya56 => (intro w' hSw; (try dsimp only at hSw); go_simp; try with_reducible rfl)
          case' ra56 => simp only [Act.put, List.setIfInBounds_toArray, List.set_cons_zero, List.set_cons_succ]
          refine wpAnyH_take (i := 57) (oi := { dst := some 209, op := Op.pick (Operand.tmp 178) (Operand.const (Value.bool true)) (Operand.tmp 208), type := 4, pos := "outright.go:104", after := #[{ on := 26, ground := Go.Ground.data }, { on := 56, ground := Go.Ground.data }], guard := none }) (v := ?va57) rfl (by kernel_rfl) (by kernel_rfl) (by kernel_rfl) (fun _ _ _ h => h) (Or.inl ⟨by rfl, ?ya57⟩) (by assumption) ?ra57
          case ya57 => (intro w' hSw; (try dsimp only at hSw); go_simp; try with_reducible rfl)
          case' ra57 => simp only [Act.put, List.setIfInBounds_toArray, List.set_cons_zero, List.set_cons_succ]
          refine wpAnyH_done (by kernel_rfl) ?_ _
          refine NoPanic.normal ?_
          have hs := SB.bel hHeld2
          go_wp2
          go_roundw
          case rel => exact ⟨j + 1, by omega, by go_num, bext hbr hs⟩
          case measure => simp [intOf]; omega
        · obtain ⟨d, rfl⟩ : ∃ d, j = k + d := ⟨j - k, by omega⟩
          have i3 : (0 : Int) ≤ (d : Int) := by omega
          obtain ⟨bx, ox, ex, lx, x0, x1, x2, x3, sx⟩ := an_at (hx3.out.below (bext hb4 (bext hb5 (bext hb6 hbr)))) (k + d) (by rw [L3.out]; exact hlt)
          obtain ⟨bw, oy, ey, ly, y0, y1, y2, y3, sy⟩ := an_at (hz5.out.below (bext hb6 hbr)) d (by rw [L5.out]; omega)
          obtain ⟨be, oe, ee, le, e0⟩ := (hc3.out.below (bext hb4 (bext hb5 (bext hb6 hbr)))).one (k + d) (by rw [L3'.out]; exact hlt)
          obtain ⟨bf, of, ef, lf, f0⟩ := (hc5.out.below (bext hb6 hbr)).one d (by rw [L5'.out]; omega)
          have hXY : (xs[(k + d)]'(by rw [L3.out]; exact hlt)).a = (zs[d]'(by rw [L5.out]; omega)).a := part_right (hxs.out.trans HAs.out) hzs.out k d (by rw [runA_length, List.length_map, List.length_take]; omega) _ _
          have hEF : (runE most l (ops.map OpM.o))[(k + d)]'(by rw [L3'.out]; exact hlt) = (runE most R1 ((ops.drop k).map OpM.o))[d]'(by rw [L5'.out]; omega) := int_right HEs.out k d L4'.out _ _
          have bX := mem_map_a hxs.out hal.out (k + d) (by rw [L3.out]; exact hlt)
          have bY := mem_map_a hzs.out hal2.out d (by rw [L5.out]; omega)
          generalize (xs[(k + d)]'(by rw [L3.out]; exact hlt)) = X at *
          generalize (zs[d]'(by rw [L5.out]; omega)) = Y at *
          generalize ((runE most l (ops.map OpM.o))[(k + d)]'(by rw [L3'.out]; exact hlt)) = v1 at *
          generalize ((runE most R1 ((ops.drop k).map OpM.o))[d]'(by rw [L5'.out]; omega)) = v2 at *
          subst hEF ex ey ee ef
          unfold intV at e0 f0
          have HXY := Lib.hid hXY
          have sx := Lib.hid sx
          have sy := Lib.hid sy
          clear hXY
          have cX : X.a.pairs.length ≤ 4611686018427387903 := by omega
          have cY : Y.a.pairs.length ≤ 4611686018427387903 := by omega
          have n1 : decide ((k : Int) + (d : Int) < (k : Int)) = false := decide_eq_false (by omega)
          have n2 : decide (k + d < k) = false := decide_eq_false (by omega)
          have n3 : decide (((k + d : Nat) : Int) < (k : Int)) = false := decide_eq_false (by omega)
          have n4 : ¬ ((k : Int) + (d : Int) < (k : Int)) := by omega
          have n5 : ¬ (k + d < k) := by omega
          have m1 : (0 : Int) ≤ (k : Int) + (d : Int) := by omega
          have m2 : (k : Int) + (d : Int) < (ops.length : Int) := by omega
          have m3 : ((k : Int) + (d : Int)).toNat = k + d := by omega
          have m4 : IntKind.i64.wrap ((k : Int) + (d : Int) - (k : Int)) = (d : Int) := by rw [show (k : Int) + (d : Int) - (k : Int) = (d : Int) by omega]; exact IntWalk.i64_in _ (by omega)
          have i4 : (d : Int) < ((ops.length - k : Nat) : Int) := by omega
          go_wp2_with fail
          refine wp_region_noPanic ?_
          refine wp_region_held_drew (S := fun w' => (∀ bq jq, bq < wr.heap.size → w'.cell? ⟨bq, jq, none⟩ = wr.cell? ⟨bq, jq, none⟩) ∧ (∀ bq jq, bq < wr.heap.size → w'.frozen? ⟨bq, jq, none⟩ = wr.frozen? ⟨bq, jq, none⟩) ∧ wr.heap.size ≤ w'.heap.size ∧ Below wr.heap.size wr w') (by kernel_rfl) SB.init (fun hHeld => ?_)
          refine wpAnyH_take (i := 0) (oi := { dst := some 152, op := Op.move (Operand.tmp 22), type := 3, pos := "outright.go:104", after := #[], guard := none }) (v := ?vb0) rfl (by kernel_rfl) (by kernel_rfl) (by kernel_rfl) (fun _ _ _ h => h) (Or.inl ⟨by rfl, ?yb0⟩) (by assumption) ?rb0
          case yb0 => (intro w' hSw; (try dsimp only at hSw); go_simp; try with_reducible rfl)
          case' rb0 => simp only [Act.put, List.setIfInBounds_toArray, List.set_cons_zero, List.set_cons_succ]
          refine wpAnyH_take (i := 1) (oi := { dst := some 153, op := Op.move (Operand.tmp 3), type := 3, pos := "outright.go:104", after := #[], guard := none }) (v := ?vb1) rfl (by kernel_rfl) (by kernel_rfl) (by kernel_rfl) (fun _ _ _ h => h) (Or.inl ⟨by rfl, ?yb1⟩) (by assumption) ?rb1
          case yb1 => (intro w' hSw; (try dsimp only at hSw); go_simp; try with_reducible rfl)
          case' rb1 => simp only [Act.put, List.setIfInBounds_toArray, List.set_cons_zero, List.set_cons_succ]
          refine wpAnyH_take (i := 2) (oi := { dst := some 154, op := Op.binOp BinOp.lss 3 (Operand.tmp 152) (Operand.tmp 153) 3, type := 4, pos := "outright.go:104", after := #[{ on := 0, ground := Go.Ground.data }, { on := 1, ground := Go.Ground.data }], guard := none }) (v := ?vb2) rfl (by kernel_rfl) (by kernel_rfl) (by kernel_rfl) (fun _ _ _ h => h) (Or.inl ⟨by rfl, ?yb2⟩) (by assumption) ?rb2
          case yb2 => (intro w' hSw; (try dsimp only at hSw); go_simp; try with_reducible rfl)
          case' rb2 => simp only [Act.put, List.setIfInBounds_toArray, List.set_cons_zero, List.set_cons_succ]
          refine wpAnyH_take (i := 3) (oi := { dst := some 155, op := Op.move (Operand.tmp 154), type := 4, pos := "outright.go:104", after := #[{ on := 2, ground := Go.Ground.data }], guard := none }) (v := ?vb3) rfl (by kernel_rfl) (by kernel_rfl) (by kernel_rfl) (fun _ _ _ h => h) (Or.inl ⟨by rfl, ?yb3⟩) (by assumption) ?rb3
          case yb3 => (intro w' hSw; (try dsimp only at hSw); go_simp; try with_reducible rfl)
          case' rb3 => simp only [Act.put, List.setIfInBounds_toArray, List.set_cons_zero, List.set_cons_succ]
          refine wpAnyH_take (i := 4) (oi := { dst := some 156, op := Op.move (Operand.tmp 11), type := 48, pos := "outright.go:104", after := #[{ on := 3, ground := Go.Ground.guard }], guard := some (3, true) }) (v := undef) rfl (by kernel_rfl) (by kernel_rfl) (by kernel_rfl) (fun _ _ _ h => h) (Or.inr ⟨by rfl, rfl⟩) (by assumption) ?_
          simp only [Act.put, List.setIfInBounds_toArray, List.set_cons_zero, List.set_cons_succ]
          refine wpAnyH_take (i := 5) (oi := { dst := some 157, op := Op.move (Operand.tmp 22), type := 3, pos := "outright.go:104", after := #[{ on := 3, ground := Go.Ground.guard }], guard := some (3, true) }) (v := undef) rfl (by kernel_rfl) (by kernel_rfl) (by kernel_rfl) (fun _ _ _ h => h) (Or.inr ⟨by rfl, rfl⟩) (by assumption) ?_
          simp only [Act.put, List.setIfInBounds_toArray, List.set_cons_zero, List.set_cons_succ]
          refine wpAnyH_take (i := 6) (oi := { dst := some 158, op := Op.indexAddr 48 (Operand.tmp 156) (Operand.tmp 157), type := 0, pos := "outright.go:104", after := #[{ on := 4, ground := Go.Ground.data }, { on := 5, ground := Go.Ground.data }, { on := 3, ground := Go.Ground.guard }], guard := some (3, true) }) (v := undef) rfl (by kernel_rfl) (by kernel_rfl) (by kernel_rfl) (fun _ _ _ h => h) (Or.inr ⟨by rfl, rfl⟩) (by assumption) ?_
          simp only [Act.put, List.setIfInBounds_toArray, List.set_cons_zero, List.set_cons_succ]
          refine wpAnyH_take (i := 7) (oi := { dst := some 159, op := Op.load 30 (Operand.tmp 158), type := 30, pos := "outright.go:104", after := #[{ on := 6, ground := Go.Ground.data }, { on := 3, ground := Go.Ground.guard }], guard := some (3, true) }) (v := undef) rfl (by kernel_rfl) (by kernel_rfl) (by kernel_rfl) (fun _ _ _ h => h) (Or.inr ⟨by rfl, rfl⟩) (by assumption) ?_
          simp only [Act.put, List.setIfInBounds_toArray, List.set_cons_zero, List.set_cons_succ]
          refine wpAnyH_take (i := 8) (oi := { dst := some 160, op := Op.move (Operand.tmp 15), type := 48, pos := "outright.go:104", after := #[{ on := 3, ground := Go.Ground.guard }], guard := some (3, true) }) (v := undef) rfl (by kernel_rfl) (by kernel_rfl) (by kernel_rfl) (fun _ _ _ h => h) (Or.inr ⟨by rfl, rfl⟩) (by assumption) ?_
          simp only [Act.put, List.setIfInBounds_toArray, List.set_cons_zero, List.set_cons_succ]
          refine wpAnyH_take (i := 9) (oi := { dst := some 161, op := Op.move (Operand.tmp 22), type := 3, pos := "outright.go:104", after := #[{ on := 3, ground := Go.Ground.guard }], guard := some (3, true) }) (v := undef) rfl (by kernel_rfl) (by kernel_rfl) (by kernel_rfl) (fun _ _ _ h => h) (Or.inr ⟨by rfl, rfl⟩) (by assumption) ?_
          simp only [Act.put, List.setIfInBounds_toArray, List.set_cons_zero, List.set_cons_succ]
          refine wpAnyH_take (i := 10) (oi := { dst := some 162, op := Op.indexAddr 48 (Operand.tmp 160) (Operand.tmp 161), type := 0, pos := "outright.go:104", after := #[{ on := 8, ground := Go.Ground.data }, { on := 9, ground := Go.Ground.data }, { on := 3, ground := Go.Ground.guard }], guard := some (3, true) }) (v := undef) rfl (by kernel_rfl) (by kernel_rfl) (by kernel_rfl) (fun _ _ _ h => h) (Or.inr ⟨by rfl, rfl⟩) (by assumption) ?_
          simp only [Act.put, List.setIfInBounds_toArray, List.set_cons_zero, List.set_cons_succ]
          refine wpAnyH_take (i := 11) (oi := { dst := some 163, op := Op.load 30 (Operand.tmp 162), type := 30, pos := "outright.go:104", after := #[{ on := 10, ground := Go.Ground.data }, { on := 3, ground := Go.Ground.guard }], guard := some (3, true) }) (v := undef) rfl (by kernel_rfl) (by kernel_rfl) (by kernel_rfl) (fun _ _ _ h => h) (Or.inr ⟨by rfl, rfl⟩) (by assumption) ?_
          simp only [Act.put, List.setIfInBounds_toArray, List.set_cons_zero, List.set_cons_succ]
          refine wpAnyH_take (i := 12) (oi := { dst := some 164, op := Op.call { callee := Callee.value (Operand.func 20), args := #[Operand.tmp 159, Operand.tmp 163], argTypes := #[30, 30] }, type := 4, pos := "outright.go:104", after := #[{ on := 7, ground := Go.Ground.data }, { on := 11, ground := Go.Ground.data }, { on := 3, ground := Go.Ground.chain }, { on := 3, ground := Go.Ground.guard }], guard := some (3, true) }) (v := undef) rfl (by kernel_rfl) (by kernel_rfl) (by kernel_rfl) (fun _ _ _ h => h) (Or.inr ⟨by rfl, rfl⟩) (by assumption) ?_
          simp only [Act.put, List.setIfInBounds_toArray, List.set_cons_zero, List.set_cons_succ]
          refine wpAnyH_take (i := 13) (oi := { dst := some 165, op := Op.unOp UnOp.not 4 (Operand.tmp 164), type := 4, pos := "outright.go:104", after := #[{ on := 12, ground := Go.Ground.data }, { on := 3, ground := Go.Ground.guard }], guard := some (3, true) }) (v := undef) rfl (by kernel_rfl) (by kernel_rfl) (by kernel_rfl) (fun _ _ _ h => h) (Or.inr ⟨by rfl, rfl⟩) (by assumption) ?_
          simp only [Act.put, List.setIfInBounds_toArray, List.set_cons_zero, List.set_cons_succ]
          refine wpAnyH_take (i := 14) (oi := { dst := some 166, op := Op.move (Operand.tmp 165), type := 4, pos := "outright.go:104", after := #[{ on := 13, ground := Go.Ground.data }, { on := 12, ground := Go.Ground.chain }, { on := 3, ground := Go.Ground.guard }], guard := some (3, true) }) (v := undef) rfl (by kernel_rfl) (by kernel_rfl) (by kernel_rfl) (fun _ _ _ h => h) (Or.inr ⟨by rfl, rfl⟩) (by assumption) ?_
          simp only [Act.put, List.setIfInBounds_toArray, List.set_cons_zero, List.set_cons_succ]
          refine wpAnyH_take (i := 15) (oi := { dst := some 167, op := Op.move (Operand.tmp 12), type := 49, pos := "outright.go:104", after := #[{ on := 14, ground := Go.Ground.guard }], guard := some (14, false) }) (v := undef) rfl (by kernel_rfl) (by kernel_rfl) (by kernel_rfl) (fun _ _ _ h => h) (Or.inr ⟨by rfl, rfl⟩) (by assumption) ?_
          simp only [Act.put, List.setIfInBounds_toArray, List.set_cons_zero, List.set_cons_succ]
          refine wpAnyH_take (i := 16) (oi := { dst := some 168, op := Op.move (Operand.tmp 22), type := 3, pos := "outright.go:104", after := #[{ on := 14, ground := Go.Ground.guard }], guard := some (14, false) }) (v := undef) rfl (by kernel_rfl) (by kernel_rfl) (by kernel_rfl) (fun _ _ _ h => h) (Or.inr ⟨by rfl, rfl⟩) (by assumption) ?_
          simp only [Act.put, List.setIfInBounds_toArray, List.set_cons_zero, List.set_cons_succ]
          refine wpAnyH_take (i := 17) (oi := { dst := some 169, op := Op.indexAddr 49 (Operand.tmp 167) (Operand.tmp 168), type := 0, pos := "outright.go:104", after := #[{ on := 15, ground := Go.Ground.data }, { on := 16, ground := Go.Ground.data }, { on := 14, ground := Go.Ground.guard }], guard := some (14, false) }) (v := undef) rfl (by kernel_rfl) (by kernel_rfl) (by kernel_rfl) (fun _ _ _ h => h) (Or.inr ⟨by rfl, rfl⟩) (by assumption) ?_
          simp only [Act.put, List.setIfInBounds_toArray, List.set_cons_zero, List.set_cons_succ]
          refine wpAnyH_take (i := 18) (oi := { dst := some 170, op := Op.load 32 (Operand.tmp 169), type := 32, pos := "outright.go:104", after := #[{ on := 17, ground := Go.Ground.data }, { on := 14, ground := Go.Ground.guard }], guard := some (14, false) }) (v := undef) rfl (by kernel_rfl) (by kernel_rfl) (by kernel_rfl) (fun _ _ _ h => h) (Or.inr ⟨by rfl, rfl⟩) (by assumption) ?_
          simp only [Act.put, List.setIfInBounds_toArray, List.set_cons_zero, List.set_cons_succ]
          refine wpAnyH_take (i := 19) (oi := { dst := some 171, op := Op.move (Operand.tmp 16), type := 49, pos := "outright.go:104", after := #[{ on := 14, ground := Go.Ground.guard }], guard := some (14, false) }) (v := undef) rfl (by kernel_rfl) (by kernel_rfl) (by kernel_rfl) (fun _ _ _ h => h) (Or.inr ⟨by rfl, rfl⟩) (by assumption) ?_
          simp only [Act.put, List.setIfInBounds_toArray, List.set_cons_zero, List.set_cons_succ]
          refine wpAnyH_take (i := 20) (oi := { dst := some 172, op := Op.move (Operand.tmp 22), type := 3, pos := "outright.go:104", after := #[{ on := 14, ground := Go.Ground.guard }], guard := some (14, false) }) (v := undef) rfl (by kernel_rfl) (by kernel_rfl) (by kernel_rfl) (fun _ _ _ h => h) (Or.inr ⟨by rfl, rfl⟩) (by assumption) ?_
          simp only [Act.put, List.setIfInBounds_toArray, List.set_cons_zero, List.set_cons_succ]
          refine wpAnyH_take (i := 21) (oi := { dst := some 173, op := Op.indexAddr 49 (Operand.tmp 171) (Operand.tmp 172), type := 0, pos := "outright.go:104", after := #[{ on := 19, ground := Go.Ground.data }, { on := 20, ground := Go.Ground.data }, { on := 14, ground := Go.Ground.guard }], guard := some (14, false) }) (v := undef) rfl (by kernel_rfl) (by kernel_rfl) (by kernel_rfl) (fun _ _ _ h => h) (Or.inr ⟨by rfl, rfl⟩) (by assumption) ?_
          simp only [Act.put, List.setIfInBounds_toArray, List.set_cons_zero, List.set_cons_succ]
          refine wpAnyH_take (i := 22) (oi := { dst := some 174, op := Op.load 32 (Operand.tmp 173), type := 32, pos := "outright.go:104", after := #[{ on := 21, ground := Go.Ground.data }, { on := 14, ground := Go.Ground.guard }], guard := some (14, false) }) (v := undef) rfl (by kernel_rfl) (by kernel_rfl) (by kernel_rfl) (fun _ _ _ h => h) (Or.inr ⟨by rfl, rfl⟩) (by assumption) ?_
          simp only [Act.put, List.setIfInBounds_toArray, List.set_cons_zero, List.set_cons_succ]
          refine wpAnyH_take (i := 23) (oi := { dst := some 175, op := Op.binOp BinOp.neq 32 (Operand.tmp 170) (Operand.tmp 174) 32, type := 4, pos := "outright.go:104", after := #[{ on := 18, ground := Go.Ground.data }, { on := 22, ground := Go.Ground.data }, { on := 14, ground := Go.Ground.guard }], guard := some (14, false) }) (v := undef) rfl (by kernel_rfl) (by kernel_rfl) (by kernel_rfl) (fun _ _ _ h => h) (Or.inr ⟨by rfl, rfl⟩) (by assumption) ?_
          simp only [Act.put, List.setIfInBounds_toArray, List.set_cons_zero, List.set_cons_succ]
          refine wpAnyH_take (i := 24) (oi := { dst := some 176, op := Op.pick (Operand.tmp 166) (Operand.const (Value.bool true)) (Operand.tmp 175), type := 4, pos := "outright.go:104", after := #[{ on := 14, ground := Go.Ground.data }, { on := 23, ground := Go.Ground.data }, { on := 3, ground := Go.Ground.guard }], guard := some (3, true) }) (v := undef) rfl (by kernel_rfl) (by kernel_rfl) (by kernel_rfl) (fun _ _ _ h => h) (Or.inr ⟨by rfl, rfl⟩) (by assumption) ?_
          simp only [Act.put, List.setIfInBounds_toArray, List.set_cons_zero, List.set_cons_succ]
          refine wpAnyH_take (i := 25) (oi := { dst := some 177, op := Op.pick (Operand.tmp 155) (Operand.tmp 176) (Operand.const (Value.bool false)), type := 4, pos := "outright.go:104", after := #[{ on := 3, ground := Go.Ground.data }, { on := 24, ground := Go.Ground.data }], guard := none }) (v := ?vb25) rfl (by kernel_rfl) (by kernel_rfl) (by kernel_rfl) (fun _ _ _ h => h) (Or.inl ⟨by rfl, ?yb25⟩) (by assumption) ?rb25
          case yb25 => (intro w' hSw; (try dsimp only at hSw); go_simp; try with_reducible rfl)
          case' rb25 => simp only [Act.put, List.setIfInBounds_toArray, List.set_cons_zero, List.set_cons_succ]
          refine wpAnyH_take (i := 26) (oi := { dst := some 178, op := Op.move (Operand.tmp 177), type := 4, pos := "outright.go:104", after := #[{ on := 25, ground := Go.Ground.data }, { on := 14, ground := Go.Ground.chain }], guard := none }) (v := ?vb26) rfl (by kernel_rfl) (by kernel_rfl) (by kernel_rfl) (fun _ _ _ h => h) (Or.inl ⟨by rfl, ?yb26⟩) (by assumption) ?rb26
          case yb26 => (intro w' hSw; (try dsimp only at hSw); go_simp; try with_reducible rfl)
          case' rb26 => simp only [Act.put, List.setIfInBounds_toArray, List.set_cons_zero, List.set_cons_succ]
          refine wpAnyH_take (i := 27) (oi := { dst := some 179, op := Op.move (Operand.tmp 22), type := 3, pos := "outright.go:104", after := #[{ on := 26, ground := Go.Ground.guard }], guard := some (26, false) }) (v := ?vb27) rfl (by kernel_rfl) (by kernel_rfl) (by kernel_rfl) (fun _ _ _ h => h) (Or.inl ⟨by rfl, ?yb27⟩) (by assumption) ?rb27
          case yb27 => (intro w' hSw; (try dsimp only at hSw); go_simp; try with_reducible rfl)
          case' rb27 => simp only [Act.put, List.setIfInBounds_toArray, List.set_cons_zero, List.set_cons_succ]
          refine wpAnyH_take (i := 28) (oi := { dst := some 180, op := Op.move (Operand.tmp 3), type := 3, pos := "outright.go:104", after := #[{ on := 26, ground := Go.Ground.guard }], guard := some (26, false) }) (v := ?vb28) rfl (by kernel_rfl) (by kernel_rfl) (by kernel_rfl) (fun _ _ _ h => h) (Or.inl ⟨by rfl, ?yb28⟩) (by assumption) ?rb28
          case yb28 => (intro w' hSw; (try dsimp only at hSw); go_simp; try with_reducible rfl)
          case' rb28 => simp only [Act.put, List.setIfInBounds_toArray, List.set_cons_zero, List.set_cons_succ]
          refine wpAnyH_take (i := 29) (oi := { dst := some 181, op := Op.binOp BinOp.geq 3 (Operand.tmp 179) (Operand.tmp 180) 3, type := 4, pos := "outright.go:104", after := #[{ on := 27, ground := Go.Ground.data }, { on := 28, ground := Go.Ground.data }, { on := 26, ground := Go.Ground.guard }], guard := some (26, false) }) (v := ?vb29) rfl (by kernel_rfl) (by kernel_rfl) (by kernel_rfl) (fun _ _ _ h => h) (Or.inl ⟨by rfl, ?yb29⟩) (by assumption) ?rb29
          case yb29 => (intro w' hSw; (try dsimp only at hSw); go_simp; try with_reducible rfl)
          case' rb29 => simp only [Act.put, List.setIfInBounds_toArray, List.set_cons_zero, List.set_cons_succ]
          refine wpAnyH_take (i := 30) (oi := { dst := some 182, op := Op.move (Operand.tmp 181), type := 4, pos := "outright.go:104", after := #[{ on := 29, ground := Go.Ground.data }, { on := 26, ground := Go.Ground.chain }, { on := 26, ground := Go.Ground.guard }], guard := some (26, false) }) (v := ?vb30) rfl (by kernel_rfl) (by kernel_rfl) (by kernel_rfl) (fun _ _ _ h => h) (Or.inl ⟨by rfl, ?yb30⟩) (by assumption) ?rb30
          case yb30 => (intro w' hSw; (try dsimp only at hSw); go_simp; try with_reducible rfl)
          case' rb30 => simp only [Act.put, List.setIfInBounds_toArray, List.set_cons_zero, List.set_cons_succ]
          refine wpAnyH_take (i := 31) (oi := { dst := some 183, op := Op.move (Operand.tmp 11), type := 48, pos := "outright.go:104", after := #[{ on := 30, ground := Go.Ground.guard }], guard := some (30, true) }) (v := ?vb31) rfl (by kernel_rfl) (by kernel_rfl) (by kernel_rfl) (fun _ _ _ h => h) (Or.inl ⟨by rfl, ?yb31⟩) (by assumption) ?rb31
          case yb31 => (intro w' hSw; (try dsimp only at hSw); go_simp; try with_reducible rfl)
          case' rb31 => simp only [Act.put, List.setIfInBounds_toArray, List.set_cons_zero, List.set_cons_succ]
          refine wpAnyH_take (i := 32) (oi := { dst := some 184, op := Op.move (Operand.tmp 22), type := 3, pos := "outright.go:104", after := #[{ on := 30, ground := Go.Ground.guard }], guard := some (30, true) }) (v := ?vb32) rfl (by kernel_rfl) (by kernel_rfl) (by kernel_rfl) (fun _ _ _ h => h) (Or.inl ⟨by rfl, ?yb32⟩) (by assumption) ?rb32
          case yb32 => (intro w' hSw; (try dsimp only at hSw); go_simp; try with_reducible rfl)
          case' rb32 => simp only [Act.put, List.setIfInBounds_toArray, List.set_cons_zero, List.set_cons_succ]
          refine wpAnyH_take (i := 33) (oi := { dst := some 185, op := Op.indexAddr 48 (Operand.tmp 183) (Operand.tmp 184), type := 0, pos := "outright.go:104", after := #[{ on := 31, ground := Go.Ground.data }, { on := 32, ground := Go.Ground.data }, { on := 30, ground := Go.Ground.guard }], guard := some (30, true) }) (v := ?vb33) rfl (by kernel_rfl) (by kernel_rfl) (by kernel_rfl) (fun _ _ _ h => h) (Or.inl ⟨by rfl, ?yb33⟩) (by assumption) ?rb33
          case yb33 => (intro w' hSw; (try dsimp only at hSw); go_simp; try with_reducible rfl)
          case' rb33 => simp only [Act.put, List.setIfInBounds_toArray, List.set_cons_zero, List.set_cons_succ]
          refine wpAnyH_take (i := 34) (oi := { dst := some 186, op := Op.load 30 (Operand.tmp 185), type := 30, pos := "outright.go:104", after := #[{ on := 33, ground := Go.Ground.data }, { on := 30, ground := Go.Ground.guard }], guard := some (30, true) }) (v := ?vb34) rfl (by kernel_rfl) (by kernel_rfl) (by kernel_rfl) (fun _ _ _ h => h) (Or.inl ⟨by rfl, ?yb34⟩) (by assumption) ?rb34
          case yb34 => (intro w' hSw; (try dsimp only at hSw); go_simp; try with_reducible rfl)
          case' rb34 => simp only [Act.put, List.setIfInBounds_toArray, List.set_cons_zero, List.set_cons_succ]
          refine wpAnyH_take (i := 35) (oi := { dst := some 187, op := Op.move (Operand.tmp 19), type := 48, pos := "outright.go:104", after := #[{ on := 30, ground := Go.Ground.guard }], guard := some (30, true) }) (v := ?vb35) rfl (by kernel_rfl) (by kernel_rfl) (by kernel_rfl) (fun _ _ _ h => h) (Or.inl ⟨by rfl, ?yb35⟩) (by assumption) ?rb35
          case yb35 => (intro w' hSw; (try dsimp only at hSw); go_simp; try with_reducible rfl)
          case' rb35 => simp only [Act.put, List.setIfInBounds_toArray, List.set_cons_zero, List.set_cons_succ]
          refine wpAnyH_take (i := 36) (oi := { dst := some 188, op := Op.move (Operand.tmp 22), type := 3, pos := "outright.go:104", after := #[{ on := 30, ground := Go.Ground.guard }], guard := some (30, true) }) (v := ?vb36) rfl (by kernel_rfl) (by kernel_rfl) (by kernel_rfl) (fun _ _ _ h => h) (Or.inl ⟨by rfl, ?yb36⟩) (by assumption) ?rb36
          case yb36 => (intro w' hSw; (try dsimp only at hSw); go_simp; try with_reducible rfl)
          case' rb36 => simp only [Act.put, List.setIfInBounds_toArray, List.set_cons_zero, List.set_cons_succ]
          refine wpAnyH_take (i := 37) (oi := { dst := some 189, op := Op.move (Operand.tmp 3), type := 3, pos := "outright.go:104", after := #[{ on := 30, ground := Go.Ground.guard }], guard := some (30, true) }) (v := ?vb37) rfl (by kernel_rfl) (by kernel_rfl) (by kernel_rfl) (fun _ _ _ h => h) (Or.inl ⟨by rfl, ?yb37⟩) (by assumption) ?rb37
          case yb37 => (intro w' hSw; (try dsimp only at hSw); go_simp; try with_reducible rfl)
          case' rb37 => simp only [Act.put, List.setIfInBounds_toArray, List.set_cons_zero, List.set_cons_succ]
          refine wpAnyH_take (i := 38) (oi := { dst := some 190, op := Op.binOp BinOp.sub 3 (Operand.tmp 188) (Operand.tmp 189) 3, type := 3, pos := "outright.go:104", after := #[{ on := 36, ground := Go.Ground.data }, { on := 37, ground := Go.Ground.data }, { on := 30, ground := Go.Ground.guard }], guard := some (30, true) }) (v := ?vb38) rfl (by kernel_rfl) (by kernel_rfl) (by kernel_rfl) (fun _ _ _ h => h) (Or.inl ⟨by rfl, ?yb38⟩) (by assumption) ?rb38
          case yb38 => (intro w' hSw; (try dsimp only at hSw); go_simp; try with_reducible rfl)
          case' rb38 => simp only [Act.put, List.setIfInBounds_toArray, List.set_cons_zero, List.set_cons_succ]
          refine wpAnyH_take (i := 39) (oi := { dst := some 191, op := Op.indexAddr 48 (Operand.tmp 187) (Operand.tmp 190), type := 0, pos := "outright.go:104", after := #[{ on := 35, ground := Go.Ground.data }, { on := 38, ground := Go.Ground.data }, { on := 30, ground := Go.Ground.guard }], guard := some (30, true) }) (v := ?vb39) rfl (by kernel_rfl) (by kernel_rfl) (by kernel_rfl) (fun _ _ _ h => h) (Or.inl ⟨by rfl, ?yb39⟩) (by assumption) ?rb39
          case yb39 => (intro w' hSw; (try dsimp only at hSw); go_simp; try with_reducible rfl)
          case' rb39 => simp only [Act.put, List.setIfInBounds_toArray, List.set_cons_zero, List.set_cons_succ]
          refine wpAnyH_take (i := 40) (oi := { dst := some 192, op := Op.load 30 (Operand.tmp 191), type := 30, pos := "outright.go:104", after := #[{ on := 39, ground := Go.Ground.data }, { on := 30, ground := Go.Ground.guard }], guard := some (30, true) }) (v := ?vb40) rfl (by kernel_rfl) (by kernel_rfl) (by kernel_rfl) (fun _ _ _ h => h) (Or.inl ⟨by rfl, ?yb40⟩) (by assumption) ?rb40
          case yb40 => (intro w' hSw; (try dsimp only at hSw); go_simp; try with_reducible rfl)
          case' rb40 => simp only [Act.put, List.setIfInBounds_toArray, List.set_cons_zero, List.set_cons_succ]
          refine wpAnyH_ready (rs := [41]) (by kernel_rfl) (by simp) ?_
          refine AllReadyH.cons (o := { dst := some 193, op := Op.call { callee := Callee.value (Operand.func 20), args := #[Operand.tmp 186, Operand.tmp 192], argTypes := #[30, 30] }, type := 4, pos := "outright.go:104", after := #[{ on := 34, ground := Go.Ground.data }, { on := 40, ground := Go.Ground.data }, { on := 30, ground := Go.Ground.chain }, { on := 30, ground := Go.Ground.guard }], guard := some (30, true) }) rfl (fun K hK => ?_) AllReadyH.nil
          go_simp
          refine (sameAns_any X.a Y.a X.A Y.A X.c Y.c _ (sx.out.below (SB.bel (by assumption))) (sy.out.below (SB.bel (by assumption))) cX cY).mono ?_
          rw [decide_eq_true HXY.out]
          rintro e7 w7 ⟨rfl, hb7⟩
          try go_wp2_with fail
          refine hK.out _ _ (SB.below hb7 hHeld) (fun hHeld2 => ?_)
          clear hK K hHeld
          try simp only [Act.put, List.setIfInBounds_toArray, List.set_cons_zero, List.set_cons_succ]
          refine wpAnyH_take (i := 42) (oi := { dst := some 194, op := Op.unOp UnOp.not 4 (Operand.tmp 193), type := 4, pos := "outright.go:104", after := #[{ on := 41, ground := Go.Ground.data }, { on := 30, ground := Go.Ground.guard }], guard := some (30, true) }) (v := ?vb42) rfl (by kernel_rfl) (by kernel_rfl) (by kernel_rfl) (fun _ _ _ h => h) (Or.inl ⟨by rfl, ?yb42⟩) (by assumption) ?rb42
          case yb42 => (intro w' hSw; (try dsimp only at hSw); go_simp; try with_reducible rfl)
          case' rb42 => simp only [Act.put, List.setIfInBounds_toArray, List.set_cons_zero, List.set_cons_succ]
          refine wpAnyH_take (i := 43) (oi := { dst := some 195, op := Op.move (Operand.tmp 194), type := 4, pos := "outright.go:104", after := #[{ on := 42, ground := Go.Ground.data }, { on := 41, ground := Go.Ground.chain }, { on := 30, ground := Go.Ground.guard }], guard := some (30, true) }) (v := ?vb43) rfl (by kernel_rfl) (by kernel_rfl) (by kernel_rfl) (fun _ _ _ h => h) (Or.inl ⟨by rfl, ?yb43⟩) (by assumption) ?rb43
          case yb43 => (intro w' hSw; (try dsimp only at hSw); go_simp; try with_reducible rfl)
          case' rb43 => simp only [Act.put, List.setIfInBounds_toArray, List.set_cons_zero, List.set_cons_succ]
          refine wpAnyH_take (i := 44) (oi := { dst := some 196, op := Op.move (Operand.tmp 12), type := 49, pos := "outright.go:104", after := #[{ on := 43, ground := Go.Ground.guard }], guard := some (43, false) }) (v := ?vb44) rfl (by kernel_rfl) (by kernel_rfl) (by kernel_rfl) (fun _ _ _ h => h) (Or.inl ⟨by rfl, ?yb44⟩) (by assumption) ?rb44
          case yb44 => (intro w' hSw; (try dsimp only at hSw); go_simp; try with_reducible rfl)
          case' rb44 => simp only [Act.put, List.setIfInBounds_toArray, List.set_cons_zero, List.set_cons_succ]
          refine wpAnyH_take (i := 45) (oi := { dst := some 197, op := Op.move (Operand.tmp 22), type := 3, pos := "outright.go:104", after := #[{ on := 43, ground := Go.Ground.guard }], guard := some (43, false) }) (v := ?vb45) rfl (by kernel_rfl) (by kernel_rfl) (by kernel_rfl) (fun _ _ _ h => h) (Or.inl ⟨by rfl, ?yb45⟩) (by assumption) ?rb45
          case yb45 => (intro w' hSw; (try dsimp only at hSw); go_simp; try with_reducible rfl)
          case' rb45 => simp only [Act.put, List.setIfInBounds_toArray, List.set_cons_zero, List.set_cons_succ]
          refine wpAnyH_take (i := 46) (oi := { dst := some 198, op := Op.indexAddr 49 (Operand.tmp 196) (Operand.tmp 197), type := 0, pos := "outright.go:104", after := #[{ on := 44, ground := Go.Ground.data }, { on := 45, ground := Go.Ground.data }, { on := 43, ground := Go.Ground.guard }], guard := some (43, false) }) (v := ?vb46) rfl (by kernel_rfl) (by kernel_rfl) (by kernel_rfl) (fun _ _ _ h => h) (Or.inl ⟨by rfl, ?yb46⟩) (by assumption) ?rb46
          case yb46 => (intro w' hSw; (try dsimp only at hSw); go_simp; try with_reducible rfl)
          case' rb46 => simp only [Act.put, List.setIfInBounds_toArray, List.set_cons_zero, List.set_cons_succ]
          refine wpAnyH_take (i := 47) (oi := { dst := some 199, op := Op.load 32 (Operand.tmp 198), type := 32, pos := "outright.go:104", after := #[{ on := 46, ground := Go.Ground.data }, { on := 43, ground := Go.Ground.guard }], guard := some (43, false) }) (v := ?vb47) rfl (by kernel_rfl) (by kernel_rfl) (by kernel_rfl) (fun _ _ _ h => h) (Or.inl ⟨by rfl, ?yb47⟩) (by assumption) ?rb47
          case yb47 => (intro w' hSw; (try dsimp only at hSw); go_simp; try with_reducible rfl)
          case' rb47 => simp only [Act.put, List.setIfInBounds_toArray, List.set_cons_zero, List.set_cons_succ]
          refine wpAnyH_take (i := 48) (oi := { dst := some 200, op := Op.move (Operand.tmp 20), type := 49, pos := "outright.go:104", after := #[{ on := 43, ground := Go.Ground.guard }], guard := some (43, false) }) (v := ?vb48) rfl (by kernel_rfl) (by kernel_rfl) (by kernel_rfl) (fun _ _ _ h => h) (Or.inl ⟨by rfl, ?yb48⟩) (by assumption) ?rb48
          case yb48 => (intro w' hSw; (try dsimp only at hSw); go_simp; try with_reducible rfl)
          case' rb48 => simp only [Act.put, List.setIfInBounds_toArray, List.set_cons_zero, List.set_cons_succ]
          refine wpAnyH_take (i := 49) (oi := { dst := some 201, op := Op.move (Operand.tmp 22), type := 3, pos := "outright.go:104", after := #[{ on := 43, ground := Go.Ground.guard }], guard := some (43, false) }) (v := ?vb49) rfl (by kernel_rfl) (by kernel_rfl) (by kernel_rfl) (fun _ _ _ h => h) (Or.inl ⟨by rfl, ?yb49⟩) (by assumption) ?rb49
          case yb49 => (intro w' hSw; (try dsimp only at hSw); go_simp; try with_reducible rfl)
          case' rb49 => simp only [Act.put, List.setIfInBounds_toArray, List.set_cons_zero, List.set_cons_succ]
          refine wpAnyH_take (i := 50) (oi := { dst := some 202, op := Op.move (Operand.tmp 3), type := 3, pos := "outright.go:104", after := #[{ on := 43, ground := Go.Ground.guard }], guard := some (43, false) }) (v := ?vb50) rfl (by kernel_rfl) (by kernel_rfl) (by kernel_rfl) (fun _ _ _ h => h) (Or.inl ⟨by rfl, ?yb50⟩) (by assumption) ?rb50
          case yb50 => (intro w' hSw; (try dsimp only at hSw); go_simp; try with_reducible rfl)
          case' rb50 => simp only [Act.put, List.setIfInBounds_toArray, List.set_cons_zero, List.set_cons_succ]
          refine wpAnyH_take (i := 51) (oi := { dst := some 203, op := Op.binOp BinOp.sub 3 (Operand.tmp 201) (Operand.tmp 202) 3, type := 3, pos := "outright.go:104", after := #[{ on := 49, ground := Go.Ground.data }, { on := 50, ground := Go.Ground.data }, { on := 43, ground := Go.Ground.guard }], guard := some (43, false) }) (v := ?vb51) rfl (by kernel_rfl) (by kernel_rfl) (by kernel_rfl) (fun _ _ _ h => h) (Or.inl ⟨by rfl, ?yb51⟩) (by assumption) ?rb51
          case yb51 => (intro w' hSw; (try dsimp only at hSw); go_simp; try with_reducible rfl)
          case' rb51 => simp only [Act.put, List.setIfInBounds_toArray, List.set_cons_zero, List.set_cons_succ]
          refine wpAnyH_take (i := 52) (oi := { dst := some 204, op := Op.indexAddr 49 (Operand.tmp 200) (Operand.tmp 203), type := 0, pos := "outright.go:104", after := #[{ on := 48, ground := Go.Ground.data }, { on := 51, ground := Go.Ground.data }, { on := 43, ground := Go.Ground.guard }], guard := some (43, false) }) (v := ?vb52) rfl (by kernel_rfl) (by kernel_rfl) (by kernel_rfl) (fun _ _ _ h => h) (Or.inl ⟨by rfl, ?yb52⟩) (by assumption) ?rb52
          case yb52 => (intro w' hSw; (try dsimp only at hSw); go_simp; try with_reducible rfl)
          case' rb52 => simp only [Act.put, List.setIfInBounds_toArray, List.set_cons_zero, List.set_cons_succ]
          refine wpAnyH_take (i := 53) (oi := { dst := some 205, op := Op.load 32 (Operand.tmp 204), type := 32, pos := "outright.go:104", after := #[{ on := 52, ground := Go.Ground.data }, { on := 43, ground := Go.Ground.guard }], guard := some (43, false) }) (v := ?vb53) rfl (by kernel_rfl) (by kernel_rfl) (by kernel_rfl) (fun _ _ _ h => h) (Or.inl ⟨by rfl, ?yb53⟩) (by assumption) ?rb53
          case yb53 => (intro w' hSw; (try dsimp only at hSw); go_simp; try with_reducible rfl)
          case' rb53 => simp only [Act.put, List.setIfInBounds_toArray, List.set_cons_zero, List.set_cons_succ]
          refine wpAnyH_take (i := 54) (oi := { dst := some 206, op := Op.binOp BinOp.neq 32 (Operand.tmp 199) (Operand.tmp 205) 32, type := 4, pos := "outright.go:104", after := #[{ on := 47, ground := Go.Ground.data }, { on := 53, ground := Go.Ground.data }, { on := 43, ground := Go.Ground.guard }], guard := some (43, false) }) (v := ?vb54) rfl (by kernel_rfl) (by kernel_rfl) (by kernel_rfl) (fun _ _ _ h => h) (Or.inl ⟨by rfl, ?yb54⟩) (by assumption) ?rb54
          case yb54 => (intro w' hSw; (try dsimp only at hSw); go_simp; try with_reducible rfl)
          case' rb54 => simp only [Act.put, List.setIfInBounds_toArray, List.set_cons_zero, List.set_cons_succ]
          refine wpAnyH_take (i := 55) (oi := { dst := some 207, op := Op.pick (Operand.tmp 195) (Operand.const (Value.bool true)) (Operand.tmp 206), type := 4, pos := "outright.go:104", after := #[{ on := 43, ground := Go.Ground.data }, { on := 54, ground := Go.Ground.data }, { on := 30, ground := Go.Ground.guard }], guard := some (30, true) }) (v := ?vb55) rfl (by kernel_rfl) (by kernel_rfl) (by kernel_rfl) (fun _ _ _ h => h) (Or.inl ⟨by rfl, ?yb55⟩) (by assumption) ?rb55
          case yb55 => (intro w' hSw; (try dsimp only at hSw); go_simp; try with_reducible rfl)
          case' rb55 => simp only [Act.put, List.setIfInBounds_toArray, List.set_cons_zero, List.set_cons_succ]
          refine wpAnyH_take (i := 56) (oi := { dst := some 208, op := Op.pick (Operand.tmp 182) (Operand.tmp 207) (Operand.const (Value.bool false)), type := 4, pos := "outright.go:104", after := #[{ on := 30, ground := Go.Ground.data }, { on := 55, ground := Go.Ground.data }, { on := 26, ground := Go.Ground.guard }], guard := some (26, false) }) (v := ?vb56) rfl (by kernel_rfl) (by kernel_rfl) (by kernel_rfl) (fun _ _ _ h => h) (Or.inl ⟨by rfl, ?yb56⟩) (by assumption) ?rb56
          case yb56 => (intro w' hSw; (try dsimp only at hSw); go_simp; try with_reducible rfl)
          case' rb56 => simp only [Act.put, List.setIfInBounds_toArray, List.set_cons_zero, List.set_cons_succ]
          refine wpAnyH_take (i := 57) (oi := { dst := some 209, op := Op.pick (Operand.tmp 178) (Operand.const (Value.bool true)) (Operand.tmp 208), type := 4, pos := "outright.go:104", after := #[{ on := 26, ground := Go.Ground.data }, { on := 56, ground := Go.Ground.data }], guard := none }) (v := ?vb57) rfl (by kernel_rfl) (by kernel_rfl) (by kernel_rfl) (fun _ _ _ h => h) (Or.inl ⟨by rfl, ?yb57⟩) (by assumption) ?rb57
          case yb57 => (intro w' hSw; (try dsimp only at hSw); go_simp; try with_reducible rfl)
          case' rb57 => simp only [Act.put, List.setIfInBounds_toArray, List.set_cons_zero, List.set_cons_succ]
          refine wpAnyH_done (by kernel_rfl) ?_ _
          refine NoPanic.normal ?_
          have hs := SB.bel hHeld2
          go_wp2
          clear n1 n2 n3 n4 n5 m1 m2 m3 m4
          go_roundw
          case rel => exact ⟨k + d + 1, by omega, by go_num, bext hbr hs⟩
          case measure => simp [intOf]; omega
      · go_wp2
        go_ret
        exact ⟨rfl, bext hb06 hbr⟩

set_option maxRecDepth 100000 in
theorem modelParts_lifted (os : Os) (started : os.Started) (H : Type) (enc : TypeId × Value → H) :
    ReturnsInHanded {} Try.checked os 8 .any (Rows.modelPartsSpec.pre6 enc Try.prog Try.f8 Rows.modelPartsRow.domain false)
      (Rows.modelPartsSpec.post enc Try.prog Try.f8 false true false false) := by
  refine returnsInHanded_of_change (C := Try.checked) own started (by kernel_rfl) Try.func8
    (ChangeSpec.witness6 (enc := enc) (C := Try.checked) false ⟨#[], #[.int .i64 0, .slice none 0 0, .slice none 0 0, .int .i64 0], []⟩ 8 (by kernel_rfl) (by kernel_rfl) (by kernel_rfl) (by kernel_rfl)) ?_
  intro W base args ds gs before hval0 hW _ _
  have hval : ∀ (j : Nat) t v, Try.f8.params[j]? = some t → args[j]? = some v → Value.okWide Try.prog W .any base t v := hval0
  have hW' := hW
  obtain ⟨p, q, hA0, hV, rfl, hfz, hnd⟩ := hW
  have hA : DataW.TrodAll enc Try.prog W 0 (fun _ => true) true Try.f8.params.toList args.toList ds p := hA0
  rw [Try.params8] at hA hval
  obtain ⟨v0, v1, v2, v3, d0, d1, d2, d3, p0, p1, p2, p3, rfl, rfl, rfl, h0, h1, h2, h3⟩ := trodAll_four hA
  obtain ⟨rfl, rfl⟩ := trodVars_none hV
  obtain ⟨n, rfl⟩ := okWide_int Try.underlying3 (hval 0 3 v0 rfl rfl)
  obtain ⟨A, l, c, rfl, hlc, _, hs⟩ := read_prs (hval 1 24 v1 rfl rfl) h1
  obtain ⟨B, ops, b, rfl, hob, hbm, hso, _⟩ := read_ops (hval 2 46 v2 rfl rfl) h2
  obtain ⟨k, rfl⟩ := okWide_int Try.underlying3 (hval 3 3 v3 rfl rfl)
  refine (modelParts_any n A l c B ops b k W hs hlc hso hob hbm).mono fun e W' ⟨he, hb⟩ => ?_
  subst he
  exact ⟨_, rfl, law_post (tb := 4) laidOut (by intro t ht; rw [Try.params8] at ht; simp at ht; rcases ht with rfl | rfl | rfl | rfl <;> exact ⟨by kernel_rfl, of_decide_eq_true (by kernel_rfl)⟩) rfl hW' rfl rfl rfl (by kernel_rfl) Try.underlying4 hb⟩

theorem modelParts_holds : Rows.ModelPartsSaid :=
  OpenClaim.holds_of_wide 8 Try.f8 rfl rfl rfl rfl rfl rfl rfl ⟨rfl, rfl, rfl, rfl, rfl⟩ rfl rfl rfl rfl rfl (by kernel_rfl) Try.func8 (by kernel_rfl)
    (of_decide_eq_true (by kernel_rfl)) (by unfold Func.isWrapper; first | (rw [if_pos (by decide +kernel)]; kernel_rfl) | (rw [if_neg (by decide +kernel)]; exact ⟨rfl, rfl⟩))
    (fun os started H enc _ => modelParts_lifted os started H enc)
end Go.Proofs.Ytibgpghlnfcilaa
