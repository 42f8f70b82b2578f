/- Contracts: eytz.Next, eytz.Place, and what run's inOrder yields. -/
import Derived.Test.YtokomclcgegfkaaDoorLe
import Derived.Test.YtokomclcgegfkaaDoorGp
import Derived.LoopIn
namespace Go.Proofs.YtokomclcgegfkaaDoor
open Go Go.RowKit Go.Shelf
set_option maxRecDepth 100000

attribute [local go_sem] Oper.semAt_some
/-- the end of a function that has held one range over a function: any results -/
theorem postM_gen {F : Fence} {P : Program} {fn : Func} {R : Ending → World → Prop} {tmps : Array Value} {D : Nat} {w : World} {v : Value}
    (hD : w.heap[D]? = some (.deferred (some []))) (hr : (results fn tmps).run P (w.putObj D (.deferred none)) = .ok v (w.putObj D (.deferred none))) (hR : R (.returned v) (w.putObj D (.deferred none))) :
    bodyPostM F 0 P fn R .ret { tmps := tmps, defers := [{ target := .collected D, args := #[] }] } w :=
  ⟨by simp, .inl ⟨_, _, rfl, run_takeDeferred hD, ⟨_, hr, hR⟩⟩⟩

set_option maxHeartbeats 1000000 in
theorem eytzNext_some (n x y k : Nat) (w : World) (hn : n ≤ 65536) (hx : (inord n 0)[k]? = some x) (hy : (inord n 0)[k + 1]? = some y) :
    Calls Tryd.prog 106 #[.int .i64 (n : Nat), .int .i64 (x : Nat)] w fun r w' => r = .returned (.tuple #[.int .i64 (y : Nat), .int .i64 0]) ∧ w = w' := by
  have hxn := inord_lt (List.mem_of_getElem? hx)
  have H := Lib.hid (nxI_some hx hy)
  have hy1 : ((y : Int) == -1) = false := beq_eq_false_iff_ne.2 (by omega)
  clear hx hy
  go_enter Tryd.func106, Tryd.ntmps106
  go_wp2_with fail
  refine (within_ok n x _ hn hxn).mono ?_
  rintro e w1 ⟨rfl, rfl⟩
  go_wp2_with fail
  refine (next_any n x _ _ rfl rfl hn hxn _).mono ?_
  rw [H.out]
  rintro e w2 ⟨rfl, rfl⟩
  go_wp2
  refine bodyPost_ret (v := .tuple #[.int .i64 (y : Nat), .int .i64 0]) (by simp [results, Tryd.results106, go_sem]) rfl ?_
  exact ⟨rfl, rfl⟩
set_option maxHeartbeats 1000000 in
theorem eytzNext_none (n x k : Nat) (w : World) (hn : n ≤ 65536) (hx : (inord n 0)[k]? = some x) (hy : (inord n 0)[k + 1]? = none) :
    Calls Tryd.prog 106 #[.int .i64 (n : Nat), .int .i64 (x : Nat)] w fun r w' => r = .returned (.tuple #[.int .i64 0, .int .i64 6]) ∧ w = w' := by
  have hxn := inord_lt (List.mem_of_getElem? hx)
  have H := Lib.hid (nxI_none hx hy)
  clear hx hy
  go_enter Tryd.func106, Tryd.ntmps106
  go_wp2_with fail
  refine (within_ok n x _ hn hxn).mono ?_
  rintro e w1 ⟨rfl, rfl⟩
  go_wp2_with fail
  refine (next_any n x _ _ rfl rfl hn hxn _).mono ?_
  rw [H.out]
  rintro e w2 ⟨rfl, rfl⟩
  go_wp2
  refine bodyPost_ret (v := .tuple #[.int .i64 0, .int .i64 6]) (by simp [results, Tryd.results106, go_sem]) rfl ?_
  exact ⟨rfl, rfl⟩

set_option maxHeartbeats 1000000 in
theorem place_zero (w : World) :
    Calls Tryd.prog 80 #[.int .i64 0, .int .i64 0] w fun r w' => r = .returned (.tuple #[.int .i64 0, .int .i64 2]) ∧ Below w.heap.size w w' := by
  refine calls_of_in (_F := Fence.wide) ?_
  have hdd : ∀ k : Nat, (Fence.wide.depth.isSome = true → 1 ≤ k) := fun k h => by cases h
  have hwf : ∀ f, Fence.wide.fn f := fun _ => trivial
  have hdp : Fence.wide.depth = none := rfl
  have hro : Fence.wide.round = none := rfl
  have hwz : ∀ W : World, Calls Tryd.prog 67 #[.int .i64 0, .int .i64 0] W fun r w' => r = .returned (.int .i64 2) ∧ W = w' := by
    intro W
    have H0 : Hid (askedE (0 : Nat) = 0) := rfl
    go_enter Tryd.func67, Tryd.ntmps67
    go_wp2_with fail
    refine (asked_any (0 : Nat) _).mono ?_
    rw [H0.out]
    rintro e w1 ⟨rfl, rfl⟩
    go_wp2
    go_ret
    exact ⟨rfl, rfl⟩
  refine callsIn_of_wp_marks Tryd.func80 rfl (hwf _) ?_ hro
  simp only [Tryd.ntmps80, List.size_toArray, List.length_cons, List.length_nil, Nat.reduceAdd, Nat.reduceSub, Array.replicate_succ, Array.replicate_zero, List.push_toArray, List.append_toArray, List.nil_append, List.cons_append]
  gi_wp2_with ((try first | refine ⟨hdp, ?_⟩ | refine ⟨hdd _, ?_⟩); gi_at_call 67; refine (callsIn_wide.2 (hwz _)).mono ?_; rintro e w1 ⟨rfl, rfl⟩)
  refine ⟨.tuple #[.int .i64 0, .int .i64 2], by simp [results, Tryd.results80, go_sem], rfl, ?_⟩
  exact (((Below.refl _ _).alloc (Nat.le_refl _) _).alloc (by simp) _).alloc (by simp; omega) _

set_option maxHeartbeats 2000000 in
theorem place_ok (n k : Nat) (hn : n ≤ 65536) (hk : k < n) (w : World) :
    Calls Tryd.prog 80 #[.int .i64 (n : Nat), .int .i64 (k : Nat)] w fun r w' => r = .returned (.tuple #[.int .i64 ((inord n 0).getD k 0 : Nat), .int .i64 0]) ∧ Below w.heap.size w w' := by
  obtain ⟨at_, hat⟩ : ∃ at_, (inord n 0).getD k 0 = at_ := ⟨_, rfl⟩
  rw [hat]
  have HAT := Lib.hid hat
  clear hat
  refine calls_of_in (_F := Fence.wide) ?_
  have hdd : ∀ k : Nat, (Fence.wide.depth.isSome = true → 1 ≤ k) := fun k h => by cases h
  have hwf : ∀ f, Fence.wide.fn f := fun _ => trivial
  have hdp : Fence.wide.depth = none := rfl
  have hro : Fence.wide.round = none := rfl
  refine callsIn_of_wp_marks Tryd.func80 rfl (hwf _) ?_ hro
  simp only [Tryd.ntmps80, List.size_toArray, List.length_cons, List.length_nil, Nat.reduceAdd, Nat.reduceSub, Array.replicate_succ, Array.replicate_zero, List.push_toArray, List.append_toArray, List.nil_append, List.cons_append]
  gi_wp2_with (first
    | ((try first | refine ⟨hdp, ?_⟩ | refine ⟨hdd _, ?_⟩); gi_at_call 67; refine (callsIn_wide.2 (within_ok n k _ hn hk)).mono ?_; rintro e w1 ⟨rfl, rfl⟩)
    | ((try first | refine ⟨hdp, ?_⟩ | refine ⟨hdd _, ?_⟩); gi_at_call 90; refine (callsIn_wide.2 (places_any _ _)).mono ?_; rintro e w1 ⟨rfl, rfl⟩))
  obtain ⟨g, hg⟩ : ∃ g, w.heap.size = g := ⟨_, rfl⟩
  obtain ⟨W0, hW0⟩ : ∃ W0, ((((w.alloc (.cells #[.int .i64 (k : Nat)] 3)).alloc (.cells #[.int .i64 0] 3)).alloc (.cells #[.int .i64 0] 25)).alloc (.cells #[.int .i64 (n : Nat)] 3)) = W0 := ⟨_, rfl⟩
  rw [hW0]
  have b0 : Blk W0 w.heap.size 3 #[.int .i64 (k : Nat)] := by rw [← hW0]; exact (((Blk.new w _ _).alloc _).alloc _).alloc _
  have b1 : Blk W0 (w.heap.size + 1) 3 #[.int .i64 0] := by
    rw [← hW0]; have := Blk.new (w.alloc (.cells #[.int .i64 (k : Nat)] 3)) 3 #[.int .i64 0]
    rw [World.size_alloc] at this
    exact (this.alloc _).alloc _
  have b2 : Blk W0 (w.heap.size + 1 + 1) 25 #[.int .i64 0] := by
    rw [← hW0]; have := Blk.new ((w.alloc (.cells #[.int .i64 (k : Nat)] 3)).alloc (.cells #[.int .i64 0] 3)) 25 #[.int .i64 0]
    rw [World.size_alloc, World.size_alloc] at this
    exact this.alloc _
  have b3 : Blk W0 (w.heap.size + 1 + 1 + 1) 3 #[.int .i64 (n : Nat)] := by
    rw [← hW0]; have := Blk.new (((w.alloc (.cells #[.int .i64 (k : Nat)] 3)).alloc (.cells #[.int .i64 0] 3)).alloc (.cells #[.int .i64 0] 25)) 3 #[.int .i64 (n : Nat)]
    rwa [World.size_alloc, World.size_alloc, World.size_alloc] at this
  have hb0 : Below w.heap.size w W0 := by
    rw [← hW0]; exact ((((Below.refl _ w).alloc (Nat.le_refl _) _).alloc (by simp) _).alloc (by simp; omega) _).alloc (by simp; omega) _
  have hs0 : W0.heap.size = w.heap.size + 4 := by rw [← hW0]; simp
  clear hW0
  rw [hg] at b0 b1 b2 b3 hb0 hs0 ⊢
  refine wpIn_rangeS hdp hwf hro rfl (enters_of Tryd.func102 (by kernel_rfl) rfl)
    (places1_in n (g + 1 + 1 + 1) hn W0 (b3.cell 0)) (by rintro b rfl; omega) (fun _ h => h.elim) (fun _ => rfl)
    (fun j W => j ≤ k ∧ Blk W g 3 #[.int .i64 (k : Nat)] ∧ Blk W (g + 1) 3 #[.int .i64 0] ∧ Blk W (g + 1 + 1) 25 #[.int .i64 0] ∧ Below g w W)
    (fun c W => c = .ret ∧ Blk W (g + 1) 3 #[.int .i64 (at_ : Nat)] ∧ Blk W (g + 1 + 1) 25 #[.int .i64 0] ∧ Below g w W)
    (fun j => [(17, .int .i64 (j : Nat)), (18, .int .i64 ((inord n 0).getD j 0 : Nat)), (7, .int .i64 (j : Nat)), (8, .int .i64 ((inord n 0).getD j 0 : Nat))])
    ?stab ?stabx ⟨Nat.zero_le _, b0, b1, b2, hb0⟩ ?assign ?body ?done ?stop
  case stab =>
    rintro j A B ⟨hj, hB0, hB1, hB2, hbl⟩ hm
    exact ⟨hj, hB0.mod hm (by simp; omega), hB1.mod hm (by simp; omega), hB2.mod hm (by simp; omega), hbl.trans (hm.below (by have := hB0.lt; omega) (by rintro k (h | h | h) <;> first | exact h.elim | omega))⟩
  case stabx =>
    rintro j A B ⟨hj, hB1, hB2, hbl⟩ hm
    exact ⟨hj, hB1.mod hm (by simp; omega), hB2.mod hm (by simp; omega), hbl.trans (hm.below (by have := hB1.lt; omega) (by rintro k (h | h | h) <;> first | exact h.elim | omega))⟩
  case assign =>
    intro l j hj A C hC
    simp only [placesX]
    gi_wp2
    exact hC
  case body =>
    rintro l j hj A ⟨hjk, hB0, hB1, hB2, hbl⟩ hsA
    have c0 : A.cell? ⟨g, 0, none⟩ = some (.int .i64 (k : Nat)) := hB0.cell 0
    simp only [rt, List.foldl_cons, List.foldl_nil]
    by_cases hjk2 : j = k
    · subst hjk2
      rw [HAT.out]
      have hq : ((j : Int) == (j : Int)) = true := beq_self_eq_true _
      have c1 : A.cell? ⟨g + 1, 0, none⟩ = some (.int .i64 0) := hB1.cell 0
      have c2 : A.cell? ⟨g + 1 + 1, 0, none⟩ = some (.int .i64 0) := hB2.cell 0
      have f1 := hB1.frozen 0
      have f2 := hB2.frozen 0
      gi_wp2
      refine ⟨((Mod.refl _ _).setCell (p := ⟨g + 1, 0, none⟩) (by simp; omega) _).setCell (p := ⟨g + 1 + 1, 0, none⟩) (by simp; omega) _, rfl, ?_, ?_, ?_⟩
      · exact (hB1.set_ 0 _).far (p := ⟨g + 1 + 1, 0, none⟩) (by simp) _
      · have := (hB2.far (p := ⟨g + 1, 0, none⟩) (by simp) (.int .i64 (at_ : Nat))).set_ 0 (.int .i64 0)
        simpa using this
      · exact (hbl.setCell (p := ⟨g + 1, 0, none⟩) (Nat.le_succ _) _).setCell (p := ⟨g + 1 + 1, 0, none⟩) (by show g ≤ g + 1 + 1; omega) _
    · have hq : ((j : Int) == (k : Int)) = false := beq_eq_false_iff_ne.2 (by omega)
      have hjlt : j + 1 ≤ k := by omega
      clear hjk2
      gi_wp2
      exact ⟨Mod.refl _ _, hjlt, hB0, hB1, hB2, hbl⟩
  case done =>
    rintro W ⟨hj, _⟩ hD
    omega
  case stop =>
    rintro c W ⟨rfl, hB1, hB2, hbl⟩ hD
    have hlt1 := hB1.lt
    have hB1' : Blk (W.putObj W0.heap.size (.deferred none)) (g + 1) 3 #[.int .i64 (at_ : Nat)] := hB1.of (World.putObj_heap_other (by omega))
    have hB2' : Blk (W.putObj W0.heap.size (.deferred none)) (g + 1 + 1) 25 #[.int .i64 0] := hB2.of (World.putObj_heap_other (by omega))
    have c1 : (W.putObj W0.heap.size (.deferred none)).cell? ⟨g + 1, 0, none⟩ = some (.int .i64 (at_ : Nat)) := hB1'.cell 0
    have c2 : (W.putObj W0.heap.size (.deferred none)).cell? ⟨g + 1 + 1, 0, none⟩ = some (.int .i64 0) := hB2'.cell 0
    gi_wp2
    subst hg
    refine postM_gen (v := .tuple #[.int .i64 (at_ : Nat), .int .i64 0]) hD (by simp [results, Tryd.results80, go_sem, c1, c2]) ⟨rfl, ?_⟩
    exact hbl.trans ⟨rfl, rfl, rfl, by simp [World.putObj], fun k hk => World.putObj_heap_other (by omega)⟩
end Go.Proofs.YtokomclcgegfkaaDoor
