/- Ro Rp: texts of the claim, in this order. -/
import Derived.Test.YthbppblmecdekaaDoorWb6
import Derived.Test.YthbppblmecdekaaDoorWb8
import Derived.LoopIn
/- Contracts: eytz.Next, eytz.Place, and what run's inOrder yields. -/
namespace Go.Proofs.YthbppblmecdekaaDoor
open Go Go.RowKit Go.Shelf
set_option maxRecDepth 100000

attribute [local go_sem] Oper.semAt_some
/-- the end of a function that has held one range over a function: any results -/
theorem postM_gen {F : Fence} {P : Program} {fn : Func} {R : Ending → World → Prop} {tmps : Array Value} {D : Nat} {w : World} {v : Value}
    (hD : w.heap[D]? = some (.deferred (some []))) (hr : (results fn tmps).run P (w.putObj D (.deferred none)) = .ok v (w.putObj D (.deferred none))) (hR : R (.returned v) (w.putObj D (.deferred none))) :
    bodyPostM F 0 P fn R .ret { tmps := tmps, defers := [{ target := .collected D, args := #[] }] } w :=
  ⟨by simp, .inl ⟨_, _, rfl, run_takeDeferred hD, ⟨_, hr, hR⟩⟩⟩

set_option maxHeartbeats 1000000 in
theorem eytzNext_some (n x y k : Nat) (w : World) (hn : n ≤ 65536) (hx : (inord n 0)[k]? = some x) (hy : (inord n 0)[k + 1]? = some y) :
    Calls Tryd.prog 138 #[.int .i64 (n : Nat), .int .i64 (x : Nat)] w fun r w' => r = .returned (.tuple #[.int .i64 (y : Nat), .int .i64 0]) ∧ w = w' := by
  have hxn := inord_lt (List.mem_of_getElem? hx)
  have H := Lib.hid (nxI_some hx hy)
  have hy1 : ((y : Int) == -1) = false := beq_eq_false_iff_ne.2 (by omega)
  clear hx hy
  go_enter Tryd.func138, Tryd.ntmps138
  go_wp2_with fail
  refine (within_ok n x _ hn hxn).mono ?_
  rintro e w1 ⟨rfl, rfl⟩
  go_wp2_with fail
  refine (next_any n x _ _ rfl rfl hn hxn _).mono ?_
  rw [H.out]
  rintro e w2 ⟨rfl, rfl⟩
  go_wp2
  refine bodyPost_ret (v := .tuple #[.int .i64 (y : Nat), .int .i64 0]) (by simp [results, Tryd.results138, go_sem]) rfl ?_
  exact ⟨rfl, rfl⟩
set_option maxHeartbeats 1000000 in
theorem eytzNext_none (n x k : Nat) (w : World) (hn : n ≤ 65536) (hx : (inord n 0)[k]? = some x) (hy : (inord n 0)[k + 1]? = none) :
    Calls Tryd.prog 138 #[.int .i64 (n : Nat), .int .i64 (x : Nat)] w fun r w' => r = .returned (.tuple #[.int .i64 0, .int .i64 6]) ∧ w = w' := by
  have hxn := inord_lt (List.mem_of_getElem? hx)
  have H := Lib.hid (nxI_none hx hy)
  clear hx hy
  go_enter Tryd.func138, Tryd.ntmps138
  go_wp2_with fail
  refine (within_ok n x _ hn hxn).mono ?_
  rintro e w1 ⟨rfl, rfl⟩
  go_wp2_with fail
  refine (next_any n x _ _ rfl rfl hn hxn _).mono ?_
  rw [H.out]
  rintro e w2 ⟨rfl, rfl⟩
  go_wp2
  refine bodyPost_ret (v := .tuple #[.int .i64 0, .int .i64 6]) (by simp [results, Tryd.results138, go_sem]) rfl ?_
  exact ⟨rfl, rfl⟩

set_option maxHeartbeats 1000000 in
theorem place_zero (w : World) :
    Calls Tryd.prog 106 #[.int .i64 0, .int .i64 0] w fun r w' => r = .returned (.tuple #[.int .i64 0, .int .i64 2]) ∧ Below w.heap.size w w' := by
  refine calls_of_in (_F := Fence.wide) ?_
  have hdd : ∀ k : Nat, (Fence.wide.depth.isSome = true → 1 ≤ k) := fun k h => by cases h
  have hwf : ∀ f, Fence.wide.fn f := fun _ => trivial
  have hdp : Fence.wide.depth = none := rfl
  have hro : Fence.wide.round = none := rfl
  have hwz : ∀ W : World, Calls Tryd.prog 130 #[.int .i64 0, .int .i64 0] W fun r w' => r = .returned (.int .i64 2) ∧ W = w' := by
    intro W
    have H0 : Hid (askedE (0 : Nat) = 0) := rfl
    go_enter Tryd.func130, Tryd.ntmps130
    go_wp2_with fail
    refine (asked_any (0 : Nat) _).mono ?_
    rw [H0.out]
    rintro e w1 ⟨rfl, rfl⟩
    go_wp2
    go_ret
    exact ⟨rfl, rfl⟩
  refine callsIn_of_wp_marks Tryd.func106 rfl (hwf _) ?_ hro
  simp only [Tryd.ntmps106, List.size_toArray, List.length_cons, List.length_nil, Nat.reduceAdd, Nat.reduceSub, Array.replicate_succ, Array.replicate_zero, List.push_toArray, List.append_toArray, List.nil_append, List.cons_append]
  gi_wp2_with ((try first | refine ⟨hdp, ?_⟩ | refine ⟨hdd _, ?_⟩); gi_at_call 130; refine (callsIn_wide.2 (hwz _)).mono ?_; rintro e w1 ⟨rfl, rfl⟩)
  refine ⟨.tuple #[.int .i64 0, .int .i64 2], by simp [results, Tryd.results106, go_sem], rfl, ?_⟩
  exact (((Below.refl _ _).alloc (Nat.le_refl _) _).alloc (by simp) _).alloc (by simp; omega) _

set_option maxHeartbeats 2000000 in
theorem place_ok (n k : Nat) (hn : n ≤ 65536) (hk : k < n) (w : World) :
    Calls Tryd.prog 106 #[.int .i64 (n : Nat), .int .i64 (k : Nat)] w fun r w' => r = .returned (.tuple #[.int .i64 ((inord n 0).getD k 0 : Nat), .int .i64 0]) ∧ Below w.heap.size w w' := by
  obtain ⟨at_, hat⟩ : ∃ at_, (inord n 0).getD k 0 = at_ := ⟨_, rfl⟩
  rw [hat]
  have HAT := Lib.hid hat
  clear hat
  refine calls_of_in (_F := Fence.wide) ?_
  have hdd : ∀ k : Nat, (Fence.wide.depth.isSome = true → 1 ≤ k) := fun k h => by cases h
  have hwf : ∀ f, Fence.wide.fn f := fun _ => trivial
  have hdp : Fence.wide.depth = none := rfl
  have hro : Fence.wide.round = none := rfl
  refine callsIn_of_wp_marks Tryd.func106 rfl (hwf _) ?_ hro
  simp only [Tryd.ntmps106, List.size_toArray, List.length_cons, List.length_nil, Nat.reduceAdd, Nat.reduceSub, Array.replicate_succ, Array.replicate_zero, List.push_toArray, List.append_toArray, List.nil_append, List.cons_append]
  gi_wp2_with (first
    | ((try first | refine ⟨hdp, ?_⟩ | refine ⟨hdd _, ?_⟩); gi_at_call 130; refine (callsIn_wide.2 (within_ok n k _ hn hk)).mono ?_; rintro e w1 ⟨rfl, rfl⟩)
    | ((try first | refine ⟨hdp, ?_⟩ | refine ⟨hdd _, ?_⟩); gi_at_call 131; refine (callsIn_wide.2 (places_any _ _)).mono ?_; rintro e w1 ⟨rfl, rfl⟩))
  obtain ⟨g, hg⟩ : ∃ g, w.heap.size = g := ⟨_, rfl⟩
  obtain ⟨W0, hW0⟩ : ∃ W0, ((((w.alloc (.cells #[.int .i64 (k : Nat)] 3)).alloc (.cells #[.int .i64 0] 3)).alloc (.cells #[.int .i64 0] 30)).alloc (.cells #[.int .i64 (n : Nat)] 3)) = W0 := ⟨_, rfl⟩
  rw [hW0]
  have b0 : Blk W0 w.heap.size 3 #[.int .i64 (k : Nat)] := by rw [← hW0]; exact (((Blk.new w _ _).alloc _).alloc _).alloc _
  have b1 : Blk W0 (w.heap.size + 1) 3 #[.int .i64 0] := by
    rw [← hW0]; have := Blk.new (w.alloc (.cells #[.int .i64 (k : Nat)] 3)) 3 #[.int .i64 0]
    rw [World.size_alloc] at this
    exact (this.alloc _).alloc _
  have b2 : Blk W0 (w.heap.size + 1 + 1) 30 #[.int .i64 0] := by
    rw [← hW0]; have := Blk.new ((w.alloc (.cells #[.int .i64 (k : Nat)] 3)).alloc (.cells #[.int .i64 0] 3)) 30 #[.int .i64 0]
    rw [World.size_alloc, World.size_alloc] at this
    exact this.alloc _
  have b3 : Blk W0 (w.heap.size + 1 + 1 + 1) 3 #[.int .i64 (n : Nat)] := by
    rw [← hW0]; have := Blk.new (((w.alloc (.cells #[.int .i64 (k : Nat)] 3)).alloc (.cells #[.int .i64 0] 3)).alloc (.cells #[.int .i64 0] 30)) 3 #[.int .i64 (n : Nat)]
    rwa [World.size_alloc, World.size_alloc, World.size_alloc] at this
  have hb0 : Below w.heap.size w W0 := by
    rw [← hW0]; exact ((((Below.refl _ w).alloc (Nat.le_refl _) _).alloc (by simp) _).alloc (by simp; omega) _).alloc (by simp; omega) _
  have hs0 : W0.heap.size = w.heap.size + 4 := by rw [← hW0]; simp
  clear hW0
  rw [hg] at b0 b1 b2 b3 hb0 hs0 ⊢
  refine wpIn_rangeS hdp hwf hro rfl (enters_of Tryd.func143 (by kernel_rfl) rfl)
    (places1_in n (g + 1 + 1 + 1) hn W0 (b3.cell 0)) (by rintro b rfl; omega) (fun _ h => h.elim) (fun _ => rfl)
    (fun j W => j ≤ k ∧ Blk W g 3 #[.int .i64 (k : Nat)] ∧ Blk W (g + 1) 3 #[.int .i64 0] ∧ Blk W (g + 1 + 1) 30 #[.int .i64 0] ∧ Below g w W)
    (fun c W => c = .ret ∧ Blk W (g + 1) 3 #[.int .i64 (at_ : Nat)] ∧ Blk W (g + 1 + 1) 30 #[.int .i64 0] ∧ Below g w W)
    (fun j => [(17, .int .i64 (j : Nat)), (18, .int .i64 ((inord n 0).getD j 0 : Nat)), (7, .int .i64 (j : Nat)), (8, .int .i64 ((inord n 0).getD j 0 : Nat))])
    ?stab ?stabx ⟨Nat.zero_le _, b0, b1, b2, hb0⟩ ?assign ?body ?done ?stop
  case stab =>
    rintro j A B ⟨hj, hB0, hB1, hB2, hbl⟩ hm
    exact ⟨hj, hB0.mod hm (by simp; omega), hB1.mod hm (by simp; omega), hB2.mod hm (by simp; omega), hbl.trans (hm.below (by have := hB0.lt; omega) (by rintro k (h | h | h) <;> first | exact h.elim | omega))⟩
  case stabx =>
    rintro j A B ⟨hj, hB1, hB2, hbl⟩ hm
    exact ⟨hj, hB1.mod hm (by simp; omega), hB2.mod hm (by simp; omega), hbl.trans (hm.below (by have := hB1.lt; omega) (by rintro k (h | h | h) <;> first | exact h.elim | omega))⟩
  case assign =>
    intro l j hj A C hC
    simp only [placesX]
    gi_wp2
    exact hC
  case body =>
    rintro l j hj A ⟨hjk, hB0, hB1, hB2, hbl⟩ hsA
    have c0 : A.cell? ⟨g, 0, none⟩ = some (.int .i64 (k : Nat)) := hB0.cell 0
    simp only [rt, List.foldl_cons, List.foldl_nil]
    by_cases hjk2 : j = k
    · subst hjk2
      rw [HAT.out]
      have hq : ((j : Int) == (j : Int)) = true := beq_self_eq_true _
      have c1 : A.cell? ⟨g + 1, 0, none⟩ = some (.int .i64 0) := hB1.cell 0
      have c2 : A.cell? ⟨g + 1 + 1, 0, none⟩ = some (.int .i64 0) := hB2.cell 0
      have f1 := hB1.frozen 0
      have f2 := hB2.frozen 0
      gi_wp2
      refine ⟨((Mod.refl _ _).setCell (p := ⟨g + 1, 0, none⟩) (by simp; omega) _).setCell (p := ⟨g + 1 + 1, 0, none⟩) (by simp; omega) _, rfl, ?_, ?_, ?_⟩
      · exact (hB1.set_ 0 _).far (p := ⟨g + 1 + 1, 0, none⟩) (by simp) _
      · have := (hB2.far (p := ⟨g + 1, 0, none⟩) (by simp) (.int .i64 (at_ : Nat))).set_ 0 (.int .i64 0)
        simpa using this
      · exact (hbl.setCell (p := ⟨g + 1, 0, none⟩) (Nat.le_succ _) _).setCell (p := ⟨g + 1 + 1, 0, none⟩) (by show g ≤ g + 1 + 1; omega) _
    · have hq : ((j : Int) == (k : Int)) = false := beq_eq_false_iff_ne.2 (by omega)
      have hjlt : j + 1 ≤ k := by omega
      clear hjk2
      gi_wp2
      exact ⟨Mod.refl _ _, hjlt, hB0, hB1, hB2, hbl⟩
  case done =>
    rintro W ⟨hj, _⟩ hD
    omega
  case stop =>
    rintro c W ⟨rfl, hB1, hB2, hbl⟩ hD
    have hlt1 := hB1.lt
    have hB1' : Blk (W.putObj W0.heap.size (.deferred none)) (g + 1) 3 #[.int .i64 (at_ : Nat)] := hB1.of (World.putObj_heap_other (by omega))
    have hB2' : Blk (W.putObj W0.heap.size (.deferred none)) (g + 1 + 1) 30 #[.int .i64 0] := hB2.of (World.putObj_heap_other (by omega))
    have c1 : (W.putObj W0.heap.size (.deferred none)).cell? ⟨g + 1, 0, none⟩ = some (.int .i64 (at_ : Nat)) := hB1'.cell 0
    have c2 : (W.putObj W0.heap.size (.deferred none)).cell? ⟨g + 1 + 1, 0, none⟩ = some (.int .i64 0) := hB2'.cell 0
    gi_wp2
    subst hg
    refine postM_gen (v := .tuple #[.int .i64 (at_ : Nat), .int .i64 0]) hD (by simp [results, Tryd.results106, go_sem, c1, c2]) ⟨rfl, ?_⟩
    exact hbl.trans ⟨rfl, rfl, rfl, by simp [World.putObj], fun k hk => World.putObj_heap_other (by omega)⟩
end Go.Proofs.YthbppblmecdekaaDoor

/- What run's inOrder yields. -/
namespace Go.Proofs.YthbppblmecdekaaDoor
open Go Go.RowKit Go.Shelf
set_option maxRecDepth 100000
attribute [local go_sem] Oper.semAt_some

def inAt (l : List Ent) (k : Nat) : Ent := (inL l).getD k zeroE
def entX (l : List Ent) (k : Nat) : Array Value := #[.agg #[.int .i64 (inAt l k).key, .int .i64 (inAt l k).val, .bool (inAt l k).dead]]
theorem inAt_get {l : List Ent} {k x : Nat} (hx : (inord l.length 0)[k]? = some x) (hl : x < l.length) : inAt l k = l[x]'hl := by
  unfold inAt inL
  rw [List.getD_eq_getElem?_getD, List.getElem?_map, hx]
  simp [entAt_get hl]
/-- how far the iterator has come -/
def atOf (w : World) (B n : Nat) : Nat := match w.cell? ⟨B, 0, none⟩ with | some (.int _ x) => n - (inord n 0).idxOf x.toNat | _ => 0
def goOn (e : Value) (m : Nat) : Nat := match e with | .int _ x => if x = 0 then m + 1 else 0 | _ => 0

set_option maxHeartbeats 2000000 in
theorem inOrder1_in (B1 B2 : Nat) (A : Option Addr) (l : List Ent) (c : Nat) (hl : l.length ≤ 65536) (w : World)
    (hc1 : w.cell? ⟨B1, 0, none⟩ = some (.slice A l.length c)) (hb2 : Blk w B2 3 #[.int .i64 ((inord l.length 0).getD 0 0 : Nat)]) (h12 : B1 ≠ B2) (hA : Sl w A (l.flatMap Ent.cells)) (hA2 : l.length ≠ 0 → ∀ a, A = some a → a.block ≠ B2) :
    Yields Fence.wide Tryd.prog 137 #[.pointer (some ⟨B1, 0, none⟩), .pointer (some ⟨B2, 0, none⟩)] l.length (entX l) (fun b => b = B1 ∨ b = B2 ∨ (l.length ≠ 0 ∧ ∃ a, A = some a ∧ b = a.block)) (fun b => b = B2) w := by
  intro y I X W hsz hKp hI hX hY h0
  have hcW : W.cell? ⟨B1, 0, none⟩ = some (.slice A l.length c) := (World.cell?_of_block (hKp B1 (.inl rfl))).trans hc1
  have hbW : Blk W B2 3 #[.int .i64 ((inord l.length 0).getD 0 0 : Nat)] := hb2.of (hKp B2 (.inr (.inl rfl)))
  have hAW : Sl W A (l.flatMap Ent.cells) := by
    by_cases h0l : l.length = 0
    · left; rw [List.eq_nil_of_length_eq_zero h0l]; rfl
    rcases hA with h | ⟨b, off, hA1, hlt, hc⟩
    · exact .inl h
    · exact .inr ⟨b, off, hA1, Nat.lt_of_lt_of_le hlt hsz, fun j u hu => (World.cell?_of_block (a := ⟨b, off + j, none⟩) (hKp b (.inr (.inr ⟨h0l, _, hA1, rfl⟩)))).trans (hc j u hu)⟩
  have hdd : ∀ k : Nat, (Fence.wide.depth.isSome = true → 1 ≤ k) := fun k h => by cases h
  have hwf : ∀ f, Fence.wide.fn f := fun _ => trivial
  have hdp : Fence.wide.depth = none := rfl
  have hro : Fence.wide.round = none := rfl
  have HH := Lib.hid (And.intro hI (And.intro hX hY))
  clear hI hX hY hKp hb2 hc1 hA
  refine callsIn_of_wp Tryd.func137 rfl (hwf _) ?_ hro
  simp only [Tryd.ntmps137, List.size_toArray, List.length_cons, List.length_nil, Nat.reduceAdd, Nat.reduceSub, Array.replicate_succ, Array.replicate_zero, List.push_toArray, List.append_toArray, List.nil_append, List.cons_append]
  gi_wp2
  gi_loopw [4] (fun e wr => ∃ k : Nat, I k wr ∧ Hid (wr.cell? ⟨B1, 0, none⟩ = some (.slice A l.length c) ∧ Sl wr A (l.flatMap Ent.cells)) ∧
    ((k < l.length ∧ e = .int .i64 0 ∧ Hid (Blk wr B2 3 #[.int .i64 ((inord l.length 0).getD k 0 : Nat)])) ∨ (k = l.length ∧ (l.length = 0 ∧ e = .int .i64 0 ∨ e = .int .i64 6)))) (fun e wr => goOn e (atOf wr B2 l.length))
  case atStart =>
    refine ⟨0, h0, ⟨hcW, hAW⟩, ?_⟩
    by_cases hz : l.length = 0
    · exact .inr ⟨hz.symm, .inl ⟨hz, rfl⟩⟩
    · exact .inl ⟨by omega, rfl, hbW⟩
  case round =>
    clear hcW hbW hAW h0
    obtain ⟨k, hi, hcs, hcase⟩ := hrel
    rcases hcase with ⟨hk, rfl, hb⟩ | ⟨hk, ⟨hz, rfl⟩ | rfl⟩
    · have hkl : k < (inord l.length 0).length := by rw [inord_length]; exact hk
      obtain ⟨x, hx⟩ : ∃ x, (inord l.length 0)[k]? = some x := ⟨_, List.getElem?_eq_getElem hkl⟩
      have hxn : x < l.length := inord_lt (List.mem_of_getElem? hx)
      have hgd : (inord l.length 0).getD k 0 = x := by simp [List.getD, hx]
      have hbx := hb.out
      rw [hgd] at hbx
      have hat := inAt_get hx hxn
      have hcx := hcs.out.1
      obtain ⟨b, off, hAe, hbl, e1, e2, e3⟩ := hcs.out.2.ent x hxn
      rw [← hat] at e1 e2 e3
      subst hAe
      have hne := hA2 (by omega) _ rfl
      have c2 : wr.cell? ⟨B2, 0, none⟩ = some (.int .i64 (x : Nat)) := hbx.cell 0
      have n0 : (0 : Int) < (l.length : Int) := by omega
      have i0 : (0 : Int) ≤ (x : Int) := by omega
      have i1 : (x : Int) < (l.length : Int) := by omega
      have hY' := HH.out.2.2 k wr hk hi
      unfold entX at hY'
      obtain ⟨fn, tmps, assign, body, hy, hR⟩ := hY'
      have HXX := Lib.hid hx
      have HBX := Lib.hid hbx
      have HMW := Lib.hid c2
      have HIDX : Hid ((inord l.length 0).idxOf x = k) := by
        show _ = _
        have := idx_inord hkl
        rw [(List.getElem?_eq_some_iff.1 hx).2] at this
        exact this
      clear hx hat hbx hgd hb
      gi_wp2
      first | refine hR.mono ?_ | refine ⟨rfl, hR.mono ?_⟩ | refine ⟨hwf _, hR.mono ?_⟩
      clear hR hy
      rintro e W2 (⟨rfl, hi2, hs2, hk2⟩ | ⟨rfl, hx2⟩)
      · have hcw2 : W2.cell? ⟨B1, 0, none⟩ = some (.slice (some ⟨b, off, none⟩) l.length c) := (World.cell?_of_block (hk2 B1 (.inl rfl))).trans hcs.out.1
        have hbw2 : Blk W2 B2 3 #[.int .i64 (x : Nat)] := HBX.out.of (hk2 B2 (.inr (.inl rfl)))
        have hAw2 : Sl W2 (some ⟨b, off, none⟩) (l.flatMap Ent.cells) := by
          rcases hcs.out.2 with h | ⟨b', off', hA1, hlt, hc⟩
          · exact .inl h
          · exact .inr ⟨b', off', hA1, Nat.lt_of_lt_of_le hlt hs2, fun j u hu => (World.cell?_of_block (a := ⟨b', off' + j, none⟩) (hk2 b' (.inr (.inr ⟨by omega, _, hA1, rfl⟩)))).trans (hc j u hu)⟩
        have HCS := Lib.hid (And.intro hcw2 hAw2)
        have c2' : W2.cell? ⟨B2, 0, none⟩ = some (.int .i64 (x : Nat)) := hbw2.cell 0
        have f2' : W2.frozen? ⟨B2, 0, none⟩ = false := hbw2.frozen 0
        have HBW := Lib.hid hbw2
        clear hk2 hcw2 hAw2 hbw2 e1 e2 e3 c2 hcx
        have hmd : ∀ v, Mod (fun b => b = B2) W2 (W2.setCell ⟨B2, 0, none⟩ v) := fun v => Mod.setCell (S := fun b => b = B2) (Mod.refl _ _) (p := ⟨B2, 0, none⟩) rfl v
        rcases hnext : (inord l.length 0)[k + 1]? with _ | z
        · have hlen : k + 1 = l.length := by
            have h1 := (List.getElem?_eq_none_iff.1 hnext)
            rw [inord_length] at h1
            omega
          have HLN := Lib.hid hlen
          have HNX := Lib.hid hnext
          have HMD := Lib.hid hmd
          clear hnext hlen hmd
          gi_wp2_with ((try first | refine ⟨hdp, ?_⟩ | refine ⟨hdd _, ?_⟩); gi_at_call 138; refine (callsIn_wide.2 (eytzNext_none l.length x k _ hl HXX.out HNX.out)).mono ?_; rintro e w1 ⟨rfl, rfl⟩)
          go_roundw
          case rel =>
            have hm := HMD.out (.int .i64 0)
            refine ⟨k + 1, HH.out.1 _ _ _ hi2 hm, ⟨(hm.cell (p := ⟨B1, 0, none⟩) (World.block_lt_of_cell? _ _ HCS.out.1) h12).trans HCS.out.1, HCS.out.2.mod hm (fun a ha => by cases ha; exact hne)⟩, .inr ⟨HLN.out, .inr rfl⟩⟩
          case measure => simp [goOn]
        · have HNX := Lib.hid hnext
          have hkn : k + 1 < l.length := by have := (List.getElem?_eq_some_iff.1 hnext).1; rwa [inord_length] at this
          have HMD := Lib.hid hmd
          have HID2 : Hid ((inord l.length 0).idxOf z = k + 1) := by
            show _ = _
            have hh : k + 1 < (inord l.length 0).length := by rw [inord_length]; exact hkn
            have := idx_inord hh
            rw [(List.getElem?_eq_some_iff.1 hnext).2] at this
            exact this
          clear hnext hmd
          gi_wp2_with ((try first | refine ⟨hdp, ?_⟩ | refine ⟨hdd _, ?_⟩); gi_at_call 138; refine (callsIn_wide.2 (eytzNext_some l.length x z k _ hl HXX.out HNX.out)).mono ?_; rintro e w1 ⟨rfl, rfl⟩)
          have hbz : Blk (W2.setCell ⟨B2, 0, none⟩ (.int .i64 (z : Nat))) B2 3 #[.int .i64 (z : Nat)] := by
            have := HBW.out.set_ 0 (.int .i64 (z : Nat))
            simpa using this
          go_roundw
          case rel =>
            have hm := HMD.out (.int .i64 (z : Nat))
            refine ⟨k + 1, HH.out.1 _ _ _ hi2 hm, ⟨(hm.cell (p := ⟨B1, 0, none⟩) (World.block_lt_of_cell? _ _ HCS.out.1) h12).trans HCS.out.1, HCS.out.2.mod hm (fun a ha => by cases ha; exact hne)⟩, .inl ⟨hkn, rfl, ?_⟩⟩
            show Blk _ _ _ _
            rw [show (inord l.length 0).getD (k + 1) 0 = z by simp [List.getD, HNX.out]]
            exact hbz
          case measure =>
            have h1 : atOf (W2.setCell ⟨B2, 0, none⟩ (.int .i64 (z : Nat))) B2 l.length = l.length - (k + 1) := by
              unfold atOf
              rw [hbz.cell 0]
              simp [HID2.out]
            have h2 : atOf wr B2 l.length = l.length - k := by
              unfold atOf
              rw [show wr.cell? ⟨B2, 0, none⟩ = some (.int .i64 (x : Nat)) from HMW.out]
              simp [HIDX.out]
            show goOn _ _ < goOn _ _
            rw [h1, h2]
            simp [goOn]
            omega
      · gi_wp2
        first | refine bodyPost_ret (results_none rfl _ _ _) rfl ?_ | refine bodyPost_end (results_none rfl _ _ _) rfl ?_
        exact ⟨⟨_, rfl⟩, .inr hx2⟩
    · subst hk
      have hz2 : ((l.length : Int) ≤ 0) := by omega
      have HI2 := Lib.hid hi
      clear hz
      gi_wp2
      refine bodyPost_end (results_none rfl _ _ _) rfl ?_
      exact ⟨⟨_, rfl⟩, .inl HI2.out⟩
    · subst hk
      have HI2 := Lib.hid hi
      by_cases hz : l.length = 0
      · have hz2 : ((l.length : Int) ≤ 0) := by omega
        clear hz
        gi_wp2
        refine bodyPost_end (results_none rfl _ _ _) rfl ?_
        exact ⟨⟨_, rfl⟩, .inl HI2.out⟩
      · have hz2 : (0 : Int) < (l.length : Int) := by omega
        clear hz
        gi_wp2
        refine bodyPost_end (results_none rfl _ _ _) rfl ?_
        exact ⟨⟨_, rfl⟩, .inl HI2.out⟩
end Go.Proofs.YthbppblmecdekaaDoor
