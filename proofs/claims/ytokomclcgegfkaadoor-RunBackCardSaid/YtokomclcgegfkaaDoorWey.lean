/- Contracts of eytz: asked, leftmost, next, places and what they yield, Order. -/
import Derived.Test.YtokomclcgegfkaaDoorProg
import Derived.Test.YtokomclcgegfkaaDoorIter
import Derived.Test.YtokomclcgegfkaaDoorEytz
namespace Go.Proofs.YtokomclcgegfkaaDoor
open Go Go.RowKit Go.Shelf
set_option maxRecDepth 100000

def askedE (n : Int) : Int := if n < 0 then 2 else if n > 65536 then 4 else 0

set_option maxHeartbeats 400000 in
theorem asked_any (n : Int) (w : World) :
    Calls Tryd.prog 89 #[.int .i64 n] w fun r w' => r = .returned (.int .i64 (askedE n)) ∧ w = w' := by
  go_enter Tryd.func89, Tryd.ntmps89
  go_wp2
  all_goals
    go_ret
    refine ⟨ret_int ?_, rfl⟩
    unfold askedE
    first | (rw [if_pos (by assumption)]) | (rw [if_neg (by omega), if_pos (by assumption)]) | (rw [if_neg (by omega), if_neg (by omega)])

set_option maxHeartbeats 400000 in
theorem leftmost_any (n a : Nat) (N Z : Int) (hN : N = n) (hZ : Z = a) (hn : n ≤ 65536) (ha : a ≤ 200000) (w : World) :
    Calls Tryd.prog 103 #[.int .i64 N, .int .i64 Z] w fun r w' => r = .returned (.int .i64 (lm n a : Nat)) ∧ w = w' := by
  subst hN hZ
  go_enter Tryd.func103, Tryd.ntmps103
  go_wp2
  go_loop [1] (fun i => ∃ b : Nat, b ≤ 200000 ∧ i = .int .i64 b ∧ Hid (lm n b = lm n a)) (fun i => n - (intOf i).toNat)
  case atStart => exact ⟨a, ha, rfl, rfl⟩
  case round =>
    obtain ⟨b, hb, rfl, hl⟩ := hrel
    by_cases hlt : 2 * b + 1 < n
    · go_wp2
      go_round
      case rel => exact ⟨2 * b + 1, by omega, by go_num, by rw [← hl.out, ← lm_in hlt]; rfl⟩
      case measure => simp [intOf]; omega
    · go_wp2
      go_ret
      exact ⟨ret_int (by rw [← hl.out, lm_out hlt]), rfl⟩

def nxI (n a : Nat) : Int := match nx n a with | some x => (x : Int) | none => -1

set_option maxHeartbeats 400000 in
theorem next_any (n a : Nat) (N Z : Int) (hN : N = n) (hZ : Z = a) (hn : n ≤ 65536) (ha : a < n) (w : World) :
    Calls Tryd.prog 104 #[.int .i64 N, .int .i64 Z] w fun r w' => r = .returned (.int .i64 (nxI n a)) ∧ w = w' := by
  subst hN hZ
  by_cases h2 : 2 * a + 2 < n
  · go_enter Tryd.func104, Tryd.ntmps104
    go_wp2
    go_step3
    go_wp2_with (go_at_call 103; refine (leftmost_any n (2 * a + 2) _ _ rfl (by omega) hn (by omega) _).mono ?_; rintro e w1 ⟨rfl, rfl⟩)
    rw [Exit.noGoto_ret]
    go_ret
    exact ⟨ret_int (by simp [nxI, nx, h2]), rfl⟩
  · go_enter Tryd.func104, Tryd.ntmps104
    go_wp2
    go_step3
    go_wp2
    go_step3
    go_wp2
    go_loop [1] (fun i => ∃ b : Nat, b ≤ a ∧ i = .int .i64 b ∧ Hid (upo b = upo a)) (fun i => (intOf i).toNat)
    case atStart => exact ⟨a, Nat.le_refl _, rfl, rfl⟩
    case round =>
      obtain ⟨b, hb, rfl, hl⟩ := hrel
      by_cases h0 : b = 0
      · have hz : (((b : Nat) : Int) == 0) = true := by simp [h0]
        have hr : Hid (nxI n a = -1) := by unfold nxI nx; rw [if_neg h2, ← hl.out, h0, upo_zero]; rfl
        clear h0
        go_wp2
        go_ret
        exact ⟨ret_int hr.out.symm, rfl⟩
      · have hz : (((b : Nat) : Int) == 0) = false := by simp [h0]
        by_cases h1 : b % 2 = 1
        · have hz1 : (((b : Nat) : Int) % 2 == 1) = true := by simp; omega
          have hr : Hid (nxI n a = ((b - 1) / 2 : Nat)) := by unfold nxI nx; rw [if_neg h2, ← hl.out, upo_odd h1]; rfl
          have h1' : 1 ≤ b := by omega
          clear h1 h0
          go_wp2
          go_ret
          exact ⟨ret_int (by rw [hr.out]; omega), rfl⟩
        · have hz1 : (((b : Nat) : Int) % 2 == 1) = false := by simp; omega
          have hr : Hid (upo ((b - 1) / 2) = upo a) := by rw [← upo_even h0 h1]; exact hl.out
          have h1' : 1 ≤ b := by omega
          clear h1 h0
          go_wp2
          go_round
          case rel => exact ⟨(b - 1) / 2, by omega, by congr 1; omega, hr⟩
          case measure => simp [intOf]; omega

attribute [local go_sem] Oper.semAt_some

/-- what eytz.places(n) yields: k and the k-th place -/
def placesX (n k : Nat) : Array Value := #[.int .i64 (k : Nat), .int .i64 ((inord n 0).getD k 0 : Nat)]
theorem placesX_get {n k x : Nat} (hx : (inord n 0)[k]? = some x) : placesX n k = #[.int .i64 (k : Nat), .int .i64 (x : Nat)] := by
  simp [placesX, List.getD, hx]

theorem nxI_some {n k x y : Nat} (hx : (inord n 0)[k]? = some x) (hy : (inord n 0)[k + 1]? = some y) : nxI n x = (y : Nat) := by
  unfold nxI; rw [nx_next hx, hy]
theorem nxI_none {n k x : Nat} (hx : (inord n 0)[k]? = some x) (hy : (inord n 0)[k + 1]? = none) : nxI n x = -1 := by
  unfold nxI; rw [nx_next hx, hy]

set_option maxHeartbeats 1000000 in
theorem places1_in (n B : Nat) (hn : n ≤ 65536) (w : World)
    (hc : w.cell? ⟨B, 0, none⟩ = some (.int .i64 (n : Nat))) :
    Yields Fence.wide Tryd.prog 102 #[.pointer (some ⟨B, 0, none⟩)] n (placesX n) (fun b => b = B) (fun _ => False) w := by
  intro l I X W hsz hKp hI hX hY h0
  have hcW : W.cell? ⟨B, 0, none⟩ = some (.int .i64 (n : Nat)) := (World.cell?_of_block (hKp B rfl)).trans hc
  have hdd : ∀ k : Nat, (Fence.wide.depth.isSome = true → 1 ≤ k) := fun k h => by cases h
  have hwf : ∀ f, Fence.wide.fn f := fun _ => trivial
  have hdp : Fence.wide.depth = none := rfl
  have hro : Fence.wide.round = none := rfl
  refine callsIn_of_wp Tryd.func102 rfl (hwf _) ?_ hro
  simp only [Tryd.ntmps102, List.size_toArray, List.length_cons, List.length_nil, Nat.reduceAdd, Nat.reduceSub, Array.replicate_succ, Array.replicate_zero, List.push_toArray, List.append_toArray, List.nil_append, List.cons_append]
  refine wpIn_scope_jumps 0 (fun a' w' => ∃ (k x : Nat) (v2 v5 v6 v7 v8 v9 v10 v11 v12 v13 v14 v15 v16 v17 v18 v19 v20 : Value), (inord n 0)[k]? = some x ∧
      a' = { tmps := #[.func (.yield l) #[] #[], .pointer (some ⟨B, 0, none⟩), v2, .int .i64 (k : Nat), .int .i64 (x : Nat), v5, v6, v7, v8, v9, v10, v11, v12, v13, v14, v15, v16, v17, v18, v19, v20], defers := [] } ∧
      I k w' ∧ w'.cell? ⟨B, 0, none⟩ = some (.int .i64 (n : Nat)))
    (fun a' _ => n - (intOf (a'.tmps.getD 3 undef)).toNat) rfl ?first ?pass
  case first =>
    by_cases hn0 : n = 0
    · have hz : (((n : Nat) : Int) == 0) = true := by simp [hn0]
      have hHl := Lib.hid (show 0 = n from hn0.symm)
      clear hn0 hY hKp hI hX
      gi_wp2
      simp only [Exit.jump]
      refine bodyPost_ret (results_none rfl _ _ _) rfl ?_
      exact ⟨⟨_, rfl⟩, .inl (hHl.out ▸ h0)⟩
    · have hz : (((n : Nat) : Int) == 0) = false := by simp [hn0]
      have hx : (inord n 0)[0]? = some (lm n 0) := by
        have h1 : 0 < n := by omega
        have h2 : 0 < (inord n 0).length := by rw [inord_length]; exact h1
        rw [List.getElem?_eq_getElem h2, inord_zero_get h1 h2]
      have hY' := hY 0 W (by omega) h0
      rw [placesX_get hx, show ((0 : Nat) : Int) = 0 from rfl] at hY'
      obtain ⟨fn, tmps, assign, body, hy, hR⟩ := hY'
      clear hY hKp hI hX hn0
      gi_wp2_with ((try refine ⟨hdd _, ?_⟩); gi_at_call 103; refine (callsIn_wide.2 (leftmost_any n 0 _ _ rfl rfl hn (by omega) _)).mono ?_; rintro e w1 ⟨rfl, rfl⟩)
      refine wpIn_label ?_
      gi_wp2
      refine hR.mono ?_
      clear hR hy
      rintro e W2 (⟨rfl, hi2, hs2, hk2⟩ | ⟨rfl, hx2⟩)
      · have hcw2 : W2.cell? ⟨B, 0, none⟩ = some (.int .i64 (n : Nat)) := (World.cell?_of_block (hk2 B rfl)).trans hcW
        have hxn := inord_lt (List.mem_of_getElem? hx)
        clear hk2
        rcases hnext : (inord n 0)[0 + 1]? with _ | y
        · have hH := Lib.hid (nxI_none hx hnext)
          have hlen : 0 + 1 = n := by
            have h1 := (List.getElem?_eq_none_iff.1 hnext)
            have h2 := (List.getElem?_eq_some_iff.1 hx).1
            rw [inord_length] at h1 h2
            omega
          have hHl := Lib.hid hlen
          have hHx := Lib.hid hx
          clear hnext hlen hx
          gi_wp2_with ((try refine ⟨hdd _, ?_⟩); gi_at_call 104; refine (callsIn_wide.2 (next_any n (lm n 0) _ _ rfl rfl hn hxn _)).mono ?_; rw [hH.out]; rintro e w1 ⟨rfl, rfl⟩)
          simp only [Exit.jump]
          refine bodyPost_end (results_none rfl _ _ _) rfl ?_
          exact ⟨⟨_, rfl⟩, .inl (hHl.out ▸ hi2)⟩
        · have hH := Lib.hid (nxI_some hx hnext)
          have hkn : 0 + 1 < n := by have := (List.getElem?_eq_some_iff.1 hnext).1; rwa [inord_length] at this
          have hHl := Lib.hid hnext
          have hHx := Lib.hid hx
          clear hnext hx
          gi_wp2_with ((try refine ⟨hdd _, ?_⟩); gi_at_call 104; refine (callsIn_wide.2 (next_any n (lm n 0) _ _ rfl rfl hn hxn _)).mono ?_; rw [hH.out]; rintro e w1 ⟨rfl, rfl⟩)
          refine wpIn_goto ?_
          refine ⟨rfl, ⟨1, y, _, _, _, _, _, _, _, _, _, _, _, _, _, _, _, _, _, hHl.out, rfl, hi2, hcw2⟩⟩
      · gi_wp2
        simp only [Exit.jump]
        refine bodyPost_ret (results_none rfl _ _ _) rfl ?_
        exact ⟨⟨_, rfl⟩, .inr hx2⟩
  case pass =>
    rintro a' w' ⟨k, x, v2, v5, v6, v7, v8, v9, v10, v11, v12, v13, v14, v15, v16, v17, v18, v19, v20, hx, rfl, hi, hcw⟩
    have hk : k < n := by rw [← inord_length n]; exact (List.getElem?_eq_some_iff.1 hx).1
    have hY' := hY k w' hk hi
    rw [placesX_get hx] at hY'
    obtain ⟨fn, tmps, assign, body, hy, hR⟩ := hY'
    clear hY hKp hI hX
    gi_wp2
    refine hR.mono ?_
    clear hR hy
    rintro e W2 (⟨rfl, hi2, hs2, hk2⟩ | ⟨rfl, hx2⟩)
    · have hcw2 : W2.cell? ⟨B, 0, none⟩ = some (.int .i64 (n : Nat)) := (World.cell?_of_block (hk2 B rfl)).trans hcw
      have hxn := inord_lt (List.mem_of_getElem? hx)
      clear hk2
      rcases hnext : (inord n 0)[k + 1]? with _ | y
      · have hH := Lib.hid (nxI_none hx hnext)
        have hlen : k + 1 = n := by
          have h1 := (List.getElem?_eq_none_iff.1 hnext)
          have h2 := (List.getElem?_eq_some_iff.1 hx).1
          rw [inord_length] at h1 h2
          omega
        have hHl := Lib.hid hlen
        clear hnext hlen
        gi_wp2_with ((try refine ⟨hdd _, ?_⟩); gi_at_call 104; refine (callsIn_wide.2 (next_any n x _ _ rfl rfl hn hxn _)).mono ?_; rw [hH.out]; rintro e w1 ⟨rfl, rfl⟩)
        simp only [Exit.jump]
        refine bodyPost_end (results_none rfl _ _ _) rfl ?_
        exact ⟨⟨_, rfl⟩, .inl (hHl.out ▸ hi2)⟩
      · have hH := Lib.hid (nxI_some hx hnext)
        have hkn : k + 1 < n := by have := (List.getElem?_eq_some_iff.1 hnext).1; rwa [inord_length] at this
        have hHl := Lib.hid hnext
        clear hnext
        gi_wp2_with ((try refine ⟨hdd _, ?_⟩); gi_at_call 104; refine (callsIn_wide.2 (next_any n x _ _ rfl rfl hn hxn _)).mono ?_; rw [hH.out]; rintro e w1 ⟨rfl, rfl⟩)
        refine wpIn_goto ?_
        refine ⟨rfl, ⟨k + 1, y, _, _, _, _, _, _, _, _, _, _, _, _, _, _, _, _, _, hHl.out, rfl, hi2, hcw2⟩, ?_⟩
        show n - (((k : Int) + 1)).toNat < n - ((k : Int)).toNat
        omega
    · gi_wp2
      simp only [Exit.jump]
      refine bodyPost_ret (results_none rfl _ _ _) rfl ?_
      exact ⟨⟨_, rfl⟩, .inr hx2⟩

set_option maxHeartbeats 400000 in
theorem places_any (n : Nat) (w : World) :
    Calls Tryd.prog 90 #[.int .i64 (n : Nat)] w fun r w' =>
      r = .returned (.func (.func 102) #[] #[.pointer (some ⟨w.heap.size, 0, none⟩)]) ∧ w' = w.alloc (.cells #[.int .i64 (n : Nat)] 3) := by
  go_enter Tryd.func90, Tryd.ntmps90
  go_wp2
  go_ret
  exact ⟨rfl, rfl⟩

theorem int_info : (Tryd.prog.info? 3).map (fun i => (i.zero, i.size, i.bytes)) = some (some (.int .i64 0), 1, 8) := by kernel_rfl

set_option maxHeartbeats 1000000 in
theorem order_ok (n : Nat) (hn : n ≤ 65536) (w : World) :
    Calls Tryd.prog 61 #[.int .i64 (n : Nat)] w fun r w' => r = .returned (.tuple #[.slice (some ⟨w.heap.size, 0, none⟩) n n, .int .i64 0]) ∧
      Blk w' w.heap.size 3 ((ranks n).map fun k => Value.int .i64 (k : Nat)).toArray ∧ Below w.heap.size w w' := by
  refine calls_of_in (_F := Fence.wide) ?_
  have hdd : ∀ k : Nat, (Fence.wide.depth.isSome = true → 1 ≤ k) := fun k h => by cases h
  have hwf : ∀ f, Fence.wide.fn f := fun _ => trivial
  have hdp : Fence.wide.depth = none := rfl
  have hro : Fence.wide.round = none := rfl
  obtain ⟨i0, hi, hz0, hz1, hz2⟩ := info_parts int_info
  have hmk := fun W => run_make_rowN (P := Tryd.prog) 81 3 i0 (.int .i64 0) Tryd.underlying81 hi hz0 n (by rw [hz2]; omega) (by omega) W
  rw [hz1] at hmk
  clear hi hz0 hz1 hz2
  refine callsIn_of_wp_marks Tryd.func61 rfl (hwf _) ?_ hro
  simp only [Tryd.ntmps61, List.size_toArray, List.length_cons, List.length_nil, Nat.reduceAdd, Nat.reduceSub, Array.replicate_succ, Array.replicate_zero, List.push_toArray, List.append_toArray, List.nil_append, List.cons_append]
  have hask := Lib.hid (show askedE (n : Nat) = 0 by unfold askedE; rw [if_neg (by omega), if_neg (by omega)])
  gi_wp2_with (first
    | ((try refine ⟨hdd _, ?_⟩); gi_at_call 89; refine (callsIn_wide.2 (asked_any _ _)).mono ?_; rw [hask.out]; rintro e w1 ⟨rfl, rfl⟩)
    | ((try refine ⟨hdd _, ?_⟩); gi_at_call 90; refine (callsIn_wide.2 (places_any _ _)).mono ?_; rintro e w1 ⟨rfl, rfl⟩))
  obtain ⟨g, hg⟩ : ∃ g, w.heap.size = g := ⟨_, rfl⟩
  obtain ⟨W0, hW0⟩ : ∃ W0, (((w.alloc (Obj.cells (madeCells #[Value.int IntKind.i64 0] n) 3)).alloc (Obj.cells #[Value.slice (some { block := w.heap.size, off := 0 }) n n] 81)).alloc (Obj.cells #[Value.int IntKind.i64 (n : Nat)] 3)) = W0 := ⟨_, rfl⟩
  rw [hW0]
  have b0 : Blk W0 w.heap.size 3 (madeCells #[Value.int IntKind.i64 0] n) := by rw [← hW0]; exact ((Blk.new w _ _).alloc _).alloc _
  have b1 : Blk W0 (w.heap.size + 1) 81 #[Value.slice (some { block := w.heap.size, off := 0 }) n n] := by
    rw [← hW0]; have := Blk.new (w.alloc (Obj.cells (madeCells #[Value.int IntKind.i64 0] n) 3)) 81 #[Value.slice (some { block := w.heap.size, off := 0 }) n n]
    rw [World.size_alloc] at this
    exact this.alloc _
  have b2 : Blk W0 (w.heap.size + 1 + 1) 3 #[Value.int IntKind.i64 (n : Nat)] := by
    rw [← hW0]; have := Blk.new ((w.alloc (Obj.cells (madeCells #[Value.int IntKind.i64 0] n) 3)).alloc (Obj.cells #[Value.slice (some { block := w.heap.size, off := 0 }) n n] 81)) 3 #[Value.int IntKind.i64 (n : Nat)]
    rwa [World.size_alloc, World.size_alloc] at this
  have hb0 : Below w.heap.size w W0 := by
    rw [← hW0]; exact (((Below.refl _ w).alloc (Nat.le_refl _) _).alloc (by simp) _).alloc (by simp; omega) _
  have hs0 : W0.heap.size = w.heap.size + 3 := by rw [← hW0]; simp
  clear hW0 hmk
  rw [hg] at b0 b1 b2 hb0 hs0 ⊢
  refine wpIn_rangeS hdp hwf hro rfl (enters_of Tryd.func102 (by kernel_rfl) rfl)
    (places1_in n (g + 1 + 1) hn W0 (b2.cell 0)) (by rintro b rfl; omega) (fun _ h => h.elim) (fun _ => rfl)
    (fun k W => ∃ cur : Array Value, cur.size = n ∧ Blk W g 3 cur ∧ Blk W (g + 1) 81 #[Value.slice (some { block := g, off := 0 }) n n] ∧ Below g w W ∧
      ∀ j x, j < k → (inord n 0)[j]? = some x → cur[x]? = some (.int .i64 (j : Nat)))
    (fun _ _ => False)
    (fun k => [(17, .int .i64 (k : Nat)), (18, .int .i64 ((inord n 0).getD k 0 : Nat)), (6, .int .i64 (k : Nat)), (7, .int .i64 ((inord n 0).getD k 0 : Nat))])
    ?stab (fun _ _ _ h _ => h) ⟨_, by simp [madeCells], b0, b1, hb0, by omega⟩ ?assign ?body ?done (fun _ _ h _ => h.elim)
  case stab =>
    rintro k A B ⟨cur, hcs, hB0, hB1, hbl, hc⟩ hm
    refine ⟨cur, hcs, hB0.mod hm (by simp; omega), hB1.mod hm (by simp; omega), ?_, hc⟩
    exact hbl.trans (hm.below (by have := hB0.lt; omega) (by rintro k (h | h | h) <;> first | exact h.elim | omega))
  case assign =>
    intro l k hk A C hC
    simp only [placesX]
    gi_wp2
    exact hC
  case body =>
    rintro l k hk A ⟨cur, hcs, hB0, hB1, hbl, hc⟩ hsA
    have hkl : k < (inord n 0).length := by rw [inord_length]; exact hk
    obtain ⟨x, hx⟩ : ∃ x, (inord n 0)[k]? = some x := ⟨_, List.getElem?_eq_getElem hkl⟩
    have hxn : x < n := inord_lt (List.mem_of_getElem? hx)
    rw [show (inord n 0).getD k 0 = x by simp [List.getD, hx]]
    have hc1 : A.cell? ⟨g + 1, 0, none⟩ = some (.slice (some ⟨g, 0, none⟩) n n) := hB1.cell 0
    obtain ⟨vx, hcx⟩ : ∃ vx, A.cell? ⟨g, x, none⟩ = some vx := ⟨_, (hB0.cell x).trans (Array.getElem?_eq_getElem (show x < cur.size by omega))⟩
    have hfx : A.frozen? ⟨g, x, none⟩ = false := hB0.frozen x
    have hxi : (0 : Int) ≤ (x : Int) := by omega
    have hH := Lib.hid hx
    have hHc := Lib.hid hc
    have hHs := Lib.hid hcs
    clear hx hc hcs
    simp only [rt, List.foldl_cons, List.foldl_nil]
    gi_wp2
    refine ⟨(Mod.refl _ _).setCell (p := ⟨g, x, none⟩) (by simp; omega) _, _, ?_, hB0.set_ x _, hB1.far (p := ⟨g, x, none⟩) (by simp) _, hbl.setCell (p := ⟨g, x, none⟩) (Nat.le_refl _) _, ?_⟩
    · simpa using hHs.out
    · intro j y hj hy
      have hcs := hHs.out
      by_cases hjk : j = k
      · subst hjk
        rw [hH.out] at hy
        obtain rfl := Option.some.inj hy
        simp [hcs, hxn]
      · have hy' := hHc.out j y (by omega) hy
        have hne : x ≠ y := by
          intro e
          subst e
          have h1 := List.getElem?_eq_some_iff.1 hy
          have h2 := List.getElem?_eq_some_iff.1 hH.out
          have e1 := idx_inord h1.1
          have e2 := idx_inord h2.1
          rw [h1.2] at e1
          rw [h2.2] at e2
          exact hjk (e1.symm.trans e2)
        rw [Array.getElem?_setIfInBounds_ne hne]
        exact hy'
  case done =>
    rintro W ⟨cur, hcs, hB0, hB1, hbl, hc⟩ hD
    have hc1 : W.cell? ⟨g + 1, 0, none⟩ = some (.slice (some ⟨g, 0, none⟩) n n) := hB1.cell 0
    have hHc := Lib.hid hc
    have hHs := Lib.hid hcs
    clear hc hcs
    gi_wp2
    subst hg
    refine postM_ret2 rfl hD ⟨rfl, ?_, ?_⟩
    · have hcur : cur = ((ranks n).map fun k => Value.int .i64 (k : Nat)).toArray := by
        have hcs := hHs.out
        refine Array.ext (by simp [ranks_length, hcs]) fun i h1 h2 => ?_
        have hi : i < n := by omega
        have h := hHc.out _ i (ranks_lt hi) (by rw [List.getElem?_eq_getElem (by rw [inord_length]; exact ranks_lt hi), inord_idx hi])
        rw [Array.getElem?_eq_getElem h1] at h
        simp [Option.some.inj h, ranks_get hi]
      rw [← hcur]
      exact hB0.of (World.putObj_heap_other (by have := hB0.lt; omega))
    · exact hbl.trans ⟨rfl, rfl, rfl, by simp [World.putObj], fun k hk => World.putObj_heap_other (by omega)⟩
end Go.Proofs.YtokomclcgegfkaaDoor
