/- Wey Ez Eref Bld Row: texts of the claim, in this order. -/
import Derived.Test.YthbppblmecdekaaDoorProg
import Derived.Test.YthbppblmecdekaaDoorWb1
import Derived.Deep.RegionHeld3
import Derived.Deep.AppendLies
import Derived.Deep.RegionLaw
import Derived.ProofKit
import Derived.OpenShut
import Derived.JoinedCond
import Derived.Deep.Slices
/- Contracts of eytz: asked, leftmost, next, places and what they yield, Order. -/
namespace Go.Proofs.YthbppblmecdekaaDoor
open Go Go.RowKit Go.Shelf
set_option maxRecDepth 100000

def askedE (n : Int) : Int := if n < 0 then 2 else if n > 65536 then 4 else 0

set_option maxHeartbeats 400000 in
theorem asked_any (n : Int) (w : World) :
    Calls Tryd.prog 134 #[.int .i64 n] w fun r w' => r = .returned (.int .i64 (askedE n)) ∧ w = w' := by
  go_enter Tryd.func134, Tryd.ntmps134
  go_wp2
  all_goals
    go_ret
    refine ⟨ret_int ?_, rfl⟩
    unfold askedE
    first | (rw [if_pos (by assumption)]) | (rw [if_neg (by omega), if_pos (by assumption)]) | (rw [if_neg (by omega), if_neg (by omega)])

set_option maxHeartbeats 400000 in
theorem leftmost_any (n a : Nat) (N Z : Int) (hN : N = n) (hZ : Z = a) (hn : n ≤ 65536) (ha : a ≤ 200000) (w : World) :
    Calls Tryd.prog 144 #[.int .i64 N, .int .i64 Z] w fun r w' => r = .returned (.int .i64 (lm n a : Nat)) ∧ w = w' := by
  subst hN hZ
  go_enter Tryd.func144, Tryd.ntmps144
  go_wp2
  go_loop [1] (fun i => ∃ b : Nat, b ≤ 200000 ∧ i = .int .i64 b ∧ Hid (lm n b = lm n a)) (fun i => n - (intOf i).toNat)
  case atStart => exact ⟨a, ha, rfl, rfl⟩
  case round =>
    obtain ⟨b, hb, rfl, hl⟩ := hrel
    by_cases hlt : 2 * b + 1 < n
    · go_wp2
      go_round
      case rel => exact ⟨2 * b + 1, by omega, by go_num, by rw [← hl.out, ← lm_in hlt]; rfl⟩
      case measure => simp [intOf]; omega
    · go_wp2
      go_ret
      exact ⟨ret_int (by rw [← hl.out, lm_out hlt]), rfl⟩

def nxI (n a : Nat) : Int := match nx n a with | some x => (x : Int) | none => -1

set_option maxHeartbeats 400000 in
theorem next_any (n a : Nat) (N Z : Int) (hN : N = n) (hZ : Z = a) (hn : n ≤ 65536) (ha : a < n) (w : World) :
    Calls Tryd.prog 145 #[.int .i64 N, .int .i64 Z] w fun r w' => r = .returned (.int .i64 (nxI n a)) ∧ w = w' := by
  subst hN hZ
  by_cases h2 : 2 * a + 2 < n
  · go_enter Tryd.func145, Tryd.ntmps145
    go_wp2
    go_step3
    go_wp2_with (go_at_call 144; refine (leftmost_any n (2 * a + 2) _ _ rfl (by omega) hn (by omega) _).mono ?_; rintro e w1 ⟨rfl, rfl⟩)
    rw [Exit.noGoto_ret]
    go_ret
    exact ⟨ret_int (by simp [nxI, nx, h2]), rfl⟩
  · go_enter Tryd.func145, Tryd.ntmps145
    go_wp2
    go_step3
    go_wp2
    go_step3
    go_wp2
    go_loop [1] (fun i => ∃ b : Nat, b ≤ a ∧ i = .int .i64 b ∧ Hid (upo b = upo a)) (fun i => (intOf i).toNat)
    case atStart => exact ⟨a, Nat.le_refl _, rfl, rfl⟩
    case round =>
      obtain ⟨b, hb, rfl, hl⟩ := hrel
      by_cases h0 : b = 0
      · have hz : (((b : Nat) : Int) == 0) = true := by simp [h0]
        have hr : Hid (nxI n a = -1) := by unfold nxI nx; rw [if_neg h2, ← hl.out, h0, upo_zero]; rfl
        clear h0
        go_wp2
        go_ret
        exact ⟨ret_int hr.out.symm, rfl⟩
      · have hz : (((b : Nat) : Int) == 0) = false := by simp [h0]
        by_cases h1 : b % 2 = 1
        · have hz1 : (((b : Nat) : Int) % 2 == 1) = true := by simp; omega
          have hr : Hid (nxI n a = ((b - 1) / 2 : Nat)) := by unfold nxI nx; rw [if_neg h2, ← hl.out, upo_odd h1]; rfl
          have h1' : 1 ≤ b := by omega
          clear h1 h0
          go_wp2
          go_ret
          exact ⟨ret_int (by rw [hr.out]; omega), rfl⟩
        · have hz1 : (((b : Nat) : Int) % 2 == 1) = false := by simp; omega
          have hr : Hid (upo ((b - 1) / 2) = upo a) := by rw [← upo_even h0 h1]; exact hl.out
          have h1' : 1 ≤ b := by omega
          clear h1 h0
          go_wp2
          go_round
          case rel => exact ⟨(b - 1) / 2, by omega, by congr 1; omega, hr⟩
          case measure => simp [intOf]; omega

attribute [local go_sem] Oper.semAt_some

/-- what eytz.places(n) yields: k and the k-th place -/
def placesX (n k : Nat) : Array Value := #[.int .i64 (k : Nat), .int .i64 ((inord n 0).getD k 0 : Nat)]
theorem placesX_get {n k x : Nat} (hx : (inord n 0)[k]? = some x) : placesX n k = #[.int .i64 (k : Nat), .int .i64 (x : Nat)] := by
  simp [placesX, List.getD, hx]

theorem nxI_some {n k x y : Nat} (hx : (inord n 0)[k]? = some x) (hy : (inord n 0)[k + 1]? = some y) : nxI n x = (y : Nat) := by
  unfold nxI; rw [nx_next hx, hy]
theorem nxI_none {n k x : Nat} (hx : (inord n 0)[k]? = some x) (hy : (inord n 0)[k + 1]? = none) : nxI n x = -1 := by
  unfold nxI; rw [nx_next hx, hy]

set_option maxHeartbeats 1000000 in
theorem places1_in (n B : Nat) (hn : n ≤ 65536) (w : World)
    (hc : w.cell? ⟨B, 0, none⟩ = some (.int .i64 (n : Nat))) :
    Yields Fence.wide Tryd.prog 143 #[.pointer (some ⟨B, 0, none⟩)] n (placesX n) (fun b => b = B) (fun _ => False) w := by
  intro l I X W hsz hKp hI hX hY h0
  have hcW : W.cell? ⟨B, 0, none⟩ = some (.int .i64 (n : Nat)) := (World.cell?_of_block (hKp B rfl)).trans hc
  have hdd : ∀ k : Nat, (Fence.wide.depth.isSome = true → 1 ≤ k) := fun k h => by cases h
  have hwf : ∀ f, Fence.wide.fn f := fun _ => trivial
  have hdp : Fence.wide.depth = none := rfl
  have hro : Fence.wide.round = none := rfl
  refine callsIn_of_wp Tryd.func143 rfl (hwf _) ?_ hro
  simp only [Tryd.ntmps143, List.size_toArray, List.length_cons, List.length_nil, Nat.reduceAdd, Nat.reduceSub, Array.replicate_succ, Array.replicate_zero, List.push_toArray, List.append_toArray, List.nil_append, List.cons_append]
  refine wpIn_scope_jumps 0 (fun a' w' => ∃ (k x : Nat) (v2 v5 v6 v7 v8 v9 v10 v11 v12 v13 v14 v15 v16 v17 v18 v19 v20 : Value), (inord n 0)[k]? = some x ∧
      a' = { tmps := #[.func (.yield l) #[] #[], .pointer (some ⟨B, 0, none⟩), v2, .int .i64 (k : Nat), .int .i64 (x : Nat), v5, v6, v7, v8, v9, v10, v11, v12, v13, v14, v15, v16, v17, v18, v19, v20], defers := [] } ∧
      I k w' ∧ w'.cell? ⟨B, 0, none⟩ = some (.int .i64 (n : Nat)))
    (fun a' _ => n - (intOf (a'.tmps.getD 3 undef)).toNat) rfl ?first ?pass
  case first =>
    by_cases hn0 : n = 0
    · have hz : (((n : Nat) : Int) == 0) = true := by simp [hn0]
      have hHl := Lib.hid (show 0 = n from hn0.symm)
      clear hn0 hY hKp hI hX
      gi_wp2
      simp only [Exit.jump]
      refine bodyPost_ret (results_none rfl _ _ _) rfl ?_
      exact ⟨⟨_, rfl⟩, .inl (hHl.out ▸ h0)⟩
    · have hz : (((n : Nat) : Int) == 0) = false := by simp [hn0]
      have hx : (inord n 0)[0]? = some (lm n 0) := by
        have h1 : 0 < n := by omega
        have h2 : 0 < (inord n 0).length := by rw [inord_length]; exact h1
        rw [List.getElem?_eq_getElem h2, inord_zero_get h1 h2]
      have hY' := hY 0 W (by omega) h0
      rw [placesX_get hx, show ((0 : Nat) : Int) = 0 from rfl] at hY'
      obtain ⟨fn, tmps, assign, body, hy, hR⟩ := hY'
      clear hY hKp hI hX hn0
      gi_wp2_with ((try refine ⟨hdd _, ?_⟩); gi_at_call 144; refine (callsIn_wide.2 (leftmost_any n 0 _ _ rfl rfl hn (by omega) _)).mono ?_; rintro e w1 ⟨rfl, rfl⟩)
      refine wpIn_label ?_
      gi_wp2
      refine hR.mono ?_
      clear hR hy
      rintro e W2 (⟨rfl, hi2, hs2, hk2⟩ | ⟨rfl, hx2⟩)
      · have hcw2 : W2.cell? ⟨B, 0, none⟩ = some (.int .i64 (n : Nat)) := (World.cell?_of_block (hk2 B rfl)).trans hcW
        have hxn := inord_lt (List.mem_of_getElem? hx)
        clear hk2
        rcases hnext : (inord n 0)[0 + 1]? with _ | y
        · have hH := Lib.hid (nxI_none hx hnext)
          have hlen : 0 + 1 = n := by
            have h1 := (List.getElem?_eq_none_iff.1 hnext)
            have h2 := (List.getElem?_eq_some_iff.1 hx).1
            rw [inord_length] at h1 h2
            omega
          have hHl := Lib.hid hlen
          have hHx := Lib.hid hx
          clear hnext hlen hx
          gi_wp2_with ((try refine ⟨hdd _, ?_⟩); gi_at_call 145; refine (callsIn_wide.2 (next_any n (lm n 0) _ _ rfl rfl hn hxn _)).mono ?_; rw [hH.out]; rintro e w1 ⟨rfl, rfl⟩)
          simp only [Exit.jump]
          refine bodyPost_end (results_none rfl _ _ _) rfl ?_
          exact ⟨⟨_, rfl⟩, .inl (hHl.out ▸ hi2)⟩
        · have hH := Lib.hid (nxI_some hx hnext)
          have hkn : 0 + 1 < n := by have := (List.getElem?_eq_some_iff.1 hnext).1; rwa [inord_length] at this
          have hHl := Lib.hid hnext
          have hHx := Lib.hid hx
          clear hnext hx
          gi_wp2_with ((try refine ⟨hdd _, ?_⟩); gi_at_call 145; refine (callsIn_wide.2 (next_any n (lm n 0) _ _ rfl rfl hn hxn _)).mono ?_; rw [hH.out]; rintro e w1 ⟨rfl, rfl⟩)
          refine wpIn_goto ?_
          refine ⟨rfl, ⟨1, y, _, _, _, _, _, _, _, _, _, _, _, _, _, _, _, _, _, hHl.out, rfl, hi2, hcw2⟩⟩
      · gi_wp2
        simp only [Exit.jump]
        refine bodyPost_ret (results_none rfl _ _ _) rfl ?_
        exact ⟨⟨_, rfl⟩, .inr hx2⟩
  case pass =>
    rintro a' w' ⟨k, x, v2, v5, v6, v7, v8, v9, v10, v11, v12, v13, v14, v15, v16, v17, v18, v19, v20, hx, rfl, hi, hcw⟩
    have hk : k < n := by rw [← inord_length n]; exact (List.getElem?_eq_some_iff.1 hx).1
    have hY' := hY k w' hk hi
    rw [placesX_get hx] at hY'
    obtain ⟨fn, tmps, assign, body, hy, hR⟩ := hY'
    clear hY hKp hI hX
    gi_wp2
    refine hR.mono ?_
    clear hR hy
    rintro e W2 (⟨rfl, hi2, hs2, hk2⟩ | ⟨rfl, hx2⟩)
    · have hcw2 : W2.cell? ⟨B, 0, none⟩ = some (.int .i64 (n : Nat)) := (World.cell?_of_block (hk2 B rfl)).trans hcw
      have hxn := inord_lt (List.mem_of_getElem? hx)
      clear hk2
      rcases hnext : (inord n 0)[k + 1]? with _ | y
      · have hH := Lib.hid (nxI_none hx hnext)
        have hlen : k + 1 = n := by
          have h1 := (List.getElem?_eq_none_iff.1 hnext)
          have h2 := (List.getElem?_eq_some_iff.1 hx).1
          rw [inord_length] at h1 h2
          omega
        have hHl := Lib.hid hlen
        clear hnext hlen
        gi_wp2_with ((try refine ⟨hdd _, ?_⟩); gi_at_call 145; refine (callsIn_wide.2 (next_any n x _ _ rfl rfl hn hxn _)).mono ?_; rw [hH.out]; rintro e w1 ⟨rfl, rfl⟩)
        simp only [Exit.jump]
        refine bodyPost_end (results_none rfl _ _ _) rfl ?_
        exact ⟨⟨_, rfl⟩, .inl (hHl.out ▸ hi2)⟩
      · have hH := Lib.hid (nxI_some hx hnext)
        have hkn : k + 1 < n := by have := (List.getElem?_eq_some_iff.1 hnext).1; rwa [inord_length] at this
        have hHl := Lib.hid hnext
        clear hnext
        gi_wp2_with ((try refine ⟨hdd _, ?_⟩); gi_at_call 145; refine (callsIn_wide.2 (next_any n x _ _ rfl rfl hn hxn _)).mono ?_; rw [hH.out]; rintro e w1 ⟨rfl, rfl⟩)
        refine wpIn_goto ?_
        refine ⟨rfl, ⟨k + 1, y, _, _, _, _, _, _, _, _, _, _, _, _, _, _, _, _, _, hHl.out, rfl, hi2, hcw2⟩, ?_⟩
        show n - (((k : Int) + 1)).toNat < n - ((k : Int)).toNat
        omega
    · gi_wp2
      simp only [Exit.jump]
      refine bodyPost_ret (results_none rfl _ _ _) rfl ?_
      exact ⟨⟨_, rfl⟩, .inr hx2⟩

set_option maxHeartbeats 400000 in
theorem places_any (n : Nat) (w : World) :
    Calls Tryd.prog 131 #[.int .i64 (n : Nat)] w fun r w' =>
      r = .returned (.func (.func 143) #[] #[.pointer (some ⟨w.heap.size, 0, none⟩)]) ∧ w' = w.alloc (.cells #[.int .i64 (n : Nat)] 3) := by
  go_enter Tryd.func131, Tryd.ntmps131
  go_wp2
  go_ret
  exact ⟨rfl, rfl⟩

theorem int_info : (Tryd.prog.info? 3).map (fun i => (i.zero, i.size, i.bytes)) = some (some (.int .i64 0), 1, 8) := by kernel_rfl

set_option maxHeartbeats 1000000 in
theorem order_ok (n : Nat) (hn : n ≤ 65536) (w : World) :
    Calls Tryd.prog 114 #[.int .i64 (n : Nat)] w fun r w' => r = .returned (.tuple #[.slice (some ⟨w.heap.size, 0, none⟩) n n, .int .i64 0]) ∧
      Blk w' w.heap.size 3 ((ranks n).map fun k => Value.int .i64 (k : Nat)).toArray ∧ Below w.heap.size w w' := by
  refine calls_of_in (_F := Fence.wide) ?_
  have hdd : ∀ k : Nat, (Fence.wide.depth.isSome = true → 1 ≤ k) := fun k h => by cases h
  have hwf : ∀ f, Fence.wide.fn f := fun _ => trivial
  have hdp : Fence.wide.depth = none := rfl
  have hro : Fence.wide.round = none := rfl
  obtain ⟨i0, hi, hz0, hz1, hz2⟩ := info_parts int_info
  have hmk := fun W => run_make_rowN (P := Tryd.prog) 157 3 i0 (.int .i64 0) Tryd.underlying157 hi hz0 n (by rw [hz2]; omega) (by omega) W
  rw [hz1] at hmk
  clear hi hz0 hz1 hz2
  refine callsIn_of_wp_marks Tryd.func114 rfl (hwf _) ?_ hro
  simp only [Tryd.ntmps114, List.size_toArray, List.length_cons, List.length_nil, Nat.reduceAdd, Nat.reduceSub, Array.replicate_succ, Array.replicate_zero, List.push_toArray, List.append_toArray, List.nil_append, List.cons_append]
  have hask := Lib.hid (show askedE (n : Nat) = 0 by unfold askedE; rw [if_neg (by omega), if_neg (by omega)])
  gi_wp2_with (first
    | ((try refine ⟨hdd _, ?_⟩); gi_at_call 134; refine (callsIn_wide.2 (asked_any _ _)).mono ?_; rw [hask.out]; rintro e w1 ⟨rfl, rfl⟩)
    | ((try refine ⟨hdd _, ?_⟩); gi_at_call 131; refine (callsIn_wide.2 (places_any _ _)).mono ?_; rintro e w1 ⟨rfl, rfl⟩))
  obtain ⟨g, hg⟩ : ∃ g, w.heap.size = g := ⟨_, rfl⟩
  obtain ⟨W0, hW0⟩ : ∃ W0, (((w.alloc (Obj.cells (madeCells #[Value.int IntKind.i64 0] n) 3)).alloc (Obj.cells #[Value.slice (some { block := w.heap.size, off := 0 }) n n] 157)).alloc (Obj.cells #[Value.int IntKind.i64 (n : Nat)] 3)) = W0 := ⟨_, rfl⟩
  rw [hW0]
  have b0 : Blk W0 w.heap.size 3 (madeCells #[Value.int IntKind.i64 0] n) := by rw [← hW0]; exact ((Blk.new w _ _).alloc _).alloc _
  have b1 : Blk W0 (w.heap.size + 1) 157 #[Value.slice (some { block := w.heap.size, off := 0 }) n n] := by
    rw [← hW0]; have := Blk.new (w.alloc (Obj.cells (madeCells #[Value.int IntKind.i64 0] n) 3)) 157 #[Value.slice (some { block := w.heap.size, off := 0 }) n n]
    rw [World.size_alloc] at this
    exact this.alloc _
  have b2 : Blk W0 (w.heap.size + 1 + 1) 3 #[Value.int IntKind.i64 (n : Nat)] := by
    rw [← hW0]; have := Blk.new ((w.alloc (Obj.cells (madeCells #[Value.int IntKind.i64 0] n) 3)).alloc (Obj.cells #[Value.slice (some { block := w.heap.size, off := 0 }) n n] 157)) 3 #[Value.int IntKind.i64 (n : Nat)]
    rwa [World.size_alloc, World.size_alloc] at this
  have hb0 : Below w.heap.size w W0 := by
    rw [← hW0]; exact (((Below.refl _ w).alloc (Nat.le_refl _) _).alloc (by simp) _).alloc (by simp; omega) _
  have hs0 : W0.heap.size = w.heap.size + 3 := by rw [← hW0]; simp
  clear hW0 hmk
  rw [hg] at b0 b1 b2 hb0 hs0 ⊢
  refine wpIn_rangeS hdp hwf hro rfl (enters_of Tryd.func143 (by kernel_rfl) rfl)
    (places1_in n (g + 1 + 1) hn W0 (b2.cell 0)) (by rintro b rfl; omega) (fun _ h => h.elim) (fun _ => rfl)
    (fun k W => ∃ cur : Array Value, cur.size = n ∧ Blk W g 3 cur ∧ Blk W (g + 1) 157 #[Value.slice (some { block := g, off := 0 }) n n] ∧ Below g w W ∧
      ∀ j x, j < k → (inord n 0)[j]? = some x → cur[x]? = some (.int .i64 (j : Nat)))
    (fun _ _ => False)
    (fun k => [(17, .int .i64 (k : Nat)), (18, .int .i64 ((inord n 0).getD k 0 : Nat)), (6, .int .i64 (k : Nat)), (7, .int .i64 ((inord n 0).getD k 0 : Nat))])
    ?stab (fun _ _ _ h _ => h) ⟨_, by simp [madeCells], b0, b1, hb0, by omega⟩ ?assign ?body ?done (fun _ _ h _ => h.elim)
  case stab =>
    rintro k A B ⟨cur, hcs, hB0, hB1, hbl, hc⟩ hm
    refine ⟨cur, hcs, hB0.mod hm (by simp; omega), hB1.mod hm (by simp; omega), ?_, hc⟩
    exact hbl.trans (hm.below (by have := hB0.lt; omega) (by rintro k (h | h | h) <;> first | exact h.elim | omega))
  case assign =>
    intro l k hk A C hC
    simp only [placesX]
    gi_wp2
    exact hC
  case body =>
    rintro l k hk A ⟨cur, hcs, hB0, hB1, hbl, hc⟩ hsA
    have hkl : k < (inord n 0).length := by rw [inord_length]; exact hk
    obtain ⟨x, hx⟩ : ∃ x, (inord n 0)[k]? = some x := ⟨_, List.getElem?_eq_getElem hkl⟩
    have hxn : x < n := inord_lt (List.mem_of_getElem? hx)
    rw [show (inord n 0).getD k 0 = x by simp [List.getD, hx]]
    have hc1 : A.cell? ⟨g + 1, 0, none⟩ = some (.slice (some ⟨g, 0, none⟩) n n) := hB1.cell 0
    obtain ⟨vx, hcx⟩ : ∃ vx, A.cell? ⟨g, x, none⟩ = some vx := ⟨_, (hB0.cell x).trans (Array.getElem?_eq_getElem (show x < cur.size by omega))⟩
    have hfx : A.frozen? ⟨g, x, none⟩ = false := hB0.frozen x
    have hxi : (0 : Int) ≤ (x : Int) := by omega
    have hH := Lib.hid hx
    have hHc := Lib.hid hc
    have hHs := Lib.hid hcs
    clear hx hc hcs
    simp only [rt, List.foldl_cons, List.foldl_nil]
    gi_wp2
    refine ⟨(Mod.refl _ _).setCell (p := ⟨g, x, none⟩) (by simp; omega) _, _, ?_, hB0.set_ x _, hB1.far (p := ⟨g, x, none⟩) (by simp) _, hbl.setCell (p := ⟨g, x, none⟩) (Nat.le_refl _) _, ?_⟩
    · simpa using hHs.out
    · intro j y hj hy
      have hcs := hHs.out
      by_cases hjk : j = k
      · subst hjk
        rw [hH.out] at hy
        obtain rfl := Option.some.inj hy
        simp [hcs, hxn]
      · have hy' := hHc.out j y (by omega) hy
        have hne : x ≠ y := by
          intro e
          subst e
          have h1 := List.getElem?_eq_some_iff.1 hy
          have h2 := List.getElem?_eq_some_iff.1 hH.out
          have e1 := idx_inord h1.1
          have e2 := idx_inord h2.1
          rw [h1.2] at e1
          rw [h2.2] at e2
          exact hjk (e1.symm.trans e2)
        rw [Array.getElem?_setIfInBounds_ne hne]
        exact hy'
  case done =>
    rintro W ⟨cur, hcs, hB0, hB1, hbl, hc⟩ hD
    have hc1 : W.cell? ⟨g + 1, 0, none⟩ = some (.slice (some ⟨g, 0, none⟩) n n) := hB1.cell 0
    have hHc := Lib.hid hc
    have hHs := Lib.hid hcs
    clear hc hcs
    gi_wp2
    subst hg
    refine postM_ret2 rfl hD ⟨rfl, ?_, ?_⟩
    · have hcur : cur = ((ranks n).map fun k => Value.int .i64 (k : Nat)).toArray := by
        have hcs := hHs.out
        refine Array.ext (by simp [ranks_length, hcs]) fun i h1 h2 => ?_
        have hi : i < n := by omega
        have h := hHc.out _ i (ranks_lt hi) (by rw [List.getElem?_eq_getElem (by rw [inord_length]; exact ranks_lt hi), inord_idx hi])
        rw [Array.getElem?_eq_getElem h1] at h
        simp [Option.some.inj h, ranks_get hi]
      rw [← hcur]
      exact hB0.of (World.putObj_heap_other (by have := hB0.lt; omega))
    · exact hbl.trans ⟨rfl, rfl, rfl, by simp [World.putObj], fun k hk => World.putObj_heap_other (by omega)⟩
end Go.Proofs.YthbppblmecdekaaDoor

/- Contracts: what entries may be, whether keys rise (bound.fair, bound.rising and what they call). -/
namespace Go.Proofs.YthbppblmecdekaaDoor
open Go Go.RowKit
set_option maxRecDepth 100000

theorem ent_stood : Tryd.prog.stoodInHeld 27 = false := by kernel_rfl
theorem ent_guard : Tryd.prog.eqGuardType Tryd.prog.depth 27 = false := by kernel_rfl
def neE (a b : Ent) : Bool := decide (a ≠ b)
theorem run_neq_ent (a b : Ent) (w : World) :
    (binOp .neq 27 (.agg #[.int .i64 a.key, .int .i64 a.val, .bool a.dead]) (.agg #[.int .i64 b.key, .int .i64 b.val, .bool b.dead])).run Tryd.prog w = .ok (.bool (neE a b)) w := by
  have h1 := ent_stood
  have h2 := ent_guard
  have h3 := Tryd.underlying27
  obtain ⟨k, v, d⟩ := a
  obtain ⟨k', v', d'⟩ := b
  simp only [go_sem, h1, h3]
  simp [go_sem, neE]
  by_cases hk : k = k' <;> by_cases hv : v = v' <;> by_cases hd : d = d' <;> simp [hk, hv, hd]

def badEnt (e : Ent) : Bool := e.dead && (e.val != 0)

set_option maxHeartbeats 400000 in
theorem fair1_any (e : Ent) (w : World) :
    Calls Tryd.prog 133 #[.agg #[.int .i64 e.key, .int .i64 e.val, .bool e.dead]] w fun r w' => r = .returned (.bool (badEnt e)) ∧ Below w.heap.size w w' := by
  obtain ⟨k, v, d⟩ := e
  cases d
  · go_enter Tryd.func133, Tryd.ntmps133
    go_wp2
    go_ret
    exact ⟨rfl, (Below.refl _ _).alloc (Nat.le_refl _) _⟩
  · go_enter Tryd.func133, Tryd.ntmps133
    go_wp2
    go_ret
    exact ⟨rfl, (Below.refl _ _).alloc (Nat.le_refl _) _⟩

set_option maxHeartbeats 400000 in
theorem indexFair_any (A : Option Addr) (l : List Ent) (c : Nat) (w : World) (hA : Sl w A (l.flatMap Ent.cells)) (hl : l.length ≤ 4611686018427387903) :
    Calls Tryd.prog 146 #[.slice A l.length c, .func (.func 133) #[] #[]] w
      fun r w' => (∃ n : Int, r = .returned (.int .i64 n) ∧ decide (n ≥ 0) = l.any badEnt) ∧ Below w.heap.size w w' := by
  go_enter Tryd.func146, Tryd.ntmps146
  go_wp2
  go_loopw [8] (fun i wr => ∃ k : Nat, k ≤ l.length ∧ i = .int .i64 k ∧ Below w.heap.size w wr ∧ (l.take k).any badEnt = false) (fun i _ => l.length - (intOf i).toNat)
  case atStart => exact ⟨0, Nat.zero_le _, rfl, Below.refl _ _, rfl⟩
  case round =>
    obtain ⟨k, hk, rfl, hb, hn⟩ := hrel
    by_cases hlt : k < l.length
    · obtain ⟨b, off, rfl, hbl, c1, c2, c3⟩ := (hA.below hb).ent k hlt
      go_wp2_with (go_at_call 133; refine (fair1_any (l[k]'hlt) _).mono ?_; rintro e w1 ⟨rfl, hb1⟩)
      · have hbad : badEnt (l[k]'hlt) = true := by assumption
        go_ret
        refine ⟨⟨(k : Int), rfl, ?_⟩, hb.trans (hb1.mono hb.size)⟩
        rw [List.any_eq_true.2 ⟨_, List.getElem_mem hlt, hbad⟩]
        simp
      · have hbad : badEnt (l[k]'hlt) = false := by assumption
        go_roundw
        case rel => exact ⟨k + 1, by omega, by go_num, hb.trans (hb1.mono hb.size), by rw [List.take_succ_eq_append_getElem hlt, List.any_append, hn]; simp [hbad]⟩
        case measure => simp [intOf]; omega
    · go_wp2
      go_ret
      refine ⟨⟨-1, rfl, ?_⟩, hb⟩
      rw [List.take_of_length_le (by omega)] at hn
      rw [hn]; rfl

set_option maxHeartbeats 400000 in
theorem containsFair_any (A : Option Addr) (l : List Ent) (c : Nat) (w : World) (hA : Sl w A (l.flatMap Ent.cells)) (hl : l.length ≤ 4611686018427387903) :
    Calls Tryd.prog 132 #[.slice A l.length c, .func (.func 133) #[] #[]] w
      fun r w' => r = .returned (.bool (l.any badEnt)) ∧ Below w.heap.size w w' := by
  go_enter Tryd.func132, Tryd.ntmps132
  go_wp2_with (go_at_call 146; refine (indexFair_any A l c _ hA hl).mono ?_; rintro e w1 ⟨⟨n, rfl, hn⟩, hb⟩; have hH := Lib.hid hn; clear hn)
  go_ret
  exact ⟨ret_bool (by rw [← hH.out]), hb⟩

def fairE (l : List Ent) : Int := if l.length > 65536 then 4 else if l.any badEnt then 8 else 0

set_option maxHeartbeats 400000 in
theorem fair_any (A : Option Addr) (l : List Ent) (c : Nat) (w : World) (hA : Sl w A (l.flatMap Ent.cells)) (hl : l.length ≤ 4611686018427387903) :
    Calls Tryd.prog 112 #[.slice A l.length c] w fun r w' => r = .returned (.int .i64 (fairE l)) ∧ Below w.heap.size w w' := by
  by_cases h1 : l.length > 65536
  · go_enter Tryd.func112, Tryd.ntmps112
    go_wp2
    go_ret
    exact ⟨ret_int (by unfold fairE; rw [if_pos h1]), Below.refl _ _⟩
  · go_enter Tryd.func112, Tryd.ntmps112
    go_wp2_with (go_at_call 132; refine (containsFair_any A l c _ hA hl).mono ?_; rintro e w1 ⟨rfl, hb⟩)
    · have h2 : l.any badEnt = true := by assumption
      go_ret
      exact ⟨ret_int (by unfold fairE; rw [if_neg h1, if_pos h2]), hb⟩
    · have h2 : l.any badEnt = false := by assumption
      go_ret
      exact ⟨ret_int (by unfold fairE; rw [if_neg h1, h2]; rfl), hb⟩

def riseE (l : List Ent) : Int := if rises (l.map Ent.key) then 0 else 130

set_option maxHeartbeats 1000000 in
theorem rising_any (A : Option Addr) (l : List Ent) (c : Nat) (w : World) (hA : Sl w A (l.flatMap Ent.cells)) (hl : l.length ≤ 4611686018427387903) :
    Calls Tryd.prog 113 #[.slice A l.length c] w fun r w' => r = .returned (.int .i64 (riseE l)) ∧ Below w.heap.size w w' := by
  go_enter Tryd.func113, Tryd.ntmps113
  go_wp2
  go_loopw [3] (fun i wr => ∃ k : Nat, 1 ≤ k ∧ i = .int .i64 k ∧ Below w.heap.size w wr ∧ Hid (RiseTo (l.map Ent.key) k)) (fun i _ => l.length - (intOf i).toNat)
  case atStart => exact ⟨1, Nat.le_refl _, rfl, Below.refl _ _, RiseTo.start _⟩
  case round =>
    obtain ⟨k, hk, rfl, hb, hn⟩ := hrel
    by_cases hlt : k < l.length
    · obtain ⟨b, off, rfl, hbl, c1, c2, c3⟩ := (hA.below hb).ent k hlt
      obtain ⟨b', off', e, _, d1, d2, d3⟩ := (hA.below hb).ent (k - 1) (by omega)
      simp only [Option.some.injEq, Addr.mk.injEq] at e
      obtain ⟨rfl, rfl, _⟩ := e
      have i0 : (0 : Int) ≤ (k : Int) := by omega
      have i1 : (k : Int) < (l.length : Int) := by omega
      have i2 : (0 : Int) ≤ (k : Int) - 1 := by omega
      have i3 : (k : Int) - 1 < (l.length : Int) := by omega
      clear c2 c3 d2 d3 hA
      go_wp2
      go_quiet (fail)
      go_wp2
      · have hx : (l[k]'hlt).key ≤ (l[k - 1]'(by omega)).key := by assumption
        go_ret
        refine ⟨ret_int ?_, bdrew hb _⟩
        unfold riseE
        rw [RiseTo.no hk (by simpa using hlt) (by simpa using hx)]
        rfl
      · have hx : (l[k - 1]'(by omega)).key < (l[k]'hlt).key := by assumption
        go_roundw
        case rel => exact ⟨k + 1, by omega, by go_num, bdrew hb _, hn.out.step hk (by simpa using hlt) (by simpa using hx)⟩
        case measure => simp [intOf]; omega
    · go_wp2
      go_ret
      refine ⟨ret_int ?_, hb⟩
      unfold riseE
      rw [hn.out.all (by simp; omega)]
      rfl
end Go.Proofs.YthbppblmecdekaaDoor

/- Contracts of the references: places, ranks, runs that are laid, and whether entries are the same. -/
namespace Go.Proofs.YthbppblmecdekaaDoor
open Go Go.RowKit
set_option maxRecDepth 100000

/-- the answer is a slice of the call's own with these cells -/
def GivesOwn (e : TypeId) (s n : Nat) (xs : List Value) (w : World) (r : Ending) (w' : World) : Prop :=
  ∃ A c, r = .returned (.slice A n c) ∧ w'.ownsRow w.heap.size e s (.slice A n c) n xs ∧ Below w.heap.size w w'

set_option maxHeartbeats 1000000 in
theorem refPlaces_any : ∀ (m n a : Nat) (N Z : Int) (w : World), N = n → Z = a → n ≤ 65536 → a ≤ 200000 → n - a ≤ m →
    Calls Tryd.prog 139 #[.int .i64 N, .int .i64 Z] w (GivesOwn 3 1 (inord n a).length ((inord n a).map natV) w) := by
  intro m
  induction m with
  | zero =>
    rintro n a N Z w rfl rfl hn ha hm
    have hlt : ¬ a < n := by omega
    go_enter Tryd.func139, Tryd.ntmps139
    go_wp2_with fail
    go_ret
    rw [inord_out hlt]
    exact ⟨none, 0, rfl, World.ownsRow_nil _ _ _ _, Below.refl _ _⟩
  | succ m ih =>
    rintro n a N Z w rfl rfl hn ha hm
    by_cases hlt : a < n
    · obtain ⟨i0, hi, hz0, hz1, hz2⟩ := info_parts int_info
      have IH := Lib.hid ih
      clear ih
      have l1 := inord_le n (2 * a + 1)
      have l2 := inord_le n (2 * a + 2)
      have l3 := inord_le n a
      have Hlen := Lib.hid (show (inord n a).length = (inord n (2 * a + 1)).length + 1 + (inord n (2 * a + 2)).length by rw [inord_in hlt]; simp; omega)
      have l4 : (inord n (2 * a + 1)).length + 1 + (inord n (2 * a + 2)).length ≤ 65536 := by rw [← Hlen.out]; omega
      go_enter Tryd.func139, Tryd.ntmps139
      go_wp2_with fail
      refine (IH.out n (2 * a + 1) _ _ _ rfl (by omega) hn (by omega) (by omega)).mono ?_
      rintro e w1 ⟨A1, c1, rfl, hown1, hb1⟩
      go_wp2_with (at_builtin; refine wpList_append_sl _ rfl (.tmp 13) (.tmp 15) _ rfl w.heap.size 3 i0 _ 1 8 Tryd.underlying157 hi hz0 hz1 hz2 rfl (by omega) (.slice A1 (inord n (2 * a + 1)).length c1) _ _ rfl (hown1.alloc _) _ 1 _ [natV a] rfl ((Blk.new w1 _ _).sl 0 _ (by intro j u hu; simpa [natV] using hu)) (by simp) (by simp [natV, Value.oneCell']) (by unfold maxLen; omega) (by omega) (by have := hb1.size; simp; omega) ?_; intro v2 w2 hown2 hg2)
      have hb2 : Below w.heap.size w w2 := (hb1.alloc hb1.size _).grown hg2 (by have := hb1.size; simp; omega) (fun k hk => (hown1.lt k hk).1)
      refine (IH.out n (2 * a + 2) _ _ _ rfl (by omega) hn (by omega) (by omega)).mono ?_
      rintro e w3 ⟨A3, c3, rfl, hown3, hb3⟩
      have hown2' := own_below hown2 hb3
      have hb23 := bext hb2 hb3
      go_wp2_with (at_builtin; refine wpList_append_sl _ rfl (.tmp 17) (.tmp 22) _ rfl w.heap.size 3 i0 _ 1 8 Tryd.underlying157 hi hz0 hz1 hz2 rfl (by omega) v2 _ _ rfl hown2' _ _ _ ((inord n (2 * a + 2)).map natV) rfl (own_sl hown3) (by simp) (by simp [natV, Value.oneCell']) (by unfold maxLen; omega) (by omega) (by have := hb23.size; omega) ?_; intro v4 w4 hown4 hg4)
      obtain ⟨A4, c4, rfl, _, _⟩ := own_form hown4
      go_ret
      refine ⟨A4, c4, by rw [Hlen.out]; rfl, ?_, hb23.grown hg4 hb23.size (fun k hk => (hown2'.lt k hk).1)⟩
      rw [Hlen.out, inord_in hlt]
      simpa using hown4
    · go_enter Tryd.func139, Tryd.ntmps139
      go_wp2_with fail
      go_ret
      rw [inord_out hlt]
      exact ⟨none, 0, rfl, World.ownsRow_nil _ _ _ _, Below.refl _ _⟩


theorem ent_info : (Tryd.prog.info? 27).map (fun i => (i.zero, i.size, i.bytes)) = some (some (.agg #[.int .i64 0, .int .i64 0, .bool false]), 3, 24) := by kernel_rfl

def entAt (l : List Ent) (i : Nat) : Ent := l.getD i ⟨0, 0, false⟩
theorem entAt_get {l : List Ent} {i : Nat} (h : i < l.length) : entAt l i = l[i] := by simp [entAt, List.getD, h]
/-- the entries, place by place -/
def laid (l : List Ent) : List Ent := (ranks l.length).map (entAt l)
theorem laid_length (l : List Ent) : (laid l).length = l.length := by simp [laid, ranks_length]


set_option maxHeartbeats 1000000 in
theorem refRising_any (A : Option Addr) (l : List Ent) (c : Nat) (w : World) (hA : Sl w A (l.flatMap Ent.cells)) (hl : l.length ≤ 4611686018427387903) :
    Calls Tryd.prog 120 #[.slice A l.length c] w fun r w' => r = .returned (.bool (rises (l.map Ent.key))) ∧ Below w.heap.size w w' := by
  go_enter Tryd.func120, Tryd.ntmps120
  go_wp2
  go_loopw [3] (fun i wr => ∃ k : Nat, 1 ≤ k ∧ i = .int .i64 k ∧ Below w.heap.size w wr ∧ Hid (RiseTo (l.map Ent.key) k)) (fun i _ => l.length - (intOf i).toNat)
  case atStart => exact ⟨1, Nat.le_refl _, rfl, Below.refl _ _, RiseTo.start _⟩
  case round =>
    obtain ⟨k, hk, rfl, hb, hn⟩ := hrel
    by_cases hlt : k < l.length
    · obtain ⟨b, off, rfl, hbl, c1, c2, c3⟩ := hA.entB hb k hlt
      obtain ⟨b', off', e, _, d1, d2, d3⟩ := hA.entB hb (k - 1) (by omega)
      simp only [Option.some.injEq, Addr.mk.injEq] at e
      obtain ⟨rfl, rfl, _⟩ := e
      have i0 : (0 : Int) ≤ (k : Int) := by omega
      have i1 : (k : Int) < (l.length : Int) := by omega
      have i2 : (0 : Int) ≤ (k : Int) - 1 := by omega
      have i3 : (k : Int) - 1 < (l.length : Int) := by omega
      clear c2 c3 d2 d3 hA
      go_wp2
      go_quiet (fail)
      go_wp2
      · have hx : (l[k]'hlt).key ≤ (l[k - 1]'(by omega)).key := by assumption
        go_ret
        refine ⟨?_, bdrew hb _⟩
        rw [RiseTo.no hk (by simpa using hlt) (by simpa using hx)]
        rfl
      · have hx : (l[k - 1]'(by omega)).key < (l[k]'hlt).key := by assumption
        go_roundw
        case rel => exact ⟨k + 1, by omega, by go_num, bdrew hb _, hn.out.step hk (by simpa using hlt) (by simpa using hx)⟩
        case measure => simp [intOf]; omega
    · go_wp2
      go_ret
      refine ⟨?_, hb⟩
      rw [hn.out.all (by simp; omega)]
      rfl

set_option maxHeartbeats 1000000 in
theorem refFair_any (A : Option Addr) (l : List Ent) (c : Nat) (w : World) (hA : Sl w A (l.flatMap Ent.cells)) (hl : l.length ≤ 4611686018427387903) :
    Calls Tryd.prog 119 #[.slice A l.length c] w fun r w' => r = .returned (.bool !(l.any badEnt)) ∧ w = w' := by
  go_enter Tryd.func119, Tryd.ntmps119
  go_wp2
  go_loop [3] (fun i => ∃ k : Nat, k ≤ l.length ∧ i = .int .i64 k ∧ Hid ((l.take k).any badEnt = false)) (fun i => l.length - (intOf i).toNat)
  case atStart => exact ⟨0, Nat.zero_le _, rfl, rfl⟩
  case round =>
    obtain ⟨k, hk, rfl, hn⟩ := hrel
    by_cases hlt : k < l.length
    · obtain ⟨b, off, rfl, hbl, c1, c2, c3⟩ := hA.ent k hlt
      have i0 : (0 : Int) ≤ (k : Int) := by omega
      have i1 : (k : Int) < (l.length : Int) := by omega
      obtain ⟨e, he⟩ : ∃ e, l[k]'hlt = e := ⟨_, rfl⟩
      have HE := Lib.hid he
      rw [he] at c1 c2 c3
      clear he hA c1
      obtain ⟨ek, ev, ed⟩ := e
      cases ed
      · dsimp only at c2 c3
        go_wp2
        go_round
        case rel => exact ⟨k + 1, by omega, by go_num, by show _ = false; rw [List.take_succ_eq_append_getElem hlt, List.any_append, hn.out, HE.out]; rfl⟩
        case measure => simp [intOf]; omega
      · dsimp only at c2 c3
        by_cases hv : ev = 0
        · have hv1 : (ev != 0) = false := by simp [hv]
          clear hv
          go_wp2
          go_round
          case rel => exact ⟨k + 1, by omega, by go_num, by show _ = false; rw [List.take_succ_eq_append_getElem hlt, List.any_append, hn.out, HE.out]; simp [badEnt, hv1]⟩
          case measure => simp [intOf]; omega
        · have hv1 : (ev != 0) = true := by simp [hv]
          clear hv
          go_wp2
          go_ret
          refine ⟨?_, rfl⟩
          rw [List.any_eq_true.2 ⟨_, List.getElem_mem hlt, by rw [HE.out]; simp [badEnt, hv1]⟩]
          rfl
    · go_wp2
      go_ret
      refine ⟨?_, rfl⟩
      have := hn.out
      rw [List.take_of_length_le (by omega)] at this
      rw [this]
      rfl

set_option maxRecDepth 100000 in
set_option maxHeartbeats 1000000 in
theorem sameEntries_any (A B : Option Addr) (l m : List Ent) (c d : Nat) (w : World) (hA : Sl w A (l.flatMap Ent.cells)) (hB : Sl w B (m.flatMap Ent.cells)) (_hl : l.length ≤ 4611686018427387903) (hm : m.length ≤ 4611686018427387903) :
    Calls Tryd.prog 81 #[.slice A l.length c, .slice B m.length d] w fun r w' => r = .returned (.bool (decide (l = m))) ∧ Below w.heap.size w w' := by
  by_cases hlen : l.length = m.length
  · have hz : ((l.length : Int) != (m.length : Int)) = false := by simp [hlen]
    have hz2 : (l.length : Int) ≤ (m.length : Int) := by omega
    have HL := Lib.hid hlen
    clear hlen
    go_enter Tryd.func81, Tryd.ntmps81
    go_wp2
    go_loopw [5] (fun i wr => ∃ k : Nat, k ≤ l.length ∧ i = .int .i64 k ∧ Below w.heap.size w wr ∧ Hid (l.take k = m.take k)) (fun i _ => l.length - (intOf i).toNat)
    case atStart => exact ⟨0, Nat.zero_le _, rfl, Below.refl _ _, rfl⟩
    case round =>
      obtain ⟨k, hk, rfl, hb, hn⟩ := hrel
      by_cases hlt : k < l.length
      · have hlt2 : k < m.length := by omega
        obtain ⟨b, off, rfl, hbl, c1, c2, c3⟩ := hA.entB hb k hlt
        obtain ⟨b', off', rfl, hbl', d1, d2, d3⟩ := hB.entB hb k hlt2
        have i0 : (0 : Int) ≤ (k : Int) := by omega
        have i1 : (k : Int) < (l.length : Int) := by omega
        have i2 : (k : Int) < (m.length : Int) := by omega
        clear hA hB
        have hne := fun w => run_neq_ent (l[k]'hlt) (m[k]'hlt2) w
        have hgu := ent_guard
        go_wp2
        go_quiet (fail)
        clear hne hgu
        go_wp2
        · have hx : neE (l[k]'hlt) (m[k]'hlt2) = true := by assumption
          go_ret
          refine ⟨ret_bool ?_, bdrew hb _⟩
          symm
          rw [decide_eq_false_iff_not]
          rintro rfl
          simp [neE] at hx
        · have hx : neE (l[k]'hlt) (m[k]'hlt2) = false := by assumption
          go_roundw
          case rel =>
            refine ⟨k + 1, by omega, by go_num, bdrew hb _, ?_⟩
            show _ = _
            rw [List.take_succ_eq_append_getElem hlt, List.take_succ_eq_append_getElem hlt2, hn.out]
            simp [neE] at hx
            rw [hx]
          case measure => simp [intOf]; omega
      · go_wp2
        go_ret
        refine ⟨ret_bool ?_, hb⟩
        have := hn.out
        rw [List.take_of_length_le (by omega), List.take_of_length_le (by have := HL.out; omega)] at this
        rw [this, decide_eq_true rfl]
  · have hz : ((l.length : Int) != (m.length : Int)) = true := by simp; omega
    have HL := Lib.hid hlen
    clear hlen
    go_enter Tryd.func81, Tryd.ntmps81
    go_wp2
    go_ret
    refine ⟨ret_bool ?_, Below.refl _ _⟩
    symm
    rw [decide_eq_false_iff_not]
    rintro rfl
    exact HL.out rfl
end Go.Proofs.YthbppblmecdekaaDoor

/- Contracts of bound.Build and of the reference's, and of shelfmarkref23.Same. -/
namespace Go.Proofs.YthbppblmecdekaaDoor
open Go Go.RowKit
set_option maxRecDepth 100000

/-- the error of Build -/
def buildE (l : List Ent) : Int := if l.length > 65536 then 4 else if l.any badEnt then 8 else if rises (l.map Ent.key) then 0 else 130
/-- the entries of the run that it gives -/
def buildL (l : List Ent) : List Ent := if buildE l = 0 then laid l else []

/-- the answer is a run of the call's own with these entries, and an error -/
def GivesRun (t : TypeId) (m : List Ent) (e : Int) (w : World) (r : Ending) (w' : World) : Prop :=
  ∃ A c, r = .returned (.tuple #[.agg #[.slice A m.length c], .int .i64 e]) ∧ w'.ownsRow w.heap.size t 3 (.slice A m.length c) m.length (m.flatMap Ent.cells) ∧ Below w.heap.size w w'

theorem gives_none {t : TypeId} {e : Int} {w w' : World} (h : Below w.heap.size w w') {m : List Ent} (hm : m = []) : GivesRun t m e w (.returned (.tuple #[.agg #[.slice none 0 0], .int .i64 e])) w' := by
  subst hm; exact ⟨none, 0, rfl, World.ownsRow_nil _ _ _ _, h⟩


theorem fairE_bad {l : List Ent} (h1 : ¬ l.length > 65536) (h2 : l.any badEnt = true) : fairE l = 8 := by unfold fairE; rw [if_neg h1, if_pos h2]
theorem fairE_ok {l : List Ent} (h1 : ¬ l.length > 65536) (h2 : l.any badEnt = false) : fairE l = 0 := by unfold fairE; rw [if_neg h1, h2]; rfl

set_option maxRecDepth 100000 in
set_option maxHeartbeats 2000000 in
theorem build_no (A : Option Addr) (l : List Ent) (c : Nat) (w : World) (hA : Sl w A (l.flatMap Ent.cells)) (hl : l.length ≤ 4611686018427387903) (hno : buildE l ≠ 0) :
    Calls Tryd.prog 79 #[.slice A l.length c] w (GivesRun 27 (buildL l) (buildE l) w) := by
  have hL : buildL l = [] := by unfold buildL; rw [if_neg hno]
  have hb0 : Below w.heap.size w (w.alloc (.cells #[.slice none 0 0] 61)) := (Below.refl _ _).alloc (Nat.le_refl _) _
  have hA0 : Sl (w.alloc (.cells #[.slice none 0 0] 61)) A (l.flatMap Ent.cells) := hA.below hb0
  rw [hL]
  by_cases hf : fairE l = 0
  · have h1 : ¬ l.length > 65536 := by intro h; unfold fairE at hf; rw [if_pos h] at hf; cases hf
    have h2 : l.any badEnt = false := by
      cases h : l.any badEnt with
      | false => rfl
      | true => rw [fairE_bad h1 h] at hf; cases hf
    have h3 : rises (l.map Ent.key) = false := by
      cases h : rises (l.map Ent.key) with
      | false => rfl
      | true => exact absurd (show buildE l = 0 by unfold buildE; rw [if_neg h1, h2, h]; rfl) hno
    have he : buildE l = 130 := by unfold buildE; rw [if_neg h1, h2, h3]; rfl
    have H3 := Lib.hid (show riseE l = 130 by unfold riseE; rw [h3]; rfl)
    have HF := Lib.hid hf
    rw [he]
    clear he h2 h3 hf hL hno
    go_enter Tryd.func79, Tryd.ntmps79
    go_wp2_with fail
    refine (fair_any A l c _ hA0 hl).mono ?_
    rw [HF.out]
    rintro e w1 ⟨rfl, hb1⟩
    have hb01 : Below w.heap.size w w1 := bext hb0 hb1
    have hA1 := hA0.below hb1
    go_wp2_with fail
    refine (rising_any A l c _ hA1 hl).mono ?_
    rw [H3.out]
    rintro e w2 ⟨rfl, hb2⟩
    have hb02 : Below w.heap.size w w2 := bext hb01 hb2
    have hx : Blk w2 w.heap.size 61 #[.slice none 0 0] := ((Blk.new w _ _).below hb1 (by simp)).below hb2 (by have := hb1.size; simp at this; omega)
    have hc2 : w2.cell? ⟨w.heap.size, 0, none⟩ = some (.slice none 0 0) := hx.cell 0
    have hf2 : w2.frozen? ⟨w.heap.size, 0, none⟩ = false := hx.frozen 0
    go_wp2
    refine bodyPost_ret (v := .tuple #[.agg #[.slice none 0 0], .int .i64 130]) (by simp [results, Tryd.results79, go_sem, hc2]) rfl (gives_none ?_ rfl)
    exact hb02.setCell (p := ⟨w.heap.size, 0, none⟩) (Nat.le_refl _) _
  · have he : buildE l = fairE l := by
      unfold fairE at hf
      unfold buildE fairE
      by_cases h1 : l.length > 65536
      · rw [if_pos h1, if_pos h1]
      · rw [if_neg h1] at hf
        rw [if_neg h1, if_neg h1]
        cases h : l.any badEnt with
        | true => rfl
        | false => rw [h] at hf; exact absurd rfl hf
    rw [he]
    obtain ⟨q, hq⟩ : ∃ q, fairE l = q := ⟨_, rfl⟩
    rw [hq] at hf ⊢
    have HF := Lib.hid hq
    have hz : (q != 0) = true := by simpa using hf
    clear hq hf he hL hno
    go_enter Tryd.func79, Tryd.ntmps79
    go_wp2_with fail
    refine (fair_any A l c _ hA0 hl).mono ?_
    rw [HF.out]
    rintro e w1 ⟨rfl, hb1⟩
    have hb01 : Below w.heap.size w w1 := bext hb0 hb1
    have hx : Blk w1 w.heap.size 61 #[.slice none 0 0] := (Blk.new w _ _).below hb1 (by simp)
    have hc2 : w1.cell? ⟨w.heap.size, 0, none⟩ = some (.slice none 0 0) := hx.cell 0
    have hf2 : w1.frozen? ⟨w.heap.size, 0, none⟩ = false := hx.frozen 0
    go_wp2
    refine bodyPost_ret (v := .tuple #[.agg #[.slice none 0 0], .int .i64 q]) (by simp [results, Tryd.results79, go_sem, hc2]) rfl (gives_none ?_ rfl)
    exact hb01.setCell (p := ⟨w.heap.size, 0, none⟩) (Nat.le_refl _) _

set_option maxRecDepth 100000 in
set_option maxHeartbeats 2000000 in
theorem build_yes (A : Option Addr) (l : List Ent) (c : Nat) (w : World) (hA : Sl w A (l.flatMap Ent.cells)) (hl : l.length ≤ 4611686018427387903) (hyes : buildE l = 0) :
    Calls Tryd.prog 79 #[.slice A l.length c] w (GivesRun 27 (buildL l) (buildE l) w) := by
  have hL : buildL l = laid l := by unfold buildL; rw [if_pos hyes]
  have hb0 : Below w.heap.size w (w.alloc (.cells #[.slice none 0 0] 61)) := (Below.refl _ _).alloc (Nat.le_refl _) _
  have hA0 : Sl (w.alloc (.cells #[.slice none 0 0] 61)) A (l.flatMap Ent.cells) := hA.below hb0
  have h1 : ¬ l.length > 65536 := by intro h; unfold buildE at hyes; rw [if_pos h] at hyes; cases hyes
  have h2 : l.any badEnt = false := by
    cases h : l.any badEnt with
    | false => rfl
    | true => unfold buildE at hyes; rw [if_neg h1, h] at hyes; cases hyes
  have h3 : rises (l.map Ent.key) = true := by
    cases h : rises (l.map Ent.key) with
    | true => rfl
    | false => unfold buildE at hyes; rw [if_neg h1, h2, h] at hyes; cases hyes
  have HF := Lib.hid (fairE_ok h1 h2)
  have H3 := Lib.hid (show riseE l = 0 by unfold riseE; rw [h3]; rfl)
  rw [hL, hyes]
  clear h2 h3 hL hyes
  obtain ⟨i0, hi, hz0, hz1, hz2⟩ := info_parts ent_info
  have hmk := fun W => run_make_rowN (P := Tryd.prog) 59 27 i0 _ Tryd.underlying59 hi hz0 l.length (by rw [hz2]; omega) (by omega) W
  rw [hz1] at hmk
  clear hi hz0 hz1 hz2
  go_enter Tryd.func79, Tryd.ntmps79
  go_wp2_with fail
  refine (fair_any A l c _ hA0 hl).mono ?_
  rw [HF.out]
  rintro e w1 ⟨rfl, hb1⟩
  have hb01 : Below w.heap.size w w1 := bext hb0 hb1
  have hA1 := hA0.below hb1
  go_wp2_with fail
  refine (rising_any A l c _ hA1 hl).mono ?_
  rw [H3.out]
  rintro e w2 ⟨rfl, hb2⟩
  have hb02 : Below w.heap.size w w2 := bext hb01 hb2
  have hs2 : w.heap.size < w2.heap.size := by have := hb1.size; have := hb2.size; simp at *; omega
  have hx2 : Blk w2 w.heap.size 61 #[.slice none 0 0] := ((Blk.new w _ _).below hb1 (by simp)).below hb2 (by have := hb1.size; simp at this; omega)
  go_wp2_with fail
  refine (order_ok l.length (by omega) _).mono ?_
  rintro e w3 ⟨rfl, ho3, hb3⟩
  simp only [World.size_alloc] at ho3 hb3
  have hb23 : Below w2.heap.size w2 w3 := ((Below.refl _ _).alloc (Nat.le_refl _) _).trans (hb3.mono (by omega))
  have hb03 : Below w.heap.size w w3 := bext hb02 hb23
  have hx3 := hx2.below hb23 hs2
  have hg3 := (Blk.new w2 27 (madeCells (Value.agg #[Value.int IntKind.i64 0, Value.int IntKind.i64 0, Value.bool false]).cells (l.length * 3))).below hb3 (by omega)
  have hA3 : Sl w3 A (l.flatMap Ent.cells) := hA.below hb03
  clear hmk hb3 hb0 hA0 hA1
  go_wp2
  go_loopw [34] (fun i wr => ∃ k : Nat, k ≤ l.length ∧ i = .int .i64 k ∧ Mod (fun b => b = w2.heap.size) w3 wr ∧
      ∃ cur : Array Value, Hid (cur.size = l.length * 3) ∧ Blk wr w2.heap.size 27 cur ∧ Hid (cur.toList.take (k * 3) = ((laid l).take k).flatMap Ent.cells))
      (fun i _ => l.length - (intOf i).toNat)
  case atStart => exact ⟨0, Nat.zero_le _, rfl, Mod.refl _ _, _, by show _ = _; simp [madeCells, Value.cells], hg3, by show _ = _; simp⟩
  case round =>
    obtain ⟨k, hk, rfl, hm, cur, hcs, hcur, hct⟩ := hrel
    by_cases hlt : k < l.length
    · have hb : Below w.heap.size w wr := hb03.trans (hm.below hb03.size (by intro k h; omega))
      have hrl : k < (ranks l.length).length := by rw [ranks_length]; exact hlt
      obtain ⟨x, hx⟩ : ∃ x, (ranks l.length)[k]'hrl = x := ⟨_, rfl⟩
      have hxn : x < l.length := by rw [← hx, ranks_get hlt]; exact ranks_lt hlt
      have ho4 := ho3.mod hm (by omega)
      have cr : wr.cell? ⟨w2.heap.size + 1, k, none⟩ = some (.int .i64 (x : Nat)) := by
        rw [ho4.cell]; simp [hrl, hx]
      obtain ⟨b, off, rfl, hbl, c1, c2, c3⟩ := hA.entB hb x hxn
      have hsz := hcs.out
      obtain ⟨v1, e1⟩ : ∃ v, wr.cell? ⟨w2.heap.size, k * 3, none⟩ = some v := ⟨_, (hcur.cell _).trans (Array.getElem?_eq_getElem (show k * 3 < cur.size by omega))⟩
      obtain ⟨v2, e2⟩ : ∃ v, wr.cell? ⟨w2.heap.size, k * 3 + 1, none⟩ = some v := ⟨_, (hcur.cell _).trans (Array.getElem?_eq_getElem (show k * 3 + 1 < cur.size by omega))⟩
      obtain ⟨v3, e3⟩ : ∃ v, wr.cell? ⟨w2.heap.size, k * 3 + 2, none⟩ = some v := ⟨_, (hcur.cell _).trans (Array.getElem?_eq_getElem (show k * 3 + 2 < cur.size by omega))⟩
      have f1 := hcur.frozen (k * 3)
      have f2 := hcur.frozen (k * 3 + 1)
      have f3 := hcur.frozen (k * 3 + 2)
      have hxi : (0 : Int) ≤ (x : Int) := by omega
      have hxi2 : (x : Int) < (l.length : Int) := by omega
      have hki : (0 : Int) ≤ (k : Int) := by omega
      have hki2 : (k : Int) < (l.length : Int) := by omega
      have hlk : Hid ((laid l)[k]'(by rw [laid_length]; exact hlt) = l[x]'hxn) := by show _ = _; simp [laid, hx, entAt_get hxn]
      have hlt' : k < (laid l).length := by rw [laid_length]; exact hlt
      have n1 := Nat.ne_of_lt hs2
      clear hx hsz
      go_wp2
      go_roundw
      case rel =>
        refine ⟨k + 1, by omega, by go_num, ((hm.setCell (p := ⟨w2.heap.size, k * 3, none⟩) rfl _).setCell (p := ⟨w2.heap.size, k * 3 + 1, none⟩) rfl _).setCell (p := ⟨w2.heap.size, k * 3 + 2, none⟩) rfl _, _, ?_, ((hcur.set_ (k * 3) _).set_ (k * 3 + 1) _).set_ (k * 3 + 2) _, ?_⟩
        · show _ = _; simpa using hcs.out
        · show _ = _
          rw [take_set3 _ _ _ (by rw [hcs.out]; omega) hct.out, List.take_succ_eq_append_getElem hlt', List.flatMap_append, hlk.out]
          simp [Ent.cells]
      case measure => simp [intOf]; omega
    · have hkn := Lib.hid (show k = l.length by omega)
      have hb : Below w.heap.size w wr := hb03.trans (hm.below hb03.size (by intro k h; omega))
      have hx4 := hx3.mod hm (by omega)
      have hc4 : wr.cell? ⟨w.heap.size, 0, none⟩ = some (.slice none 0 0) := hx4.cell 0
      have hf4 : wr.frozen? ⟨w.heap.size, 0, none⟩ = false := hx4.frozen 0
      have HL := Lib.hid (laid_length l)
      go_wp2
      refine bodyPost_ret (v := .tuple #[.agg #[.slice (some ⟨w2.heap.size, 0, none⟩) l.length l.length], .int .i64 0]) (by simp [results, Tryd.results79, go_sem, hc4]) rfl ?_
      refine ⟨some ⟨w2.heap.size, 0, none⟩, l.length, by rw [HL.out], ?_, hb.setCell (p := ⟨w.heap.size, 0, none⟩) (Nat.le_refl _) _⟩
      rw [HL.out]
      have hct' := hct.out
      rw [hkn.out, List.take_of_length_le (l := laid l) (by rw [HL.out]; omega)] at hct'
      refine own_far ⟨by rw [flat_length Ent.cells 3 Ent.cells_length, HL.out], .inr ⟨w2.heap.size, l.length, cur, rfl, by omega, hcur, Nat.le_refl _, by unfold maxLen; omega, hcs.out, hct'⟩⟩ ?_ _
      simp [Value.ownBlock]
      omega

theorem build_any (A : Option Addr) (l : List Ent) (c : Nat) (w : World) (hA : Sl w A (l.flatMap Ent.cells)) (hl : l.length ≤ 4611686018427387903) :
    Calls Tryd.prog 79 #[.slice A l.length c] w (GivesRun 27 (buildL l) (buildE l) w) := by
  by_cases h : buildE l = 0
  · exact build_yes A l c w hA hl h
  · exact build_no A l c w hA hl h

theorem buildL_le (l : List Ent) : (buildL l).length ≤ l.length := by unfold buildL; split <;> simp [laid_length]
theorem build_n (A : Option Addr) (l : List Ent) (n c : Nat) (w : World) (hn : l.length = n) (hA : Sl w A (l.flatMap Ent.cells)) (hl : l.length ≤ 4611686018427387903) :
    Calls Tryd.prog 79 #[.slice A n c] w (GivesRun 27 (buildL l) (buildE l) w) := by subst hn; exact build_any A l c w hA hl
set_option maxRecDepth 100000 in
set_option maxHeartbeats 1000000 in
theorem refSame_any (A B : Option Addr) (l m : List Ent) (c d : Nat) (w : World) (hA : Sl w A (l.flatMap Ent.cells)) (hB : Sl w B (m.flatMap Ent.cells)) (hl : l.length ≤ 4611686018427387903) (hm : m.length ≤ 4611686018427387903) :
    Calls Tryd.prog 99 #[.agg #[.slice A l.length c], .agg #[.slice B m.length d]] w fun r w' => r = .returned (.bool (decide (l = m))) ∧ Below w.heap.size w w' := by
  have hb0 : Below w.heap.size w ((w.alloc (.cells #[.slice A l.length c] 61)).alloc (.cells #[.slice B m.length d] 61)) := ((Below.refl _ _).alloc (Nat.le_refl _) _).alloc (by simp) _
  go_enter Tryd.func99, Tryd.ntmps99
  go_wp2_with (go_at_call 81; refine (sameEntries_any A B l m c d _ (hA.below hb0) (hB.below hb0) hl hm).mono ?_; rintro e w1 ⟨rfl, hb1⟩)
  go_ret
  exact ⟨rfl, bext hb0 hb1⟩

end Go.Proofs.YthbppblmecdekaaDoor

/- Reading a law's arguments as data, and the last step of a law's row: it returned true and nothing that was there has turned. No program in sight. -/
namespace Go.Proofs.YthbppblmecdekaaDoor
open Go Go.ChangeShapes Go.WideShapes Go.ChangeAt Go.RowKit Go.Deep

section
variable {H : Type} {enc : TypeId × Value → H} {P : Program}

theorem trodAll_stays (hl : laidOutB P = true) {W W' : World} {sp : Nat → Bool} : ∀ {ts : List TypeId} {vs : List Value} {ds : List (DataW H)} {ps : List MemPlace},
    (∀ t ∈ ts, P.readableRec t = true ∧ t < P.types.size) → DataW.TrodAll enc P W 0 (fun _ => true) true ts vs ds ps → (∀ p ∈ ps, W.sameAt W' p) → (∀ p ∈ ps, sp p.block = true) →
    DataW.TrodAll enc P W' 0 sp true ts vs ds ps := by
  intro ts
  induction ts with
  | nil =>
    intro vs ds ps _ h _ _
    obtain ⟨rfl, rfl, rfl⟩ := trodAll_nil h
    exact trodAll_mk0
  | cons t ts ih =>
    intro vs ds ps hr h hs hsp
    obtain ⟨v, vs', d, ds', p, q, rfl, rfl, rfl, h0, h1⟩ := trodAll_cons h
    exact ⟨p, q, WideElems.Trod_stays hl (hr t (by simp)).1 (hr t (by simp)).2 h0 (fun x hx => hs x (by simp [hx])) (fun x hx => hsp x (by simp [hx])),
      ih (fun t' ht' => hr t' (by simp [ht'])) h1 (fun x hx => hs x (by simp [hx])) (fun x hx => hsp x (by simp [hx])), rfl⟩

/-- a law's row, its last step -/
theorem law_post {f : Func} {s : ChangeSpec} {W W' : World} {args : Array Value} {ds : List (DataW H)} {before : List MemPlace} {tb : TypeId}
    (hl : laidOutB P = true) (hr : ∀ t ∈ f.params.toList, P.readableRec t = true ∧ t < P.types.size) (hv : s.vars = [])
    (hW : DataW.Whole enc P f.params.toList s.vars false W args.toList ds [] before)
    (hres : (s.fn H (ds ++ [])).results = [.lit (.bool true)]) (harg : (s.fn H (ds ++ [])).args = ds) (hvr : (s.fn H (ds ++ [])).vars = [])
    (hrt : f.resultTypes = #[tb]) (hbt : P.underlying tb = some .bool) (hb : Below W.heap.size W W') :
    s.post enc P f false true false false W args (.bool true) W' := by
  have hlt := hW.lt
  have hW0 := hW
  obtain ⟨p, q, hA, hV, rfl, _, _⟩ := hW
  rw [hv] at hV
  obtain ⟨_, rfl⟩ := trodVars_none hV
  refine ⟨ds, [], p ++ [], [], p, [], hW0, ?_, ?_, ?_, World.keptBut_mono (fun x hx => ⟨hx, ?_⟩) (hb.frame (· ∈ p ++ [])), fun h => by cases h⟩
  · rw [hres, hrt]
    exact trodAll_cons_mk (shut_bool hbt _) trodAll_mk0
  · rw [harg]
    refine trodAll_stays hl hr hA (fun x hx => hb.same (hlt x (by simp [hx]))) (fun x hx => ?_)
    have := hlt x (by simp [hx])
    simpa using this
  · rw [hv, hvr]; rfl
  · rw [List.append_nil] at hx; exact .inr (.inl hx)

theorem addr_flat {w : World} {a : Addr} {v : Value} (h : w.cell? a = some v) : a = ⟨a.block, a.off, none⟩ := by
  obtain ⟨b, o, s⟩ := a
  cases s with
  | none => rfl
  | some s =>
    unfold World.cell? at h
    split at h <;> simp at h

/-- a slice's reading, where each element's cells are those of some datum x of which R holds -/
theorem read_slice {α : Type} {w : World} {t e : TypeId} {s fuel : Nat} {v : Value} {x : DataW H × List MemPlace} (f : α → List Value) (R : α → Prop) (hf : ∀ x, (f x).length = s) (hs : 0 < s)
    (ht : P.underlying t = some (.slice e)) (hc : P.cellsOf e = s)
    (hdec : ∀ fuel cs y, DataW.trod enc P w 0 (fun _ => true) true fuel e cs = some y → ∃ x, cs = f x ∧ R x)
    (hv : ∃ a len cap, v = .slice a len cap) (h : DataW.trod enc P w 0 (fun _ => true) true fuel t v.cells.toList = some x) :
    ∃ (A : Option Addr) (l : List α) (c : Nat), v = .slice A l.length c ∧ l.length ≤ c ∧ c ≤ maxLen ∧ Sl w A (l.flatMap f) ∧ ∀ x ∈ l, R x := by
  obtain ⟨a0, len0, cap0, rfl⟩ := hv
  rcases open_slice ht h with ⟨hcs, _⟩ | ⟨a, len, cap, m, n, D, Pl, hcs, -, hlc, hcm, hm, -, hi⟩
  · simp only [Value.cells] at hcs
    injection hcs with hcs _
    rw [hcs]
    exact ⟨none, [], 0, rfl, Nat.le_refl _, Nat.zero_le _, .inl rfl, by simp⟩
  · simp only [Value.cells] at hcs
    injection hcs with hcs _
    rw [hcs]
    have hlm : len ≤ m := by rw [hm]; simp; exact hlc
    have hx : ∀ i, i < len → ∃ x, (∀ j, j < s → w.cell? (a.add (i * s + j)) = (f x)[j]?) ∧ R x := fun i hil => by
      obtain ⟨cs', h1, h2⟩ := hi i (by omega)
      obtain ⟨x, rfl, hR⟩ := hdec _ _ _ h2
      rw [hc] at h1
      obtain ⟨_, _, h3⟩ := World.cells?_some h1
      refine ⟨x, fun j hj => ?_, hR⟩
      rw [← h3 j hj, Go.Deep.add_add]
    have hl : ∃ l : List α, l.length = len ∧ ∀ i (hil : i < l.length), (∀ j, j < s → w.cell? (a.add (i * s + j)) = (f (l[i]'hil))[j]?) ∧ R (l[i]'hil) := by
      clear hi hlm hcs hm hlc hcm h
      induction len with
      | zero => exact ⟨[], rfl, fun i hil => by simp at hil⟩
      | succ len ih =>
        obtain ⟨l, hl, hg⟩ := ih fun i hi => hx i (by omega)
        obtain ⟨y, hy⟩ := hx len (by omega)
        refine ⟨l ++ [y], by simp [hl], fun i hil => ?_⟩
        by_cases e : i < l.length
        · rw [List.getElem_append_left e]; exact hg i e
        · have : i = len := by simp at hil; omega
          subst this
          rw [List.getElem_append_right (by omega)]
          simpa [hl] using hy
    obtain ⟨l, rfl, hg⟩ := hl
    refine ⟨some a, l, cap, rfl, hlc, hcm, ?_, fun x hx => ?_⟩
    · by_cases h0 : l.length = 0
      · left; rw [List.eq_nil_of_length_eq_zero h0]; rfl
      · right
        have hc0 := (hg 0 (by omega)).1 0 hs
        have hf0 : (f (l[0]'(by omega)))[0]? = some ((f (l[0]'(by omega)))[0]'(by rw [hf]; exact hs)) := List.getElem?_eq_getElem _
        rw [hf0] at hc0
        have ha0 : a.add (0 * s + 0) = a := by simp [Addr.add]
        rw [ha0] at hc0
        have ha := addr_flat hc0
        refine ⟨a.block, a.off, by rw [← ha], World.block_lt_of_cell? w a hc0, fun j u hu => ?_⟩
        have hjl : j < l.length * s := by
          have := (List.getElem?_eq_some_iff.1 hu).1
          rwa [flat_length f s hf] at this
        have hi : j / s < l.length := Nat.div_lt_of_lt_mul (by rw [Nat.mul_comm]; exact hjl)
        have hjs : j % s < s := Nat.mod_lt _ hs
        have hj : j / s * s + j % s = j := by rw [Nat.mul_comm]; exact Nat.div_add_mod j s
        have hc1 := (hg (j / s) hi).1 (j % s) hjs
        rw [hj] at hc1
        have hfl := flat_get f s hf l (j / s) (j % s) hi hjs
        rw [hj, hu] at hfl
        rw [← hfl] at hc1
        rw [ha, Addr.add_lit] at hc1
        exact hc1
    · obtain ⟨i, hi, rfl⟩ := List.getElem_of_mem hx
      exact (hg i hi).2

theorem dec_ent {w : World} {e ti tb : TypeId} (he : P.underlying e = some (.struct #[⟨ "Key", ti, 0, false, "", "", 0⟩, ⟨ "Val", ti, 1, false, "", "", 8⟩, ⟨ "Dead", tb, 2, false, "", "", 16⟩]))
    (hi : P.underlying ti = some (.int .i64)) (hb : P.underlying tb = some .bool) (hc : P.cellsOf e = 3) (hci : P.cellsOf ti = 1) (hcb : P.cellsOf tb = 1)
    (fuel : Nat) (cs : List Value) (y : DataW H × List MemPlace) (h : DataW.trod enc P w 0 (fun _ => true) true fuel e cs = some y) : ∃ x : Ent, cs = x.cells ∧ True := by
  obtain ⟨xs, n, _, _, hlen, hxl, hf⟩ := DataW.trod_struct he h
  rw [hc] at hlen
  match cs, hlen with
  | [c0, c1, c2], _ =>
    match xs, hxl with
    | [x0, x1, x2], _ =>
      have h0 := hf 0 ⟨ "Key", ti, 0, false, "", "", 0⟩ rfl
      have h1 := hf 1 ⟨ "Val", ti, 1, false, "", "", 8⟩ rfl
      have h2 := hf 2 ⟨ "Dead", tb, 2, false, "", "", 16⟩ rfl
      dsimp only at h0 h1 h2
      rw [hci] at h0 h1
      rw [hcb] at h2
      obtain ⟨k, e0, _⟩ := DataW.trod_int hi h0
      obtain ⟨v, e1, _⟩ := DataW.trod_int hi h1
      obtain ⟨d, e2, _⟩ := DataW.trod_bool hb h2
      simp at e0 e1 e2
      subst e0 e1 e2
      exact ⟨⟨k, v, d⟩, rfl, trivial⟩

theorem dec_pr {w : World} {e ti : TypeId} (he : P.underlying e = some (.struct #[⟨ "Key", ti, 0, false, "", "", 0⟩, ⟨ "Val", ti, 1, false, "", "", 8⟩]))
    (hi : P.underlying ti = some (.int .i64)) (hc : P.cellsOf e = 2) (hci : P.cellsOf ti = 1)
    (fuel : Nat) (cs : List Value) (y : DataW H × List MemPlace) (h : DataW.trod enc P w 0 (fun _ => true) true fuel e cs = some y) : ∃ x : Pr, cs = x.cells ∧ True := by
  obtain ⟨xs, n, _, _, hlen, hxl, hf⟩ := DataW.trod_struct he h
  rw [hc] at hlen
  match cs, hlen with
  | [c0, c1], _ =>
    match xs, hxl with
    | [x0, x1], _ =>
      have h0 := hf 0 ⟨ "Key", ti, 0, false, "", "", 0⟩ rfl
      have h1 := hf 1 ⟨ "Val", ti, 1, false, "", "", 8⟩ rfl
      dsimp only at h0 h1
      rw [hci] at h0 h1
      obtain ⟨k, e0, _⟩ := DataW.trod_int hi h0
      obtain ⟨v, e1, _⟩ := DataW.trod_int hi h1
      simp at e0 e1
      subst e0 e1
      exact ⟨⟨k, v⟩, rfl, trivial⟩
end
end Go.Proofs.YthbppblmecdekaaDoor
