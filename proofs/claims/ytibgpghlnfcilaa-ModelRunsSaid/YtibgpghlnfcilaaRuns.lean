/- The law ModelRuns: for every number, pairs and operations it returns true; its arguments stay as they were. -/
import Derived.Test.YtibgpghlnfcilaaTsm
import Derived.Test.YtibgpghlnfcilaaRi2
import Derived.Test.YtibgpghlnfcilaaMargs5
import Derived.Test.YtibgpghlnfcilaaRows
namespace Go.Proofs.Ytibgpghlnfcilaa
open Go Go.ChangeShapes Go.WideShapes Go.ChangeAt Go.RowKit
set_option maxRecDepth 100000

/-! ### plain -/
theorem scan_len2 (l : List Pr) (a b n : Int) : (scanL l a b n).length ≤ l.length := by unfold scanL; simp; omega
theorem ask_len2 (l : List Pr) (o : Opn) : (askA l o).pairs.length ≤ l.length := by
  unfold askA
  repeat' split
  all_goals first | exact Nat.zero_le _ | (rw [oneA_pairs]; exact Nat.zero_le _) | exact scan_len2 _ _ _ _
theorem doA_len2 (most : Int) (l : List Pr) (o : Opn) : (doA most l o).pairs.length ≤ l.length := by
  unfold doA
  repeat' split
  all_goals first | exact Nat.zero_le _ | exact ask_len2 _ _
theorem runA_len2 {most : Int} : ∀ (os : List Opn) {l : List Pr}, checkE most l = 0 → ∀ a ∈ runA most l os, a.pairs.length ≤ 100000
  | [], _, _ => by intro a ha; simp [runA] at ha
  | o :: os, l, hc => by
    intro a ha
    obtain ⟨m1, m2, m3, _⟩ := check_ok hc
    rcases List.mem_cons.1 ha with rfl | ha
    · have := doA_len2 most l o; omega
    · exact runA_len2 os (step_check hc o) a ha

set_option maxHeartbeats 1600000 in
theorem runs_long (n : Int) (A : Option Addr) (l : List Pr) (c : Nat) (B : Option Addr) (k b : Nat) (w : World) (h1 : 200 < l.length) :
    Calls Try.prog 6 #[.int .i64 n, .slice A l.length c, .slice B k b] w fun r w' => r = .returned (.bool true) ∧ Below w.heap.size w w' := by
  go_enter Try.func6, Try.ntmps6
  go_wp2
  go_ret
  exact ⟨rfl, Below.refl _ _⟩

set_option maxHeartbeats 1600000 in
theorem runs_many (n : Int) (A : Option Addr) (l : List Pr) (c : Nat) (B : Option Addr) (ops : List OpM) (b : Nat) (w : World) (hO : OpsAt w B ops) (hob : ops.length ≤ maxLen) (h1 : ¬ 200 < l.length) (hg : greatB ops 60 = true) :
    Calls Try.prog 6 #[.int .i64 n, .slice A l.length c, .slice B ops.length b] w fun r w' => r = .returned (.bool true) ∧ Below w.heap.size w w' := by
  go_enter Try.func6, Try.ntmps6
  go_wp2_with fail
  refine (great_any B ops b 60 _ hO.1 (by unfold maxLen at hob; omega)).mono ?_
  rw [hg]
  rintro e w2 ⟨rfl, hb2⟩
  go_wp2
  go_ret
  exact ⟨rfl, hb2⟩

set_option maxHeartbeats 4000000 in
theorem runs_main (n : Int) (A : Option Addr) (l : List Pr) (c : Nat) (B : Option Addr) (ops : List OpM) (b : Nat) (X : List Pr) (aa : List Answ) (es : List Int) (E : Int) (w : World) (hA : Sl w A (l.flatMap Pr.cells)) (hO : OpsAt w B ops) (h1 : ¬ 200 < l.length) (hg : greatB ops 60 = false)
    (hP : ∀ (A' : Option Addr) (c' : Nat) (B' : Option Addr) (ops' : List OpM) (b' : Nat) (w' : World), Sl w' A' (l.flatMap Pr.cells) → OpsAt w' B' ops' → ops'.map OpM.o = ops.map OpM.o → Calls Try.prog 23 #[.int .i64 n, .slice A' l.length c', .slice B' ops'.length b'] w' (GivesRun X aa es E w'))
    (hR : ∀ w' : World, Sl w' A (l.flatMap Pr.cells) → OpsAt w' B ops → Calls Try.prog 25 #[.int .i64 n, .slice A l.length c, .slice B ops.length b] w' (GivesRun X aa es E w'))
    (hX : X.length ≤ 100000) (haa : ∀ a ∈ aa, a.pairs.length ≤ 100000) (hal : aa.length ≤ 100000) (hel : es.length ≤ 100000) :
    Calls Try.prog 6 #[.int .i64 n, .slice A l.length c, .slice B ops.length b] w fun r w' => r = .returned (.bool true) ∧ Below w.heap.size w w' := by
  have hgf : ops.length ≤ 60 ∧ fewB ops := by
    unfold greatB at hg
    have := of_decide_eq_false hg
    constructor
    · omega
    · by_cases hf : fewB ops
      · exact hf
      · exact absurd (.inr hf) this
  obtain ⟨hn60, hfew⟩ := hgf
  obtain ⟨ti0, hi, hz0, hz1, hz2⟩ := info_parts pr_info0
  have HI := Lib.hid (And.intro hi (And.intro hz0 (And.intro hz1 hz2)))
  have HP := Lib.hid hP
  have HR := Lib.hid hR
  have HAA := Lib.hid haa
  have HFew := Lib.hid hfew
  have HA := Lib.hid hA
  have HO := Lib.hid hO
  clear hi hz0 hz1 hz2 hP hR haa hfew hA hO
  go_enter Try.func6, Try.ntmps6
  go_wp2_with fail
  refine (great_any B ops b 60 _ HO.out.1 (by omega)).mono ?_
  rw [hg]
  rintro e w2 ⟨rfl, hb2⟩
  clear hg
  have hown0 : (w2.alloc (.cells #[] 23)).ownsRow w2.heap.size 23 2 (.slice (some ⟨w2.heap.size, 0, none⟩) 0 0) 0 [] := own_zero (Blk.new _ _ _) (Nat.le_refl _)
  have hb2a : Below w.heap.size w (w2.alloc (.cells #[] 23)) := hb2.alloc hb2.size _
  have hA2 := Lib.hid (HA.out.below hb2a)
  go_wp2_with (at_builtin; refine wpList_append_sl _ rfl (.tmp 23) (.tmp 24) _ rfl w2.heap.size 23 ti0 _ 2 16 Try.underlying24 HI.out.1 HI.out.2.1 HI.out.2.2.1 HI.out.2.2.2 rfl (by omega) (.slice (some ⟨w2.heap.size, 0, none⟩) 0 0) 0 [] rfl hown0 A l.length c (l.flatMap Pr.cells) rfl hA2.out (prs_length _) (one_prs _) (by unfold maxLen; omega) (by omega) (by simp) ?_; intro v3 w3 hown3 hg3; simp only [Nat.zero_add, List.nil_append] at hown3; obtain ⟨A3, c3, rfl, hlc3, hcm3⟩ := own_form hown3)
  have hb3 : Below w.heap.size w w3 := hb2a.grown hg3 (by have := hb2.size; simp; omega) (fun k hk => by have := (hown0.lt k hk).1; have := hb2.size; omega)
  have hs3 := Lib.hid (own_sl hown3)
  clear hown0 hown3 hg3 hb2a hb2 hA2
  refine (twinOps_any B ops b _ (HO.out.below hb3) (by omega) (fun x hx => by have := HFew.out x hx; omega)).mono ?_
  rintro e4 w4 ⟨B4, b4, ops4, rfl, ho4, hm4, hb4⟩
  have hb04 := bext hb3 hb4
  go_wp2_with fail
  refine (HP.out A3 c3 B4 ops4 b4 _ (hs3.out.below hb4) ho4 hm4).mono ?_
  rintro e5 w5 ⟨A5, c5, B5, b5, C5, d5, xs, rfl, hf5, hx5, hxs, he5, hb5⟩
  have hb05 := bext hb04 hb5
  go_wp2_with fail
  refine (HR.out _ (HA.out.below hb05) (HO.out.below hb05)).mono ?_
  rintro e6 w6 ⟨A6, c6, B6, b6, C6, d6, ys, rfl, hf6, hy6, hys, he6, hb6⟩
  have hb06 := bext hb05 hb6
  have hxl : xs.length = aa.length := by rw [← hxs, List.length_map]
  have hyl : ys.length = aa.length := by rw [← hys, List.length_map]
  have hbx : ∀ x ∈ xs, x.a.pairs.length ≤ 100000 := fun x hx => HAA.out x.a (by rw [← hxs]; exact List.mem_map.2 ⟨x, hx, rfl⟩)
  have hlx : xs.length ≤ 100000 := by omega
  have hyx : ys.length = xs.length := by omega
  have HY := Lib.hid hyx
  have HXY := Lib.hid (hxs.trans hys.symm)
  have HBX := Lib.hid hbx
  have HX5 := Lib.hid (hx5.below hb6)
  have HY6 := Lib.hid hy6
  have HE5 := Lib.hid (he5.below hb6)
  have HE6 := Lib.hid he6
  clear hxl hyl hyx hxs hys hbx hx5 hy6 he5 he6
  go_wp2_with fail
  refine (samePairs_any A5 A6 X X c5 c6 _ (hf5.sl.below hb6) hf6.sl (by omega) (by omega)).mono ?_
  rw [decide_eq_true rfl]
  rintro e7 w7 ⟨rfl, hb7⟩
  go_wp2_with fail
  rw [HY.out]
  refine (same_any xs.length es.length B5 B6 C5 C6 xs ys es b5 b6 d5 d6 _ (HX5.out.below hb7) (HY6.out.below hb7) (HE5.out.below hb7) (HE6.out.below hb7) HXY.out rfl HY.out rfl HBX.out ⟨hlx, hel⟩).mono ?_
  rintro e8 w8 ⟨rfl, hb8⟩
  go_wp2_with fail
  refine (samePairs_any A3 A l l c3 c _ (hs3.out.below (bext hb4 (bext hb5 (bext hb6 (bext hb7 hb8))))) (HA.out.below (bext hb06 (bext hb7 hb8))) (by omega) (by omega)).mono ?_
  rw [decide_eq_true rfl]
  rintro e9 w9 ⟨rfl, hb9⟩
  go_wp2
  go_ret
  exact ⟨rfl, bext (bext (bext hb06 hb7) hb8) hb9⟩

theorem runs_any (n : Int) (A : Option Addr) (l : List Pr) (c : Nat) (B : Option Addr) (ops : List OpM) (b : Nat) (w : World) (hA : Sl w A (l.flatMap Pr.cells)) (hO : OpsAt w B ops) (hob : ops.length ≤ maxLen) (hb : ∀ x ∈ l, prFit x) (hall : ∀ x ∈ ops, opAll x) :
    Calls Try.prog 6 #[.int .i64 n, .slice A l.length c, .slice B ops.length b] w fun r w' => r = .returned (.bool true) ∧ Below w.heap.size w w' := by
  by_cases h1 : 200 < l.length
  · exact runs_long n A l c B ops.length b w h1
  · cases hg : greatB ops 60
    · have hgf : ops.length ≤ 60 ∧ fewB ops := by
        unfold greatB at hg
        have := of_decide_eq_false hg
        constructor
        · omega
        · by_cases hf : fewB ops
          · exact hf
          · exact absurd (.inr hf) this
      obtain ⟨hn60, hfew⟩ := hgf
      by_cases hC : checkE n l = 0
      · have hc2 := run_check (ops.map OpM.o) hC
        obtain ⟨m1, m2, m3, _⟩ := check_ok hc2
        refine runs_main n A l c B ops b (runL n l (ops.map OpM.o)) (runA n l (ops.map OpM.o)) (runE n l (ops.map OpM.o)) 0 w hA hO h1 hg ?_ ?_ (by omega) (runA_len2 _ hC) (by rw [runA_length, List.length_map]; omega) (by rw [runE_length, List.length_map]; omega)
        · intro A' c' B' ops' b' w' hA' hO' hm
          have hlen : ops'.length = ops.length := by have := congrArg List.length hm; rwa [List.length_map, List.length_map] at this
          rw [← hm]
          refine run_ok n A' l c' B' ops' b' w' hA' hO' (by omega) ?_ hC
          intro x hx
          have hxm : x.o ∈ ops.map OpM.o := by rw [← hm]; exact List.mem_map.2 ⟨x, hx, rfl⟩
          obtain ⟨y, hy, hyx⟩ := List.mem_map.1 hxm
          have := hfew y hy
          rw [← hyx]
          omega
        · intro w' hA' hO'
          exact refrun_ok n A l c B ops b w' hA' hO' (by omega) (fun x hx => ⟨by have := hfew x hx; omega, (hall x hx).1, (hall x hx).2.1, (hall x hx).2.2⟩) hb hC
      · refine runs_main n A l c B ops b [] [] [] (checkE n l) w hA hO h1 hg ?_ ?_ (by simp) (by simp) (by simp) (by simp)
        · intro A' c' B' ops' b' w' hA' _ _
          exact run_bad n A' l c' B' ops'.length b' w' hA' (by omega) _ rfl hC
        · intro w' hA' _
          exact refrun_bad n A l c B ops.length b w' hA' (by omega) _ rfl hC
    · exact runs_many n A l c B ops b w hO hob h1 hg

set_option maxRecDepth 100000 in
theorem modelRuns_lifted (os : Os) (started : os.Started) (H : Type) (enc : TypeId × Value → H) :
    ReturnsInHanded {} Try.checked os 6 .any (Rows.modelRunsSpec.pre6 enc Try.prog Try.f6 Rows.modelRunsRow.domain false)
      (Rows.modelRunsSpec.post enc Try.prog Try.f6 false true false false) := by
  refine returnsInHanded_of_change (C := Try.checked) own started (by kernel_rfl) Try.func6
    (ChangeSpec.witness6 (enc := enc) (C := Try.checked) false ⟨#[], #[.int .i64 0, .slice none 0 0, .slice none 0 0], []⟩ 8 (by kernel_rfl) (by kernel_rfl) (by kernel_rfl) (by kernel_rfl)) ?_
  intro W base args ds gs before hval0 hW _ _
  have hval : ∀ (j : Nat) t v, Try.f6.params[j]? = some t → args[j]? = some v → Value.okWide Try.prog W .any base t v := hval0
  have hW' := hW
  obtain ⟨p, q, hA0, hV, rfl, hfz, hnd⟩ := hW
  have hA : DataW.TrodAll enc Try.prog W 0 (fun _ => true) true Try.f6.params.toList args.toList ds p := hA0
  rw [Try.params6] at hA hval
  obtain ⟨v0, v1, v2, d0, d1, d2, p0, p1, p2, rfl, rfl, rfl, h0, h1, h2⟩ := trodAll_three hA
  obtain ⟨rfl, rfl⟩ := trodVars_none hV
  obtain ⟨n, rfl⟩ := okWide_int Try.underlying3 (hval 0 3 v0 rfl rfl)
  obtain ⟨A, l, c, rfl, _, _, hs, hb⟩ := read_prsw (hval 1 24 v1 rfl rfl) h1
  obtain ⟨B, ops, b, rfl, hob, hbm, hso, hall⟩ := read_opsw (hval 2 46 v2 rfl rfl) h2
  refine (runs_any n A l c B ops b W hs hso (Nat.le_trans hob hbm) hb hall).mono fun e W' ⟨he, hb⟩ => ?_
  subst he
  exact ⟨_, rfl, law_post (tb := 4) laidOut (by intro t ht; rw [Try.params6] at ht; simp at ht; rcases ht with rfl | rfl | rfl <;> exact ⟨by kernel_rfl, of_decide_eq_true (by kernel_rfl)⟩) rfl hW' rfl rfl rfl (by kernel_rfl) Try.underlying4 hb⟩

theorem modelRuns_holds : Rows.ModelRunsSaid :=
  OpenClaim.holds_of_wide 6 Try.f6 rfl rfl rfl rfl rfl rfl rfl ⟨rfl, rfl, rfl, rfl, rfl⟩ rfl rfl rfl rfl rfl (by kernel_rfl) Try.func6 (by kernel_rfl)
    (of_decide_eq_true (by kernel_rfl)) (by unfold Func.isWrapper; first | (rw [if_pos (by decide +kernel)]; kernel_rfl) | (rw [if_neg (by decide +kernel)]; exact ⟨rfl, rfl⟩))
    (fun os started H enc _ => modelRuns_lifted os started H enc)

end Go.Proofs.Ytibgpghlnfcilaa
