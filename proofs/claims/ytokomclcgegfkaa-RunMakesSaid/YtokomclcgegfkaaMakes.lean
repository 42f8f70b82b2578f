/- The law RunMakes: for every entry and pairs it returns true; its arguments stay as they were. -/
import Derived.Test.YtokomclcgegfkaaRun1
import Derived.Test.YtokomclcgegfkaaArgs
import Derived.Test.YtokomclcgegfkaaRows
namespace Go.Proofs.Ytokomclcgegfkaa
open Go Go.ChangeShapes Go.WideShapes Go.ChangeAt Go.RowKit

set_option maxRecDepth 100000 in
set_option maxHeartbeats 4000000 in
theorem runMakes_any (x : Ent) (A : Option Addr) (l : List Pr) (c : Nat) (w : World) (hA : Sl w A (l.flatMap Pr.cells)) :
    Calls Try.prog 4 #[.agg #[.int .i64 x.key, .int .i64 x.val, .bool x.dead], .slice A l.length c] w fun r w' => r = .returned (.bool true) ∧ Below w.heap.size w w' := by
  by_cases hl : l.length > 300
  · go_enter Try.func4, Try.ntmps4
    go_wp2
    go_ret
    exact ⟨rfl, (Below.refl _ _).alloc (Nat.le_refl _) _⟩
  · obtain ⟨i0, hi, hz0, hz1, hz2⟩ := info_parts pr_info
    obtain ⟨W0, hW0⟩ : ∃ W0, (w.alloc (.cells #[.int .i64 x.key, .int .i64 x.val, .bool x.dead] 32)).alloc (.cells #[] 58) = W0 := ⟨_, rfl⟩
    have hb0 : Below w.heap.size w W0 := by rw [← hW0]; exact ((Below.refl _ _).alloc (Nat.le_refl _) _).alloc (by simp) _
    have hs0 : W0.heap.size = w.heap.size + 2 := by rw [← hW0]; simp
    have hx0 : Blk W0 w.heap.size 32 #[.int .i64 x.key, .int .i64 x.val, .bool x.dead] := by rw [← hW0]; exact (Blk.new _ _ _).alloc _
    have hown0 : W0.ownsRow (w.heap.size + 1) 58 2 (.slice (some ⟨w.heap.size + 1, 0, none⟩) 0 0) 0 [] := by
      rw [← hW0]
      have := World.ownsRow_made (base := w.heap.size + 1) (e := 58) (size := 2) (w.alloc (.cells #[.int .i64 x.key, .int .i64 x.val, .bool x.dead] 32)) #[] 0 (by simp) (Nat.zero_le _) rfl
      rwa [World.size_alloc] at this
    go_enter Try.func4, Try.ntmps4
    go_wp2_with (at_builtin; refine wpList_append_sl _ rfl (.tmp 17) (.tmp 18) _ rfl (w.heap.size + 1) 58 i0 _ 2 16 Try.underlying35 hi hz0 hz1 hz2 rfl (by omega) (.slice (some ⟨w.heap.size + 1, 0, none⟩) 0 0) 0 [] rfl hown0 A l.length c (l.flatMap Pr.cells) rfl (hA.below hb0) (flat_length Pr.cells 2 Pr.cells_length l) (by intro u hu; obtain ⟨e, _, he⟩ := List.mem_flatMap.1 hu; simp [Pr.cells] at he; rcases he with rfl | rfl <;> rfl) (by unfold maxLen; omega) (by omega) (by omega) ?_; intro v1 w1 hown1 hg1; simp only [Nat.zero_add, List.nil_append] at hown1; obtain ⟨A1, c1, rfl, hlc1, hcm1⟩ := own_form hown1; have hx1 : Blk w1 w.heap.size 32 #[.int .i64 x.key, .int .i64 x.val, .bool x.dead] := hx0.of (hg1.block _ (by omega) (by simp [Value.ownBlock])); have hcx0 := hx1.cell 0; have hcx1 := hx1.cell 1; have hcx2 := hx1.cell 2)
    have hb1 : Below w.heap.size w w1 := hb0.grown hg1 (by omega) (fun k hk => by have := (hown0.lt k hk).1; omega)
    have hsl1 := own_sl hown1
    have hA1 := hA.below hb1
    have he1 : (buildL [x]).length ≤ 1 := by simpa using buildL_le [x]
    have he2 : (buildL (l.map aliveE)).length ≤ 300 := by have := buildL_le (l.map aliveE); simp at this; omega
    clear hcx0 hcx1 hcx2 hown0 hg1 hi hz0 hz1 hz2 hx0 hown1 hW0
    -- run.One
    refine (runOne_any x _).mono ?_
    rintro e wa ⟨A2, c2, rfl, hown2, hb2⟩
    have hsl2 := own_sl hown2
    obtain ⟨Wa, hWa⟩ : ∃ Wa, wa.alloc (.cells #[.slice A2 (buildL [x]).length c2] 24) = Wa := ⟨_, rfl⟩
    have ha : Below wa.heap.size wa Wa := by rw [← hWa]; exact (Below.refl _ _).alloc (Nat.le_refl _) _
    have h1a : Below w1.heap.size w1 Wa := bext hb2 ha
    have hxa := hx1.below h1a hx1.lt
    have p0 : Wa.cell? ⟨w.heap.size, 0, none⟩ = some (.int .i64 x.key) := hxa.cell 0
    have p1 : Wa.cell? ⟨w.heap.size, 1, none⟩ = some (.int .i64 x.val) := hxa.cell 1
    have p2 : Wa.cell? ⟨w.heap.size, 2, none⟩ = some (.bool x.dead) := hxa.cell 2
    have qa : Blk Wa wa.heap.size 24 #[.slice A2 (buildL [x]).length c2] := by rw [← hWa]; exact Blk.new _ _ _
    go_wp2_with fail
    clear p0 p1 p2
    try rw [hWa]
    -- the reference's One
    refine (refOne_any x _).mono ?_
    rintro e wb ⟨A3, c3, rfl, hown3, hb3⟩
    have hsl3 := own_sl hown3
    obtain ⟨Wb, hWb⟩ : ∃ Wb, wb.alloc (.cells #[.slice A3 (buildL [x]).length c3] 24) = Wb := ⟨_, rfl⟩
    have hb : Below wb.heap.size wb Wb := by rw [← hWb]; exact (Below.refl _ _).alloc (Nat.le_refl _) _
    have hab : Below Wa.heap.size Wa Wb := bext hb3 hb
    have qab := qa.below hab qa.lt
    have qb : Blk Wb wb.heap.size 24 #[.slice A3 (buildL [x]).length c3] := by rw [← hWb]; exact Blk.new _ _ _
    have h1b : Below w1.heap.size w1 Wb := bext h1a hab
    go_wp2_with fail
    try rw [hWb]
    -- run.Of
    refine (runOf_any A1 l c1 _ (hsl1.below h1b) (by omega)).mono ?_
    rintro e wc ⟨A4, c4, rfl, hown4, hb4⟩
    have hsl4 := own_sl hown4
    obtain ⟨Wc, hWc⟩ : ∃ Wc, wc.alloc (.cells #[.slice A4 (buildL (l.map aliveE)).length c4] 24) = Wc := ⟨_, rfl⟩
    have hc : Below wc.heap.size wc Wc := by rw [← hWc]; exact (Below.refl _ _).alloc (Nat.le_refl _) _
    have hbc : Below Wb.heap.size Wb Wc := bext hb4 hc
    have qac := qab.below hbc qab.lt
    have qbc := qb.below hbc qb.lt
    have qc : Blk Wc wc.heap.size 24 #[.slice A4 (buildL (l.map aliveE)).length c4] := by rw [← hWc]; exact Blk.new _ _ _
    have h1c : Below w1.heap.size w1 Wc := bext h1b hbc
    go_wp2_with fail
    try rw [hWc]
    -- the reference's Of
    refine (refOf_any A l c _ (hA1.below h1c) (by omega)).mono ?_
    rintro e wd ⟨A5, c5, rfl, hown5, hb5⟩
    have hsl5 := own_sl hown5
    obtain ⟨Wd, hWd⟩ : ∃ Wd, wd.alloc (.cells #[.slice A5 (buildL (l.map aliveE)).length c5] 24) = Wd := ⟨_, rfl⟩
    have hd : Below wd.heap.size wd Wd := by rw [← hWd]; exact (Below.refl _ _).alloc (Nat.le_refl _) _
    have hcd : Below Wc.heap.size Wc Wd := bext hb5 hd
    have qad := qac.below hcd qac.lt
    have qbd := qbc.below hcd qbc.lt
    have qcd := qc.below hcd qc.lt
    have qd : Blk Wd wd.heap.size 24 #[.slice A5 (buildL (l.map aliveE)).length c5] := by rw [← hWd]; exact Blk.new _ _ _
    have h1d : Below w1.heap.size w1 Wd := bext h1c hcd
    have hbd : Below Wb.heap.size Wb Wd := bext hbc hcd
    have r1 : Wd.cell? ⟨wa.heap.size, 0, none⟩ = some (.slice A2 (buildL [x]).length c2) := qad.cell 0
    have r2 : Wd.cell? ⟨wb.heap.size, 0, none⟩ = some (.slice A3 (buildL [x]).length c3) := qbd.cell 0
    go_wp2_with fail
    try rw [hWd]
    clear hWa hWb hWc hWd r1 r2
    refine (refSame_any A2 A3 (buildL [x]) (buildL [x]) c2 c3 _ ((hsl2.below ha).below (bext hab hbd)) ((hsl3.below hb).below hbd) (by omega) (by omega)).mono ?_
    rw [show decide (buildL [x] = buildL [x]) = true from decide_eq_true rfl]
    rintro e we ⟨rfl, hb6⟩
    have r3 : we.cell? ⟨wc.heap.size, 0, none⟩ = some (.slice A4 (buildL (l.map aliveE)).length c4) := (qcd.below hb6 qcd.lt).cell 0
    have r4 : we.cell? ⟨wd.heap.size, 0, none⟩ = some (.slice A5 (buildL (l.map aliveE)).length c5) := (qd.below hb6 qd.lt).cell 0
    go_wp2_with fail
    clear r3 r4
    refine (refSame_any A4 A5 (buildL (l.map aliveE)) (buildL (l.map aliveE)) c4 c5 _ ((hsl4.below hc).below (bext hcd hb6)) ((hsl5.below hd).below hb6) (by omega) (by omega)).mono ?_
    rw [show decide (buildL (l.map aliveE) = buildL (l.map aliveE)) = true from decide_eq_true rfl]
    rintro e wf ⟨rfl, hb7⟩
    have h1f : Below w1.heap.size w1 wf := bext h1d (bext hb6 hb7)
    go_wp2_with fail
    refine (samePairs_any A1 A l l c1 c _ (hsl1.below h1f) (hA1.below h1f) (by omega) (by omega)).mono ?_
    rw [show decide (l = l) = true from decide_eq_true rfl]
    rintro e wg ⟨rfl, hb8⟩
    go_wp2
    go_ret
    exact ⟨rfl, bext hb1 (bext h1f hb8)⟩

set_option maxRecDepth 100000 in
theorem runMakes_lifted (os : Os) (started : os.Started) (H : Type) (enc : TypeId × Value → H) :
    ReturnsInHanded {} Try.checked os 4 .any (Rows.runMakesSpec.pre6 enc Try.prog Try.f4 Rows.runMakesRow.domain false)
      (Rows.runMakesSpec.post enc Try.prog Try.f4 false true false false) := by
  refine returnsInHanded_of_change (C := Try.checked) own started (by kernel_rfl) Try.func4
    (ChangeSpec.witness6 (enc := enc) (C := Try.checked) false ⟨#[], #[.agg #[.int .i64 0, .int .i64 0, .bool false], .slice none 0 0], []⟩ 8 (by kernel_rfl) (by kernel_rfl) (by kernel_rfl) (by kernel_rfl)) ?_
  intro W base args ds gs before hval0 hW _ _
  have hval : ∀ (j : Nat) t v, Try.f4.params[j]? = some t → args[j]? = some v → Value.okWide Try.prog W .any base t v := hval0
  have hW' := hW
  obtain ⟨p, q, hA0, hV, rfl, hfz, hnd⟩ := hW
  have hA : DataW.TrodAll enc Try.prog W 0 (fun _ => true) true Try.f4.params.toList args.toList ds p := hA0
  rw [Try.params4] at hA hval
  obtain ⟨v0, v1, d0, d1, p0, p1, rfl, rfl, rfl, h0, h1⟩ := trodAll_two hA
  obtain ⟨rfl, rfl⟩ := trodVars_none hV
  obtain ⟨x, rfl⟩ := read_ent (hval 0 32 v0 rfl rfl) h0
  obtain ⟨A, l, c, rfl, _, _, hs⟩ := read_prs (hval 1 35 v1 rfl rfl) h1
  refine (runMakes_any x A l c W hs).mono fun e W' ⟨he, hb⟩ => ?_
  subst he
  exact ⟨_, rfl, law_post (tb := 4) laidOut (by intro t ht; rw [Try.params4] at ht; simp at ht; rcases ht with rfl | rfl <;> exact ⟨by kernel_rfl, of_decide_eq_true (by kernel_rfl)⟩) rfl hW' rfl rfl rfl (by kernel_rfl) Try.underlying4 hb⟩

theorem runMakes_holds : Rows.RunMakesSaid :=
  OpenClaim.holds_of_wide 4 Try.f4 rfl rfl rfl rfl rfl rfl rfl ⟨rfl, rfl, rfl, rfl, rfl⟩ rfl rfl rfl rfl rfl (by kernel_rfl) Try.func4 (by kernel_rfl)
    (of_decide_eq_true (by kernel_rfl)) (by unfold Func.isWrapper; first | (rw [if_pos (by decide +kernel)]; kernel_rfl) | (rw [if_neg (by decide +kernel)]; exact ⟨rfl, rfl⟩))
    (fun os started H enc _ => runMakes_lifted os started H enc)
end Go.Proofs.Ytokomclcgegfkaa
