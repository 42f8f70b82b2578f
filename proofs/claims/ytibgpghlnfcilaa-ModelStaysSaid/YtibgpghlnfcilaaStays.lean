/- The law ModelStays: for every number, pairs and operation it returns true; its arguments stay as they were. -/
import Derived.Test.YtibgpghlnfcilaaMv
import Derived.Test.YtibgpghlnfcilaaPn
import Derived.Test.YtibgpghlnfcilaaMargs
import Derived.Test.YtibgpghlnfcilaaRows
namespace Go.Proofs.Ytibgpghlnfcilaa
open Go Go.ChangeShapes Go.WideShapes Go.ChangeAt Go.RowKit
set_option maxRecDepth 100000

theorem do_err {most : Int} {l : List Pr} {o : Opn} (h : doE most l o ≠ 0) : doL most l o = [] ∧ doA most l o = noAns ∧ (checkE most l = 0 ∨ doE most l o = checkE most l) := by
  refine ⟨by simp [doL, h], by simp [doA, h], ?_⟩
  by_cases hc : checkE most l = 0
  · exact .inl hc
  · right; simp [doE, hc]
theorem do_check {most : Int} {l : List Pr} {o : Opn} (h : doE most l o = 0) : checkE most (doL most l o) = 0 := by
  have hc : checkE most l = 0 := by
    by_cases hc : checkE most l = 0
    · exact hc
    · simp [doE, hc] at h
  obtain ⟨h1, h2, h3, h4⟩ := check_ok hc
  have hr := do_ris most l o
  have hlen : ((doL most l o).length : Int) ≤ most := by
    unfold doL
    rw [if_neg (by omega)]
    split
    · exact h3
    · rename_i hk
      have ht : turnE most l o = 0 := by simpa [doE, hc, hk] using h
      unfold turnL
      rw [if_pos ht]
      unfold turnE at ht
      repeat' split at ht
      all_goals first | omega | (simp at ht)
  unfold checkE
  rw [if_neg (by omega), if_neg (by rintro (h | h); omega; exact h hr)]
theorem do_same {most : Int} {l : List Pr} {o : Opn} (h : doE most l o = 0) (n2 : ¬ o.kind = 2) (n3 : ¬ o.kind = 3) (n11 : ¬ o.kind = 11) (n12 : ¬ o.kind = 12) (n13 : ¬ o.kind = 13) : doL most l o = l := by
  have hc : checkE most l = 0 := by
    by_cases hc : checkE most l = 0
    · exact hc
    · simp [doE, hc] at h
  have hk : known o = true := by
    cases hk : known o
    · simp [doE, hc, hk, turnE, n2, n3, n11, n12, n13] at h
    · rfl
  simp [doL, h, hk]

set_option maxHeartbeats 3200000 in
theorem modelStays_any (most : Int) (A : Option Addr) (l : List Pr) (c : Nat) (o : Opn) (Ao : Option Addr) (co : Nat) (w : World) (hA : Sl w A (l.flatMap Pr.cells)) (hlc : l.length ≤ c) (hO : Sl w Ao (o.pairs.flatMap Pr.cells)) :
    Calls Try.prog 5 #[.int .i64 most, .slice A l.length c, .agg #[.int .u8 o.kind, .int .i64 o.key, .int .i64 o.val, .int .i64 o.to, .int .i64 o.n, .slice Ao o.pairs.length co]] w fun r w' => r = .returned (.bool true) ∧ Below w.heap.size w w' := by
  have hb0 : Below w.heap.size w (w.alloc (.cells #[.int .u8 o.kind, .int .i64 o.key, .int .i64 o.val, .int .i64 o.to, .int .i64 o.n, .slice Ao o.pairs.length co] 28)) := (Below.refl _ _).alloc (Nat.le_refl _) _
  by_cases h1 : 200 < l.length
  · go_enter Try.func5, Try.ntmps5
    go_wp2_with fail
    refine (alive_any _).mono ?_
    rintro e w1 ⟨rfl, hb1⟩
    go_wp2
    go_ret
    exact ⟨rfl, bext hb0 hb1⟩
  by_cases h2 : 200 < o.pairs.length
  · go_enter Try.func5, Try.ntmps5
    go_wp2_with fail
    refine (alive_any _).mono ?_
    rintro e w1 ⟨rfl, hb1⟩
    obtain ⟨hc1, hz1, hs1⟩ := wfacts hb1
    go_wp2
    go_ret
    exact ⟨rfl, bext hb0 hb1⟩
  obtain ⟨E, hE⟩ : ∃ E, doE most l o = E := ⟨_, rfl⟩
  obtain ⟨X, hX⟩ : ∃ X, doL most l o = X := ⟨_, rfl⟩
  obtain ⟨a, ha⟩ : ∃ a, doA most l o = a := ⟨_, rfl⟩
  have HE := Lib.hid hE
  have HX := Lib.hid hX
  have Ha := Lib.hid ha
  have hA := Lib.hid hA
  have hO := Lib.hid hO
  clear hE hX ha
  go_enter Try.func5, Try.ntmps5
  go_wp2_with fail
  refine (alive_any _).mono ?_
  rintro e w1 ⟨rfl, hb1⟩
  have hb01 := bext hb0 hb1
  obtain ⟨hc1, hz1, hs1⟩ := wfacts hb1
  go_wp2_with fail
  refine (do_any most A l c o Ao co _ (hA.out.below hb01) hlc (by omega) (hO.out.below hb01) (by omega)).mono ?_
  rw [HE.out, HX.out, Ha.out]
  rintro e2 w2 ⟨A2, c2, A3, c3, rfl, hf2, hf3, hb2⟩
  have hb02 := bext hb01 hb2
  obtain ⟨hc2, hz2, hs2⟩ := wfacts hb2
  have hb03 : Below w.heap.size w (w2.alloc (.cells #[.int .i64 a.pair.key, .int .i64 a.pair.val, .int .i64 a.n, .slice A3 a.pairs.length c3] 30)) := hb02.alloc hb02.size _
  by_cases e0 : E = 0
  · subst e0
    have hchk := Lib.hid (do_check HE.out)
    have hlen := do_len most l o
    rw [HX.out] at hchk hlen
    have hal : Below w2.heap.size w2 (w2.alloc (.cells #[.int .i64 a.pair.key, .int .i64 a.pair.val, .int .i64 a.n, .slice A3 a.pairs.length c3] 30)) := (Below.refl _ _).alloc (Nat.le_refl _) _
    have lw : w.heap.size < w2.heap.size := hs2 _ (hs1 _ (by simp))
    have hsl2 := Lib.hid (hf2.sl.below hal)
    go_upto_region 7 with fail
    by_cases k2 : o.kind = 2
    · go_wp2_with fail
      refine (check_any most A2 X c2 _ hsl2.out (by omega)).mono ?_
      rw [hchk.out]
      rintro e3 w3 ⟨rfl, hb3⟩
      go_wp2
      go_ret
      exact ⟨rfl, bext hb03 hb3⟩
    by_cases k3 : o.kind = 3
    · go_wp2_with fail
      refine (check_any most A2 X c2 _ hsl2.out (by omega)).mono ?_
      rw [hchk.out]
      rintro e3 w3 ⟨rfl, hb3⟩
      go_wp2
      go_ret
      exact ⟨rfl, bext hb03 hb3⟩
    by_cases k11 : o.kind = 11
    · go_wp2_with fail
      refine (check_any most A2 X c2 _ hsl2.out (by omega)).mono ?_
      rw [hchk.out]
      rintro e3 w3 ⟨rfl, hb3⟩
      go_wp2
      go_ret
      exact ⟨rfl, bext hb03 hb3⟩
    by_cases k12 : o.kind = 12
    · go_wp2_with fail
      refine (check_any most A2 X c2 _ hsl2.out (by omega)).mono ?_
      rw [hchk.out]
      rintro e3 w3 ⟨rfl, hb3⟩
      go_wp2
      go_ret
      exact ⟨rfl, bext hb03 hb3⟩
    by_cases k13 : o.kind = 13
    · go_wp2_with fail
      refine (check_any most A2 X c2 _ hsl2.out (by omega)).mono ?_
      rw [hchk.out]
      rintro e3 w3 ⟨rfl, hb3⟩
      go_wp2
      go_ret
      exact ⟨rfl, bext hb03 hb3⟩
    have hsame := do_same HE.out k2 k3 k11 k12 k13
    rw [HX.out] at hsame
    have HS := Lib.hid hsame
    clear hsame
    have b2 : (o.kind == 2) = false := by simp [k2]
    have b3 : (o.kind == 3) = false := by simp [k3]
    have b11 : (o.kind == 11) = false := by simp [k11]
    have b12 : (o.kind == 12) = false := by simp [k12]
    have b13 : (o.kind == 13) = false := by simp [k13]
    clear k2 k3 k11 k12 k13
    go_wp2_with fail
    refine (check_any most A2 X c2 _ hsl2.out (by omega)).mono ?_
    rw [hchk.out]
    rintro e3 w3 ⟨rfl, hb3⟩
    go_wp2_with fail
    refine (samePairs_any A2 A X l c2 c _ (hsl2.out.below hb3) (hA.out.below (bext hb03 hb3)) (by omega) (by omega)).mono ?_
    rw [HS.out, decide_eq_true rfl]
    rintro e4 w4 ⟨rfl, hb4⟩
    go_wp2
    go_ret
    exact ⟨rfl, bext (bext hb03 hb3) hb4⟩
  · obtain ⟨q1, q2, q3⟩ := do_err (show doE most l o ≠ 0 by rw [HE.out]; exact e0)
    rw [HX.out] at q1
    rw [Ha.out] at q2
    rw [HE.out] at q3
    subst q1 q2
    have q3 := Lib.hid q3
    go_wp2_with fail
    refine (sameAns_any noAns noAns A3 none c3 0 _ (.inl rfl) (.inl rfl) (by simp [noAns]) (by simp [noAns])).mono ?_
    rw [decide_eq_true rfl]
    rintro e3 w3 ⟨rfl, hb3⟩
    have hb033 := bext hb03 hb3
    obtain ⟨C, hC⟩ : ∃ C, checkE most l = C := ⟨_, rfl⟩
    have HC := Lib.hid hC
    clear hC
    go_wp2_with fail
    refine (check_any most A l c _ (hA.out.below hb033) (by omega)).mono ?_
    rw [HC.out]
    rintro e4 w4 ⟨rfl, hb4⟩
    by_cases c0 : C = 0
    · subst c0
      go_wp2
      go_ret
      exact ⟨rfl, bext hb033 hb4⟩
    · have q4 : E = C := by
        rcases q3.out with q | q
        · exact absurd (HC.out.symm.trans q) c0
        · exact q.trans HC.out
      subst q4
      go_wp2_with fail
      refine (check_any most A l c _ (hA.out.below (bext hb033 hb4)) (by omega)).mono ?_
      rw [HC.out]
      rintro e5 w5 ⟨rfl, hb5⟩
      go_wp2
      go_ret
      exact ⟨rfl, bext (bext hb033 hb4) hb5⟩

set_option maxRecDepth 100000 in
theorem modelStays_lifted (os : Os) (started : os.Started) (H : Type) (enc : TypeId × Value → H) :
    ReturnsInHanded {} Try.checked os 5 .any (Rows.modelStaysSpec.pre6 enc Try.prog Try.f5 Rows.modelStaysRow.domain false)
      (Rows.modelStaysSpec.post enc Try.prog Try.f5 false true false false) := by
  refine returnsInHanded_of_change (C := Try.checked) own started (by kernel_rfl) Try.func5
    (ChangeSpec.witness6 (enc := enc) (C := Try.checked) false ⟨#[], #[.int .i64 0, .slice none 0 0, .agg #[.int .u8 0, .int .i64 0, .int .i64 0, .int .i64 0, .int .i64 0, .slice none 0 0]], []⟩ 8 (by kernel_rfl) (by kernel_rfl) (by kernel_rfl) (by kernel_rfl)) ?_
  intro W base args ds gs before hval0 hW _ _
  have hval : ∀ (j : Nat) t v, Try.f5.params[j]? = some t → args[j]? = some v → Value.okWide Try.prog W .any base t v := hval0
  have hW' := hW
  obtain ⟨p, q, hA0, hV, rfl, hfz, hnd⟩ := hW
  have hA : DataW.TrodAll enc Try.prog W 0 (fun _ => true) true Try.f5.params.toList args.toList ds p := hA0
  rw [Try.params5] at hA hval
  obtain ⟨v0, v1, v2, d0, d1, d2, p0, p1, p2, rfl, rfl, rfl, h0, h1, h2⟩ := trodAll_three hA
  obtain ⟨rfl, rfl⟩ := trodVars_none hV
  obtain ⟨n, rfl⟩ := okWide_int Try.underlying3 (hval 0 3 v0 rfl rfl)
  obtain ⟨A, l, c, rfl, hlc, _, hs⟩ := read_prs (hval 1 24 v1 rfl rfl) h1
  obtain ⟨o, Ao, co, rfl, _, _, hso, _⟩ := read_op (hval 2 28 v2 rfl rfl) h2
  refine (modelStays_any n A l c o Ao co W hs hlc hso).mono fun e W' ⟨he, hb⟩ => ?_
  subst he
  exact ⟨_, rfl, law_post (tb := 4) laidOut (by intro t ht; rw [Try.params5] at ht; simp at ht; rcases ht with rfl | rfl | rfl <;> exact ⟨by kernel_rfl, of_decide_eq_true (by kernel_rfl)⟩) rfl hW' rfl rfl rfl (by kernel_rfl) Try.underlying4 hb⟩

theorem modelStays_holds : Rows.ModelStaysSaid :=
  OpenClaim.holds_of_wide 5 Try.f5 rfl rfl rfl rfl rfl rfl rfl ⟨rfl, rfl, rfl, rfl, rfl⟩ rfl rfl rfl rfl rfl (by kernel_rfl) Try.func5 (by kernel_rfl)
    (of_decide_eq_true (by kernel_rfl)) (by unfold Func.isWrapper; first | (rw [if_pos (by decide +kernel)]; kernel_rfl) | (rw [if_neg (by decide +kernel)]; exact ⟨rfl, rfl⟩))
    (fun os started H enc _ => modelStays_lifted os started H enc)
end Go.Proofs.Ytibgpghlnfcilaa
