/- The law ModelMerges: for every number and pairs it returns true; its arguments stay as they were. -/
import Derived.Test.YtibgpghlnfcilaaMv
import Derived.Test.YtibgpghlnfcilaaRun
import Derived.Test.YtibgpghlnfcilaaMargs2
import Derived.Test.YtibgpghlnfcilaaPmg
import Derived.Test.YtibgpghlnfcilaaRows
import Derived.Deep.RegionLaw
namespace Go.Proofs.Ytibgpghlnfcilaa
open Go Go.ChangeShapes Go.WideShapes Go.ChangeAt Go.RowKit
set_option maxRecDepth 100000

theorem op_info0 : (Try.prog.info? 28).map (fun i => (i.zero, i.size, i.bytes)) = some (some (.agg #[.int .u8 0, .int .i64 0, .int .i64 0, .int .i64 0, .int .i64 0, .slice none 0 0]), 6, 64) := by kernel_rfl
theorem run_m (most : Int) (A : Option Addr) (l : List Pr) (c : Nat) (B : Option Addr) (ops : List OpM) (n b : Nat) (w : World) (hn : ops.length = n) (hA : Sl w A (l.flatMap Pr.cells)) (hO : OpsAt w B ops) (hm : n ≤ 1000) (hp : ∀ x ∈ ops, x.o.pairs.length ≤ 100000) (hC : checkE most l = 0) :
    Calls Try.prog 23 #[.int .i64 most, .slice A l.length c, .slice B n b] w (GivesRun (runL most l (ops.map OpM.o)) (runA most l (ops.map OpM.o)) (runE most l (ops.map OpM.o)) 0 w) := by
  subst hn
  exact run_ok most A l c B ops b w hA hO hm hp hC
def putM (p : Pr) : OpM := ⟨opPut p, none, 0⟩
theorem putM_ops (o : List Pr) : (o.map putM).map OpM.o = o.map opPut := by rw [List.map_map]; rfl
theorem check_cases (most : Int) (l : List Pr) : checkE most l = 0 ∨ checkE most l = 2 ∨ checkE most l = 8 := by
  unfold checkE
  repeat' split
  all_goals simp
theorem ones_row (p : Pr) : ∀ u ∈ (putM p).cells, u.oneCell' = true := by
  intro u hu
  simp [putM, OpM.cells, opPut] at hu
  rcases hu with rfl | rfl | rfl | rfl | rfl | rfl <;> rfl

/-- was there no room, up to k? -/
def nineB (es : List Int) (k : Nat) : Bool := decide (9 ∈ es.take k)
theorem nineB_succ {es : List Int} {k : Nat} (h : k < es.length) : nineB es (k + 1) = (nineB es k || (es[k]'h == 9)) := by
  unfold nineB
  rw [List.take_succ_eq_append_getElem h, Bool.eq_iff_iff]
  simp only [decide_eq_true_eq, Bool.or_eq_true, List.mem_append, List.mem_singleton, beq_iff_eq]
  exact ⟨fun h => h.imp id Eq.symm, fun h => h.imp id Eq.symm⟩
theorem nineB_all {es : List Int} {k : Nat} (h : es.length ≤ k) (h9 : 9 ∈ es) : nineB es k = true := by
  unfold nineB
  rw [List.take_of_length_le h, decide_eq_true h9]

/-- the operations that have been laid up to k -/
def PutAt (o : List Pr) (k : Nat) (v : Value) (W wr : World) : Prop := ∃ A' c', v = .slice A' k c' ∧ wr.ownsRow W.heap.size 28 6 (.slice A' k c') k (((o.take k).map putM).flatMap OpM.cells)

set_option maxHeartbeats 6400000 in
theorem modelMerges_any (most : Int) (A : Option Addr) (l : List Pr) (c : Nat) (B : Option Addr) (o : List Pr) (b : Nat) (w : World) (hA : Sl w A (l.flatMap Pr.cells)) (hlc : l.length ≤ c) (hB : Sl w B (o.flatMap Pr.cells)) :
    Calls Try.prog 7 #[.int .i64 most, .slice A l.length c, .slice B o.length b] w fun r w' => r = .returned (.bool true) ∧ Below w.heap.size w w' := by
  obtain ⟨ti0, hi, hz0, hz1, hz2⟩ := info_parts op_info0
  have HI := Lib.hid (And.intro hi (And.intro hz0 (And.intro hz1 hz2)))
  clear hi hz0 hz1 hz2
  by_cases h1 : 200 < l.length
  · go_enter Try.func7, Try.ntmps7
    go_wp2_with fail
    refine (alive_any _).mono ?_
    rintro e w1 ⟨rfl, hb1⟩
    go_wp2
    go_ret
    exact ⟨rfl, hb1⟩
  by_cases h2 : 60 < o.length
  · go_enter Try.func7, Try.ntmps7
    go_wp2_with fail
    refine (alive_any _).mono ?_
    rintro e w1 ⟨rfl, hb1⟩
    go_wp2
    go_ret
    exact ⟨rfl, hb1⟩
  obtain ⟨E, hE⟩ : ∃ E, doE most l (opMerge o) = E := ⟨_, rfl⟩
  obtain ⟨X, hX⟩ : ∃ X, doL most l (opMerge o) = X := ⟨_, rfl⟩
  obtain ⟨a, ha⟩ : ∃ a, doA most l (opMerge o) = a := ⟨_, rfl⟩
  have hXl : X.length ≤ l.length + 1 + o.length := hX ▸ do_len most l (opMerge o)
  have HE := Lib.hid hE
  have HX := Lib.hid hX
  have Ha := Lib.hid ha
  have hA := Lib.hid hA
  have hB := Lib.hid hB
  clear hE hX ha
  go_enter Try.func7, Try.ntmps7
  go_wp2_with fail
  refine (alive_any _).mono ?_
  rintro e w1 ⟨rfl, hb1⟩
  go_wp2_with fail
  refine (do_any most A l c (opMerge o) B b _ (hA.out.below hb1) hlc (by omega) (hB.out.below hb1) (show o.length ≤ 100000 by omega)).mono ?_
  rw [HE.out, HX.out, Ha.out]
  rintro e2 w2 ⟨A2, c2, A3, c3, rfl, hf2, hf3, hb2⟩
  have hb02 := bext hb1 hb2
  have bN : Blk (w2.alloc (.cells #[.int .i64 a.pair.key, .int .i64 a.pair.val, .int .i64 a.n, .slice A3 a.pairs.length c3] 30)) w2.heap.size 30 #[.int .i64 a.pair.key, .int .i64 a.pair.val, .int .i64 a.n, .slice A3 a.pairs.length c3] := Blk.new w2 _ _
  have hb03 : Below w.heap.size w (w2.alloc (.cells #[.int .i64 a.pair.key, .int .i64 a.pair.val, .int .i64 a.n, .slice A3 a.pairs.length c3] 30)) := hb02.alloc hb02.size _
  have hf23 := hf2.sl.below ((Below.refl w2.heap.size w2).alloc (Nat.le_refl _) (.cells #[.int .i64 a.pair.key, .int .i64 a.pair.val, .int .i64 a.n, .slice A3 a.pairs.length c3] 30))
  have hf23 := Lib.hid hf23
  go_wp2_with fail
  obtain ⟨W, hW⟩ : ∃ W, (w2.alloc (.cells #[.int .i64 a.pair.key, .int .i64 a.pair.val, .int .i64 a.n, .slice A3 a.pairs.length c3] 30)) = W := ⟨_, rfl⟩
  rw [hW] at bN hb03
  have hf23 := hf23.out
  rw [hW] at hf23
  have hf23 := Lib.hid hf23
  try rw [hW]
  clear hW
  go_loopw [11, 12] (fun v i wr => ∃ k : Nat, k ≤ o.length ∧ i = .int .i64 k ∧ Below W.heap.size W wr ∧ PutAt o k v W wr) (fun _ i _ => o.length - (intOf i).toNat)
  case atStart => exact ⟨0, Nat.zero_le _, rfl, Below.refl _ _, none, 0, rfl, World.ownsRow_nil _ _ _ _⟩
  case round =>
    obtain ⟨k, hk, rfl, hb, A', c', rfl, hown⟩ := hrel
    by_cases hlt : k < o.length
    · obtain ⟨bo, off, rfl, hbl, d1, d2⟩ := (hB.out.below hb03).prB hb k hlt
      have hki : (0 : Int) ≤ (k : Int) := by omega
      have hki2 : (k : Int) < (o.length : Int) := by omega
      have hbs := hb.size
      clear hbl
      go_wp2_with fail
      go_region_law (
        (refine step_append_sl _ (by rfl) _ _ _ (by rfl) W.heap.size 28 ti0 _ 6 64 Try.underlying46 HI.out.1 HI.out.2.1 HI.out.2.2.1 HI.out.2.2.2 rfl (by omega) (.slice A' k c') k _ (by rfl) ((hown.alloc _).drew) _ 1 _ (putM (o[k]'hlt)).cells (by rfl) ((Blk.new wr _ _).sl 0 _ (by intro j u hu; simpa [OpM.cells, putM, opPut] using hu)) (by rfl) (ones_row _) (by unfold maxLen; omega) (by omega) (by simp; omega) ?_; intro v2 w4 hown2 hg2; obtain ⟨A4, q4, rfl, hle2, hmx2⟩ := own_form hown2))
      all_goals
        go_wp2
        have hb4 : Below W.heap.size W w4 := ((hb.alloc hbs _).drew).grown hg2 (by simp; omega) (fun k hk => (hown.lt k hk).1)
        go_roundw
        case rel =>
          refine ⟨k + 1, by omega, by go_num, hb4, A4, q4, rfl, ?_⟩
          rw [List.take_succ_eq_append_getElem hlt, List.map_append, List.flatMap_append]
          simpa using hown2
        case measure => simp [intOf]; omega
    · have HK := Lib.hid (show k = o.length by omega)
      have hbs := hb.size
      have hb0r : Below w.heap.size w wr := hb03.trans (hb.mono hb03.size)
      obtain ⟨C, hC⟩ : ∃ C, checkE most l = C := ⟨_, rfl⟩
      have HC := Lib.hid hC
      clear hC
      by_cases c0 : C = 0
      case neg =>
        have hEC : E = C := by rw [← HE.out, ← HC.out]; have := HC.out; simp [doE, this, c0]
        obtain ⟨q1, _, _⟩ := do_err (show doE most l (opMerge o) ≠ 0 by rw [HE.out, hEC]; exact c0)
        rw [HX.out] at q1
        subst q1 hEC
        have h9 : E = 2 ∨ E = 8 := by have := check_cases most l; rw [HC.out] at this; rcases this with h | h | h <;> omega
        go_wp2_with fail
        refine (run_bad most A l c A' k c' _ (hA.out.below hb0r) (by omega) E HC.out c0).mono ?_
        rintro e3 w5 ⟨A5, c5, B5, b5, C5, d5, xs, rfl, hf5, hx5, hxs, hc5, hb5⟩
        clear hxs
        rcases h9 with rfl | rfl
        · go_wp2
          go_ret
          exact ⟨rfl, bext hb0r hb5⟩
        · go_wp2
          go_ret
          exact ⟨rfl, bext hb0r hb5⟩
      subst c0
      obtain ⟨R, hR⟩ : ∃ R, runL most l (o.map opPut) = R := ⟨_, rfl⟩
      obtain ⟨es, hes⟩ : ∃ es, runE most l (o.map opPut) = es := ⟨_, rfl⟩
      have hel : es.length = k := by rw [← hes, runE_length, List.length_map, HK.out]
      have hRc : checkE most R = 0 := hR ▸ run_check _ HC.out
      obtain ⟨_, _, r3, _⟩ := check_ok hRc
      obtain ⟨m1, m2, m3, _⟩ := check_ok HC.out
      have HR := Lib.hid hR
      have Hes := Lib.hid hes
      have HEL := Lib.hid hel
      clear hR hes hel hRc
      go_wp2_with fail
      refine (run_m most A l c A' (o.map putM) k c' _ (by rw [List.length_map, HK.out]) (hA.out.below hb0r) ⟨by have := own_sl hown; rw [HK.out, List.take_length] at this; exact this, by intro x hx; obtain ⟨p, _, rfl⟩ := List.mem_map.1 hx; exact .inl rfl⟩ (by omega) (by intro x hx; obtain ⟨p, _, rfl⟩ := List.mem_map.1 hx; exact Nat.zero_le _) HC.out).mono ?_
      rw [putM_ops, HR.out, Hes.out]
      rintro e3 w5 ⟨A5, c5, B5, b5, C5, d5, xs, he, hf5, hx5, hxs, hc5, hb5⟩
      rw [HEL.out] at he
      subst he
      have hb05 := bext hb0r hb5
      have hxs := Lib.hid hxs
      have hc5 := Lib.hid hc5
      by_cases e9 : E = 9
      · subst e9
        have hfull := merge_doE HC.out o
        rw [HE.out] at hfull
        have hlt9 : most < (o.foldl putL l).length := by
          split at hfull
          · cases hfull
          · split at hfull
            · assumption
            · cases hfull
        obtain ⟨g1, g2⟩ := puts_full o HC.out hlt9
        rw [Hes.out] at g1
        rw [HR.out] at g2
        have hq : ((R.length : Int) == most) = true := by simpa using g2
        have G1 := Lib.hid g1
        clear g1 g2 hfull hlt9
        go_wp2_with fail
        go_loopw [17, 18] (fun v i wr2 => ∃ j : Nat, j ≤ k ∧ i = .int .i64 j ∧ Below w5.heap.size w5 wr2 ∧ v = .bool (nineB es j)) (fun _ i _ => k - (intOf i).toNat)
        case atStart => exact ⟨0, Nat.zero_le _, rfl, Below.refl _ _, by simp [nineB]⟩
        case round =>
          obtain ⟨j, hj, rfl, hb6, rfl⟩ := hrel
          by_cases hlt : j < k
          · obtain ⟨bx, ox, rfl, lx, x0⟩ := (hc5.out.below hb6).one j (by rw [HEL.out]; exact hlt)
            have hN := nineB_succ (es := es) (k := j) (by rw [HEL.out]; exact hlt)
            generalize es[j]'(by rw [HEL.out]; exact hlt) = v at *
            unfold intV at x0
            have i0 : (0 : Int) ≤ (j : Int) := by omega
            have i1 : (j : Int) < (k : Int) := by omega
            have HN := Lib.hid hN
            clear hN
            cases hf : nineB es j
            · rw [hf] at HN
              go_wp2
              go_roundw
              case rel => exact ⟨j + 1, by omega, by go_num, hb6, by rw [HN.out]; rfl⟩
              case measure => simp [intOf]; omega
            · rw [hf] at HN
              go_wp2
              go_roundw
              case rel => exact ⟨j + 1, by omega, by go_num, hb6, by rw [HN.out]; rfl⟩
              case measure => simp [intOf]; omega
          · have hn : nineB es j = true := nineB_all (by have := HEL.out; omega) G1.out
            go_wp2
            go_ret
            exact ⟨rfl, bext hb05 hb6⟩
      by_cases e0 : E = 0
      case neg =>
        obtain ⟨q1, _, _⟩ := do_err (show doE most l (opMerge o) ≠ 0 by rw [HE.out]; exact e0)
        rw [HX.out] at q1
        subst q1
        have b9 : (E == 9) = false := by simp [e9]
        have b0 : (E == 0) = false := by simp [e0]
        go_wp2
        go_ret
        exact ⟨rfl, bext hb05 (Below.refl _ _)⟩
      subst e0
      obtain ⟨g1, g2⟩ := merge_doL HE.out
      rw [HX.out] at g1
      rw [Ha.out] at g2
      have hroom : ((o.foldl putL l).length : Int) ≤ most := by
        have hfull := merge_doE HC.out o
        rw [HE.out] at hfull
        split at hfull
        · cases hfull
        · split at hfull
          · cases hfull
          · omega
      obtain ⟨p1, p2⟩ := puts_room o HC.out hroom
      rw [HR.out, ← g1] at p1
      rw [Hes.out] at p2
      have hN : (a.n == (X.length : Int)) = true := by rw [g2, ← g1]; simp
      have P1 := Lib.hid p1
      have P2 := Lib.hid p2
      clear g1 g2 hroom p1 p2 e9
      have bN5 := (bN.below hb bN.lt).below hb5 (bN.below hb bN.lt).lt
      go_wp2_with fail
      go_loopw [19] (fun i wr2 => ∃ j : Nat, j ≤ k ∧ i = .int .i64 j ∧ Below w5.heap.size w5 wr2) (fun i _ => k - (intOf i).toNat)
      case atStart => exact ⟨0, Nat.zero_le _, rfl, Below.refl _ _⟩
      case round =>
        obtain ⟨j, hj, rfl, hb6⟩ := hrel
        by_cases hlt : j < k
        · obtain ⟨bx, ox, rfl, lx, x0⟩ := (hc5.out.below hb6).one j (by rw [HEL.out]; exact hlt)
          rw [P2.out _ (List.getElem_mem (by rw [HEL.out]; exact hlt))] at x0
          unfold intV at x0
          have i0 : (0 : Int) ≤ (j : Int) := by omega
          have i1 : (j : Int) < (k : Int) := by omega
          go_wp2
          go_roundw
          case rel => exact ⟨j + 1, by omega, by go_num, hb6⟩
          case measure => simp [intOf]; omega
        · have bN6 := bN5.below hb6 bN5.lt
          have k2 : wr.cell? ⟨w2.heap.size, 2, none⟩ = wr.cell? ⟨w2.heap.size, 2, none⟩ := rfl
          have c2' := bN6.cell 2
          have c2'' := bN6.cell (0 + 2)
          clear k2
          go_wp2_with fail
          refine (samePairs_any A2 A5 X R c2 c5 _ ((hf23.out.below hb).below (bext hb5 hb6)) (hf5.sl.below hb6) (by omega) (by omega)).mono ?_
          rw [P1.out, decide_eq_true rfl]
          rintro e7 w7 ⟨rfl, hb7⟩
          go_wp2
          go_ret
          exact ⟨rfl, bext (bext hb05 hb6) hb7⟩

set_option maxRecDepth 100000 in
theorem modelMerges_lifted (os : Os) (started : os.Started) (H : Type) (enc : TypeId × Value → H) :
    ReturnsInHanded {} Try.checked os 7 .any (Rows.modelMergesSpec.pre6 enc Try.prog Try.f7 Rows.modelMergesRow.domain false)
      (Rows.modelMergesSpec.post enc Try.prog Try.f7 false true false false) := by
  refine returnsInHanded_of_change (C := Try.checked) own started (by kernel_rfl) Try.func7
    (ChangeSpec.witness6 (enc := enc) (C := Try.checked) false ⟨#[], #[.int .i64 0, .slice none 0 0, .slice none 0 0], []⟩ 8 (by kernel_rfl) (by kernel_rfl) (by kernel_rfl) (by kernel_rfl)) ?_
  intro W base args ds gs before hval0 hW _ _
  have hval : ∀ (j : Nat) t v, Try.f7.params[j]? = some t → args[j]? = some v → Value.okWide Try.prog W .any base t v := hval0
  have hW' := hW
  obtain ⟨p, q, hA0, hV, rfl, hfz, hnd⟩ := hW
  have hA : DataW.TrodAll enc Try.prog W 0 (fun _ => true) true Try.f7.params.toList args.toList ds p := hA0
  rw [Try.params7] at hA hval
  obtain ⟨v0, v1, v2, d0, d1, d2, p0, p1, p2, rfl, rfl, rfl, h0, h1, h2⟩ := trodAll_three hA
  obtain ⟨rfl, rfl⟩ := trodVars_none hV
  obtain ⟨n, rfl⟩ := okWide_int Try.underlying3 (hval 0 3 v0 rfl rfl)
  obtain ⟨A, l, c, rfl, hlc, _, hs⟩ := read_prs (hval 1 24 v1 rfl rfl) h1
  obtain ⟨B, o, b, rfl, _, _, hso⟩ := read_prs (hval 2 24 v2 rfl rfl) h2
  refine (modelMerges_any n A l c B o b W hs hlc hso).mono fun e W' ⟨he, hb⟩ => ?_
  subst he
  exact ⟨_, rfl, law_post (tb := 4) laidOut (by intro t ht; rw [Try.params7] at ht; simp at ht; rcases ht with rfl | rfl | rfl <;> exact ⟨by kernel_rfl, of_decide_eq_true (by kernel_rfl)⟩) rfl hW' rfl rfl rfl (by kernel_rfl) Try.underlying4 hb⟩

theorem modelMerges_holds : Rows.ModelMergesSaid :=
  OpenClaim.holds_of_wide 7 Try.f7 rfl rfl rfl rfl rfl rfl rfl ⟨rfl, rfl, rfl, rfl, rfl⟩ rfl rfl rfl rfl rfl (by kernel_rfl) Try.func7 (by kernel_rfl)
    (of_decide_eq_true (by kernel_rfl)) (by unfold Func.isWrapper; first | (rw [if_pos (by decide +kernel)]; kernel_rfl) | (rw [if_neg (by decide +kernel)]; exact ⟨rfl, rfl⟩))
    (fun os started H enc _ => modelMerges_lifted os started H enc)
end Go.Proofs.Ytibgpghlnfcilaa
