/- The law BoundBuilds: for every list of entries it returns true; its argument stays as it was. -/
import Derived.Test.YtokomclcgegfkaaBld
import Derived.Test.YtokomclcgegfkaaRow
import Derived.Test.YtokomclcgegfkaaRows
namespace Go.Proofs.Ytokomclcgegfkaa
open Go Go.ChangeShapes Go.WideShapes Go.ChangeAt Go.RowKit

set_option maxRecDepth 100000 in
set_option maxHeartbeats 1000000 in
theorem refSame_any (A B : Option Addr) (l m : List Ent) (c d : Nat) (w : World) (hA : Sl w A (l.flatMap Ent.cells)) (hB : Sl w B (m.flatMap Ent.cells)) (hl : l.length ≤ 4611686018427387903) (hm : m.length ≤ 4611686018427387903) :
    Calls Try.prog 10 #[.agg #[.slice A l.length c], .agg #[.slice B m.length d]] w fun r w' => r = .returned (.bool (decide (l = m))) ∧ Below w.heap.size w w' := by
  have hb0 : Below w.heap.size w ((w.alloc (.cells #[.slice A l.length c] 24)).alloc (.cells #[.slice B m.length d] 24)) := ((Below.refl _ _).alloc (Nat.le_refl _) _).alloc (by simp) _
  go_enter Try.func10, Try.ntmps10
  go_wp2_with (go_at_call 11; refine (sameEntries_any A B l m c d _ (hA.below hb0) (hB.below hb0) hl hm).mono ?_; rintro e w1 ⟨rfl, hb1⟩)
  go_ret
  exact ⟨rfl, bext hb0 hb1⟩

/-- block by block, the first cell of each of n entries is a number -/
def KeyCells (n : Nat) (cur : Array Value) : Prop := ∀ i, i < n → ∃ q, cur[i * 3]? = some (.int .i64 q)
theorem keyCells_of {l : List Ent} {cur : Array Value} {n : Nat} (hn : n = l.length) (h : cur.toList.take (n * 3) = l.flatMap Ent.cells) : KeyCells n cur := by
  subst hn
  intro i hi
  have h0 := flat_get Ent.cells 3 Ent.cells_length l i 0 hi (by omega)
  rw [← h, List.getElem?_take, if_pos (by omega)] at h0
  exact ⟨(l[i]'hi).key, by simpa [Ent.cells] using h0⟩
theorem keyCells_set {n k : Nat} {cur : Array Value} {q : Int} (h : KeyCells n cur) : KeyCells n (cur.setIfInBounds (k * 3) (.int .i64 q)) := by
  intro i hi
  obtain ⟨p, hp⟩ := h i hi
  by_cases e : k * 3 = i * 3
  · have hs : i * 3 < cur.size := (Array.getElem?_eq_some_iff.1 hp).1
    rw [e]
    exact ⟨q, by simp [hs]⟩
  · exact ⟨p, by rw [Array.getElem?_setIfInBounds_ne e]; exact hp⟩

set_option maxRecDepth 100000 in
set_option maxHeartbeats 4000000 in
theorem boundBuilds_any (A : Option Addr) (l : List Ent) (c : Nat) (w : World) (hA : Sl w A (l.flatMap Ent.cells)) :
    Calls Try.prog 3 #[.slice A l.length c] w fun r w' => r = .returned (.bool true) ∧ Below w.heap.size w w' := by
  by_cases hl : l.length > 300
  · go_enter Try.func3, Try.ntmps3
    go_wp2
    go_ret
    exact ⟨rfl, Below.refl _ _⟩
  · have hd : decide ((300 : Int) < (l.length : Int)) = false := by simp; omega
    obtain ⟨i0, hi, hz0, hz1, hz2⟩ := info_parts ent_info
    go_enter Try.func3, Try.ntmps3
    have hb0 : Below w.heap.size w (w.alloc (.cells #[] 32)) := (Below.refl _ _).alloc (Nat.le_refl _) _
    have hown0 : (w.alloc (.cells #[] 32)).ownsRow w.heap.size 32 3 (.slice (some ⟨w.heap.size, 0, none⟩) 0 0) 0 [] := World.ownsRow_made w #[] 0 (Nat.le_refl _) (Nat.zero_le _) rfl
    go_wp2_with (at_builtin; refine wpList_append_sl _ rfl (.tmp 13) (.tmp 14) _ rfl w.heap.size 32 i0 _ 3 24 Try.underlying22 hi hz0 hz1 hz2 rfl (by omega) (.slice (some ⟨w.heap.size, 0, none⟩) 0 0) 0 [] rfl hown0 A l.length c (l.flatMap Ent.cells) rfl (hA.below hb0) (flat_length Ent.cells 3 Ent.cells_length l) (by intro u hu; obtain ⟨e, _, he⟩ := List.mem_flatMap.1 hu; simp [Ent.cells] at he; rcases he with rfl | rfl | rfl <;> rfl) (by unfold maxLen; omega) (by omega) (by simp) ?_; intro v1 w1 hown1 hg1; simp only [Nat.zero_add, List.nil_append] at hown1; obtain ⟨A1, c1, rfl, hlc1, hcm1⟩ := own_form hown1)
    have hb1 : Below w.heap.size w w1 := hb0.grown hg1 (by simp) (fun k hk => (hown0.lt k hk).1)
    have hsl1 := own_sl hown1
    have hbl1 : ∀ a, A1 = some a → a.block < w1.heap.size := fun a ha => (hown1.lt a.block (by simp [Value.ownBlock, ha])).2
    refine (build_any A1 l c1 _ hsl1 (by omega)).mono ?_
    rintro e w2 ⟨A2, c2, rfl, hown2, hb2⟩
    have hb12 : Below w.heap.size w w2 := bext hb1 hb2
    have hA2 : Sl w2 A (l.flatMap Ent.cells) := hA.below hb12
    have hsl2 := own_sl hown2
    have hbx3 : Below w2.heap.size w2 (w2.alloc (.cells #[.slice A2 (buildL l).length c2] 24)) := (Below.refl _ _).alloc (Nat.le_refl _) _
    go_wp2_with fail
    refine (refBuild_any A l c _ (hA2.below hbx3) (by omega)).mono ?_
    rintro e w4 ⟨A4, c4, rfl, hown4, hb4⟩
    have hb24 : Below w2.heap.size w2 w4 := bext hbx3 hb4
    have hx4 : Blk w4 w2.heap.size 24 #[.slice A2 (buildL l).length c2] := (Blk.new w2 _ _).below hb4 (by simp)
    have c4x : w4.cell? ⟨w2.heap.size, 0, none⟩ = some (.slice A2 (buildL l).length c2) := hx4.cell 0
    have hs4 : w2.heap.size < w4.heap.size := hx4.lt
    have hsl4 := own_sl hown4
    have hb5 : Below w4.heap.size w4 (w4.alloc (.cells #[.slice A4 (buildL l).length c4] 24)) := (Below.refl _ _).alloc (Nat.le_refl _) _
    have hb25 := bext hb24 hb5
    go_wp2_with fail
    refine (refSame_any A2 A4 (buildL l) (buildL l) c2 c4 _ (hsl2.below hb25) (hsl4.below hb5) ?_ ?_).mono ?_
    · unfold buildL; split <;> simp [laid_length] <;> omega
    · unfold buildL; split <;> simp [laid_length] <;> omega
    rw [show decide (buildL l = buildL l) = true from decide_eq_true rfl]
    rintro e w6 ⟨rfl, hb6⟩
    have hb26 : Below w2.heap.size w2 w6 := bext hb25 hb6
    have hb06 : Below w.heap.size w w6 := bext hb12 hb26
    have hx6 : Blk w6 w2.heap.size 24 #[.slice A2 (buildL l).length c2] := (hx4.alloc _).below hb6 (by simp; omega)
    have hs12 : w1.heap.size ≤ w2.heap.size := hb2.size
    have hsl1' : Sl w6 A1 (l.flatMap Ent.cells) := (hsl1.below hb2).below hb26
    have hrow : (buildL l).length = 0 ∨ ∃ g cur, A2 = some ⟨g, 0, none⟩ ∧ w1.heap.size ≤ g ∧ g < w2.heap.size ∧ Blk w6 g 32 cur ∧ KeyCells (buildL l).length cur := by
      rcases hown2.2 with ⟨_, h0⟩ | ⟨g, cap, cur, hv, hg, hh, _, _, _, ht⟩
      · exact .inl h0
      · have hlt : g < w2.heap.size := (Array.getElem?_eq_some_iff.1 hh).1
        injection hv with hv _ _
        exact .inr ⟨g, cur, hv, hg, hlt, Blk.below hh hb26 hlt, keyCells_of rfl ht⟩
    obtain ⟨n, hn⟩ : ∃ n, (buildL l).length = n := ⟨_, rfl⟩
    have hnl : n ≤ 300 := by rw [← hn]; unfold buildL; split <;> simp [laid_length] <;> omega
    clear hown2 hown4 hsl2 hsl4 hx4 c4x hbx3 hb4 hb5 hb25 hb6 hA2 hi hz0 hz1 hz2 hown0 hg1 hown1
    rw [hn] at hx6 hrow ⊢
    clear hn
    go_wp2
    go_loopw [9] (fun i wr => ∃ k : Nat, k ≤ n ∧ i = .int .i64 k ∧ Mod (fun b => w1.heap.size ≤ b ∧ b < w2.heap.size) w6 wr ∧
        (n = 0 ∨ ∃ g cur, A2 = some ⟨g, 0, none⟩ ∧ w1.heap.size ≤ g ∧ g < w2.heap.size ∧ Blk wr g 32 cur ∧ KeyCells n cur)) (fun i _ => n - (intOf i).toNat)
    case atStart => exact ⟨0, Nat.zero_le _, rfl, Mod.refl _ _, hrow⟩
    case round =>
      obtain ⟨k, hk, rfl, hm, hr⟩ := hrel
      have hxr : Blk wr w2.heap.size 24 #[.slice A2 n c2] := hx6.mod hm (by omega)
      have cx : wr.cell? ⟨w2.heap.size, 0, none⟩ = some (.slice A2 n c2) := hxr.cell 0
      by_cases hlt : k < n
      · rcases hr with h0 | ⟨g, cur, rfl, hg1, hg2, hcur, hkc⟩
        · omega
        · obtain ⟨q, hq⟩ := hkc k hlt
          have ck : wr.cell? ⟨g, k * 3, none⟩ = some (.int .i64 q) := (hcur.cell _).trans hq
          have fk := hcur.frozen (k * 3)
          have hki : (0 : Int) ≤ (k : Int) := by omega
          have hki2 : (k : Int) < (n : Int) := by omega
          clear hq hrow
          go_wp2
          go_region
          go_wp2
          go_roundw
          case rel =>
            refine ⟨k + 1, by omega, by go_num, (hm.setCell (p := ⟨g, k * 3, none⟩) ⟨hg1, hg2⟩ _).drew, .inr ⟨g, _, rfl, hg1, hg2, (hcur.set_ (k * 3) _).drewN 1, keyCells_set hkc⟩⟩
          case measure => simp [intOf]; omega
      · have hs := hsl1'.mod hm (fun a ha h => by have := hbl1 a ha; omega)
        have hb : Below w.heap.size w wr := hb06.trans (hm.below hb06.size (by intro k h; have := hb1.size; omega))
        have hAr := hA.below hb
        go_wp2_with (go_at_call 11; refine (sameEntries_any A1 A l l c1 c _ hs hAr (by omega) (by omega)).mono ?_; rw [show decide (l = l) = true from decide_eq_true rfl]; rintro e w8 ⟨rfl, hb8⟩)
        go_ret
        exact ⟨rfl, bext hb hb8⟩

theorem own : ownKnob Try.prog.godebug = none := by kernel_rfl
theorem laidOut : laidOutB Try.prog = true := by kernel_rfl

theorem read_ents {H : Type} {enc : TypeId × Value → H} {w : World} {base : Nat} {v : Value} {d : DataW H} {p : List MemPlace} (hok : Value.okWide Try.prog w .any base 22 v)
    (h : DataW.Trod enc Try.prog w 0 (fun _ => true) true 22 v d p) : ∃ (A : Option Addr) (l : List Ent) (c : Nat), v = .slice A l.length c ∧ l.length ≤ c ∧ c ≤ maxLen ∧ Sl w A (l.flatMap Ent.cells) := by
  obtain ⟨fuel, hf⟩ := h
  obtain ⟨A, l, c, h1, h2, h3, h4, _⟩ := read_slice Ent.cells (fun _ => True) Ent.cells_length (by omega) Try.underlying22 (by kernel_rfl)
    (fun fuel cs y h => dec_ent Try.underlying32 Try.underlying2 Try.underlying4 (by kernel_rfl) (by kernel_rfl) (by kernel_rfl) fuel cs y h) (okWide_slice Try.underlying22 hok) hf
  exact ⟨A, l, c, h1, h2, h3, h4⟩

set_option maxRecDepth 100000 in
theorem boundBuilds_lifted (os : Os) (started : os.Started) (H : Type) (enc : TypeId × Value → H) :
    ReturnsInHanded {} Try.checked os 3 .any (Rows.boundBuildsSpec.pre6 enc Try.prog Try.f3 Rows.boundBuildsRow.domain false)
      (Rows.boundBuildsSpec.post enc Try.prog Try.f3 false true false false) := by
  refine returnsInHanded_of_change (C := Try.checked) own started (by kernel_rfl) Try.func3
    (ChangeSpec.witness6 (enc := enc) (C := Try.checked) false ⟨#[], #[.slice none 0 0], []⟩ 8 (by kernel_rfl) (by kernel_rfl) (by kernel_rfl) (by kernel_rfl)) ?_
  intro W base args ds gs before hval0 hW _ _
  have hval : ∀ (j : Nat) t v, Try.f3.params[j]? = some t → args[j]? = some v → Value.okWide Try.prog W .any base t v := hval0
  have hW' := hW
  obtain ⟨p, q, hA0, hV, rfl, hfz, hnd⟩ := hW
  have hA : DataW.TrodAll enc Try.prog W 0 (fun _ => true) true Try.f3.params.toList args.toList ds p := hA0
  rw [Try.params3] at hA hval
  obtain ⟨v0, d0, rfl, rfl, h0⟩ := trodAll_one hA
  obtain ⟨rfl, rfl⟩ := trodVars_none hV
  obtain ⟨A, l, c, rfl, _, _, hs⟩ := read_ents (hval 0 22 v0 rfl rfl) h0
  refine (boundBuilds_any A l c W hs).mono fun e W' ⟨he, hb⟩ => ?_
  subst he
  exact ⟨_, rfl, law_post (tb := 4) laidOut (by intro t ht; rw [Try.params3] at ht; simp at ht; subst ht; exact ⟨by kernel_rfl, of_decide_eq_true (by kernel_rfl)⟩) rfl hW' rfl rfl rfl (by kernel_rfl) Try.underlying4 hb⟩

theorem boundBuilds_holds : Rows.BoundBuildsSaid :=
  OpenClaim.holds_of_wide 3 Try.f3 rfl rfl rfl rfl rfl rfl rfl ⟨rfl, rfl, rfl, rfl, rfl⟩ rfl rfl rfl rfl rfl (by kernel_rfl) Try.func3 (by kernel_rfl)
    (of_decide_eq_true (by kernel_rfl)) (by unfold Func.isWrapper; first | (rw [if_pos (by decide +kernel)]; kernel_rfl) | (rw [if_neg (by decide +kernel)]; exact ⟨rfl, rfl⟩))
    (fun os started H enc _ => boundBuilds_lifted os started H enc)
end Go.Proofs.Ytokomclcgegfkaa
