/- Bo: texts of the claim, in this order. -/
import Derived.Test.YtolclahkfmplfaaGreatWl2
import Derived.Test.YtolclahkfmplfaaGreatWl3
import Derived.Test.YtolclahkfmplfaaGreatWz1
import Derived.Deep.RegionHeld3
/- Contract: two lists of pairs in one. -/
namespace Go.Proofs.YtolclahkfmplfaaGreat
open Go Go.RowKit
set_option maxRecDepth 100000

theorem sl_cons {w : World} {A : Option Addr} {p : Pr} {l : List Pr} (h : Sl w A ((p :: l).flatMap Pr.cells)) : ∃ b off, A = some ⟨b, off, none⟩ ∧ b < w.heap.size ∧ w.cell? ⟨b, off, none⟩ = some (.int .i64 p.key) ∧ w.cell? ⟨b, off + 1, none⟩ = some (.int .i64 p.val) := by
  obtain ⟨b, off, h1, h2, h3, h4⟩ := h.pr 0 (by simp)
  exact ⟨b, off, h1, h2, by simpa using h3, by simpa using h4⟩
theorem sl_tail {w : World} {b off : Nat} {p : Pr} {l : List Pr} (h : Sl w (some ⟨b, off, none⟩) ((p :: l).flatMap Pr.cells)) {c : Nat} (hc : l.length + 1 ≤ c) : Sl w (if c = 1 then some ⟨b, off, none⟩ else some ⟨b, off + 2, none⟩) (l.flatMap Pr.cells) := by
  have := h.drop 1 c (by simpa using hc)
  simpa [partA, Addr.add_lit] using this
theorem Fr.cons {w : World} {B : Nat} {A : Option Addr} {n c : Nat} {p : Pr} {l : List Pr} (h : w.ownsRow B 50 2 (.slice A n c) n (p.cells ++ l.flatMap Pr.cells)) (hn : n = l.length + 1) : Fr w B 50 A c (p :: l) :=
  Fr.of_own (l := p :: l) (by simpa using h) (by simpa using hn)

set_option maxHeartbeats 1000000 in
theorem both_base (A : Option Addr) (ca : Nat) (B : Option Addr) (b : List Pr) (nb cb : Nat) (w : World) (hB : Sl w B (b.flatMap Pr.cells)) (hb : nb = b.length) (hl : nb ≤ 1000000) :
    Calls Tryz.prog 27 #[.slice A 0 ca, .slice B nb cb] w (GivesFr b w) := by
  obtain ⟨ti0, hi, hz0, hz1, hz2⟩ := info_parts pr_info0
  have HI := Lib.hid (And.intro hi (And.intro hz0 (And.intro hz1 hz2)))
  have HN := Lib.hid hb
  clear hi hz0 hz1 hz2 hb
  have hb0 : Below w.heap.size w (w.alloc (.cells #[] 50)) := (Below.refl _ _).alloc (Nat.le_refl _) _
  have hown0 : (w.alloc (.cells #[] 50)).ownsRow w.heap.size 50 2 (.slice (some ⟨w.heap.size, 0, none⟩) 0 0) 0 [] := World.ownsRow_made w #[] 0 (Nat.le_refl _) (Nat.zero_le _) rfl
  go_enter Tryz.func27, Tryz.ntmps27
  go_wp2_with (at_builtin; refine wpList_append_sl _ rfl (.tmp 8) (.tmp 9) _ rfl w.heap.size 50 ti0 _ 2 16 Tryz.underlying30 HI.out.1 HI.out.2.1 HI.out.2.2.1 HI.out.2.2.2 rfl (by omega) (.slice (some ⟨w.heap.size, 0, none⟩) 0 0) 0 [] rfl hown0 B nb cb (b.flatMap Pr.cells) rfl (hB.below hb0) (by rw [prs_length, HN.out]) (one_prs b) (by unfold maxLen; omega) (by omega) (by simp) ?_; intro v1 w1 hown1 hg1; simp only [Nat.zero_add, List.nil_append] at hown1; obtain ⟨A1, c1, rfl, hlc1, hcm1⟩ := own_form hown1)
  go_ret
  exact ⟨A1, c1, by rw [HN.out]; rfl, Fr.of_own hown1 HN.out, hb0.grown hg1 (by simp) (fun k hk => (hown0.lt k hk).1)⟩


theorem rebase {P : Program} {c : Code} {Q : Exit → Act → World → Prop} {a : Act} {w W0 : World} (h0 : Below w.heap.size w W0) (h : ∀ W, Below w.heap.size w W → Code.wp P c Q a W) : Code.wp P c Q a W0 := h W0 h0
theorem own_one {w : World} {g B : Nat} {p : Pr} (h : Blk w g 50 #[.int .i64 p.key, .int .i64 p.val]) (hB : B ≤ g) : w.ownsRow B 50 2 (.slice (some ⟨g, 0, none⟩) 1 1) 1 p.cells :=
  ⟨rfl, .inr ⟨g, 1, _, rfl, hB, h, Nat.le_refl _, by unfold maxLen; omega, rfl, rfl⟩⟩
/-- what a call with these lists hands back -/
def BothAt (a b R : List Pr) : Prop := ∀ (A : Option Addr) (ca : Nat) (B : Option Addr) (cb : Nat) (w : World), Sl w A (a.flatMap Pr.cells) → Sl w B (b.flatMap Pr.cells) → a.length ≤ ca → b.length ≤ cb →
    Calls Tryz.prog 27 #[.slice A a.length ca, .slice B b.length cb] w (GivesFr R w)

set_option maxHeartbeats 2000000 in
theorem both_a0x (p : Pr) (A : Option Addr) (B : Option Addr) (cb : Nat) (R : List Pr) (w : World) (hR : R.length ≤ 1000000) (h : BothAt ([]) ([]) R) (hA : Sl w A ([p].flatMap Pr.cells)) (hB : Sl w B []) :
    Calls Tryz.prog 27 #[.slice A 1 1, .slice B 0 cb] w (GivesFr (p :: R) w) := by
  obtain ⟨ti0, hi, hz0, hz1, hz2⟩ := info_parts pr_info0
  have HI := Lib.hid (And.intro hi (And.intro hz0 (And.intro hz1 hz2)))
  have H := Lib.hid h
  clear hi hz0 hz1 hz2 h
  obtain ⟨ba, oa, rfl, hba, d0, d1⟩ := sl_cons hA
  have hta : Hid (Sl w (some ⟨ba, oa, none⟩) []) := Lib.hid (.inl rfl)
  have hA' := Lib.hid hA
  clear hA
  have hB' := Lib.hid hB
  clear hB
  go_enter Tryz.func27, Tryz.ntmps27
  go_wp2_with fail
  refine wp_region_noPanic ?_
  refine wp_region_held_drew (S := fun _ => True) (by kernel_rfl) (trivial) (fun hHeld => ?_)
  refine wpAnyH_take (i := 0) (oi := { dst := some 11, op := Op.move (Operand.tmp 1), type := 30, pos := "ref.go:72", after := #[], guard := none }) (v := ?va0) rfl (by kernel_rfl) (by kernel_rfl) (by kernel_rfl) (fun _ _ _ h => h) (Or.inl ⟨by rfl, ?ya0⟩) (by assumption) ?ra0
  case ya0 => (intro w' hSw; (try dsimp only at hSw); go_simp; try with_reducible rfl)
  case' ra0 => (try simp only [Act.put, List.setIfInBounds_toArray, List.set_cons_zero, List.set_cons_succ])
  refine wpAnyH_take (i := 1) (oi := { dst := some 12, op := Op.call { callee := Callee.builtin Builtin.len, args := #[Operand.tmp 11], argTypes := #[30] }, type := 3, pos := "ref.go:72", after := #[{ on := 0, ground := Go.Ground.data }], guard := none }) (v := ?va1) rfl (by kernel_rfl) (by kernel_rfl) (by kernel_rfl) (fun _ _ _ h => h) (Or.inl ⟨by rfl, ?ya1⟩) (by assumption) ?ra1
  case ya1 => (intro w' hSw; (try dsimp only at hSw); go_simp; try with_reducible rfl)
  case' ra1 => (try simp only [Act.put, List.setIfInBounds_toArray, List.set_cons_zero, List.set_cons_succ])
  refine wpAnyH_take (i := 2) (oi := { dst := some 13, op := Op.binOp BinOp.eql 3 (Operand.tmp 12) (Operand.const (Value.int IntKind.i64 0)) 3, type := 4, pos := "ref.go:72", after := #[{ on := 1, ground := Go.Ground.data }], guard := none }) (v := ?va2) rfl (by kernel_rfl) (by kernel_rfl) (by kernel_rfl) (fun _ _ _ h => h) (Or.inl ⟨by rfl, ?ya2⟩) (by assumption) ?ra2
  case ya2 => (intro w' hSw; (try dsimp only at hSw); go_simp; try with_reducible rfl)
  case' ra2 => (try simp only [Act.put, List.setIfInBounds_toArray, List.set_cons_zero, List.set_cons_succ])
  refine wpAnyH_take (i := 3) (oi := { dst := some 14, op := Op.move (Operand.tmp 13), type := 4, pos := "ref.go:72", after := #[{ on := 2, ground := Go.Ground.data }], guard := none }) (v := ?va3) rfl (by kernel_rfl) (by kernel_rfl) (by kernel_rfl) (fun _ _ _ h => h) (Or.inl ⟨by rfl, ?ya3⟩) (by assumption) ?ra3
  case ya3 => (intro w' hSw; (try dsimp only at hSw); go_simp; try with_reducible rfl)
  case' ra3 => (try simp only [Act.put, List.setIfInBounds_toArray, List.set_cons_zero, List.set_cons_succ])
  refine wpAnyH_take (i := 4) (oi := { dst := some 15, op := Op.move (Operand.tmp 0), type := 30, pos := "ref.go:72", after := #[{ on := 3, ground := Go.Ground.guard }], guard := some (3, false) }) (v := undef) rfl (by kernel_rfl) (by kernel_rfl) (by kernel_rfl) (fun _ _ _ h => h) (Or.inr ⟨by rfl, rfl⟩) (by assumption) ?_
  (try simp only [Act.put, List.setIfInBounds_toArray, List.set_cons_zero, List.set_cons_succ])
  refine wpAnyH_take (i := 5) (oi := { dst := some 16, op := Op.indexAddr 30 (Operand.tmp 15) (Operand.const (Value.int IntKind.i64 0)), type := 0, pos := "ref.go:72", after := #[{ on := 4, ground := Go.Ground.data }, { on := 3, ground := Go.Ground.guard }], guard := some (3, false) }) (v := undef) rfl (by kernel_rfl) (by kernel_rfl) (by kernel_rfl) (fun _ _ _ h => h) (Or.inr ⟨by rfl, rfl⟩) (by assumption) ?_
  (try simp only [Act.put, List.setIfInBounds_toArray, List.set_cons_zero, List.set_cons_succ])
  refine wpAnyH_take (i := 6) (oi := { dst := some 17, op := Op.fieldAddr 50 (Operand.tmp 16) 0, type := 0, pos := "ref.go:72", after := #[{ on := 5, ground := Go.Ground.data }, { on := 3, ground := Go.Ground.guard }], guard := some (3, false) }) (v := undef) rfl (by kernel_rfl) (by kernel_rfl) (by kernel_rfl) (fun _ _ _ h => h) (Or.inr ⟨by rfl, rfl⟩) (by assumption) ?_
  (try simp only [Act.put, List.setIfInBounds_toArray, List.set_cons_zero, List.set_cons_succ])
  refine wpAnyH_take (i := 7) (oi := { dst := some 18, op := Op.load 2 (Operand.tmp 17), type := 2, pos := "ref.go:72", after := #[{ on := 6, ground := Go.Ground.data }, { on := 3, ground := Go.Ground.guard }], guard := some (3, false) }) (v := undef) rfl (by kernel_rfl) (by kernel_rfl) (by kernel_rfl) (fun _ _ _ h => h) (Or.inr ⟨by rfl, rfl⟩) (by assumption) ?_
  (try simp only [Act.put, List.setIfInBounds_toArray, List.set_cons_zero, List.set_cons_succ])
  refine wpAnyH_take (i := 8) (oi := { dst := some 19, op := Op.move (Operand.tmp 1), type := 30, pos := "ref.go:72", after := #[{ on := 3, ground := Go.Ground.guard }], guard := some (3, false) }) (v := undef) rfl (by kernel_rfl) (by kernel_rfl) (by kernel_rfl) (fun _ _ _ h => h) (Or.inr ⟨by rfl, rfl⟩) (by assumption) ?_
  (try simp only [Act.put, List.setIfInBounds_toArray, List.set_cons_zero, List.set_cons_succ])
  refine wpAnyH_take (i := 9) (oi := { dst := some 20, op := Op.indexAddr 30 (Operand.tmp 19) (Operand.const (Value.int IntKind.i64 0)), type := 0, pos := "ref.go:72", after := #[{ on := 8, ground := Go.Ground.data }, { on := 3, ground := Go.Ground.guard }], guard := some (3, false) }) (v := undef) rfl (by kernel_rfl) (by kernel_rfl) (by kernel_rfl) (fun _ _ _ h => h) (Or.inr ⟨by rfl, rfl⟩) (by assumption) ?_
  (try simp only [Act.put, List.setIfInBounds_toArray, List.set_cons_zero, List.set_cons_succ])
  refine wpAnyH_take (i := 10) (oi := { dst := some 21, op := Op.fieldAddr 50 (Operand.tmp 20) 0, type := 0, pos := "ref.go:72", after := #[{ on := 9, ground := Go.Ground.data }, { on := 3, ground := Go.Ground.guard }], guard := some (3, false) }) (v := undef) rfl (by kernel_rfl) (by kernel_rfl) (by kernel_rfl) (fun _ _ _ h => h) (Or.inr ⟨by rfl, rfl⟩) (by assumption) ?_
  (try simp only [Act.put, List.setIfInBounds_toArray, List.set_cons_zero, List.set_cons_succ])
  refine wpAnyH_take (i := 11) (oi := { dst := some 22, op := Op.load 2 (Operand.tmp 21), type := 2, pos := "ref.go:72", after := #[{ on := 10, ground := Go.Ground.data }, { on := 3, ground := Go.Ground.guard }], guard := some (3, false) }) (v := undef) rfl (by kernel_rfl) (by kernel_rfl) (by kernel_rfl) (fun _ _ _ h => h) (Or.inr ⟨by rfl, rfl⟩) (by assumption) ?_
  (try simp only [Act.put, List.setIfInBounds_toArray, List.set_cons_zero, List.set_cons_succ])
  refine wpAnyH_take (i := 12) (oi := { dst := some 23, op := Op.binOp BinOp.lss 2 (Operand.tmp 18) (Operand.tmp 22) 2, type := 4, pos := "ref.go:72", after := #[{ on := 7, ground := Go.Ground.data }, { on := 11, ground := Go.Ground.data }, { on := 3, ground := Go.Ground.guard }], guard := some (3, false) }) (v := undef) rfl (by kernel_rfl) (by kernel_rfl) (by kernel_rfl) (fun _ _ _ h => h) (Or.inr ⟨by rfl, rfl⟩) (by assumption) ?_
  (try simp only [Act.put, List.setIfInBounds_toArray, List.set_cons_zero, List.set_cons_succ])
  refine wpAnyH_take (i := 13) (oi := { dst := some 24, op := Op.pick (Operand.tmp 14) (Operand.const (Value.bool true)) (Operand.tmp 23), type := 4, pos := "ref.go:72", after := #[{ on := 3, ground := Go.Ground.data }, { on := 12, ground := Go.Ground.data }], guard := none }) (v := ?va13) rfl (by kernel_rfl) (by kernel_rfl) (by kernel_rfl) (fun _ _ _ h => h) (Or.inl ⟨by rfl, ?ya13⟩) (by assumption) ?ra13
  case ya13 => (intro w' hSw; (try dsimp only at hSw); go_simp; try with_reducible rfl)
  case' ra13 => (try simp only [Act.put, List.setIfInBounds_toArray, List.set_cons_zero, List.set_cons_succ])
  refine wpAnyH_done (by kernel_rfl) ?_ _
  refine NoPanic.normal ?_
  go_wp2_with fail
  refine rebase (w := w) ⟨rfl, rfl, rfl, Nat.le_refl _, fun _ _ => rfl⟩ ?_
  intro W hbW
  obtain ⟨hcW, hzW, hsW⟩ := wfacts hbW
  first | (have d0 := (hcW _ _ hba).trans d0; have d1 := (hcW _ _ hba).trans d1; have hba := hsW _ hba) | skip
  first | (have e0 := (hcW _ _ hbb).trans e0; have e1 := (hcW _ _ hbb).trans e1; have hbb := hsW _ hbb) | skip
  clear hcW hzW hsW
  go_region_held3 (fun w' => (∀ bq jq, bq < W.heap.size → w'.cell? ⟨bq, jq, none⟩ = W.cell? ⟨bq, jq, none⟩) ∧ (∀ bq jq, bq < W.heap.size → w'.frozen? ⟨bq, jq, none⟩ = W.frozen? ⟨bq, jq, none⟩) ∧ W.heap.size ≤ w'.heap.size ∧ Below W.heap.size W w') ((with_reducible first | exact SB.init | exact SB.alloc _ (by assumption) | exact SB.allocD _ (by assumption) | exact SB.below (by assumption) (by assumption) | assumption))
    (first
      | (go_at_call 27; refine (H.out (some ⟨ba, oa, none⟩) 0 B cb _ (hta.out.below (bext hbW (SB.bel (by assumption)))) (hB'.out.below (bext hbW (SB.bel (by assumption)))) (Nat.le_refl _) (Nat.zero_le _)).mono ?_; rintro e1 w1 ⟨A1, c1, rfl, hf1, hb1⟩; have hl1 := SB.le hb1 (by assumption); obtain ⟨hc1, hz1, hs1⟩ := wfacts hb1)
      | (refine step_append_sl _ (by rfl) (.tmp 28) (.tmp 32) _ (by rfl) W.heap.size 50 ti0 _ 2 16 Tryz.underlying30 HI.out.1 HI.out.2.1 HI.out.2.2.1 HI.out.2.2.2 rfl (by omega) _ 1 p.cells (by rfl) (by first | exact own_one (Blk.new w1 _ _) (by assumption) | exact own_one (Blk.below (by exact Blk.new W _ _) hb1 (by first | simp | exact Nat.lt_succ_self _)) (Nat.le_refl _)) A1 R.length c1 (R.flatMap Pr.cells) (by rfl) (by first | exact hf1.sl | exact hf1.sl.below ((Below.refl _ _).alloc (Nat.le_refl _) _)) (prs_length _) (one_prs _) (by unfold maxLen; omega) (by omega) (SB.bel (by assumption)).size ?_; intro v2 w2 hown2 hg2; obtain ⟨A2, q2, rfl, hle2, hmx2⟩ := own_form hown2; have hs2 : SB W w2 := SB.of ((SB.bel (by assumption)).grown hg2 (SB.bel (by assumption)).size (fun k hk => by first | (have hk2 : some W.heap.size = some k := hk; injection hk2; omega) | (have hk2 : some w1.heap.size = some k := hk; injection hk2; omega))))
      | fail "no arm")
  all_goals
    go_wp2
    go_ret
    exact ⟨A2, q2, by rw [show ((p :: R).length) = 1 + R.length by simp; omega]; rfl, (Fr.cons hown2 (by omega)).mono hbW.size, bext hbW hs2.bel⟩

set_option maxHeartbeats 2000000 in
theorem both_a0y (p : Pr) (a : List Pr) (A : Option Addr) (ca : Nat) (B : Option Addr) (cb : Nat) (R : List Pr) (w : World) (hR : R.length ≤ 1000000) (h : BothAt (a) ([]) R) (hna : ¬ ca = 1) (hA : Sl w A ((p :: a).flatMap Pr.cells)) (hca : a.length + 1 ≤ ca) (hB : Sl w B []) :
    Calls Tryz.prog 27 #[.slice A (a.length + 1) ca, .slice B 0 cb] w (GivesFr (p :: R) w) := by
  obtain ⟨ti0, hi, hz0, hz1, hz2⟩ := info_parts pr_info0
  have HI := Lib.hid (And.intro hi (And.intro hz0 (And.intro hz1 hz2)))
  have H := Lib.hid h
  clear hi hz0 hz1 hz2 h
  obtain ⟨ba, oa, rfl, hba, d0, d1⟩ := sl_cons hA
  have hta := sl_tail hA hca; rw [if_neg hna] at hta; have hta := Lib.hid hta
  have hA' := Lib.hid hA
  clear hA
  have i1 : (1 : Int) ≤ (a.length : Int) + 1 := by omega
  have i2 : (a.length : Int) + 1 ≤ (ca : Int) := by omega
  have i3 : (0 : Int) < (a.length : Int) + 1 := by omega
  have hB' := Lib.hid hB
  clear hB
  go_enter Tryz.func27, Tryz.ntmps27
  go_wp2_with fail
  refine wp_region_noPanic ?_
  refine wp_region_held_drew (S := fun _ => True) (by kernel_rfl) (trivial) (fun hHeld => ?_)
  refine wpAnyH_take (i := 0) (oi := { dst := some 11, op := Op.move (Operand.tmp 1), type := 30, pos := "ref.go:72", after := #[], guard := none }) (v := ?va0) rfl (by kernel_rfl) (by kernel_rfl) (by kernel_rfl) (fun _ _ _ h => h) (Or.inl ⟨by rfl, ?ya0⟩) (by assumption) ?ra0
  case ya0 => (intro w' hSw; (try dsimp only at hSw); go_simp; try with_reducible rfl)
  case' ra0 => (try simp only [Act.put, List.setIfInBounds_toArray, List.set_cons_zero, List.set_cons_succ])
  refine wpAnyH_take (i := 1) (oi := { dst := some 12, op := Op.call { callee := Callee.builtin Builtin.len, args := #[Operand.tmp 11], argTypes := #[30] }, type := 3, pos := "ref.go:72", after := #[{ on := 0, ground := Go.Ground.data }], guard := none }) (v := ?va1) rfl (by kernel_rfl) (by kernel_rfl) (by kernel_rfl) (fun _ _ _ h => h) (Or.inl ⟨by rfl, ?ya1⟩) (by assumption) ?ra1
  case ya1 => (intro w' hSw; (try dsimp only at hSw); go_simp; try with_reducible rfl)
  case' ra1 => (try simp only [Act.put, List.setIfInBounds_toArray, List.set_cons_zero, List.set_cons_succ])
  refine wpAnyH_take (i := 2) (oi := { dst := some 13, op := Op.binOp BinOp.eql 3 (Operand.tmp 12) (Operand.const (Value.int IntKind.i64 0)) 3, type := 4, pos := "ref.go:72", after := #[{ on := 1, ground := Go.Ground.data }], guard := none }) (v := ?va2) rfl (by kernel_rfl) (by kernel_rfl) (by kernel_rfl) (fun _ _ _ h => h) (Or.inl ⟨by rfl, ?ya2⟩) (by assumption) ?ra2
  case ya2 => (intro w' hSw; (try dsimp only at hSw); go_simp; try with_reducible rfl)
  case' ra2 => (try simp only [Act.put, List.setIfInBounds_toArray, List.set_cons_zero, List.set_cons_succ])
  refine wpAnyH_take (i := 3) (oi := { dst := some 14, op := Op.move (Operand.tmp 13), type := 4, pos := "ref.go:72", after := #[{ on := 2, ground := Go.Ground.data }], guard := none }) (v := ?va3) rfl (by kernel_rfl) (by kernel_rfl) (by kernel_rfl) (fun _ _ _ h => h) (Or.inl ⟨by rfl, ?ya3⟩) (by assumption) ?ra3
  case ya3 => (intro w' hSw; (try dsimp only at hSw); go_simp; try with_reducible rfl)
  case' ra3 => (try simp only [Act.put, List.setIfInBounds_toArray, List.set_cons_zero, List.set_cons_succ])
  refine wpAnyH_take (i := 4) (oi := { dst := some 15, op := Op.move (Operand.tmp 0), type := 30, pos := "ref.go:72", after := #[{ on := 3, ground := Go.Ground.guard }], guard := some (3, false) }) (v := undef) rfl (by kernel_rfl) (by kernel_rfl) (by kernel_rfl) (fun _ _ _ h => h) (Or.inr ⟨by rfl, rfl⟩) (by assumption) ?_
  (try simp only [Act.put, List.setIfInBounds_toArray, List.set_cons_zero, List.set_cons_succ])
  refine wpAnyH_take (i := 5) (oi := { dst := some 16, op := Op.indexAddr 30 (Operand.tmp 15) (Operand.const (Value.int IntKind.i64 0)), type := 0, pos := "ref.go:72", after := #[{ on := 4, ground := Go.Ground.data }, { on := 3, ground := Go.Ground.guard }], guard := some (3, false) }) (v := undef) rfl (by kernel_rfl) (by kernel_rfl) (by kernel_rfl) (fun _ _ _ h => h) (Or.inr ⟨by rfl, rfl⟩) (by assumption) ?_
  (try simp only [Act.put, List.setIfInBounds_toArray, List.set_cons_zero, List.set_cons_succ])
  refine wpAnyH_take (i := 6) (oi := { dst := some 17, op := Op.fieldAddr 50 (Operand.tmp 16) 0, type := 0, pos := "ref.go:72", after := #[{ on := 5, ground := Go.Ground.data }, { on := 3, ground := Go.Ground.guard }], guard := some (3, false) }) (v := undef) rfl (by kernel_rfl) (by kernel_rfl) (by kernel_rfl) (fun _ _ _ h => h) (Or.inr ⟨by rfl, rfl⟩) (by assumption) ?_
  (try simp only [Act.put, List.setIfInBounds_toArray, List.set_cons_zero, List.set_cons_succ])
  refine wpAnyH_take (i := 7) (oi := { dst := some 18, op := Op.load 2 (Operand.tmp 17), type := 2, pos := "ref.go:72", after := #[{ on := 6, ground := Go.Ground.data }, { on := 3, ground := Go.Ground.guard }], guard := some (3, false) }) (v := undef) rfl (by kernel_rfl) (by kernel_rfl) (by kernel_rfl) (fun _ _ _ h => h) (Or.inr ⟨by rfl, rfl⟩) (by assumption) ?_
  (try simp only [Act.put, List.setIfInBounds_toArray, List.set_cons_zero, List.set_cons_succ])
  refine wpAnyH_take (i := 8) (oi := { dst := some 19, op := Op.move (Operand.tmp 1), type := 30, pos := "ref.go:72", after := #[{ on := 3, ground := Go.Ground.guard }], guard := some (3, false) }) (v := undef) rfl (by kernel_rfl) (by kernel_rfl) (by kernel_rfl) (fun _ _ _ h => h) (Or.inr ⟨by rfl, rfl⟩) (by assumption) ?_
  (try simp only [Act.put, List.setIfInBounds_toArray, List.set_cons_zero, List.set_cons_succ])
  refine wpAnyH_take (i := 9) (oi := { dst := some 20, op := Op.indexAddr 30 (Operand.tmp 19) (Operand.const (Value.int IntKind.i64 0)), type := 0, pos := "ref.go:72", after := #[{ on := 8, ground := Go.Ground.data }, { on := 3, ground := Go.Ground.guard }], guard := some (3, false) }) (v := undef) rfl (by kernel_rfl) (by kernel_rfl) (by kernel_rfl) (fun _ _ _ h => h) (Or.inr ⟨by rfl, rfl⟩) (by assumption) ?_
  (try simp only [Act.put, List.setIfInBounds_toArray, List.set_cons_zero, List.set_cons_succ])
  refine wpAnyH_take (i := 10) (oi := { dst := some 21, op := Op.fieldAddr 50 (Operand.tmp 20) 0, type := 0, pos := "ref.go:72", after := #[{ on := 9, ground := Go.Ground.data }, { on := 3, ground := Go.Ground.guard }], guard := some (3, false) }) (v := undef) rfl (by kernel_rfl) (by kernel_rfl) (by kernel_rfl) (fun _ _ _ h => h) (Or.inr ⟨by rfl, rfl⟩) (by assumption) ?_
  (try simp only [Act.put, List.setIfInBounds_toArray, List.set_cons_zero, List.set_cons_succ])
  refine wpAnyH_take (i := 11) (oi := { dst := some 22, op := Op.load 2 (Operand.tmp 21), type := 2, pos := "ref.go:72", after := #[{ on := 10, ground := Go.Ground.data }, { on := 3, ground := Go.Ground.guard }], guard := some (3, false) }) (v := undef) rfl (by kernel_rfl) (by kernel_rfl) (by kernel_rfl) (fun _ _ _ h => h) (Or.inr ⟨by rfl, rfl⟩) (by assumption) ?_
  (try simp only [Act.put, List.setIfInBounds_toArray, List.set_cons_zero, List.set_cons_succ])
  refine wpAnyH_take (i := 12) (oi := { dst := some 23, op := Op.binOp BinOp.lss 2 (Operand.tmp 18) (Operand.tmp 22) 2, type := 4, pos := "ref.go:72", after := #[{ on := 7, ground := Go.Ground.data }, { on := 11, ground := Go.Ground.data }, { on := 3, ground := Go.Ground.guard }], guard := some (3, false) }) (v := undef) rfl (by kernel_rfl) (by kernel_rfl) (by kernel_rfl) (fun _ _ _ h => h) (Or.inr ⟨by rfl, rfl⟩) (by assumption) ?_
  (try simp only [Act.put, List.setIfInBounds_toArray, List.set_cons_zero, List.set_cons_succ])
  refine wpAnyH_take (i := 13) (oi := { dst := some 24, op := Op.pick (Operand.tmp 14) (Operand.const (Value.bool true)) (Operand.tmp 23), type := 4, pos := "ref.go:72", after := #[{ on := 3, ground := Go.Ground.data }, { on := 12, ground := Go.Ground.data }], guard := none }) (v := ?va13) rfl (by kernel_rfl) (by kernel_rfl) (by kernel_rfl) (fun _ _ _ h => h) (Or.inl ⟨by rfl, ?ya13⟩) (by assumption) ?ra13
  case ya13 => (intro w' hSw; (try dsimp only at hSw); go_simp; try with_reducible rfl)
  case' ra13 => (try simp only [Act.put, List.setIfInBounds_toArray, List.set_cons_zero, List.set_cons_succ])
  refine wpAnyH_done (by kernel_rfl) ?_ _
  refine NoPanic.normal ?_
  go_wp2_with fail
  refine rebase (w := w) ⟨rfl, rfl, rfl, Nat.le_refl _, fun _ _ => rfl⟩ ?_
  intro W hbW
  obtain ⟨hcW, hzW, hsW⟩ := wfacts hbW
  first | (have d0 := (hcW _ _ hba).trans d0; have d1 := (hcW _ _ hba).trans d1; have hba := hsW _ hba) | skip
  first | (have e0 := (hcW _ _ hbb).trans e0; have e1 := (hcW _ _ hbb).trans e1; have hbb := hsW _ hbb) | skip
  clear hcW hzW hsW
  go_region_held3 (fun w' => (∀ bq jq, bq < W.heap.size → w'.cell? ⟨bq, jq, none⟩ = W.cell? ⟨bq, jq, none⟩) ∧ (∀ bq jq, bq < W.heap.size → w'.frozen? ⟨bq, jq, none⟩ = W.frozen? ⟨bq, jq, none⟩) ∧ W.heap.size ≤ w'.heap.size ∧ Below W.heap.size W w') ((with_reducible first | exact SB.init | exact SB.alloc _ (by assumption) | exact SB.allocD _ (by assumption) | exact SB.below (by assumption) (by assumption) | assumption))
    (first
      | (go_at_call 27; refine (H.out (some ⟨ba, oa + 2, none⟩) (ca - 1) B cb _ (hta.out.below (bext hbW (SB.bel (by assumption)))) (hB'.out.below (bext hbW (SB.bel (by assumption)))) (by omega) (Nat.zero_le _)).mono ?_; rintro e1 w1 ⟨A1, c1, rfl, hf1, hb1⟩; have hl1 := SB.le hb1 (by assumption); obtain ⟨hc1, hz1, hs1⟩ := wfacts hb1)
      | (refine step_append_sl _ (by rfl) (.tmp 28) (.tmp 32) _ (by rfl) W.heap.size 50 ti0 _ 2 16 Tryz.underlying30 HI.out.1 HI.out.2.1 HI.out.2.2.1 HI.out.2.2.2 rfl (by omega) _ 1 p.cells (by rfl) (by first | exact own_one (Blk.new w1 _ _) (by assumption) | exact own_one (Blk.below (by exact Blk.new W _ _) hb1 (by first | simp | exact Nat.lt_succ_self _)) (Nat.le_refl _)) A1 R.length c1 (R.flatMap Pr.cells) (by rfl) (by first | exact hf1.sl | exact hf1.sl.below ((Below.refl _ _).alloc (Nat.le_refl _) _)) (prs_length _) (one_prs _) (by unfold maxLen; omega) (by omega) (SB.bel (by assumption)).size ?_; intro v2 w2 hown2 hg2; obtain ⟨A2, q2, rfl, hle2, hmx2⟩ := own_form hown2; have hs2 : SB W w2 := SB.of ((SB.bel (by assumption)).grown hg2 (SB.bel (by assumption)).size (fun k hk => by first | (have hk2 : some W.heap.size = some k := hk; injection hk2; omega) | (have hk2 : some w1.heap.size = some k := hk; injection hk2; omega))))
      | fail "no arm")
  all_goals
    go_wp2
    go_ret
    exact ⟨A2, q2, by rw [show ((p :: R).length) = 1 + R.length by simp; omega]; rfl, (Fr.cons hown2 (by omega)).mono hbW.size, bext hbW hs2.bel⟩

set_option maxHeartbeats 2000000 in
theorem both_a1x (p : Pr) (A : Option Addr) (q : Pr) (b : List Pr) (B : Option Addr) (cb : Nat) (R : List Pr) (w : World) (hR : R.length ≤ 1000000) (hk : p.key < q.key) (h : BothAt ([]) (q :: b) R) (hA : Sl w A ([p].flatMap Pr.cells)) (hB : Sl w B ((q :: b).flatMap Pr.cells)) (hcb : b.length + 1 ≤ cb) :
    Calls Tryz.prog 27 #[.slice A 1 1, .slice B (b.length + 1) cb] w (GivesFr (p :: R) w) := by
  obtain ⟨ti0, hi, hz0, hz1, hz2⟩ := info_parts pr_info0
  have HI := Lib.hid (And.intro hi (And.intro hz0 (And.intro hz1 hz2)))
  have H := Lib.hid h
  clear hi hz0 hz1 hz2 h
  obtain ⟨ba, oa, rfl, hba, d0, d1⟩ := sl_cons hA
  have hta : Hid (Sl w (some ⟨ba, oa, none⟩) []) := Lib.hid (.inl rfl)
  have hA' := Lib.hid hA
  clear hA
  obtain ⟨bb, ob, rfl, hbb, e0, e1⟩ := sl_cons hB
  have hB' := Lib.hid hB
  clear hB
  have j1 : (1 : Int) ≤ (b.length : Int) + 1 := by omega
  have j2 : (b.length : Int) + 1 ≤ (cb : Int) := by omega
  have j3 : (0 : Int) < (b.length : Int) + 1 := by omega
  go_enter Tryz.func27, Tryz.ntmps27
  go_wp2_with fail
  go_quiet (fail)
  go_wp2_with fail
  refine rebase (w := w) ⟨rfl, rfl, rfl, Nat.le_refl _, fun _ _ => rfl⟩ ?_
  intro W hbW
  obtain ⟨hcW, hzW, hsW⟩ := wfacts hbW
  first | (have d0 := (hcW _ _ hba).trans d0; have d1 := (hcW _ _ hba).trans d1; have hba := hsW _ hba) | skip
  first | (have e0 := (hcW _ _ hbb).trans e0; have e1 := (hcW _ _ hbb).trans e1; have hbb := hsW _ hbb) | skip
  clear hcW hzW hsW
  go_region_held3 (fun w' => (∀ bq jq, bq < W.heap.size → w'.cell? ⟨bq, jq, none⟩ = W.cell? ⟨bq, jq, none⟩) ∧ (∀ bq jq, bq < W.heap.size → w'.frozen? ⟨bq, jq, none⟩ = W.frozen? ⟨bq, jq, none⟩) ∧ W.heap.size ≤ w'.heap.size ∧ Below W.heap.size W w') ((with_reducible first | exact SB.init | exact SB.alloc _ (by assumption) | exact SB.allocD _ (by assumption) | exact SB.below (by assumption) (by assumption) | assumption))
    (first
      | (go_at_call 27; refine (H.out (some ⟨ba, oa, none⟩) 0 _ cb _ (hta.out.below (bext hbW (SB.bel (by assumption)))) (hB'.out.below (bext hbW (SB.bel (by assumption)))) (Nat.le_refl _) hcb).mono ?_; rintro e1 w1 ⟨A1, c1, rfl, hf1, hb1⟩; have hl1 := SB.le hb1 (by assumption); obtain ⟨hc1, hz1, hs1⟩ := wfacts hb1)
      | (refine step_append_sl _ (by rfl) (.tmp 28) (.tmp 32) _ (by rfl) W.heap.size 50 ti0 _ 2 16 Tryz.underlying30 HI.out.1 HI.out.2.1 HI.out.2.2.1 HI.out.2.2.2 rfl (by omega) _ 1 p.cells (by rfl) (by first | exact own_one (Blk.new w1 _ _) (by assumption) | exact own_one (Blk.below (by exact Blk.new W _ _) hb1 (by first | simp | exact Nat.lt_succ_self _)) (Nat.le_refl _)) A1 R.length c1 (R.flatMap Pr.cells) (by rfl) (by first | exact hf1.sl | exact hf1.sl.below ((Below.refl _ _).alloc (Nat.le_refl _) _)) (prs_length _) (one_prs _) (by unfold maxLen; omega) (by omega) (SB.bel (by assumption)).size ?_; intro v2 w2 hown2 hg2; obtain ⟨A2, q2, rfl, hle2, hmx2⟩ := own_form hown2; have hs2 : SB W w2 := SB.of ((SB.bel (by assumption)).grown hg2 (SB.bel (by assumption)).size (fun k hk => by first | (have hk2 : some W.heap.size = some k := hk; injection hk2; omega) | (have hk2 : some w1.heap.size = some k := hk; injection hk2; omega))))
      | fail "no arm")
  all_goals
    go_wp2
    go_ret
    exact ⟨A2, q2, by rw [show ((p :: R).length) = 1 + R.length by simp; omega]; rfl, (Fr.cons hown2 (by omega)).mono hbW.size, bext hbW hs2.bel⟩

set_option maxHeartbeats 2000000 in
theorem both_a1y (p : Pr) (a : List Pr) (A : Option Addr) (ca : Nat) (q : Pr) (b : List Pr) (B : Option Addr) (cb : Nat) (R : List Pr) (w : World) (hR : R.length ≤ 1000000) (hk : p.key < q.key) (h : BothAt (a) (q :: b) R) (hna : ¬ ca = 1) (hA : Sl w A ((p :: a).flatMap Pr.cells)) (hca : a.length + 1 ≤ ca) (hB : Sl w B ((q :: b).flatMap Pr.cells)) (hcb : b.length + 1 ≤ cb) :
    Calls Tryz.prog 27 #[.slice A (a.length + 1) ca, .slice B (b.length + 1) cb] w (GivesFr (p :: R) w) := by
  obtain ⟨ti0, hi, hz0, hz1, hz2⟩ := info_parts pr_info0
  have HI := Lib.hid (And.intro hi (And.intro hz0 (And.intro hz1 hz2)))
  have H := Lib.hid h
  clear hi hz0 hz1 hz2 h
  obtain ⟨ba, oa, rfl, hba, d0, d1⟩ := sl_cons hA
  have hta := sl_tail hA hca; rw [if_neg hna] at hta; have hta := Lib.hid hta
  have hA' := Lib.hid hA
  clear hA
  have i1 : (1 : Int) ≤ (a.length : Int) + 1 := by omega
  have i2 : (a.length : Int) + 1 ≤ (ca : Int) := by omega
  have i3 : (0 : Int) < (a.length : Int) + 1 := by omega
  obtain ⟨bb, ob, rfl, hbb, e0, e1⟩ := sl_cons hB
  have hB' := Lib.hid hB
  clear hB
  have j1 : (1 : Int) ≤ (b.length : Int) + 1 := by omega
  have j2 : (b.length : Int) + 1 ≤ (cb : Int) := by omega
  have j3 : (0 : Int) < (b.length : Int) + 1 := by omega
  go_enter Tryz.func27, Tryz.ntmps27
  go_wp2_with fail
  go_quiet (fail)
  go_wp2_with fail
  refine rebase (w := w) ⟨rfl, rfl, rfl, Nat.le_refl _, fun _ _ => rfl⟩ ?_
  intro W hbW
  obtain ⟨hcW, hzW, hsW⟩ := wfacts hbW
  first | (have d0 := (hcW _ _ hba).trans d0; have d1 := (hcW _ _ hba).trans d1; have hba := hsW _ hba) | skip
  first | (have e0 := (hcW _ _ hbb).trans e0; have e1 := (hcW _ _ hbb).trans e1; have hbb := hsW _ hbb) | skip
  clear hcW hzW hsW
  go_region_held3 (fun w' => (∀ bq jq, bq < W.heap.size → w'.cell? ⟨bq, jq, none⟩ = W.cell? ⟨bq, jq, none⟩) ∧ (∀ bq jq, bq < W.heap.size → w'.frozen? ⟨bq, jq, none⟩ = W.frozen? ⟨bq, jq, none⟩) ∧ W.heap.size ≤ w'.heap.size ∧ Below W.heap.size W w') ((with_reducible first | exact SB.init | exact SB.alloc _ (by assumption) | exact SB.allocD _ (by assumption) | exact SB.below (by assumption) (by assumption) | assumption))
    (first
      | (go_at_call 27; refine (H.out (some ⟨ba, oa + 2, none⟩) (ca - 1) _ cb _ (hta.out.below (bext hbW (SB.bel (by assumption)))) (hB'.out.below (bext hbW (SB.bel (by assumption)))) (by omega) hcb).mono ?_; rintro e1 w1 ⟨A1, c1, rfl, hf1, hb1⟩; have hl1 := SB.le hb1 (by assumption); obtain ⟨hc1, hz1, hs1⟩ := wfacts hb1)
      | (refine step_append_sl _ (by rfl) (.tmp 28) (.tmp 32) _ (by rfl) W.heap.size 50 ti0 _ 2 16 Tryz.underlying30 HI.out.1 HI.out.2.1 HI.out.2.2.1 HI.out.2.2.2 rfl (by omega) _ 1 p.cells (by rfl) (by first | exact own_one (Blk.new w1 _ _) (by assumption) | exact own_one (Blk.below (by exact Blk.new W _ _) hb1 (by first | simp | exact Nat.lt_succ_self _)) (Nat.le_refl _)) A1 R.length c1 (R.flatMap Pr.cells) (by rfl) (by first | exact hf1.sl | exact hf1.sl.below ((Below.refl _ _).alloc (Nat.le_refl _) _)) (prs_length _) (one_prs _) (by unfold maxLen; omega) (by omega) (SB.bel (by assumption)).size ?_; intro v2 w2 hown2 hg2; obtain ⟨A2, q2, rfl, hle2, hmx2⟩ := own_form hown2; have hs2 : SB W w2 := SB.of ((SB.bel (by assumption)).grown hg2 (SB.bel (by assumption)).size (fun k hk => by first | (have hk2 : some W.heap.size = some k := hk; injection hk2; omega) | (have hk2 : some w1.heap.size = some k := hk; injection hk2; omega))))
      | fail "no arm")
  all_goals
    go_wp2
    go_ret
    exact ⟨A2, q2, by rw [show ((p :: R).length) = 1 + R.length by simp; omega]; rfl, (Fr.cons hown2 (by omega)).mono hbW.size, bext hbW hs2.bel⟩

set_option maxHeartbeats 2000000 in
theorem both_b1x (p : Pr) (a : List Pr) (A : Option Addr) (ca : Nat) (q : Pr) (B : Option Addr) (R : List Pr) (w : World) (hR : R.length ≤ 1000000) (hk : q.key < p.key) (h : BothAt (p :: a) ([]) R) (hA : Sl w A ((p :: a).flatMap Pr.cells)) (hca : a.length + 1 ≤ ca) (hB : Sl w B ([q].flatMap Pr.cells)) :
    Calls Tryz.prog 27 #[.slice A (a.length + 1) ca, .slice B 1 1] w (GivesFr (q :: R) w) := by
  obtain ⟨ti0, hi, hz0, hz1, hz2⟩ := info_parts pr_info0
  have HI := Lib.hid (And.intro hi (And.intro hz0 (And.intro hz1 hz2)))
  have H := Lib.hid h
  clear hi hz0 hz1 hz2 h
  obtain ⟨ba, oa, rfl, hba, d0, d1⟩ := sl_cons hA
  have hA' := Lib.hid hA
  clear hA
  have i1 : (1 : Int) ≤ (a.length : Int) + 1 := by omega
  have i2 : (a.length : Int) + 1 ≤ (ca : Int) := by omega
  have i3 : (0 : Int) < (a.length : Int) + 1 := by omega
  obtain ⟨bb, ob, rfl, hbb, e0, e1⟩ := sl_cons hB
  have htb : Hid (Sl w (some ⟨bb, ob, none⟩) []) := Lib.hid (.inl rfl)
  have hB' := Lib.hid hB
  clear hB
  have kn : decide (p.key < q.key) = false := decide_eq_false (by omega)
  have ke : (p.key == q.key) = false := by rw [beq_eq_false_iff_ne]; omega
  go_enter Tryz.func27, Tryz.ntmps27
  go_wp2_with fail
  go_quiet (fail)
  go_wp2_with fail
  go_quiet (fail)
  go_wp2_with fail
  refine rebase (w := w) ⟨rfl, rfl, rfl, Nat.le_refl _, fun _ _ => rfl⟩ ?_
  intro W hbW
  obtain ⟨hcW, hzW, hsW⟩ := wfacts hbW
  first | (have d0 := (hcW _ _ hba).trans d0; have d1 := (hcW _ _ hba).trans d1; have hba := hsW _ hba) | skip
  first | (have e0 := (hcW _ _ hbb).trans e0; have e1 := (hcW _ _ hbb).trans e1; have hbb := hsW _ hbb) | skip
  clear hcW hzW hsW
  go_region_held3 (fun w' => (∀ bq jq, bq < W.heap.size → w'.cell? ⟨bq, jq, none⟩ = W.cell? ⟨bq, jq, none⟩) ∧ (∀ bq jq, bq < W.heap.size → w'.frozen? ⟨bq, jq, none⟩ = W.frozen? ⟨bq, jq, none⟩) ∧ W.heap.size ≤ w'.heap.size ∧ Below W.heap.size W w') ((with_reducible first | exact SB.init | exact SB.alloc _ (by assumption) | exact SB.allocD _ (by assumption) | exact SB.below (by assumption) (by assumption) | assumption))
    (first
      | (go_at_call 27; refine (H.out _ ca (some ⟨bb, ob, none⟩) 0 _ (hA'.out.below (bext hbW (SB.bel (by assumption)))) (htb.out.below (bext hbW (SB.bel (by assumption)))) hca (Nat.le_refl _)).mono ?_; rintro e1 w1 ⟨A1, c1, rfl, hf1, hb1⟩; have hl1 := SB.le hb1 (by assumption); obtain ⟨hc1, hz1, hs1⟩ := wfacts hb1)
      | (refine step_append_sl _ (by rfl) (.tmp 48) (.tmp 52) _ (by rfl) W.heap.size 50 ti0 _ 2 16 Tryz.underlying30 HI.out.1 HI.out.2.1 HI.out.2.2.1 HI.out.2.2.2 rfl (by omega) _ 1 q.cells (by rfl) (by first | exact own_one (Blk.new w1 _ _) (by assumption) | exact own_one (Blk.below (by exact Blk.new W _ _) hb1 (by first | simp | exact Nat.lt_succ_self _)) (Nat.le_refl _)) A1 R.length c1 (R.flatMap Pr.cells) (by rfl) (by first | exact hf1.sl | exact hf1.sl.below ((Below.refl _ _).alloc (Nat.le_refl _) _)) (prs_length _) (one_prs _) (by unfold maxLen; omega) (by omega) (SB.bel (by assumption)).size ?_; intro v2 w2 hown2 hg2; obtain ⟨A2, q2, rfl, hle2, hmx2⟩ := own_form hown2; have hs2 : SB W w2 := SB.of ((SB.bel (by assumption)).grown hg2 (SB.bel (by assumption)).size (fun k hk => by first | (have hk2 : some W.heap.size = some k := hk; injection hk2; omega) | (have hk2 : some w1.heap.size = some k := hk; injection hk2; omega))))
      | fail "no arm")
  all_goals
    go_wp2
    go_ret
    exact ⟨A2, q2, by rw [show ((q :: R).length) = 1 + R.length by simp; omega]; rfl, (Fr.cons hown2 (by omega)).mono hbW.size, bext hbW hs2.bel⟩

set_option maxHeartbeats 2000000 in
theorem both_b1y (p : Pr) (a : List Pr) (A : Option Addr) (ca : Nat) (q : Pr) (b : List Pr) (B : Option Addr) (cb : Nat) (R : List Pr) (w : World) (hR : R.length ≤ 1000000) (hk : q.key < p.key) (h : BothAt (p :: a) (b) R) (hA : Sl w A ((p :: a).flatMap Pr.cells)) (hca : a.length + 1 ≤ ca) (hnb : ¬ cb = 1) (hB : Sl w B ((q :: b).flatMap Pr.cells)) (hcb : b.length + 1 ≤ cb) :
    Calls Tryz.prog 27 #[.slice A (a.length + 1) ca, .slice B (b.length + 1) cb] w (GivesFr (q :: R) w) := by
  obtain ⟨ti0, hi, hz0, hz1, hz2⟩ := info_parts pr_info0
  have HI := Lib.hid (And.intro hi (And.intro hz0 (And.intro hz1 hz2)))
  have H := Lib.hid h
  clear hi hz0 hz1 hz2 h
  obtain ⟨ba, oa, rfl, hba, d0, d1⟩ := sl_cons hA
  have hA' := Lib.hid hA
  clear hA
  have i1 : (1 : Int) ≤ (a.length : Int) + 1 := by omega
  have i2 : (a.length : Int) + 1 ≤ (ca : Int) := by omega
  have i3 : (0 : Int) < (a.length : Int) + 1 := by omega
  obtain ⟨bb, ob, rfl, hbb, e0, e1⟩ := sl_cons hB
  have htb := sl_tail hB hcb; rw [if_neg hnb] at htb; have htb := Lib.hid htb
  have hB' := Lib.hid hB
  clear hB
  have j1 : (1 : Int) ≤ (b.length : Int) + 1 := by omega
  have j2 : (b.length : Int) + 1 ≤ (cb : Int) := by omega
  have j3 : (0 : Int) < (b.length : Int) + 1 := by omega
  have kn : decide (p.key < q.key) = false := decide_eq_false (by omega)
  have ke : (p.key == q.key) = false := by rw [beq_eq_false_iff_ne]; omega
  go_enter Tryz.func27, Tryz.ntmps27
  go_wp2_with fail
  go_quiet (fail)
  go_wp2_with fail
  go_quiet (fail)
  go_wp2_with fail
  refine rebase (w := w) ⟨rfl, rfl, rfl, Nat.le_refl _, fun _ _ => rfl⟩ ?_
  intro W hbW
  obtain ⟨hcW, hzW, hsW⟩ := wfacts hbW
  first | (have d0 := (hcW _ _ hba).trans d0; have d1 := (hcW _ _ hba).trans d1; have hba := hsW _ hba) | skip
  first | (have e0 := (hcW _ _ hbb).trans e0; have e1 := (hcW _ _ hbb).trans e1; have hbb := hsW _ hbb) | skip
  clear hcW hzW hsW
  go_region_held3 (fun w' => (∀ bq jq, bq < W.heap.size → w'.cell? ⟨bq, jq, none⟩ = W.cell? ⟨bq, jq, none⟩) ∧ (∀ bq jq, bq < W.heap.size → w'.frozen? ⟨bq, jq, none⟩ = W.frozen? ⟨bq, jq, none⟩) ∧ W.heap.size ≤ w'.heap.size ∧ Below W.heap.size W w') ((with_reducible first | exact SB.init | exact SB.alloc _ (by assumption) | exact SB.allocD _ (by assumption) | exact SB.below (by assumption) (by assumption) | assumption))
    (first
      | (go_at_call 27; refine (H.out _ ca (some ⟨bb, ob + 2, none⟩) (cb - 1) _ (hA'.out.below (bext hbW (SB.bel (by assumption)))) (htb.out.below (bext hbW (SB.bel (by assumption)))) hca (by omega)).mono ?_; rintro e1 w1 ⟨A1, c1, rfl, hf1, hb1⟩; have hl1 := SB.le hb1 (by assumption); obtain ⟨hc1, hz1, hs1⟩ := wfacts hb1)
      | (refine step_append_sl _ (by rfl) (.tmp 48) (.tmp 52) _ (by rfl) W.heap.size 50 ti0 _ 2 16 Tryz.underlying30 HI.out.1 HI.out.2.1 HI.out.2.2.1 HI.out.2.2.2 rfl (by omega) _ 1 q.cells (by rfl) (by first | exact own_one (Blk.new w1 _ _) (by assumption) | exact own_one (Blk.below (by exact Blk.new W _ _) hb1 (by first | simp | exact Nat.lt_succ_self _)) (Nat.le_refl _)) A1 R.length c1 (R.flatMap Pr.cells) (by rfl) (by first | exact hf1.sl | exact hf1.sl.below ((Below.refl _ _).alloc (Nat.le_refl _) _)) (prs_length _) (one_prs _) (by unfold maxLen; omega) (by omega) (SB.bel (by assumption)).size ?_; intro v2 w2 hown2 hg2; obtain ⟨A2, q2, rfl, hle2, hmx2⟩ := own_form hown2; have hs2 : SB W w2 := SB.of ((SB.bel (by assumption)).grown hg2 (SB.bel (by assumption)).size (fun k hk => by first | (have hk2 : some W.heap.size = some k := hk; injection hk2; omega) | (have hk2 : some w1.heap.size = some k := hk; injection hk2; omega))))
      | fail "no arm")
  all_goals
    go_wp2
    go_ret
    exact ⟨A2, q2, by rw [show ((q :: R).length) = 1 + R.length by simp; omega]; rfl, (Fr.cons hown2 (by omega)).mono hbW.size, bext hbW hs2.bel⟩

set_option maxHeartbeats 2000000 in
theorem both_b0xx (p : Pr) (A : Option Addr) (q : Pr) (B : Option Addr) (R : List Pr) (w : World) (hR : R.length ≤ 1000000) (hk : p.key = q.key) (h : BothAt ([]) ([]) R) (hA : Sl w A ([p].flatMap Pr.cells)) (hB : Sl w B ([q].flatMap Pr.cells)) :
    Calls Tryz.prog 27 #[.slice A 1 1, .slice B 1 1] w (GivesFr (q :: R) w) := by
  obtain ⟨ti0, hi, hz0, hz1, hz2⟩ := info_parts pr_info0
  have HI := Lib.hid (And.intro hi (And.intro hz0 (And.intro hz1 hz2)))
  have H := Lib.hid h
  clear hi hz0 hz1 hz2 h
  obtain ⟨ba, oa, rfl, hba, d0, d1⟩ := sl_cons hA
  have hta : Hid (Sl w (some ⟨ba, oa, none⟩) []) := Lib.hid (.inl rfl)
  have hA' := Lib.hid hA
  clear hA
  obtain ⟨bb, ob, rfl, hbb, e0, e1⟩ := sl_cons hB
  have htb : Hid (Sl w (some ⟨bb, ob, none⟩) []) := Lib.hid (.inl rfl)
  have hB' := Lib.hid hB
  clear hB
  have kn : decide (p.key < q.key) = false := decide_eq_false (by omega)
  have ke : (p.key == q.key) = true := beq_iff_eq.2 hk
  go_enter Tryz.func27, Tryz.ntmps27
  go_wp2_with fail
  go_quiet (fail)
  go_wp2_with fail
  go_quiet (fail)
  go_wp2_with fail
  refine rebase (w := w) ⟨rfl, rfl, rfl, Nat.le_refl _, fun _ _ => rfl⟩ ?_
  intro W hbW
  obtain ⟨hcW, hzW, hsW⟩ := wfacts hbW
  first | (have d0 := (hcW _ _ hba).trans d0; have d1 := (hcW _ _ hba).trans d1; have hba := hsW _ hba) | skip
  first | (have e0 := (hcW _ _ hbb).trans e0; have e1 := (hcW _ _ hbb).trans e1; have hbb := hsW _ hbb) | skip
  clear hcW hzW hsW
  go_region_held3 (fun w' => (∀ bq jq, bq < W.heap.size → w'.cell? ⟨bq, jq, none⟩ = W.cell? ⟨bq, jq, none⟩) ∧ (∀ bq jq, bq < W.heap.size → w'.frozen? ⟨bq, jq, none⟩ = W.frozen? ⟨bq, jq, none⟩) ∧ W.heap.size ≤ w'.heap.size ∧ Below W.heap.size W w') ((with_reducible first | exact SB.init | exact SB.alloc _ (by assumption) | exact SB.allocD _ (by assumption) | exact SB.below (by assumption) (by assumption) | assumption))
    (first
      | (go_at_call 27; refine (H.out (some ⟨ba, oa, none⟩) 0 (some ⟨bb, ob, none⟩) 0 _ (hta.out.below (bext hbW (SB.bel (by assumption)))) (htb.out.below (bext hbW (SB.bel (by assumption)))) (Nat.le_refl _) (Nat.le_refl _)).mono ?_; rintro e1 w1 ⟨A1, c1, rfl, hf1, hb1⟩; have hl1 := SB.le hb1 (by assumption); obtain ⟨hc1, hz1, hs1⟩ := wfacts hb1)
      | (refine step_append_sl _ (by rfl) (.tmp 48) (.tmp 52) _ (by rfl) W.heap.size 50 ti0 _ 2 16 Tryz.underlying30 HI.out.1 HI.out.2.1 HI.out.2.2.1 HI.out.2.2.2 rfl (by omega) _ 1 q.cells (by rfl) (by first | exact own_one (Blk.new w1 _ _) (by assumption) | exact own_one (Blk.below (by exact Blk.new W _ _) hb1 (by first | simp | exact Nat.lt_succ_self _)) (Nat.le_refl _)) A1 R.length c1 (R.flatMap Pr.cells) (by rfl) (by first | exact hf1.sl | exact hf1.sl.below ((Below.refl _ _).alloc (Nat.le_refl _) _)) (prs_length _) (one_prs _) (by unfold maxLen; omega) (by omega) (SB.bel (by assumption)).size ?_; intro v2 w2 hown2 hg2; obtain ⟨A2, q2, rfl, hle2, hmx2⟩ := own_form hown2; have hs2 : SB W w2 := SB.of ((SB.bel (by assumption)).grown hg2 (SB.bel (by assumption)).size (fun k hk => by first | (have hk2 : some W.heap.size = some k := hk; injection hk2; omega) | (have hk2 : some w1.heap.size = some k := hk; injection hk2; omega))))
      | fail "no arm")
  all_goals
    go_wp2
    go_ret
    exact ⟨A2, q2, by rw [show ((q :: R).length) = 1 + R.length by simp; omega]; rfl, (Fr.cons hown2 (by omega)).mono hbW.size, bext hbW hs2.bel⟩

set_option maxHeartbeats 2000000 in
theorem both_b0xy (p : Pr) (A : Option Addr) (q : Pr) (b : List Pr) (B : Option Addr) (cb : Nat) (R : List Pr) (w : World) (hR : R.length ≤ 1000000) (hk : p.key = q.key) (h : BothAt ([]) (b) R) (hA : Sl w A ([p].flatMap Pr.cells)) (hnb : ¬ cb = 1) (hB : Sl w B ((q :: b).flatMap Pr.cells)) (hcb : b.length + 1 ≤ cb) :
    Calls Tryz.prog 27 #[.slice A 1 1, .slice B (b.length + 1) cb] w (GivesFr (q :: R) w) := by
  obtain ⟨ti0, hi, hz0, hz1, hz2⟩ := info_parts pr_info0
  have HI := Lib.hid (And.intro hi (And.intro hz0 (And.intro hz1 hz2)))
  have H := Lib.hid h
  clear hi hz0 hz1 hz2 h
  obtain ⟨ba, oa, rfl, hba, d0, d1⟩ := sl_cons hA
  have hta : Hid (Sl w (some ⟨ba, oa, none⟩) []) := Lib.hid (.inl rfl)
  have hA' := Lib.hid hA
  clear hA
  obtain ⟨bb, ob, rfl, hbb, e0, e1⟩ := sl_cons hB
  have htb := sl_tail hB hcb; rw [if_neg hnb] at htb; have htb := Lib.hid htb
  have hB' := Lib.hid hB
  clear hB
  have j1 : (1 : Int) ≤ (b.length : Int) + 1 := by omega
  have j2 : (b.length : Int) + 1 ≤ (cb : Int) := by omega
  have j3 : (0 : Int) < (b.length : Int) + 1 := by omega
  have kn : decide (p.key < q.key) = false := decide_eq_false (by omega)
  have ke : (p.key == q.key) = true := beq_iff_eq.2 hk
  go_enter Tryz.func27, Tryz.ntmps27
  go_wp2_with fail
  go_quiet (fail)
  go_wp2_with fail
  go_quiet (fail)
  go_wp2_with fail
  refine rebase (w := w) ⟨rfl, rfl, rfl, Nat.le_refl _, fun _ _ => rfl⟩ ?_
  intro W hbW
  obtain ⟨hcW, hzW, hsW⟩ := wfacts hbW
  first | (have d0 := (hcW _ _ hba).trans d0; have d1 := (hcW _ _ hba).trans d1; have hba := hsW _ hba) | skip
  first | (have e0 := (hcW _ _ hbb).trans e0; have e1 := (hcW _ _ hbb).trans e1; have hbb := hsW _ hbb) | skip
  clear hcW hzW hsW
  go_region_held3 (fun w' => (∀ bq jq, bq < W.heap.size → w'.cell? ⟨bq, jq, none⟩ = W.cell? ⟨bq, jq, none⟩) ∧ (∀ bq jq, bq < W.heap.size → w'.frozen? ⟨bq, jq, none⟩ = W.frozen? ⟨bq, jq, none⟩) ∧ W.heap.size ≤ w'.heap.size ∧ Below W.heap.size W w') ((with_reducible first | exact SB.init | exact SB.alloc _ (by assumption) | exact SB.allocD _ (by assumption) | exact SB.below (by assumption) (by assumption) | assumption))
    (first
      | (go_at_call 27; refine (H.out (some ⟨ba, oa, none⟩) 0 (some ⟨bb, ob + 2, none⟩) (cb - 1) _ (hta.out.below (bext hbW (SB.bel (by assumption)))) (htb.out.below (bext hbW (SB.bel (by assumption)))) (Nat.le_refl _) (by omega)).mono ?_; rintro e1 w1 ⟨A1, c1, rfl, hf1, hb1⟩; have hl1 := SB.le hb1 (by assumption); obtain ⟨hc1, hz1, hs1⟩ := wfacts hb1)
      | (refine step_append_sl _ (by rfl) (.tmp 48) (.tmp 52) _ (by rfl) W.heap.size 50 ti0 _ 2 16 Tryz.underlying30 HI.out.1 HI.out.2.1 HI.out.2.2.1 HI.out.2.2.2 rfl (by omega) _ 1 q.cells (by rfl) (by first | exact own_one (Blk.new w1 _ _) (by assumption) | exact own_one (Blk.below (by exact Blk.new W _ _) hb1 (by first | simp | exact Nat.lt_succ_self _)) (Nat.le_refl _)) A1 R.length c1 (R.flatMap Pr.cells) (by rfl) (by first | exact hf1.sl | exact hf1.sl.below ((Below.refl _ _).alloc (Nat.le_refl _) _)) (prs_length _) (one_prs _) (by unfold maxLen; omega) (by omega) (SB.bel (by assumption)).size ?_; intro v2 w2 hown2 hg2; obtain ⟨A2, q2, rfl, hle2, hmx2⟩ := own_form hown2; have hs2 : SB W w2 := SB.of ((SB.bel (by assumption)).grown hg2 (SB.bel (by assumption)).size (fun k hk => by first | (have hk2 : some W.heap.size = some k := hk; injection hk2; omega) | (have hk2 : some w1.heap.size = some k := hk; injection hk2; omega))))
      | fail "no arm")
  all_goals
    go_wp2
    go_ret
    exact ⟨A2, q2, by rw [show ((q :: R).length) = 1 + R.length by simp; omega]; rfl, (Fr.cons hown2 (by omega)).mono hbW.size, bext hbW hs2.bel⟩

set_option maxHeartbeats 2000000 in
theorem both_b0yx (p : Pr) (a : List Pr) (A : Option Addr) (ca : Nat) (q : Pr) (B : Option Addr) (R : List Pr) (w : World) (hR : R.length ≤ 1000000) (hk : p.key = q.key) (h : BothAt (a) ([]) R) (hna : ¬ ca = 1) (hA : Sl w A ((p :: a).flatMap Pr.cells)) (hca : a.length + 1 ≤ ca) (hB : Sl w B ([q].flatMap Pr.cells)) :
    Calls Tryz.prog 27 #[.slice A (a.length + 1) ca, .slice B 1 1] w (GivesFr (q :: R) w) := by
  obtain ⟨ti0, hi, hz0, hz1, hz2⟩ := info_parts pr_info0
  have HI := Lib.hid (And.intro hi (And.intro hz0 (And.intro hz1 hz2)))
  have H := Lib.hid h
  clear hi hz0 hz1 hz2 h
  obtain ⟨ba, oa, rfl, hba, d0, d1⟩ := sl_cons hA
  have hta := sl_tail hA hca; rw [if_neg hna] at hta; have hta := Lib.hid hta
  have hA' := Lib.hid hA
  clear hA
  have i1 : (1 : Int) ≤ (a.length : Int) + 1 := by omega
  have i2 : (a.length : Int) + 1 ≤ (ca : Int) := by omega
  have i3 : (0 : Int) < (a.length : Int) + 1 := by omega
  obtain ⟨bb, ob, rfl, hbb, e0, e1⟩ := sl_cons hB
  have htb : Hid (Sl w (some ⟨bb, ob, none⟩) []) := Lib.hid (.inl rfl)
  have hB' := Lib.hid hB
  clear hB
  have kn : decide (p.key < q.key) = false := decide_eq_false (by omega)
  have ke : (p.key == q.key) = true := beq_iff_eq.2 hk
  go_enter Tryz.func27, Tryz.ntmps27
  go_wp2_with fail
  go_quiet (fail)
  go_wp2_with fail
  go_quiet (fail)
  go_wp2_with fail
  refine rebase (w := w) ⟨rfl, rfl, rfl, Nat.le_refl _, fun _ _ => rfl⟩ ?_
  intro W hbW
  obtain ⟨hcW, hzW, hsW⟩ := wfacts hbW
  first | (have d0 := (hcW _ _ hba).trans d0; have d1 := (hcW _ _ hba).trans d1; have hba := hsW _ hba) | skip
  first | (have e0 := (hcW _ _ hbb).trans e0; have e1 := (hcW _ _ hbb).trans e1; have hbb := hsW _ hbb) | skip
  clear hcW hzW hsW
  go_region_held3 (fun w' => (∀ bq jq, bq < W.heap.size → w'.cell? ⟨bq, jq, none⟩ = W.cell? ⟨bq, jq, none⟩) ∧ (∀ bq jq, bq < W.heap.size → w'.frozen? ⟨bq, jq, none⟩ = W.frozen? ⟨bq, jq, none⟩) ∧ W.heap.size ≤ w'.heap.size ∧ Below W.heap.size W w') ((with_reducible first | exact SB.init | exact SB.alloc _ (by assumption) | exact SB.allocD _ (by assumption) | exact SB.below (by assumption) (by assumption) | assumption))
    (first
      | (go_at_call 27; refine (H.out (some ⟨ba, oa + 2, none⟩) (ca - 1) (some ⟨bb, ob, none⟩) 0 _ (hta.out.below (bext hbW (SB.bel (by assumption)))) (htb.out.below (bext hbW (SB.bel (by assumption)))) (by omega) (Nat.le_refl _)).mono ?_; rintro e1 w1 ⟨A1, c1, rfl, hf1, hb1⟩; have hl1 := SB.le hb1 (by assumption); obtain ⟨hc1, hz1, hs1⟩ := wfacts hb1)
      | (refine step_append_sl _ (by rfl) (.tmp 48) (.tmp 52) _ (by rfl) W.heap.size 50 ti0 _ 2 16 Tryz.underlying30 HI.out.1 HI.out.2.1 HI.out.2.2.1 HI.out.2.2.2 rfl (by omega) _ 1 q.cells (by rfl) (by first | exact own_one (Blk.new w1 _ _) (by assumption) | exact own_one (Blk.below (by exact Blk.new W _ _) hb1 (by first | simp | exact Nat.lt_succ_self _)) (Nat.le_refl _)) A1 R.length c1 (R.flatMap Pr.cells) (by rfl) (by first | exact hf1.sl | exact hf1.sl.below ((Below.refl _ _).alloc (Nat.le_refl _) _)) (prs_length _) (one_prs _) (by unfold maxLen; omega) (by omega) (SB.bel (by assumption)).size ?_; intro v2 w2 hown2 hg2; obtain ⟨A2, q2, rfl, hle2, hmx2⟩ := own_form hown2; have hs2 : SB W w2 := SB.of ((SB.bel (by assumption)).grown hg2 (SB.bel (by assumption)).size (fun k hk => by first | (have hk2 : some W.heap.size = some k := hk; injection hk2; omega) | (have hk2 : some w1.heap.size = some k := hk; injection hk2; omega))))
      | fail "no arm")
  all_goals
    go_wp2
    go_ret
    exact ⟨A2, q2, by rw [show ((q :: R).length) = 1 + R.length by simp; omega]; rfl, (Fr.cons hown2 (by omega)).mono hbW.size, bext hbW hs2.bel⟩

set_option maxHeartbeats 2000000 in
theorem both_b0yy (p : Pr) (a : List Pr) (A : Option Addr) (ca : Nat) (q : Pr) (b : List Pr) (B : Option Addr) (cb : Nat) (R : List Pr) (w : World) (hR : R.length ≤ 1000000) (hk : p.key = q.key) (h : BothAt (a) (b) R) (hna : ¬ ca = 1) (hA : Sl w A ((p :: a).flatMap Pr.cells)) (hca : a.length + 1 ≤ ca) (hnb : ¬ cb = 1) (hB : Sl w B ((q :: b).flatMap Pr.cells)) (hcb : b.length + 1 ≤ cb) :
    Calls Tryz.prog 27 #[.slice A (a.length + 1) ca, .slice B (b.length + 1) cb] w (GivesFr (q :: R) w) := by
  obtain ⟨ti0, hi, hz0, hz1, hz2⟩ := info_parts pr_info0
  have HI := Lib.hid (And.intro hi (And.intro hz0 (And.intro hz1 hz2)))
  have H := Lib.hid h
  clear hi hz0 hz1 hz2 h
  obtain ⟨ba, oa, rfl, hba, d0, d1⟩ := sl_cons hA
  have hta := sl_tail hA hca; rw [if_neg hna] at hta; have hta := Lib.hid hta
  have hA' := Lib.hid hA
  clear hA
  have i1 : (1 : Int) ≤ (a.length : Int) + 1 := by omega
  have i2 : (a.length : Int) + 1 ≤ (ca : Int) := by omega
  have i3 : (0 : Int) < (a.length : Int) + 1 := by omega
  obtain ⟨bb, ob, rfl, hbb, e0, e1⟩ := sl_cons hB
  have htb := sl_tail hB hcb; rw [if_neg hnb] at htb; have htb := Lib.hid htb
  have hB' := Lib.hid hB
  clear hB
  have j1 : (1 : Int) ≤ (b.length : Int) + 1 := by omega
  have j2 : (b.length : Int) + 1 ≤ (cb : Int) := by omega
  have j3 : (0 : Int) < (b.length : Int) + 1 := by omega
  have kn : decide (p.key < q.key) = false := decide_eq_false (by omega)
  have ke : (p.key == q.key) = true := beq_iff_eq.2 hk
  go_enter Tryz.func27, Tryz.ntmps27
  go_wp2_with fail
  go_quiet (fail)
  go_wp2_with fail
  go_quiet (fail)
  go_wp2_with fail
  refine rebase (w := w) ⟨rfl, rfl, rfl, Nat.le_refl _, fun _ _ => rfl⟩ ?_
  intro W hbW
  obtain ⟨hcW, hzW, hsW⟩ := wfacts hbW
  first | (have d0 := (hcW _ _ hba).trans d0; have d1 := (hcW _ _ hba).trans d1; have hba := hsW _ hba) | skip
  first | (have e0 := (hcW _ _ hbb).trans e0; have e1 := (hcW _ _ hbb).trans e1; have hbb := hsW _ hbb) | skip
  clear hcW hzW hsW
  go_region_held3 (fun w' => (∀ bq jq, bq < W.heap.size → w'.cell? ⟨bq, jq, none⟩ = W.cell? ⟨bq, jq, none⟩) ∧ (∀ bq jq, bq < W.heap.size → w'.frozen? ⟨bq, jq, none⟩ = W.frozen? ⟨bq, jq, none⟩) ∧ W.heap.size ≤ w'.heap.size ∧ Below W.heap.size W w') ((with_reducible first | exact SB.init | exact SB.alloc _ (by assumption) | exact SB.allocD _ (by assumption) | exact SB.below (by assumption) (by assumption) | assumption))
    (first
      | (go_at_call 27; refine (H.out (some ⟨ba, oa + 2, none⟩) (ca - 1) (some ⟨bb, ob + 2, none⟩) (cb - 1) _ (hta.out.below (bext hbW (SB.bel (by assumption)))) (htb.out.below (bext hbW (SB.bel (by assumption)))) (by omega) (by omega)).mono ?_; rintro e1 w1 ⟨A1, c1, rfl, hf1, hb1⟩; have hl1 := SB.le hb1 (by assumption); obtain ⟨hc1, hz1, hs1⟩ := wfacts hb1)
      | (refine step_append_sl _ (by rfl) (.tmp 48) (.tmp 52) _ (by rfl) W.heap.size 50 ti0 _ 2 16 Tryz.underlying30 HI.out.1 HI.out.2.1 HI.out.2.2.1 HI.out.2.2.2 rfl (by omega) _ 1 q.cells (by rfl) (by first | exact own_one (Blk.new w1 _ _) (by assumption) | exact own_one (Blk.below (by exact Blk.new W _ _) hb1 (by first | simp | exact Nat.lt_succ_self _)) (Nat.le_refl _)) A1 R.length c1 (R.flatMap Pr.cells) (by rfl) (by first | exact hf1.sl | exact hf1.sl.below ((Below.refl _ _).alloc (Nat.le_refl _) _)) (prs_length _) (one_prs _) (by unfold maxLen; omega) (by omega) (SB.bel (by assumption)).size ?_; intro v2 w2 hown2 hg2; obtain ⟨A2, q2, rfl, hle2, hmx2⟩ := own_form hown2; have hs2 : SB W w2 := SB.of ((SB.bel (by assumption)).grown hg2 (SB.bel (by assumption)).size (fun k hk => by first | (have hk2 : some W.heap.size = some k := hk; injection hk2; omega) | (have hk2 : some w1.heap.size = some k := hk; injection hk2; omega))))
      | fail "no arm")
  all_goals
    go_wp2
    go_ret
    exact ⟨A2, q2, by rw [show ((q :: R).length) = 1 + R.length by simp; omega]; rfl, (Fr.cons hown2 (by omega)).mono hbW.size, bext hbW hs2.bel⟩

theorem both_len : ∀ (n : Nat) (a b : List Pr), a.length + b.length ≤ n → (bothL a b).length ≤ a.length + b.length := by
  intro n
  induction n with
  | zero => intro a b h; cases a <;> cases b <;> simp at h; simp [bothL]
  | succ n ih =>
    intro a b h
    cases a with
    | nil => rw [bothL]; simp
    | cons x a =>
      cases b with
      | nil => rw [both_nil]; simp
      | cons y b =>
        simp only [List.length_cons] at h ⊢
        rw [bothL]
        split
        · have := ih a (y :: b) (by simp; omega); simp at this ⊢; omega
        · split
          · have := ih a b (by omega); simp at this ⊢; omega
          · have := ih (x :: a) b (by simp; omega); simp at this ⊢; omega
theorem both_at : ∀ (n : Nat) (a b : List Pr), a.length + b.length ≤ n → n ≤ 1000000 → BothAt a b (bothL a b) := by
  intro n
  induction n with
  | zero =>
    intro a b h hn A ca B cb w hA hB hca hcb
    have e1 : a = [] := List.eq_nil_of_length_eq_zero (by omega)
    subst e1
    rw [bothL]
    exact both_base A ca B b _ cb w hB rfl (by omega)
  | succ n ih =>
    intro a b h hn A ca B cb w hA hB hca hcb
    have hlen := both_len (n + 1) a b h
    cases a with
    | nil =>
      rw [bothL]
      simp only [List.length_nil] at h
      exact both_base A ca B b _ cb w hB rfl (by omega)
    | cons p a =>
      cases b with
      | nil =>
        have e : bothL (p :: a) [] = p :: bothL a [] := by rw [bothL]
        rw [e] at hlen ⊢
        simp only [List.length_cons, List.length_nil] at h hca hlen
        have hR : (bothL a []).length ≤ 1000000 := by omega
        have hi := ih a [] (by simp; omega) (by omega)
        by_cases c1 : ca = 1
        · subst c1
          have ea : a = [] := List.eq_nil_of_length_eq_zero (by omega)
          subst ea
          exact both_a0x p A B cb _ w hR hi hA hB
        · exact both_a0y p a A ca B cb _ w hR hi c1 hA hca hB
      | cons q b =>
        simp only [List.length_cons] at h hca hcb hlen
        by_cases k1 : p.key < q.key
        · have e : bothL (p :: a) (q :: b) = p :: bothL a (q :: b) := by rw [bothL, if_pos k1]
          rw [e] at hlen ⊢
          simp only [List.length_cons] at hlen
          have hi := ih a (q :: b) (by simp; omega) (by omega)
          by_cases c1 : ca = 1
          · subst c1
            have ea : a = [] := List.eq_nil_of_length_eq_zero (by omega)
            subst ea
            exact both_a1x p A q b B cb _ w (by omega) k1 hi hA hB hcb
          · exact both_a1y p a A ca q b B cb _ w (by omega) k1 hi c1 hA hca hB hcb
        · by_cases k2 : p.key = q.key
          · have e : bothL (p :: a) (q :: b) = q :: bothL a b := by rw [bothL, if_neg k1, if_pos k2]
            rw [e] at hlen ⊢
            simp only [List.length_cons] at hlen
            have hi := ih a b (by omega) (by omega)
            by_cases c1 : ca = 1
            · subst c1
              have ea : a = [] := List.eq_nil_of_length_eq_zero (by omega)
              subst ea
              by_cases c2 : cb = 1
              · subst c2
                have eb : b = [] := List.eq_nil_of_length_eq_zero (by omega)
                subst eb
                exact both_b0xx p A q B _ w (by omega) k2 hi hA hB
              · exact both_b0xy p A q b B cb _ w (by omega) k2 hi hA c2 hB hcb
            · by_cases c2 : cb = 1
              · subst c2
                have eb : b = [] := List.eq_nil_of_length_eq_zero (by omega)
                subst eb
                exact both_b0yx p a A ca q B _ w (by omega) k2 hi c1 hA hca hB
              · exact both_b0yy p a A ca q b B cb _ w (by omega) k2 hi c1 hA hca c2 hB hcb
          · have e : bothL (p :: a) (q :: b) = q :: bothL (p :: a) b := by rw [bothL, if_neg k1, if_neg k2]
            rw [e] at hlen ⊢
            simp only [List.length_cons] at hlen
            have hi := ih (p :: a) b (by simp; omega) (by omega)
            by_cases c2 : cb = 1
            · subst c2
              have eb : b = [] := List.eq_nil_of_length_eq_zero (by omega)
              subst eb
              exact both_b1x p a A ca q B _ w (by omega) (by omega) hi hA hca hB
            · exact both_b1y p a A ca q b B cb _ w (by omega) (by omega) hi hA hca c2 hB hcb
theorem both13_any (A : Option Addr) (a : List Pr) (ca : Nat) (B : Option Addr) (b : List Pr) (cb : Nat) (w : World) (hA : Sl w A (a.flatMap Pr.cells)) (hB : Sl w B (b.flatMap Pr.cells)) (hca : a.length ≤ ca) (hcb : b.length ≤ cb) (hl : a.length + b.length ≤ 1000000) :
    Calls Tryz.prog 27 #[.slice A a.length ca, .slice B b.length cb] w (GivesFr (bothL a b) w) :=
  both_at _ a b (Nat.le_refl _) hl A ca B cb w hA hB hca hcb

end Go.Proofs.YtolclahkfmplfaaGreat
