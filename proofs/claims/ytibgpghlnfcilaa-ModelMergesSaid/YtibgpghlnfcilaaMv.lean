/- Contract: the chapter's examples, together. -/
import Derived.Test.YtibgpghlnfcilaaMl
import Derived.Test.YtibgpghlnfcilaaRi
namespace Go.Proofs.Ytibgpghlnfcilaa
open Go Go.RowKit
set_option maxRecDepth 100000

def IsS (W : World) (v : Value) : Prop := ∃ g, v = .slice (some ⟨g, 0, none⟩) 2 2 ∧ Blk W g 23 #[.int .i64 5, .int .i64 50, .int .i64 9, .int .i64 90]
def IsP (k : Nat) (W : World) (v : Value) : Prop := ∃ g, v = .pointer (some ⟨g, k, none⟩) ∧ Blk W g 23 #[.int .i64 5, .int .i64 50, .int .i64 9, .int .i64 90]
def IsL (B : Nat) (W : World) (v : Value) (x y : Int) : Prop := ∃ g, v = .pointer (some ⟨g, 0, none⟩) ∧ B ≤ g ∧ Blk W g 23 #[.int .i64 x, .int .i64 y]
section
variable {W W' : World} {v : Value} {B k g : Nat} {x y x' y' : Int}
theorem IsS.below (h : IsS W v) (hb : Below W.heap.size W W') : IsS W' v := let ⟨g, h1, h2⟩ := h; ⟨g, h1, h2.below hb h2.lt⟩
theorem IsP.below (h : IsP k W v) (hb : Below W.heap.size W W') : IsP k W' v := let ⟨g, h1, h2⟩ := h; ⟨g, h1, h2.below hb h2.lt⟩
theorem IsL.below (h : IsL B W v x y) (hb : Below W.heap.size W W') : IsL B W' v x y := let ⟨g, h1, h3, h2⟩ := h; ⟨g, h1, h3, h2.below hb h2.lt⟩
theorem IsL.new (h : IsL B W v x y) : Value.pointer (some ⟨W.heap.size, 0, none⟩) ≠ v := by
  obtain ⟨g, rfl, _, h2⟩ := h
  have := h2.lt
  intro e
  injection e with e
  injection e with e
  injection e with e
  omega
theorem two_far {h : Nat} {cs : Array Value} {u0 u1 z0 z1 : Value} (hg : Blk W g 23 #[u0, u1]) (hh : Blk W h 23 cs) (hc : h ≠ g) : Blk ((W.setCell ⟨g, 0, none⟩ z0).setCell ⟨g, 1, none⟩ z1) h 23 cs :=
  (hh.far (p := ⟨g, 0, none⟩) hc z0).far (p := ⟨g, 1, none⟩) hc z1
theorem two_ne {h : Nat} {u0 u1 : Value} (hg : Blk W g 23 #[u0, u1]) (hh : Blk W h 23 #[.int .i64 5, .int .i64 50, .int .i64 9, .int .i64 90]) : h ≠ g := by
  rintro rfl
  have := hh.symm.trans hg
  simp at this
theorem IsS.two {u0 u1 : Value} (h : IsS W v) (hg : Blk W g 23 #[u0, u1]) (z0 z1 : Value) : IsS ((W.setCell ⟨g, 0, none⟩ z0).setCell ⟨g, 1, none⟩ z1) v := let ⟨g', h1, h2⟩ := h; ⟨g', h1, two_far hg h2 (two_ne hg h2)⟩
theorem IsP.two {u0 u1 : Value} (h : IsP k W v) (hg : Blk W g 23 #[u0, u1]) (z0 z1 : Value) : IsP k ((W.setCell ⟨g, 0, none⟩ z0).setCell ⟨g, 1, none⟩ z1) v := let ⟨g', h1, h2⟩ := h; ⟨g', h1, two_far hg h2 (two_ne hg h2)⟩
theorem IsL.far (h : IsL B W v x y) (hn : v ≠ .pointer (some ⟨g, 0, none⟩)) (z0 z1 : Value) : IsL B ((W.setCell ⟨g, 0, none⟩ z0).setCell ⟨g, 1, none⟩ z1) v x y := by
  obtain ⟨g', rfl, h1, h2⟩ := h
  have hc : g' ≠ g := by rintro rfl; exact hn rfl
  exact ⟨g', rfl, h1, (h2.far (p := ⟨g, 0, none⟩) hc z0).far (p := ⟨g, 1, none⟩) hc z1⟩
theorem IsL.self {u0 u1 : Value} (hl : B ≤ g) (hg : Blk W g 23 #[u0, u1]) : IsL B ((W.setCell ⟨g, 0, none⟩ (.int .i64 x')).setCell ⟨g, 1, none⟩ (.int .i64 y')) (.pointer (some ⟨g, 0, none⟩)) x' y' :=
  ⟨g, rfl, hl, (hg.set_ 0 _).set_ 1 _⟩
end

set_option maxHeartbeats 3200000 in
theorem alive_any (w : World) : Calls Try.prog 12 #[] w fun r w' => r = .returned (.bool true) ∧ Below w.heap.size w w' := by
  go_enter Try.func12, Try.ntmps12
  go_upto_region 1 with fail
  go_cut [1, 2] from 3 to 8 (fun x y wx => ∃ g h, x = .pointer (some ⟨g, 0, none⟩) ∧ y = .pointer (some ⟨h, 0, none⟩) ∧ Blk wx g 23 #[.int .i64 5, .int .i64 50] ∧ Blk wx h 23 #[.int .i64 9, .int .i64 90] ∧ Below w.heap.size w wx)
  case first =>
    refine region_inv (by kernel_rfl) (by kernel_rfl) (fun L a W => ∃ t1 t2 t3 t4 t5 t6 t7 t8 : Value, a = ⟨#[.bool false, t1, t2, t3, t4, t5, t6, t7, t8, undef, undef, undef, undef, undef, undef, undef, undef, undef, undef, undef, undef, undef, undef, undef, undef, undef, undef, undef, undef, undef, undef, undef, undef, undef, undef, undef, undef, undef, undef, undef, undef, undef, undef, undef, undef, undef, undef, undef], []⟩ ∧ Below w.heap.size w W ∧ (L 0 = true → IsS W t3) ∧ (L 1 = true → IsP 0 W t4) ∧ (L 2 = true → t5 = .agg #[.int .i64 5, .int .i64 50]) ∧ (L 3 = true → IsS W t6) ∧ (L 4 = true → IsP 2 W t7) ∧ (L 5 = true → t8 = .agg #[.int .i64 9, .int .i64 90]) ∧ (L 6 = true → ∃ x y, IsL w.heap.size W t1 x y) ∧ (L 7 = true → ∃ x y, IsL w.heap.size W t2 x y) ∧ (L 8 = true → IsL w.heap.size W t1 5 50) ∧ (L 9 = true → IsL w.heap.size W t2 9 90) ∧ (L 6 = true → L 7 = true → t1 ≠ t2) ∧ (L 8 = true → L 6 = true) ∧ (L 9 = true → L 7 = true)) ?h0 ?hstep ?hend
    case h0 => exact ⟨undef, undef, undef, undef, undef, undef, undef, undef, rfl, (Below.refl _ _).drew, fun h => absurd h Bool.false_ne_true, fun h => absurd h Bool.false_ne_true, fun h => absurd h Bool.false_ne_true, fun h => absurd h Bool.false_ne_true, fun h => absurd h Bool.false_ne_true, fun h => absurd h Bool.false_ne_true, fun h => absurd h Bool.false_ne_true, fun h => absurd h Bool.false_ne_true, fun h => absurd h Bool.false_ne_true, fun h => absurd h Bool.false_ne_true, fun h => absurd h Bool.false_ne_true, fun h => absurd h Bool.false_ne_true, fun h => absurd h Bool.false_ne_true⟩
    case hend =>
      rintro L a W hall ⟨t1, t2, t3, t4, t5, t6, t7, t8, rfl, hb, -, -, -, -, -, -, -, -, h8, h9, -, -, -⟩
      obtain ⟨g, rfl, -, hg⟩ := h8 (hall 8 (by decide))
      obtain ⟨h, rfl, -, hh⟩ := h9 (hall 9 (by decide))
      clear h8 h9 hall
      go_wp2_with fail
      go_meet
      exact ⟨g, h, rfl, rfl, hg, hh, hb⟩
    case hstep =>
      rintro L a W i o ho hLi hdep ⟨t1, t2, t3, t4, t5, t6, t7, t8, rfl, hb, h0, h1, h2, h3, h4, h5, h6, h7, h8, h9, hd, h86, h97⟩
      have H := Lib.hid (And.intro h0 (And.intro h1 (And.intro h2 (And.intro h3 (And.intro h4 (And.intro h5 (And.intro h6 (And.intro h7 (And.intro h8 (And.intro h9 (And.intro hd (And.intro h86 h97))))))))))))
      have HLi := Lib.hid hLi
      clear hLi
      match i, ho with
      | 0, ho =>
        obtain rfl := Option.some.inj ho
        clear h0 h1 h2 h3 h4 h5 h6 h7 h8 h9 hd h86 h97 hdep
        refine wpOp_step rfl (fun K1 hK1 => ?_)
        have hK := Lib.hid hK1
        clear hK1
        go_wp2_with (go_at_call 9; refine (chapter_any _).mono ?_; rintro e1 W1 ⟨g1, rfl, hf1, hg1, hb1⟩)
        exact hK.out _ _ ⟨t1, t2, _, t4, t5, t6, t7, t8, rfl, bext hb hb1, fun _ => ⟨_, rfl, hf1⟩, fun h => (H.out.2.1 (by simpa using h)).below hb1, fun h => (H.out.2.2.1 (by simpa using h)), fun h => (H.out.2.2.2.1 (by simpa using h)).below hb1, fun h => (H.out.2.2.2.2.1 (by simpa using h)).below hb1, fun h => (H.out.2.2.2.2.2.1 (by simpa using h)), fun h => (let ⟨x, y, hxy⟩ := (H.out.2.2.2.2.2.2.1 (by simpa using h)); ⟨x, y, hxy.below hb1⟩), fun h => (let ⟨x, y, hxy⟩ := (H.out.2.2.2.2.2.2.2.1 (by simpa using h)); ⟨x, y, hxy.below hb1⟩), fun h => (H.out.2.2.2.2.2.2.2.2.1 (by simpa using h)).below hb1, fun h => (H.out.2.2.2.2.2.2.2.2.2.1 (by simpa using h)).below hb1, fun h h' => H.out.2.2.2.2.2.2.2.2.2.2.1 (by simpa using h) (by simpa using h'), fun h => by have h2 := H.out.2.2.2.2.2.2.2.2.2.2.2.1 (by simpa using h); simpa using h2, fun h => by have h2 := H.out.2.2.2.2.2.2.2.2.2.2.2.2 (by simpa using h); simpa using h2⟩
      | 1, ho =>
        obtain rfl := Option.some.inj ho
        obtain ⟨g, rfl, hg⟩ := h0 (hdep ⟨0, .data⟩ (by simp) rfl)
        clear h0 h1 h2 h3 h4 h5 h6 h7 h8 h9 hd h86 h97 hdep
        refine wpOp_step rfl (fun K1 hK1 => ?_)
        have hK := Lib.hid hK1
        clear hK1
        go_wp2_with fail
        exact hK.out _ _ ⟨t1, t2, _, _, t5, t6, t7, t8, rfl, hb, fun h => (H.out.1 (by simpa using h)), fun _ => ⟨_, rfl, hg⟩, fun h => (H.out.2.2.1 (by simpa using h)), fun h => (H.out.2.2.2.1 (by simpa using h)), fun h => (H.out.2.2.2.2.1 (by simpa using h)), fun h => (H.out.2.2.2.2.2.1 (by simpa using h)), fun h => (H.out.2.2.2.2.2.2.1 (by simpa using h)), fun h => (H.out.2.2.2.2.2.2.2.1 (by simpa using h)), fun h => (H.out.2.2.2.2.2.2.2.2.1 (by simpa using h)), fun h => (H.out.2.2.2.2.2.2.2.2.2.1 (by simpa using h)), fun h h' => H.out.2.2.2.2.2.2.2.2.2.2.1 (by simpa using h) (by simpa using h'), fun h => by have h2 := H.out.2.2.2.2.2.2.2.2.2.2.2.1 (by simpa using h); simpa using h2, fun h => by have h2 := H.out.2.2.2.2.2.2.2.2.2.2.2.2 (by simpa using h); simpa using h2⟩
      | 2, ho =>
        obtain rfl := Option.some.inj ho
        obtain ⟨g, rfl, hg⟩ := h1 (hdep ⟨1, .data⟩ (by simp) rfl)
        have k0 : W.cell? ⟨g, 0, none⟩ = some (.int .i64 5) := hg.cell 0
        have k1 : W.cell? ⟨g, 1, none⟩ = some (.int .i64 50) := hg.cell 1
        clear h0 h1 h2 h3 h4 h5 h6 h7 h8 h9 hd h86 h97 hdep
        refine wpOp_step rfl (fun K1 hK1 => ?_)
        have hK := Lib.hid hK1
        clear hK1
        go_wp2_with fail
        exact hK.out _ _ ⟨t1, t2, t3, _, _, t6, t7, t8, rfl, hb, fun h => (H.out.1 (by simpa using h)), fun h => (H.out.2.1 (by simpa using h)), fun _ => rfl, fun h => (H.out.2.2.2.1 (by simpa using h)), fun h => (H.out.2.2.2.2.1 (by simpa using h)), fun h => (H.out.2.2.2.2.2.1 (by simpa using h)), fun h => (H.out.2.2.2.2.2.2.1 (by simpa using h)), fun h => (H.out.2.2.2.2.2.2.2.1 (by simpa using h)), fun h => (H.out.2.2.2.2.2.2.2.2.1 (by simpa using h)), fun h => (H.out.2.2.2.2.2.2.2.2.2.1 (by simpa using h)), fun h h' => H.out.2.2.2.2.2.2.2.2.2.2.1 (by simpa using h) (by simpa using h'), fun h => by have h2 := H.out.2.2.2.2.2.2.2.2.2.2.2.1 (by simpa using h); simpa using h2, fun h => by have h2 := H.out.2.2.2.2.2.2.2.2.2.2.2.2 (by simpa using h); simpa using h2⟩
      | 3, ho =>
        obtain rfl := Option.some.inj ho
        clear h0 h1 h2 h3 h4 h5 h6 h7 h8 h9 hd h86 h97 hdep
        refine wpOp_step rfl (fun K1 hK1 => ?_)
        have hK := Lib.hid hK1
        clear hK1
        go_wp2_with (go_at_call 9; refine (chapter_any _).mono ?_; rintro e1 W1 ⟨g1, rfl, hf1, hg1, hb1⟩)
        exact hK.out _ _ ⟨t1, t2, t3, t4, t5, _, t7, t8, rfl, bext hb hb1, fun h => (H.out.1 (by simpa using h)).below hb1, fun h => (H.out.2.1 (by simpa using h)).below hb1, fun h => (H.out.2.2.1 (by simpa using h)), fun _ => ⟨_, rfl, hf1⟩, fun h => (H.out.2.2.2.2.1 (by simpa using h)).below hb1, fun h => (H.out.2.2.2.2.2.1 (by simpa using h)), fun h => (let ⟨x, y, hxy⟩ := (H.out.2.2.2.2.2.2.1 (by simpa using h)); ⟨x, y, hxy.below hb1⟩), fun h => (let ⟨x, y, hxy⟩ := (H.out.2.2.2.2.2.2.2.1 (by simpa using h)); ⟨x, y, hxy.below hb1⟩), fun h => (H.out.2.2.2.2.2.2.2.2.1 (by simpa using h)).below hb1, fun h => (H.out.2.2.2.2.2.2.2.2.2.1 (by simpa using h)).below hb1, fun h h' => H.out.2.2.2.2.2.2.2.2.2.2.1 (by simpa using h) (by simpa using h'), fun h => by have h2 := H.out.2.2.2.2.2.2.2.2.2.2.2.1 (by simpa using h); simpa using h2, fun h => by have h2 := H.out.2.2.2.2.2.2.2.2.2.2.2.2 (by simpa using h); simpa using h2⟩
      | 4, ho =>
        obtain rfl := Option.some.inj ho
        obtain ⟨g, rfl, hg⟩ := h3 (hdep ⟨3, .data⟩ (by simp) rfl)
        clear h0 h1 h2 h3 h4 h5 h6 h7 h8 h9 hd h86 h97 hdep
        refine wpOp_step rfl (fun K1 hK1 => ?_)
        have hK := Lib.hid hK1
        clear hK1
        go_wp2_with fail
        exact hK.out _ _ ⟨t1, t2, t3, t4, t5, _, _, t8, rfl, hb, fun h => (H.out.1 (by simpa using h)), fun h => (H.out.2.1 (by simpa using h)), fun h => (H.out.2.2.1 (by simpa using h)), fun h => (H.out.2.2.2.1 (by simpa using h)), fun _ => ⟨_, rfl, hg⟩, fun h => (H.out.2.2.2.2.2.1 (by simpa using h)), fun h => (H.out.2.2.2.2.2.2.1 (by simpa using h)), fun h => (H.out.2.2.2.2.2.2.2.1 (by simpa using h)), fun h => (H.out.2.2.2.2.2.2.2.2.1 (by simpa using h)), fun h => (H.out.2.2.2.2.2.2.2.2.2.1 (by simpa using h)), fun h h' => H.out.2.2.2.2.2.2.2.2.2.2.1 (by simpa using h) (by simpa using h'), fun h => by have h2 := H.out.2.2.2.2.2.2.2.2.2.2.2.1 (by simpa using h); simpa using h2, fun h => by have h2 := H.out.2.2.2.2.2.2.2.2.2.2.2.2 (by simpa using h); simpa using h2⟩
      | 5, ho =>
        obtain rfl := Option.some.inj ho
        obtain ⟨g, rfl, hg⟩ := h4 (hdep ⟨4, .data⟩ (by simp) rfl)
        have k0 : W.cell? ⟨g, 2, none⟩ = some (.int .i64 9) := hg.cell 2
        have k1 : W.cell? ⟨g, 3, none⟩ = some (.int .i64 90) := hg.cell 3
        have k2 : W.cell? ⟨g, 2 + 1, none⟩ = some (.int .i64 90) := hg.cell 3
        clear h0 h1 h2 h3 h4 h5 h6 h7 h8 h9 hd h86 h97 hdep
        refine wpOp_step rfl (fun K1 hK1 => ?_)
        have hK := Lib.hid hK1
        clear hK1
        go_wp2_with fail
        exact hK.out _ _ ⟨t1, t2, t3, t4, t5, t6, _, _, rfl, hb, fun h => (H.out.1 (by simpa using h)), fun h => (H.out.2.1 (by simpa using h)), fun h => (H.out.2.2.1 (by simpa using h)), fun h => (H.out.2.2.2.1 (by simpa using h)), fun h => (H.out.2.2.2.2.1 (by simpa using h)), fun _ => rfl, fun h => (H.out.2.2.2.2.2.2.1 (by simpa using h)), fun h => (H.out.2.2.2.2.2.2.2.1 (by simpa using h)), fun h => (H.out.2.2.2.2.2.2.2.2.1 (by simpa using h)), fun h => (H.out.2.2.2.2.2.2.2.2.2.1 (by simpa using h)), fun h h' => H.out.2.2.2.2.2.2.2.2.2.2.1 (by simpa using h) (by simpa using h'), fun h => by have h2 := H.out.2.2.2.2.2.2.2.2.2.2.2.1 (by simpa using h); simpa using h2, fun h => by have h2 := H.out.2.2.2.2.2.2.2.2.2.2.2.2 (by simpa using h); simpa using h2⟩
      | 6, ho =>
        obtain rfl := Option.some.inj ho
        clear h0 h1 h2 h3 h4 h5 h6 h7 h8 h9 hd h86 h97 hdep
        refine wpOp_step rfl (fun K1 hK1 => ?_)
        have hK := Lib.hid hK1
        clear hK1
        go_wp2_with fail
        exact hK.out _ _ ⟨_, t2, t3, t4, t5, t6, t7, t8, rfl, bext hb ((Below.refl W.heap.size W).alloc (Nat.le_refl _) _), fun h => (H.out.1 (by simpa using h)).below ((Below.refl W.heap.size W).alloc (Nat.le_refl _) _), fun h => (H.out.2.1 (by simpa using h)).below ((Below.refl W.heap.size W).alloc (Nat.le_refl _) _), fun h => (H.out.2.2.1 (by simpa using h)), fun h => (H.out.2.2.2.1 (by simpa using h)).below ((Below.refl W.heap.size W).alloc (Nat.le_refl _) _), fun h => (H.out.2.2.2.2.1 (by simpa using h)).below ((Below.refl W.heap.size W).alloc (Nat.le_refl _) _), fun h => (H.out.2.2.2.2.2.1 (by simpa using h)), fun _ => ⟨0, 0, _, rfl, hb.size, Blk.new _ _ _⟩, fun h => (let ⟨x, y, hxy⟩ := (H.out.2.2.2.2.2.2.2.1 (by simpa using h)); ⟨x, y, hxy.below ((Below.refl W.heap.size W).alloc (Nat.le_refl _) _)⟩), fun h => absurd (H.out.2.2.2.2.2.2.2.2.2.2.2.1 (by simpa using h)) (by rw [HLi.out]; exact Bool.false_ne_true), fun h => (H.out.2.2.2.2.2.2.2.2.2.1 (by simpa using h)).below ((Below.refl W.heap.size W).alloc (Nat.le_refl _) _), fun _ h' => (let ⟨x, y, hxy⟩ := H.out.2.2.2.2.2.2.2.1 (by simpa using h'); hxy.new), fun _ => rfl, fun h => by have h2 := H.out.2.2.2.2.2.2.2.2.2.2.2.2 (by simpa using h); simpa using h2⟩
      | 7, ho =>
        obtain rfl := Option.some.inj ho
        clear h0 h1 h2 h3 h4 h5 h6 h7 h8 h9 hd h86 h97 hdep
        refine wpOp_step rfl (fun K1 hK1 => ?_)
        have hK := Lib.hid hK1
        clear hK1
        go_wp2_with fail
        exact hK.out _ _ ⟨t1, _, t3, t4, t5, t6, t7, t8, rfl, bext hb ((Below.refl W.heap.size W).alloc (Nat.le_refl _) _), fun h => (H.out.1 (by simpa using h)).below ((Below.refl W.heap.size W).alloc (Nat.le_refl _) _), fun h => (H.out.2.1 (by simpa using h)).below ((Below.refl W.heap.size W).alloc (Nat.le_refl _) _), fun h => (H.out.2.2.1 (by simpa using h)), fun h => (H.out.2.2.2.1 (by simpa using h)).below ((Below.refl W.heap.size W).alloc (Nat.le_refl _) _), fun h => (H.out.2.2.2.2.1 (by simpa using h)).below ((Below.refl W.heap.size W).alloc (Nat.le_refl _) _), fun h => (H.out.2.2.2.2.2.1 (by simpa using h)), fun h => (let ⟨x, y, hxy⟩ := (H.out.2.2.2.2.2.2.1 (by simpa using h)); ⟨x, y, hxy.below ((Below.refl W.heap.size W).alloc (Nat.le_refl _) _)⟩), fun _ => ⟨0, 0, _, rfl, hb.size, Blk.new _ _ _⟩, fun h => (H.out.2.2.2.2.2.2.2.2.1 (by simpa using h)).below ((Below.refl W.heap.size W).alloc (Nat.le_refl _) _), fun h => absurd (H.out.2.2.2.2.2.2.2.2.2.2.2.2 (by simpa using h)) (by rw [HLi.out]; exact Bool.false_ne_true), fun h _ => (let ⟨x, y, hxy⟩ := H.out.2.2.2.2.2.2.1 (by simpa using h); hxy.new.symm), fun h => by have h2 := H.out.2.2.2.2.2.2.2.2.2.2.2.1 (by simpa using h); simpa using h2, fun _ => rfl⟩
      | 8, ho =>
        obtain rfl := Option.some.inj ho
        obtain ⟨x, y, g, rfl, hgl, hgB⟩ := h6 (hdep ⟨6, .data⟩ (by simp) rfl)
        obtain rfl := h2 (hdep ⟨2, .data⟩ (by simp) rfl)
        have h6t : L 6 = true := hdep ⟨6, .data⟩ (by simp) rfl
        have HD0 := fun h7 => (hd h6t h7).symm
        have hdd : ∀ j, (if j = 8 then true else L j) = true → L 7 = true := fun _ _ => hdep ⟨7, .phase⟩ (by simp) rfl
        have k0 : W.cell? ⟨g, 0, none⟩ = some (.int .i64 x) := hgB.cell 0
        have k1 : W.cell? ⟨g, 1, none⟩ = some (.int .i64 y) := hgB.cell 1
        have k0' : W.frozen? ⟨g, 0, none⟩ = false := hgB.frozen 0
        have k1' : W.frozen? ⟨g, 1, none⟩ = false := hgB.frozen 1
        have HD := Lib.hid HD0
        have hdd := Lib.hid hdd
        clear h0 h1 h2 h3 h4 h5 h6 h7 h8 h9 hd h86 h97 hdep HD0
        refine wpOp_step rfl (fun K1 hK1 => ?_)
        have hK := Lib.hid hK1
        clear hK1
        go_wp2_with fail
        clear k0 k1 k0' k1'
        have HD := HD.out
        have hdd := hdd.out
        exact hK.out _ _ ⟨_, t2, t3, t4, _, t6, t7, t8, rfl, (hb.setCell (p := ⟨g, 0, none⟩) hgl _).setCell (p := ⟨g, 1, none⟩) hgl _, fun h => (H.out.1 (by simpa using h)).two hgB _ _, fun h => (H.out.2.1 (by simpa using h)).two hgB _ _, fun h => rfl, fun h => (H.out.2.2.2.1 (by simpa using h)).two hgB _ _, fun h => (H.out.2.2.2.2.1 (by simpa using h)).two hgB _ _, fun h => (H.out.2.2.2.2.2.1 (by simpa using h)), fun h => ⟨_, _, IsL.self hgl hgB⟩, fun h => (let ⟨x, y, hxy⟩ := (H.out.2.2.2.2.2.2.2.1 (by simpa using h)); ⟨x, y, hxy.far (HD (by simpa using h)) _ _⟩), fun _ => IsL.self hgl hgB, fun h => (H.out.2.2.2.2.2.2.2.2.2.1 (by simpa using h)).far (HD (hdd 9 (by simpa using h))) _ _, fun h h' => H.out.2.2.2.2.2.2.2.2.2.2.1 (by simpa using h) (by simpa using h'), fun _ => by simpa using h6t, fun h => by have h2 := H.out.2.2.2.2.2.2.2.2.2.2.2.2 (by simpa using h); simpa using h2⟩
      | 9, ho =>
        obtain rfl := Option.some.inj ho
        obtain ⟨x, y, g, rfl, hgl, hgB⟩ := h7 (hdep ⟨7, .data⟩ (by simp) rfl)
        obtain rfl := h5 (hdep ⟨5, .data⟩ (by simp) rfl)
        have h7t : L 7 = true := hdep ⟨7, .data⟩ (by simp) rfl
        have h6t : L 6 = true := hdep ⟨6, .phase⟩ (by simp) rfl
        have HD0 := fun h6 => hd h6 h7t
        have k0 : W.cell? ⟨g, 0, none⟩ = some (.int .i64 x) := hgB.cell 0
        have k1 : W.cell? ⟨g, 1, none⟩ = some (.int .i64 y) := hgB.cell 1
        have k0' : W.frozen? ⟨g, 0, none⟩ = false := hgB.frozen 0
        have k1' : W.frozen? ⟨g, 1, none⟩ = false := hgB.frozen 1
        have HD := Lib.hid HD0
        clear h0 h1 h2 h3 h4 h5 h6 h7 h8 h9 hd h86 h97 hdep HD0
        refine wpOp_step rfl (fun K1 hK1 => ?_)
        have hK := Lib.hid hK1
        clear hK1
        go_wp2_with fail
        clear k0 k1 k0' k1'
        have HD := HD.out
        exact hK.out _ _ ⟨t1, _, t3, t4, t5, t6, t7, _, rfl, (hb.setCell (p := ⟨g, 0, none⟩) hgl _).setCell (p := ⟨g, 1, none⟩) hgl _, fun h => (H.out.1 (by simpa using h)).two hgB _ _, fun h => (H.out.2.1 (by simpa using h)).two hgB _ _, fun h => (H.out.2.2.1 (by simpa using h)), fun h => (H.out.2.2.2.1 (by simpa using h)).two hgB _ _, fun h => (H.out.2.2.2.2.1 (by simpa using h)).two hgB _ _, fun h => rfl, fun h => (let ⟨x, y, hxy⟩ := (H.out.2.2.2.2.2.2.1 (by simpa using h)); ⟨x, y, hxy.far (HD (by simpa using h)) _ _⟩), fun h => ⟨_, _, IsL.self hgl hgB⟩, fun h => (H.out.2.2.2.2.2.2.2.2.1 (by simpa using h)).far (HD h6t) _ _, fun _ => IsL.self hgl hgB, fun h h' => H.out.2.2.2.2.2.2.2.2.2.2.1 (by simpa using h) (by simpa using h'), fun h => by have h2 := H.out.2.2.2.2.2.2.2.2.2.2.2.1 (by simpa using h); simpa using h2, fun _ => by simpa using h7t⟩
      | n + 10, ho => exact absurd ho (by simp)
  case rest =>
    obtain ⟨g, h, rfl, rfl, bG0, bH0, hb0⟩ := hcut
    have qG0 : wc.cell? ⟨g, 0, none⟩ = some (.int .i64 5) := bG0.cell 0
    have qG1 : wc.cell? ⟨g, 1, none⟩ = some (.int .i64 50) := bG0.cell 1
    have qG2 : wc.cell? ⟨g, 0 + 1, none⟩ = some (.int .i64 50) := bG0.cell 1
    have qH0 : wc.cell? ⟨h, 0, none⟩ = some (.int .i64 9) := bH0.cell 0
    have qH1 : wc.cell? ⟨h, 1, none⟩ = some (.int .i64 90) := bH0.cell 1
    have qH2 : wc.cell? ⟨h, 0 + 1, none⟩ = some (.int .i64 90) := bH0.cell 1
    have lG : g < wc.heap.size := bG0.lt
    have lH : h < wc.heap.size := bH0.lt
    go_wp2_with fail
    refine (fails_any ⟨2, 7, 0, 0, 0, []⟩ 9 none 0 _ (.inl rfl) (by decide) (by decide) (by decide)).mono ?_
    rintro e1 w1 ⟨rfl, hx1⟩
    have hy1 : Below wc.heap.size wc w1 := bext (Below.refl _ _) hx1
    have hb1 := bext hb0 hy1
    have bG1 := bG0.below hy1 bG0.lt
    have bH1 := bH0.below hy1 bH0.lt
    clear qG0 qG1 qG2 qH0 qH1 qH2 lG lH hx1 hy1 hb0 bG0 bH0
    have qG0 : w1.cell? ⟨g, 0, none⟩ = some (.int .i64 5) := bG1.cell 0
    have qG1 : w1.cell? ⟨g, 1, none⟩ = some (.int .i64 50) := bG1.cell 1
    have qG2 : w1.cell? ⟨g, 0 + 1, none⟩ = some (.int .i64 50) := bG1.cell 1
    have qH0 : w1.cell? ⟨h, 0, none⟩ = some (.int .i64 9) := bH1.cell 0
    have qH1 : w1.cell? ⟨h, 1, none⟩ = some (.int .i64 90) := bH1.cell 1
    have qH2 : w1.cell? ⟨h, 0 + 1, none⟩ = some (.int .i64 90) := bH1.cell 1
    have lG : g < w1.heap.size := bG1.lt
    have lH : h < w1.heap.size := bH1.lt
    go_wp2_with fail
    refine (does_any ⟨2, 9, 91, 0, 0, []⟩ ⟨⟨0, 0⟩, 0, []⟩ [⟨5, 50⟩, ⟨9, 91⟩] none none _ 0 0 2 _ (.inl rfl) (.inl rfl) (by exact sl_new1 _ _ _) (by decide) (by decide) (by decide) (by decide) (by decide) (by decide)).mono ?_
    rintro e2 w2 ⟨rfl, hx2⟩
    have hy2 : Below w1.heap.size w1 w2 := bext ((Below.refl _ _).alloc (by simp) _) hx2
    have hb2 := bext hb1 hy2
    have bG2 := bG1.below hy2 bG1.lt
    have bH2 := bH1.below hy2 bH1.lt
    clear qG0 qG1 qG2 qH0 qH1 qH2 lG lH hx2 hy2 hb1 bG1 bH1
    have qG0 : w2.cell? ⟨g, 0, none⟩ = some (.int .i64 5) := bG2.cell 0
    have qG1 : w2.cell? ⟨g, 1, none⟩ = some (.int .i64 50) := bG2.cell 1
    have qG2 : w2.cell? ⟨g, 0 + 1, none⟩ = some (.int .i64 50) := bG2.cell 1
    have qH0 : w2.cell? ⟨h, 0, none⟩ = some (.int .i64 9) := bH2.cell 0
    have qH1 : w2.cell? ⟨h, 1, none⟩ = some (.int .i64 90) := bH2.cell 1
    have qH2 : w2.cell? ⟨h, 0 + 1, none⟩ = some (.int .i64 90) := bH2.cell 1
    have lG : g < w2.heap.size := bG2.lt
    have lH : h < w2.heap.size := bH2.lt
    go_wp2_with fail
    refine (does_any ⟨8, 9, 0, 0, 0, []⟩ ⟨⟨0, 0⟩, 1, []⟩ [⟨5, 50⟩, ⟨9, 90⟩] none none _ 0 0 2 _ (.inl rfl) (.inl rfl) (by exact sl_new1 _ _ _) (by decide) (by decide) (by decide) (by decide) (by decide) (by decide)).mono ?_
    rintro e3 w3 ⟨rfl, hx3⟩
    have hy3 : Below w2.heap.size w2 w3 := bext ((Below.refl _ _).alloc (by simp) _) hx3
    have hb3 := bext hb2 hy3
    have bG3 := bG2.below hy3 bG2.lt
    have bH3 := bH2.below hy3 bH2.lt
    clear qG0 qG1 qG2 qH0 qH1 qH2 lG lH hx3 hy3 hb2 bG2 bH2
    have qG0 : w3.cell? ⟨g, 0, none⟩ = some (.int .i64 5) := bG3.cell 0
    have qG1 : w3.cell? ⟨g, 1, none⟩ = some (.int .i64 50) := bG3.cell 1
    have qG2 : w3.cell? ⟨g, 0 + 1, none⟩ = some (.int .i64 50) := bG3.cell 1
    have qH0 : w3.cell? ⟨h, 0, none⟩ = some (.int .i64 9) := bH3.cell 0
    have qH1 : w3.cell? ⟨h, 1, none⟩ = some (.int .i64 90) := bH3.cell 1
    have qH2 : w3.cell? ⟨h, 0 + 1, none⟩ = some (.int .i64 90) := bH3.cell 1
    have lG : g < w3.heap.size := bG3.lt
    have lH : h < w3.heap.size := bH3.lt
    go_wp2_with fail
    refine (does_any ⟨11, 6, 0, 9, 0, []⟩ ⟨⟨0, 0⟩, 1, []⟩ [⟨5, 50⟩] none none _ 0 0 1 _ (.inl rfl) (.inl rfl) (by exact sl_new1 _ _ _) (by decide) (by decide) (by decide) (by decide) (by decide) (by decide)).mono ?_
    rintro e4 w4 ⟨rfl, hx4⟩
    have hy4 : Below w3.heap.size w3 w4 := bext ((Below.refl _ _).alloc (by simp) _) hx4
    have hb4 := bext hb3 hy4
    have bG4 := bG3.below hy4 bG3.lt
    have bH4 := bH3.below hy4 bH3.lt
    clear qG0 qG1 qG2 qH0 qH1 qH2 lG lH hx4 hy4 hb3 bG3 bH3
    have qG0 : w4.cell? ⟨g, 0, none⟩ = some (.int .i64 5) := bG4.cell 0
    have qG1 : w4.cell? ⟨g, 1, none⟩ = some (.int .i64 50) := bG4.cell 1
    have qG2 : w4.cell? ⟨g, 0 + 1, none⟩ = some (.int .i64 50) := bG4.cell 1
    have qH0 : w4.cell? ⟨h, 0, none⟩ = some (.int .i64 9) := bH4.cell 0
    have qH1 : w4.cell? ⟨h, 1, none⟩ = some (.int .i64 90) := bH4.cell 1
    have qH2 : w4.cell? ⟨h, 0 + 1, none⟩ = some (.int .i64 90) := bH4.cell 1
    have lG : g < w4.heap.size := bG4.lt
    have lH : h < w4.heap.size := bH4.lt
    go_wp2_with fail
    refine (does_any ⟨13, 0, 0, 0, 0, [⟨9, 1⟩]⟩ ⟨⟨0, 0⟩, 2, []⟩ [⟨5, 50⟩, ⟨9, 1⟩] _ none _ 1 0 2 _ (by exact sl_old _ _ _ _) (.inl rfl) (by exact sl_new2 _ _ _ _) (by decide) (by decide) (by decide) (by decide) (by decide) (by decide)).mono ?_
    rintro e5 w5 ⟨rfl, hx5⟩
    have hy5 : Below w4.heap.size w4 w5 := bext (((Below.refl _ _).alloc (by simp) _).alloc (by simp) _) hx5
    have hb5 := bext hb4 hy5
    have bG5 := bG4.below hy5 bG4.lt
    have bH5 := bH4.below hy5 bH4.lt
    clear qG0 qG1 qG2 qH0 qH1 qH2 lG lH hx5 hy5 hb4 bG4 bH4
    have qG0 : w5.cell? ⟨g, 0, none⟩ = some (.int .i64 5) := bG5.cell 0
    have qG1 : w5.cell? ⟨g, 1, none⟩ = some (.int .i64 50) := bG5.cell 1
    have qG2 : w5.cell? ⟨g, 0 + 1, none⟩ = some (.int .i64 50) := bG5.cell 1
    have qH0 : w5.cell? ⟨h, 0, none⟩ = some (.int .i64 9) := bH5.cell 0
    have qH1 : w5.cell? ⟨h, 1, none⟩ = some (.int .i64 90) := bH5.cell 1
    have qH2 : w5.cell? ⟨h, 0 + 1, none⟩ = some (.int .i64 90) := bH5.cell 1
    have lG : g < w5.heap.size := bG5.lt
    have lH : h < w5.heap.size := bH5.lt
    go_wp2_with fail
    refine (fails_any ⟨16, 0, 0, 0, 0, []⟩ 291 none 0 _ (.inl rfl) (by decide) (by decide) (by decide)).mono ?_
    rintro e6 w6 ⟨rfl, hx6⟩
    have hy6 : Below w5.heap.size w5 w6 := bext (Below.refl _ _) hx6
    have hb6 := bext hb5 hy6
    have bG6 := bG5.below hy6 bG5.lt
    have bH6 := bH5.below hy6 bH5.lt
    clear qG0 qG1 qG2 qH0 qH1 qH2 lG lH hx6 hy6 hb5 bG5 bH5
    have qG0 : w6.cell? ⟨g, 0, none⟩ = some (.int .i64 5) := bG6.cell 0
    have qG1 : w6.cell? ⟨g, 1, none⟩ = some (.int .i64 50) := bG6.cell 1
    have qG2 : w6.cell? ⟨g, 0 + 1, none⟩ = some (.int .i64 50) := bG6.cell 1
    have qH0 : w6.cell? ⟨h, 0, none⟩ = some (.int .i64 9) := bH6.cell 0
    have qH1 : w6.cell? ⟨h, 1, none⟩ = some (.int .i64 90) := bH6.cell 1
    have qH2 : w6.cell? ⟨h, 0 + 1, none⟩ = some (.int .i64 90) := bH6.cell 1
    have lG : g < w6.heap.size := bG6.lt
    have lH : h < w6.heap.size := bH6.lt
    go_wp2
    go_ret
    exact ⟨rfl, hb6⟩
end Go.Proofs.Ytibgpghlnfcilaa
