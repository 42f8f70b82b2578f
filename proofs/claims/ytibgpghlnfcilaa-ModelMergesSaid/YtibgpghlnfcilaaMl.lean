/- Contracts: the chapter's examples. -/
import Derived.Test.YtibgpghlnfcilaaMd
import Derived.Test.YtibgpghlnfcilaaMs
import Derived.Test.YtibgpghlnfcilaaSb
import Derived.Deep.CutRange
import Derived.Deep.RegionWith
import Derived.Deep.RegionHeld3
namespace Go.Proofs.Ytibgpghlnfcilaa
open Go Go.RowKit
set_option maxRecDepth 100000

/-- the chapter's pairs -/
def ch : List Pr := [⟨5, 50⟩, ⟨9, 90⟩]
theorem chapter_eq (w : World) : Calls Try.prog 9 #[] w fun r w' => r = .returned (.slice (some ⟨w.heap.size, 0, none⟩) 2 2) ∧ w' = w.alloc (.cells #[.int .i64 5, .int .i64 50, .int .i64 9, .int .i64 90] 23) := by
  go_enter Try.func9, Try.ntmps9
  go_wp2
  go_ret
  exact ⟨rfl, rfl⟩
def GivesCh (w : World) (r : Ending) (w' : World) : Prop := ∃ g, r = .returned (.slice (some ⟨g, 0, none⟩) 2 2) ∧ Blk w' g 23 #[.int .i64 5, .int .i64 50, .int .i64 9, .int .i64 90] ∧ w.heap.size ≤ g ∧ Below w.heap.size w w'
theorem chapter_any (w : World) : Calls Try.prog 9 #[] w (GivesCh w) := (chapter_eq w).mono fun r w' ⟨h1, h2⟩ => by
  subst h1 h2
  exact ⟨_, rfl, Blk.new _ _ _, Nat.le_refl _, (Below.refl _ _).alloc (Nat.le_refl _) _⟩
theorem ch_sl {w : World} {g : Nat} (h : Blk w g 23 #[.int .i64 5, .int .i64 50, .int .i64 9, .int .i64 90]) : Sl w (some ⟨g, 0, none⟩) (ch.flatMap Pr.cells) :=
  h.sl 0 _ (by intro j u hu; simpa [ch, Pr.cells] using hu)

set_option maxHeartbeats 1600000 in
theorem fails_any (o : Opn) (e : Int) (Ao : Option Addr) (co : Nat) (w : World) (hO : Sl w Ao (o.pairs.flatMap Pr.cells)) (hp : o.pairs.length ≤ 100000) (hE : doE 2 ch o = e) (he : e ≠ 0) :
    Calls Try.prog 11 #[.agg #[.int .u8 o.kind, .int .i64 o.key, .int .i64 o.val, .int .i64 o.to, .int .i64 o.n, .slice Ao o.pairs.length co], .int .i64 e] w fun r w' => r = .returned (.bool true) ∧ Below w.heap.size w w' := by
  have hL : doL 2 ch o = [] := by simp [doL, hE, he]
  have hN : doA 2 ch o = noAns := by simp [doA, hE, he]
  have hO := Lib.hid hO
  have HE := Lib.hid hE
  have HL := Lib.hid hL
  have HN := Lib.hid hN
  clear hE hL hN
  have hb0 : Below w.heap.size w (w.alloc (.cells #[.int .u8 o.kind, .int .i64 o.key, .int .i64 o.val, .int .i64 o.to, .int .i64 o.n, .slice Ao o.pairs.length co] 28)) := (Below.refl _ _).alloc (Nat.le_refl _) _
  have bLn : Blk ((w.alloc (.cells #[.int .u8 o.kind, .int .i64 o.key, .int .i64 o.val, .int .i64 o.to, .int .i64 o.n, .slice Ao o.pairs.length co] 28)).alloc (.cells #[.int .i64 0, .int .i64 0, .int .i64 0, .slice none 0 0] 30)) (w.heap.size + 1) 30 #[.int .i64 0, .int .i64 0, .int .i64 0, .slice none 0 0] := by
    have := Blk.new (w.alloc (.cells #[.int .u8 o.kind, .int .i64 o.key, .int .i64 o.val, .int .i64 o.to, .int .i64 o.n, .slice Ao o.pairs.length co] 28)) 30 #[.int .i64 0, .int .i64 0, .int .i64 0, .slice none 0 0]
    rwa [World.size_alloc] at this
  go_enter Try.func11, Try.ntmps11
  go_upto_region 1 with fail
  go_cut [5, 6, 7] from 8 to 14 (fun s a n wx => ∃ A c A3 c3 g, s = .slice A 0 c ∧ a = .pointer (some ⟨g, 0, none⟩) ∧ n = .int .i64 e ∧ Blk wx g 30 #[.int .i64 noAns.pair.key, .int .i64 noAns.pair.val, .int .i64 noAns.n, .slice A3 noAns.pairs.length c3] ∧ Below w.heap.size w wx)
  case first =>
    go_region_held3 (fun w' => (∀ bq jq, bq < (w.alloc (.cells #[.int .u8 o.kind, .int .i64 o.key, .int .i64 o.val, .int .i64 o.to, .int .i64 o.n, .slice Ao o.pairs.length co] 28)).heap.size → w'.cell? ⟨bq, jq, none⟩ = (w.alloc (.cells #[.int .u8 o.kind, .int .i64 o.key, .int .i64 o.val, .int .i64 o.to, .int .i64 o.n, .slice Ao o.pairs.length co] 28)).cell? ⟨bq, jq, none⟩) ∧ (∀ bq jq, bq < (w.alloc (.cells #[.int .u8 o.kind, .int .i64 o.key, .int .i64 o.val, .int .i64 o.to, .int .i64 o.n, .slice Ao o.pairs.length co] 28)).heap.size → w'.frozen? ⟨bq, jq, none⟩ = (w.alloc (.cells #[.int .u8 o.kind, .int .i64 o.key, .int .i64 o.val, .int .i64 o.to, .int .i64 o.n, .slice Ao o.pairs.length co] 28)).frozen? ⟨bq, jq, none⟩) ∧ (w.alloc (.cells #[.int .u8 o.kind, .int .i64 o.key, .int .i64 o.val, .int .i64 o.to, .int .i64 o.n, .slice Ao o.pairs.length co] 28)).heap.size ≤ w'.heap.size ∧ Below (w.alloc (.cells #[.int .u8 o.kind, .int .i64 o.key, .int .i64 o.val, .int .i64 o.to, .int .i64 o.n, .slice Ao o.pairs.length co] 28)).heap.size (w.alloc (.cells #[.int .u8 o.kind, .int .i64 o.key, .int .i64 o.val, .int .i64 o.to, .int .i64 o.n, .slice Ao o.pairs.length co] 28)) w') (with_reducible first | exact SB.init | exact SB.alloc _ (by assumption) | exact SB.allocD _ (by assumption) | exact SB.below (by assumption) (by assumption) | exact SB.re _ (by first | omega | (simp; done) | (simp; omega)) (by assumption) | exact SB.reD _ (by first | omega | (simp; done) | (simp; omega)) (by assumption) | exact SB.four (by first | omega | (simp; done) | (simp; omega)) _ _ _ _ (by assumption))
      (first
        | (go_at_call 9; refine (chapter_any _).mono ?_; rintro e1 w1 ⟨g1, rfl, hf1, hg1, hb1⟩; have hl1 := SB.le hb1 (by assumption); obtain ⟨hc1, hz1, hs1⟩ := wfacts hb1)
        | (go_at_call 15; refine (do_any 2 _ ch 2 o Ao co _ (by first | exact ch_sl (by assumption) | exact (ch_sl (by assumption)).below ((Below.refl _ _).alloc (Nat.le_refl _) _)) (by decide) (by decide) ((hO.out.below hb0).below (SB.bel (by assumption))) hp).mono ?_; rw [HE.out, HL.out, HN.out]; rintro e2 w2 ⟨A2, c2, A3, c3, rfl, hf2, hf3, hb2⟩; have hl2 := SB.le hb2 (by assumption); obtain ⟨hc2, hz2, hs2⟩ := wfacts hb2))
    all_goals
      go_wp2_with fail
      go_meet
      refine ⟨A2, c2, A3, c3, _, rfl, rfl, rfl, ?_, hb0.trans ((SB.bel (by assumption)).mono hb0.size)⟩
      first
        | with_reducible exact Blk.new w2 _ _
        | with_reducible exact four ((Blk.new w1 _ _).below hb2 (Blk.new w1 _ _).lt) _ _ _ _
        | exact four (((Blk.drewN bLn 1).below (w' := w1) hb1 bLn.lt).below hb2 ((Blk.drewN bLn 1).below (w' := w1) hb1 bLn.lt).lt) _ _ _ _
  case rest =>
    obtain ⟨A2, c2, A3, c3, g, rfl, rfl, rfl, bL, hb⟩ := hcut
    have d0 : wc.cell? ⟨g, 0, none⟩ = some (.int .i64 0) := bL.cell 0
    have d1 : wc.cell? ⟨g, 0 + 1, none⟩ = some (.int .i64 0) := bL.cell 1
    have d2 : wc.cell? ⟨g, 0 + 2, none⟩ = some (.int .i64 0) := bL.cell 2
    have d3 : wc.cell? ⟨g, 0 + 3, none⟩ = some (.slice A3 0 c3) := bL.cell 3
    have d1' : wc.cell? ⟨g, 1, none⟩ = some (.int .i64 0) := bL.cell 1
    have d2' : wc.cell? ⟨g, 2, none⟩ = some (.int .i64 0) := bL.cell 2
    have d3' : wc.cell? ⟨g, 3, none⟩ = some (.slice A3 0 c3) := bL.cell 3
    go_wp2_with (go_at_call 20; refine (sameAns_any noAns noAns A3 none c3 0 _ (.inl rfl) (.inl rfl) (by simp [noAns]) (by simp [noAns])).mono ?_; rw [decide_eq_true rfl]; rintro e3 w3 ⟨rfl, hb3⟩)
    go_ret
    exact ⟨rfl, bext hb hb3⟩

set_option maxHeartbeats 1600000 in
theorem does_any (o : Opn) (a : Answ) (l : List Pr) (Ao Aa Al : Option Addr) (co ca cl : Nat) (w : World) (hO : Sl w Ao (o.pairs.flatMap Pr.cells)) (hA : Sl w Aa (a.pairs.flatMap Pr.cells)) (hW : Sl w Al (l.flatMap Pr.cells)) (hp : o.pairs.length ≤ 100000) (hq : a.pairs.length ≤ 100000) (hl : l.length ≤ 100000) (hE : doE 2 ch o = 0) (hL : doL 2 ch o = l) (hN : doA 2 ch o = a) :
    Calls Try.prog 10 #[.agg #[.int .u8 o.kind, .int .i64 o.key, .int .i64 o.val, .int .i64 o.to, .int .i64 o.n, .slice Ao o.pairs.length co], .agg #[.int .i64 a.pair.key, .int .i64 a.pair.val, .int .i64 a.n, .slice Aa a.pairs.length ca], .slice Al l.length cl] w fun r w' => r = .returned (.bool true) ∧ Below w.heap.size w w' := by
  have hO := Lib.hid hO
  have hA := Lib.hid hA
  have hW := Lib.hid hW
  have HE := Lib.hid hE
  have HL := Lib.hid hL
  have HN := Lib.hid hN
  clear hE hL hN
  have hb0 : Below w.heap.size w ((w.alloc (.cells #[.int .u8 o.kind, .int .i64 o.key, .int .i64 o.val, .int .i64 o.to, .int .i64 o.n, .slice Ao o.pairs.length co] 28)).alloc (.cells #[.int .i64 a.pair.key, .int .i64 a.pair.val, .int .i64 a.n, .slice Aa a.pairs.length ca] 30)) := ((Below.refl _ _).alloc (Nat.le_refl _) _).alloc (by simp) _
  have bA0 : Blk ((w.alloc (.cells #[.int .u8 o.kind, .int .i64 o.key, .int .i64 o.val, .int .i64 o.to, .int .i64 o.n, .slice Ao o.pairs.length co] 28)).alloc (.cells #[.int .i64 a.pair.key, .int .i64 a.pair.val, .int .i64 a.n, .slice Aa a.pairs.length ca] 30)) (w.heap.size + 1) 30 #[.int .i64 a.pair.key, .int .i64 a.pair.val, .int .i64 a.n, .slice Aa a.pairs.length ca] := by
    have := Blk.new (w.alloc (.cells #[.int .u8 o.kind, .int .i64 o.key, .int .i64 o.val, .int .i64 o.to, .int .i64 o.n, .slice Ao o.pairs.length co] 28)) 30 #[.int .i64 a.pair.key, .int .i64 a.pair.val, .int .i64 a.n, .slice Aa a.pairs.length ca]
    rwa [World.size_alloc] at this
  have bLn : Blk (((w.alloc (.cells #[.int .u8 o.kind, .int .i64 o.key, .int .i64 o.val, .int .i64 o.to, .int .i64 o.n, .slice Ao o.pairs.length co] 28)).alloc (.cells #[.int .i64 a.pair.key, .int .i64 a.pair.val, .int .i64 a.n, .slice Aa a.pairs.length ca] 30)).alloc (.cells #[.int .i64 0, .int .i64 0, .int .i64 0, .slice none 0 0] 30)) (w.heap.size + 1 + 1) 30 #[.int .i64 0, .int .i64 0, .int .i64 0, .slice none 0 0] := by
    have := Blk.new ((w.alloc (.cells #[.int .u8 o.kind, .int .i64 o.key, .int .i64 o.val, .int .i64 o.to, .int .i64 o.n, .slice Ao o.pairs.length co] 28)).alloc (.cells #[.int .i64 a.pair.key, .int .i64 a.pair.val, .int .i64 a.n, .slice Aa a.pairs.length ca] 30)) 30 #[.int .i64 0, .int .i64 0, .int .i64 0, .slice none 0 0]
    rwa [World.size_alloc, World.size_alloc] at this
  go_enter Try.func10, Try.ntmps10
  go_upto_region 1 with fail
  go_cut [7, 8, 9] from 10 to 16 (fun s x n wx => ∃ A c A3 c3 g, s = .slice A l.length c ∧ x = .pointer (some ⟨g, 0, none⟩) ∧ n = .int .i64 0 ∧ Blk wx g 30 #[.int .i64 a.pair.key, .int .i64 a.pair.val, .int .i64 a.n, .slice A3 a.pairs.length c3] ∧ Blk wx (w.heap.size + 1) 30 #[.int .i64 a.pair.key, .int .i64 a.pair.val, .int .i64 a.n, .slice Aa a.pairs.length ca] ∧ Sl wx A (l.flatMap Pr.cells) ∧ Sl wx A3 (a.pairs.flatMap Pr.cells) ∧ Below w.heap.size w wx)
  case first =>
    go_region_held3 (fun w' => (∀ bq jq, bq < ((w.alloc (.cells #[.int .u8 o.kind, .int .i64 o.key, .int .i64 o.val, .int .i64 o.to, .int .i64 o.n, .slice Ao o.pairs.length co] 28)).alloc (.cells #[.int .i64 a.pair.key, .int .i64 a.pair.val, .int .i64 a.n, .slice Aa a.pairs.length ca] 30)).heap.size → w'.cell? ⟨bq, jq, none⟩ = ((w.alloc (.cells #[.int .u8 o.kind, .int .i64 o.key, .int .i64 o.val, .int .i64 o.to, .int .i64 o.n, .slice Ao o.pairs.length co] 28)).alloc (.cells #[.int .i64 a.pair.key, .int .i64 a.pair.val, .int .i64 a.n, .slice Aa a.pairs.length ca] 30)).cell? ⟨bq, jq, none⟩) ∧ (∀ bq jq, bq < ((w.alloc (.cells #[.int .u8 o.kind, .int .i64 o.key, .int .i64 o.val, .int .i64 o.to, .int .i64 o.n, .slice Ao o.pairs.length co] 28)).alloc (.cells #[.int .i64 a.pair.key, .int .i64 a.pair.val, .int .i64 a.n, .slice Aa a.pairs.length ca] 30)).heap.size → w'.frozen? ⟨bq, jq, none⟩ = ((w.alloc (.cells #[.int .u8 o.kind, .int .i64 o.key, .int .i64 o.val, .int .i64 o.to, .int .i64 o.n, .slice Ao o.pairs.length co] 28)).alloc (.cells #[.int .i64 a.pair.key, .int .i64 a.pair.val, .int .i64 a.n, .slice Aa a.pairs.length ca] 30)).frozen? ⟨bq, jq, none⟩) ∧ ((w.alloc (.cells #[.int .u8 o.kind, .int .i64 o.key, .int .i64 o.val, .int .i64 o.to, .int .i64 o.n, .slice Ao o.pairs.length co] 28)).alloc (.cells #[.int .i64 a.pair.key, .int .i64 a.pair.val, .int .i64 a.n, .slice Aa a.pairs.length ca] 30)).heap.size ≤ w'.heap.size ∧ Below ((w.alloc (.cells #[.int .u8 o.kind, .int .i64 o.key, .int .i64 o.val, .int .i64 o.to, .int .i64 o.n, .slice Ao o.pairs.length co] 28)).alloc (.cells #[.int .i64 a.pair.key, .int .i64 a.pair.val, .int .i64 a.n, .slice Aa a.pairs.length ca] 30)).heap.size ((w.alloc (.cells #[.int .u8 o.kind, .int .i64 o.key, .int .i64 o.val, .int .i64 o.to, .int .i64 o.n, .slice Ao o.pairs.length co] 28)).alloc (.cells #[.int .i64 a.pair.key, .int .i64 a.pair.val, .int .i64 a.n, .slice Aa a.pairs.length ca] 30)) w') (with_reducible first | exact SB.init | exact SB.alloc _ (by assumption) | exact SB.allocD _ (by assumption) | exact SB.below (by assumption) (by assumption) | exact SB.re _ (by first | omega | (simp; done) | (simp; omega)) (by assumption) | exact SB.reD _ (by first | omega | (simp; done) | (simp; omega)) (by assumption) | exact SB.four (by first | omega | (simp; done) | (simp; omega)) _ _ _ _ (by assumption))
      (first
        | (go_at_call 9; refine (chapter_any _).mono ?_; rintro e1 w1 ⟨g1, rfl, hf1, hg1, hb1⟩; have hl1 := SB.le hb1 (by assumption); obtain ⟨hc1, hz1, hs1⟩ := wfacts hb1)
        | (go_at_call 15; refine (do_any 2 _ ch 2 o Ao co _ (by first | exact ch_sl (by assumption) | exact (ch_sl (by assumption)).below ((Below.refl _ _).alloc (Nat.le_refl _) _)) (by decide) (by decide) ((hO.out.below hb0).below (SB.bel (by assumption))) hp).mono ?_; rw [HE.out, HL.out, HN.out]; rintro e2 w2 ⟨A2, c2, A3, c3, rfl, hf2, hf3, hb2⟩; have hl2 := SB.le hb2 (by assumption); obtain ⟨hc2, hz2, hs2⟩ := wfacts hb2))
    all_goals
      go_wp2_with fail
      go_meet
      refine ⟨A2, c2, A3, c3, _, rfl, rfl, rfl, ?_, bA0.below (SB.bel (by assumption)) bA0.lt, ?_, ?_, hb0.trans ((SB.bel (by assumption)).mono hb0.size)⟩
      · first
          | with_reducible exact Blk.new w2 _ _
          | with_reducible exact four ((Blk.new w1 _ _).below hb2 (Blk.new w1 _ _).lt) _ _ _ _
          | exact four (((Blk.drewN bLn 1).below (w' := w1) hb1 bLn.lt).below hb2 ((Blk.drewN bLn 1).below (w' := w1) hb1 bLn.lt).lt) _ _ _ _
      all_goals
        first
          | with_reducible exact hf2.sl.below ((Below.refl _ _).alloc (Nat.le_refl _) _)
          | with_reducible exact hf3.sl.below ((Below.refl _ _).alloc (Nat.le_refl _) _)
          | with_reducible exact (fourO hf2 ((Blk.new w1 _ _).below hb2 (Blk.new w1 _ _).lt) _ _ _ _).sl
          | with_reducible exact (fourO hf3 ((Blk.new w1 _ _).below hb2 (Blk.new w1 _ _).lt) _ _ _ _).sl
          | with_reducible exact (fourO hf2 (((Blk.drewN bLn 1).below (w' := w1) hb1 bLn.lt).below hb2 ((Blk.drewN bLn 1).below (w' := w1) hb1 bLn.lt).lt) _ _ _ _).sl
          | with_reducible exact (fourO hf3 (((Blk.drewN bLn 1).below (w' := w1) hb1 bLn.lt).below hb2 ((Blk.drewN bLn 1).below (w' := w1) hb1 bLn.lt).lt) _ _ _ _).sl
          | exact (fourO hf2 (((Blk.drewN bLn 1).below (w' := w1) hb1 bLn.lt).below hb2 ((Blk.drewN bLn 1).below (w' := w1) hb1 bLn.lt).lt) _ _ _ _).sl
          | exact (fourO hf3 (((Blk.drewN bLn 1).below (w' := w1) hb1 bLn.lt).below hb2 ((Blk.drewN bLn 1).below (w' := w1) hb1 bLn.lt).lt) _ _ _ _).sl
  case rest =>
    obtain ⟨A2, c2, A3, c3, g, rfl, rfl, rfl, bL, bA, hf2, hf3, hb⟩ := hcut
    have heq := fun w => run_eq_pr a.pair a.pair w
    rw [show eqP a.pair a.pair = true from decide_eq_true rfl] at heq
    have hgu := pr_guard
    have hAa := hA.out.below hb
    have hWa := hW.out.below hb
    refine ?_
    go_wp2_with fail
    refine (samePairs_any A2 Al l l c2 cl _ hf2 hWa (by omega) (by omega)).mono ?_
    rw [decide_eq_true rfl]
    rintro e3 w3 ⟨rfl, hb3⟩
    have bL3 := bL.below hb3 bL.lt
    have bA3 := bA.below hb3 bA.lt
    have p0 : w3.cell? ⟨g, 0, none⟩ = some (.int .i64 a.pair.key) := bL3.cell 0
    have p1 : w3.cell? ⟨g, 1, none⟩ = some (.int .i64 a.pair.val) := bL3.cell 1
    have p1' : w3.cell? ⟨g, 0 + 1, none⟩ = some (.int .i64 a.pair.val) := bL3.cell 1
    have p2 : w3.cell? ⟨g, 2, none⟩ = some (.int .i64 a.n) := bL3.cell 2
    have p2' : w3.cell? ⟨g, 0 + 2, none⟩ = some (.int .i64 a.n) := bL3.cell 2
    have p3 : w3.cell? ⟨g, 3, none⟩ = some (.slice A3 a.pairs.length c3) := bL3.cell 3
    have p3' : w3.cell? ⟨g, 0 + 3, none⟩ = some (.slice A3 a.pairs.length c3) := bL3.cell 3
    have q0 : w3.cell? ⟨(w.heap.size + 1), 0, none⟩ = some (.int .i64 a.pair.key) := bA3.cell 0
    have q1 : w3.cell? ⟨(w.heap.size + 1), 1, none⟩ = some (.int .i64 a.pair.val) := bA3.cell 1
    have q1' : w3.cell? ⟨(w.heap.size + 1), 0 + 1, none⟩ = some (.int .i64 a.pair.val) := bA3.cell 1
    have q2 : w3.cell? ⟨(w.heap.size + 1), 2, none⟩ = some (.int .i64 a.n) := bA3.cell 2
    have q2' : w3.cell? ⟨(w.heap.size + 1), 0 + 2, none⟩ = some (.int .i64 a.n) := bA3.cell 2
    have q3 : w3.cell? ⟨(w.heap.size + 1), 3, none⟩ = some (.slice Aa a.pairs.length ca) := bA3.cell 3
    have q3' : w3.cell? ⟨(w.heap.size + 1), 0 + 3, none⟩ = some (.slice Aa a.pairs.length ca) := bA3.cell 3
    go_wp2_with fail
    refine (sameAns_any a a Aa A3 ca c3 _ (hAa.below hb3) (hf3.below hb3) (by omega) (by omega)).mono ?_
    rw [decide_eq_true rfl]
    rintro e4 w4 ⟨rfl, hb4⟩
    have bL4 := bL3.below hb4 bL3.lt
    have bA4 := bA3.below hb4 bA3.lt
    have r0 : w4.cell? ⟨g, 0, none⟩ = some (.int .i64 a.pair.key) := bL4.cell 0
    have r1 : w4.cell? ⟨g, 1, none⟩ = some (.int .i64 a.pair.val) := bL4.cell 1
    have r1' : w4.cell? ⟨g, 0 + 1, none⟩ = some (.int .i64 a.pair.val) := bL4.cell 1
    have r2 : w4.cell? ⟨g, 2, none⟩ = some (.int .i64 a.n) := bL4.cell 2
    have r2' : w4.cell? ⟨g, 0 + 2, none⟩ = some (.int .i64 a.n) := bL4.cell 2
    have r3 : w4.cell? ⟨g, 3, none⟩ = some (.slice A3 a.pairs.length c3) := bL4.cell 3
    have r3' : w4.cell? ⟨g, 0 + 3, none⟩ = some (.slice A3 a.pairs.length c3) := bL4.cell 3
    have s0 : w4.cell? ⟨(w.heap.size + 1), 0, none⟩ = some (.int .i64 a.pair.key) := bA4.cell 0
    have s1 : w4.cell? ⟨(w.heap.size + 1), 1, none⟩ = some (.int .i64 a.pair.val) := bA4.cell 1
    have s1' : w4.cell? ⟨(w.heap.size + 1), 0 + 1, none⟩ = some (.int .i64 a.pair.val) := bA4.cell 1
    have s2 : w4.cell? ⟨(w.heap.size + 1), 2, none⟩ = some (.int .i64 a.n) := bA4.cell 2
    have s2' : w4.cell? ⟨(w.heap.size + 1), 0 + 2, none⟩ = some (.int .i64 a.n) := bA4.cell 2
    have s3 : w4.cell? ⟨(w.heap.size + 1), 3, none⟩ = some (.slice Aa a.pairs.length ca) := bA4.cell 3
    have s3' : w4.cell? ⟨(w.heap.size + 1), 0 + 3, none⟩ = some (.slice Aa a.pairs.length ca) := bA4.cell 3
    go_wp2
    go_ret
    exact ⟨rfl, bext (bext hb hb3) hb4⟩
end Go.Proofs.Ytibgpghlnfcilaa
