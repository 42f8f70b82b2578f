/- Contract: the chapter's examples of bound. -/
import Derived.Test.YtokomclcgegfkaaDoorLe
import Derived.BigQuiet
import Derived.Deep.CutRange
namespace Go.Proofs.YtokomclcgegfkaaDoor
open Go Go.RowKit
set_option maxRecDepth 100000

def chL : List Ent := [⟨2, 0, false⟩, ⟨4, 0, false⟩, ⟨6, 0, false⟩, ⟨8, 0, false⟩, ⟨10, 0, false⟩]
def chR : List Ent := [⟨8, 0, false⟩, ⟨4, 0, false⟩, ⟨10, 0, false⟩, ⟨2, 0, false⟩, ⟨6, 0, false⟩]
theorem inord5 : inord 5 0 = [3, 1, 4, 0, 2] := by simp [inord]
theorem ranks5 : ranks 5 = [3, 1, 4, 0, 2] := by unfold ranks; rw [inord5]; decide
theorem ch_laid : laid chL = chR := by unfold laid; rw [show chL.length = 5 from rfl, ranks5]; decide
theorem ch_buildE : buildE chL = 0 := by decide
theorem ch_buildL : buildL chL = chR := by unfold buildL; rw [if_pos ch_buildE, ch_laid]
theorem ch_in : inL chR = chL := by unfold inL; rw [show chR.length = 5 from rfl, inord5]; decide
theorem ch_chk : chkE chR = 0 := by unfold chkE; rw [ch_in]; decide
theorem ch_low5 : lowE chR 5 = 0 ∧ lowAt chR 5 = 4 := by
  have h : lowK chR 5 = 2 := by unfold lowK; rw [show chR.length = 5 from rfl, inord5]; decide
  obtain ⟨h1, h2, _⟩ := low_at (key := 5) ch_chk (by rw [h]; decide)
  rw [h, show chR.length = 5 from rfl, inord5] at h2
  exact ⟨h1, by simpa using h2.symm⟩
theorem ch_low11 : lowE chR 11 = 6 ∧ lowAt chR 11 = 0 := by
  have h : lowK chR 11 = 5 := by unfold lowK; rw [show chR.length = 5 from rfl, inord5]; decide
  exact low_six ch_chk (by rw [h]; rfl)
theorem ch_rk8 : rkN chR 8 = 3 := by
  have h : lowK chR 8 = 3 := by unfold lowK; rw [show chR.length = 5 from rfl, inord5]; decide
  unfold rkN
  rw [if_pos ch_chk, h]

set_option maxHeartbeats 2000000 in
theorem chapter_any (w : World) : Calls Tryd.prog 65 #[] w fun r w' => ∃ A c, r = .returned (.agg #[.slice A 5 c]) ∧ Sl w' A (chR.flatMap Ent.cells) ∧ Below w.heap.size w w' := by
  obtain ⟨i0, hi, hz0, hz1, hz2⟩ := info_parts ent_info
  have HI := Lib.hid (And.intro hi (And.intro hz0 (And.intro hz1 hz2)))
  clear hi hz0 hz1 hz2
  have hb0 : Below w.heap.size w (w.alloc (.cells #[.slice none 0 0] 24)) := (Below.refl _ _).alloc (Nat.le_refl _) _
  have bX := Blk.new w 24 #[.slice none 0 0]
  go_enter Tryd.func65, Tryd.ntmps65
  go_wp2_with fail
  obtain ⟨W, hW⟩ : ∃ W, w.alloc (.cells #[.slice none 0 0] 24) = W := ⟨_, rfl⟩
  rw [hW] at hb0 bX
  try rw [hW]
  clear hW
  go_loopw [1, 2] (fun v i wr => ∃ k : Nat, k ≤ 5 ∧ i = .int .i64 ((k : Int) + 1) ∧ Below W.heap.size W wr ∧ ∃ A' c', v = .slice A' k c' ∧ wr.ownsRow W.heap.size 29 3 (.slice A' k c') k ((chL.take k).flatMap Ent.cells)) (fun _ i _ => 6 - (intOf i).toNat)
  case atStart => exact ⟨0, Nat.zero_le _, rfl, Below.refl _ _, none, 0, rfl, World.ownsRow_nil _ _ _ _⟩
  case round =>
    obtain ⟨k, hk, rfl, hb, A', c', rfl, hown⟩ := hrel
    have hbs := hb.size
    by_cases hlt : k < 5
    · have hc : Hid ((chL.take (k + 1)).flatMap Ent.cells = (chL.take k).flatMap Ent.cells ++ [.int .i64 (2 * ((k : Int) + 1)), .int .i64 0, .bool false]) := by
        apply Lib.hid
        have : k = 0 ∨ k = 1 ∨ k = 2 ∨ k = 3 ∨ k = 4 := by omega
        rcases this with rfl | rfl | rfl | rfl | rfl <;> rfl
      have hw1 : IntKind.i64.wrap (2 * ((k : Int) + 1)) = 2 * ((k : Int) + 1) := IntWalk.i64_in _ (by omega)
      go_wp2_with (at_builtin; refine wpList_append_sl _ rfl (.tmp 9) (.tmp 13) _ rfl W.heap.size 29 i0 _ 3 24 Tryd.underlying22 HI.out.1 HI.out.2.1 HI.out.2.2.1 HI.out.2.2.2 rfl (by omega) (.slice A' k c') k _ rfl (hown.alloc _) _ 1 _ [.int .i64 (2 * ((k : Int) + 1)), .int .i64 0, .bool false] rfl ((Blk.new wr _ _).sl 0 _ (by intro j u hu; simpa using hu)) rfl (by simp [Value.oneCell']) (by unfold maxLen; omega) (by omega) (by simp; omega) ?_; intro v2 w2 hown2 hg2; obtain ⟨A2, q2, rfl, hle2, hmx2⟩ := own_form hown2)
      go_roundw
      case rel =>
        refine ⟨k + 1, by omega, by go_num, (hb.alloc hbs _).grown hg2 (by simp; omega) (fun k hk => (hown.lt k hk).1), A2, q2, rfl, ?_⟩
        rw [hc.out]
        exact hown2
      case measure => simp [intOf]; omega
    · have hk5 : k = 5 := by omega
      subst hk5
      have hs := Lib.hid (own_sl hown)
      have bXr := bX.below hb bX.lt
      have hX := bX.lt
      go_wp2_with fail
      refine (build_n A' chL 5 c' _ rfl hs.out (by decide)).mono ?_
      rw [ch_buildE, ch_buildL]
      rintro e w1 ⟨A1, c1, rfl, ho1, hb1⟩
      have bX1 := bXr.below hb1 bXr.lt
      have hX1 := bX1.lt
      have hs1 := own_sl ho1
      have hb01 := bext (bext hb0 hb) hb1
      clear hs bXr
      have c0 : w1.cell? ⟨w.heap.size, 0, none⟩ = some (.slice none 0 0) := bX1.cell 0
      have f0 : w1.frozen? ⟨w.heap.size, 0, none⟩ = false := bX1.frozen 0
      go_upto_region 7 with fail
      obtain ⟨W2, hW2⟩ : ∃ W2, w1.alloc (.cells #[.slice A1 chR.length c1] 24) = W2 := ⟨_, rfl⟩
      have ba : Below w1.heap.size w1 W2 := by rw [← hW2]; exact (Below.refl _ _).alloc (Nat.le_refl _) _
      have b2 : Blk W2 w1.heap.size 24 #[.slice A1 chR.length c1] := by rw [← hW2]; exact Blk.new _ _ _
      try rw [hW2]
      have bX2 := bX1.below ba bX1.lt
      have d0 : W2.cell? ⟨w.heap.size, 0, none⟩ = some (.slice none 0 0) := bX2.cell 0
      have g0 : W2.frozen? ⟨w.heap.size, 0, none⟩ = false := bX2.frozen 0
      have d1 : W2.cell? ⟨w1.heap.size, 0, none⟩ = some (.slice A1 chR.length c1) := b2.cell 0
      clear hW2
      go_wp2
      have e1 : (W2.setCell ⟨w.heap.size, 0, none⟩ (.slice A1 chR.length c1)).cell? ⟨w.heap.size, 0, none⟩ = some (.slice A1 chR.length c1) := (bX2.set_ 0 (.slice A1 chR.length c1)).cell 0
      refine bodyPost_ret (v := .agg #[.slice A1 chR.length c1]) (by simp [results, Tryd.results65, go_sem, e1]) rfl ?_
      refine ⟨A1, c1, rfl, ?_, (bext hb01 ba).setCell (p := ⟨w.heap.size, 0, none⟩) (Nat.le_refl _) _⟩
      have hsz : chR.length = 5 := rfl
      rcases own_blk ho1 (by decide) with ⟨g, cap, cur, hv, hg, hbk, _, _, _, hcur⟩
      injection hv with hv1 hv2 hv3
      subst hv1
      have hgb : Blk W2 g 29 cur := hbk.below ba hbk.lt
      refine (hgb.far (p := ⟨w.heap.size, 0, none⟩) (by show g ≠ w.heap.size; have := hbs; have := hX; omega) _).sl 0 _ ?_
      intro j u hu
      rw [← hcur, List.getElem?_take] at hu
      split at hu
      · simpa using hu
      · cases hu

set_option maxHeartbeats 1000000 in
theorem keys_yes (A B : Option Addr) (l : List Ent) (c d : Nat) (w : World) (hA : Sl w A (l.flatMap Ent.cells)) (hB : Sl w B ((l.map Ent.key).map intV)) (hl : l.length ≤ 100000) :
    Calls Tryd.prog 66 #[.agg #[.slice A l.length c], .slice B l.length d] w fun r w' => r = .returned (.bool true) ∧ Below w.heap.size w w' := by
  have hb0 : Below w.heap.size w (w.alloc (.cells #[.slice A l.length c] 24)) := (Below.refl _ _).alloc (Nat.le_refl _) _
  have bX := Blk.new w 24 #[.slice A l.length c]
  go_enter Tryd.func66, Tryd.ntmps66
  go_wp2_with fail
  obtain ⟨W, hW⟩ : ∃ W, w.alloc (.cells #[.slice A l.length c] 24) = W := ⟨_, rfl⟩
  rw [hW] at hb0 bX
  try rw [hW]
  clear hW
  go_loopw [5] (fun i wr => ∃ k : Nat, k ≤ l.length ∧ i = .int .i64 k ∧ Below W.heap.size W wr) (fun i _ => l.length - (intOf i).toNat)
  case atStart => exact ⟨0, Nat.zero_le _, rfl, Below.refl _ _⟩
  case round =>
    obtain ⟨k, hk, rfl, hb⟩ := hrel
    by_cases hlt : k < l.length
    · obtain ⟨b, off, rfl, hbl, c1, c2, c3⟩ := hA.entB (bext hb0 hb) k hlt
      obtain ⟨b2, o2, rfl, hbl2, d1⟩ := hB.oneB (bext hb0 hb) k (by simpa using hlt)
      have e1 : wr.cell? ⟨b2, o2 + k, none⟩ = some (.int .i64 (l[k]'hlt).key) := by rw [d1]; simp [intV]
      generalize (l[k]'hlt) = p at *
      have cx : wr.cell? ⟨w.heap.size, 0, none⟩ = some (.slice (some ⟨b, off, none⟩) l.length c) := (bX.below hb bX.lt).cell 0
      have i0 : (0 : Int) ≤ (k : Int) := by omega
      have i1 : (k : Int) < (l.length : Int) := by omega
      clear d1 bX
      go_wp2_with fail
      go_quiet (fail)
      go_wp2
      go_roundw
      case rel => exact ⟨k + 1, by omega, by go_num, by first | exact hb | exact bdrew hb _ | exact hb.drew | exact (bdrew hb _).drew⟩
      case measure => simp [intOf]; omega
    · go_wp2
      go_ret
      exact ⟨rfl, bext hb0 hb⟩

theorem lower_n (A : Option Addr) (l : List Ent) (n c : Nat) (key : Int) (w : World) (hn : l.length = n) (hA : Sl w A (l.flatMap Ent.cells)) (hl : l.length ≤ 4611686018427387903) (hT : TabAt 1 Lib.deBruijn64tab w) :
    Calls Tryd.prog 17 #[.agg #[.slice A n c], .int .i64 key] w (GivesII (lowAt l key) (lowE l key) w) := by subst hn; exact lower_any A l c key w hA hl hT
theorem rank_n (A : Option Addr) (l : List Ent) (n c : Nat) (key : Int) (w : World) (hn : l.length = n) (hA : Sl w A (l.flatMap Ent.cells)) (hl : l.length ≤ 4611686018427387903) (hT : TabAt 1 Lib.deBruijn64tab w) :
    Calls Tryd.prog 16 #[.agg #[.slice A n c], .int .i64 key] w (GivesII (rkN l key) (chkE l) w) := by subst hn; exact rank_any A l c key w hA hl hT
theorem keys_n (A B : Option Addr) (l : List Ent) (n c d : Nat) (w : World) (hn : l.length = n) (hA : Sl w A (l.flatMap Ent.cells)) (hB : Sl w B ((l.map Ent.key).map intV)) (hl : l.length ≤ 100000) :
    Calls Tryd.prog 66 #[.agg #[.slice A n c], .slice B n d] w fun r w' => r = .returned (.bool true) ∧ Below w.heap.size w w' := by subst hn; exact keys_yes A B l c d w hA hB hl
set_option maxHeartbeats 2000000 in
theorem alive_any (w : World) (hT : TabAt 1 Lib.deBruijn64tab w) : Calls Tryd.prog 19 #[] w fun r w' => r = .returned (.bool true) ∧ Below w.heap.size w w' := by
  have hTl := tab_lt hT
  have HT := Lib.hid hT
  clear hT
  go_enter Tryd.func19, Tryd.ntmps19
  go_wp2_with fail
  refine (chapter_any _).mono ?_
  rintro e w1 ⟨A1, c1, rfl, s1, hb1⟩
  go_wp2_with fail
  refine (lower_n A1 chR 5 c1 5 _ rfl s1 (by decide) (tab_below hTl HT.out hb1)).mono ?_
  unfold GivesII
  rw [ch_low5.1, ch_low5.2]
  rintro e w2 ⟨rfl, hb2⟩
  have hb02 := bext hb1 hb2
  clear s1
  go_wp2_with fail
  refine (chapter_any _).mono ?_
  rintro e w3 ⟨A3, c3, rfl, s3, hb3⟩
  have hb03 := bext hb02 hb3
  go_wp2_with fail
  refine (lower_n A3 chR 5 c3 11 _ rfl s3 (by decide) (tab_below hTl HT.out hb03)).mono ?_
  unfold GivesII
  rw [ch_low11.1, ch_low11.2]
  rintro e w4 ⟨rfl, hb4⟩
  have hb04 := bext hb03 hb4
  clear s3
  go_wp2_with fail
  refine (chapter_any _).mono ?_
  rintro e w5 ⟨A5, c5, rfl, s5, hb5⟩
  have hb05 := bext hb04 hb5
  go_wp2_with fail
  refine (rank_n A5 chR 5 c5 8 _ rfl s5 (by decide) (tab_below hTl HT.out hb05)).mono ?_
  unfold GivesII
  rw [ch_rk8, ch_chk]
  rintro e w6 ⟨rfl, hb6⟩
  have hb06 := bext hb05 hb6
  clear s5
  go_wp2_with fail
  refine (chapter_any _).mono ?_
  rintro e w7 ⟨A7, c7, rfl, s7, hb7⟩
  have hb07 := bext hb06 hb7
  have ba : Below w7.heap.size w7 (w7.alloc (.cells #[.int .i64 8, .int .i64 4, .int .i64 10, .int .i64 2, .int .i64 6] 2)) := (Below.refl _ _).alloc (Nat.le_refl _) _
  go_wp2_with fail
  refine (keys_n A7 (some ⟨w7.heap.size, 0, none⟩) chR 5 c7 5 _ rfl (s7.below ba) ((Blk.new w7 2 #[.int .i64 8, .int .i64 4, .int .i64 10, .int .i64 2, .int .i64 6]).sl 0 _ (by intro j u hu; simpa [chR, intV] using hu)) (by decide)).mono ?_
  rintro e w8 ⟨rfl, hb8⟩
  go_wp2
  go_ret
  exact ⟨rfl, bext (bext hb07 ba) hb8⟩
end Go.Proofs.YtokomclcgegfkaaDoor
