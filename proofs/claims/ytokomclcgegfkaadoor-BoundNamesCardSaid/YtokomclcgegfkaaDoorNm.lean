/- The law BoundNames: it returns true. -/
import Derived.Test.YtokomclcgegfkaaDoorLa
import Derived.Test.YtokomclcgegfkaaDoorLf
namespace Go.Proofs.YtokomclcgegfkaaDoor
open Go Go.RowKit
set_option maxRecDepth 100000

theorem inord2 : inord 2 0 = [1, 0] := by simp [inord]
theorem inord0 : inord 0 0 = [] := by simp [inord]
theorem ranks2 : ranks 2 = [1, 0] := by unfold ranks; rw [inord2]; decide
def nmL : List Ent := [⟨(-9223372036854775808), 0, true⟩, ⟨9223372036854775807, 3, false⟩]
def nmR : List Ent := [⟨9223372036854775807, 3, false⟩, ⟨(-9223372036854775808), 0, true⟩]
theorem nm_E : buildE nmL = 0 := by decide
theorem nm_L : buildL nmL = nmR := by unfold buildL; rw [if_pos nm_E]; unfold laid; rw [show nmL.length = 2 from rfl, ranks2]; decide
theorem nm_chk : chkE nmR = 0 := by
  have h : inL nmR = nmL := by unfold inL; rw [show nmR.length = 2 from rfl, inord2]; decide
  unfold chkE; rw [h]; decide
theorem nm_low (key : Int) (K : Nat) (hK : List.countP (belowT nmR key) [1, 0] = K) (h2 : K < 2) : lowE nmR key = 0 ∧ some (lowAt nmR key) = [1, 0][K]? := by
  have h : lowK nmR key = K := by unfold lowK; rw [show nmR.length = 2 from rfl, inord2]; exact hK
  obtain ⟨h1, h3, _⟩ := low_at (key := key) nm_chk (by rw [h]; show ¬ K = 2; omega)
  rw [h, show nmR.length = 2 from rfl, inord2] at h3
  exact ⟨h1, h3.symm⟩
theorem nm_a : fdE nmR (-9223372036854775808) = 0 ∧ fdAt nmR (-9223372036854775808) = 1 := by
  obtain ⟨h1, h2⟩ := nm_low (-9223372036854775808) 0 (by decide) (by decide)
  have h3 : lowAt nmR (-9223372036854775808) = 1 := by simpa using h2
  have h4 : fdE nmR (-9223372036854775808) = 0 := by unfold fdE; rw [h1, if_neg (by simp), h3]; decide
  exact ⟨h4, by unfold fdAt; rw [if_pos h4, h3]⟩
theorem nm_b : fdE nmR 9223372036854775807 = 0 ∧ fdAt nmR 9223372036854775807 = 0 := by
  obtain ⟨h1, h2⟩ := nm_low 9223372036854775807 1 (by decide) (by decide)
  have h3 : lowAt nmR 9223372036854775807 = 0 := by simpa using h2
  have h4 : fdE nmR 9223372036854775807 = 0 := by unfold fdE; rw [h1, if_neg (by simp), h3]; decide
  exact ⟨h4, by unfold fdAt; rw [if_pos h4, h3]⟩
theorem nm_c : fdE nmR 0 = 6 ∧ fdAt nmR 0 = 0 := by
  obtain ⟨h1, h2⟩ := nm_low 0 1 (by decide) (by decide)
  have h3 : lowAt nmR 0 = 0 := by simpa using h2
  have h4 : fdE nmR 0 = 6 := by unfold fdE; rw [h1, if_neg (by simp), h3]; decide
  exact ⟨h4, by unfold fdAt; rw [h4]; rfl⟩
theorem nil_chk : chkE [] = 0 := by
  have h : inL [] = [] := by unfold inL; rw [show ([] : List Ent).length = 0 from rfl, inord0]; rfl
  unfold chkE; rw [h]; decide
theorem nil_K (key : Int) : lowK [] key = 0 := by unfold lowK; rw [show ([] : List Ent).length = 0 from rfl, inord0]; rfl
theorem nil_rk : rkN [] 5 = 0 := by unfold rkN; rw [if_pos nil_chk, nil_K]
theorem nil_low : lowE [] 5 = 6 ∧ lowAt [] 5 = 0 := low_six nil_chk (nil_K 5)
theorem c1_chk : chkE [⟨1, 0, false⟩, ⟨2, 0, false⟩] = 130 := by
  have h : inL [⟨1, 0, false⟩, ⟨2, 0, false⟩] = [⟨2, 0, false⟩, ⟨1, 0, false⟩] := by unfold inL; rw [show ([⟨1, 0, false⟩, ⟨2, 0, false⟩] : List Ent).length = 2 from rfl, inord2]; decide
  unfold chkE; rw [h]; decide
theorem c2_chk : chkE [⟨1, 0, false⟩, ⟨0, 0, false⟩] = 0 := by
  have h : inL [⟨1, 0, false⟩, ⟨0, 0, false⟩] = [⟨0, 0, false⟩, ⟨1, 0, false⟩] := by unfold inL; rw [show ([⟨1, 0, false⟩, ⟨0, 0, false⟩] : List Ent).length = 2 from rfl, inord2]; decide
  unfold chkE; rw [h]; decide
/-- a row just made reads as so many times the zero -/
theorem made_sl {W : World} {g n : Nat} {t : TypeId} (h : Blk W g t (madeCells #[.int .i64 0, .int .i64 0, .bool false] (n * 3))) : Sl W (some ⟨g, 0, none⟩) ((List.replicate n (⟨0, 0, false⟩ : Ent)).flatMap Ent.cells) := by
  refine h.sl 0 _ fun j u hu => ?_
  have hlen : ((List.replicate n (⟨0, 0, false⟩ : Ent)).flatMap Ent.cells).length = n * 3 := by rw [flat_length Ent.cells 3 Ent.cells_length]; simp
  have hj : j < n * 3 := by have := (List.getElem?_eq_some_iff.1 hu).1; omega
  have hi : j / 3 < (List.replicate n (⟨0, 0, false⟩ : Ent)).length := by simp; omega
  have hf := flat_get Ent.cells 3 Ent.cells_length (List.replicate n (⟨0, 0, false⟩ : Ent)) (j / 3) (j % 3) hi (by omega)
  rw [show j / 3 * 3 + j % 3 = j by omega, hu] at hf
  rw [Nat.zero_add]
  have hm : (madeCells #[Value.int .i64 0, .int .i64 0, .bool false] (n * 3))[j]? = some ((#[Value.int .i64 0, .int .i64 0, .bool false] : Array Value)[j % 3]!) := by
    simp [madeCells, hj]
  rw [hm]
  have h3 : j % 3 = 0 ∨ j % 3 = 1 ∨ j % 3 = 2 := by omega
  rw [List.getElem_replicate] at hf
  rcases h3 with h3 | h3 | h3 <;> (rw [h3] at hf ⊢; simpa [Ent.cells] using hf.symm)
theorem find_n (A : Option Addr) (l : List Ent) (n c : Nat) (key : Int) (w : World) (hn : l.length = n) (hA : Sl w A (l.flatMap Ent.cells)) (hl : l.length ≤ 4611686018427387903) (hT : TabAt 1 Lib.deBruijn64tab w) :
    Calls Tryd.prog 15 #[.agg #[.slice A n c], .int .i64 key] w (GivesII (fdAt l key) (fdE l key) w) := by subst hn; exact find_any A l c key w hA hl hT
theorem check_n2 (A : Option Addr) (l : List Ent) (n c : Nat) (w : World) (hn : l.length = n) (hA : Sl w A (l.flatMap Ent.cells)) (hl : l.length ≤ 4611686018427387903) :
    Calls Tryd.prog 18 #[.agg #[.slice A n c]] w fun r w' => r = .returned (.int .i64 (chkE l)) ∧ Below w.heap.size w w' := by subst hn; exact check_any A l c w hA hl
set_option maxHeartbeats 8000000 in
theorem names_any (w : World) (hT : TabAt 1 Lib.deBruijn64tab w) : Calls Tryd.prog 3 #[] w fun r w' => r = .returned (.bool true) ∧ Below w.heap.size w w' := by
  have hTl := tab_lt hT
  have HT := Lib.hid hT
  clear hT
  obtain ⟨ti0, hi, hz0, hz1, hz2⟩ := info_parts ent_info
  obtain ⟨N, hN⟩ : ∃ N : Nat, 65537 = N := ⟨_, rfl⟩
  have hmk := fun W => run_make_rowN (P := Tryd.prog) 22 29 ti0 _ Tryd.underlying22 hi hz0 N (by rw [hz2]; omega) (by omega) W
  rw [hz1] at hmk
  have hNI : (N : Int) = 65537 := by omega
  rw [hNI] at hmk
  have HN := Lib.hid hN
  have hmk := Lib.hid hmk
  clear hi hz0 hz1 hz2 hNI hN
  have hb00 := Below.refl w.heap.size w
  go_enter Tryd.func3, Tryd.ntmps3
  have q1 : Below w.heap.size w (w.alloc (.cells #[.int .i64 1, .int .i64 1, .bool true] 29)) := (Below.refl _ _).alloc (Nat.le_refl _) _
  have sl1 : Sl (w.alloc (.cells #[.int .i64 1, .int .i64 1, .bool true] 29)) (some ⟨w.heap.size, 0, none⟩) (([⟨1, 1, true⟩] : List Ent).flatMap Ent.cells) := (Blk.new w 29 #[.int .i64 1, .int .i64 1, .bool true]).sl 0 _ (by intro j u hu; simpa [Ent.cells] using hu)
  go_wp2_with fail
  refine (build_n (some ⟨w.heap.size, 0, none⟩) ([⟨1, 1, true⟩] : List Ent) 1 1 _ rfl sl1 (by simp)).mono ?_
  rw [(show buildE [⟨1, 1, true⟩] = 8 by decide), (show buildL [⟨1, 1, true⟩] = [] by rfl)]
  rintro e v1 ⟨A1, c1, rfl, ho1, hv1⟩
  have hb01 := bext hb00 (bext q1 hv1)
  have r1 : Below v1.heap.size v1 (v1.alloc (.cells #[.slice A1 0 c1] 24)) := (Below.refl _ _).alloc (Nat.le_refl _) _
  have hd1 := bext hb01 r1
  go_upto_region 2 with fail
  obtain ⟨w1, hw1⟩ : ∃ W, v1.alloc (.cells #[.slice A1 0 c1] 24) = W := ⟨_, rfl⟩
  rw [hw1] at hd1
  try rw [hw1]
  clear hw1 r1 ho1 hb01 sl1 q1 hv1 hb00
  have q2 : Below w1.heap.size w1 (w1.alloc (.cells #[.int .i64 1, .int .i64 0, .bool false, .int .i64 1, .int .i64 0, .bool false] 29)) := (Below.refl _ _).alloc (Nat.le_refl _) _
  have sl2 : Sl (w1.alloc (.cells #[.int .i64 1, .int .i64 0, .bool false, .int .i64 1, .int .i64 0, .bool false] 29)) (some ⟨w1.heap.size, 0, none⟩) (([⟨1, 0, false⟩, ⟨1, 0, false⟩] : List Ent).flatMap Ent.cells) := (Blk.new w1 29 #[.int .i64 1, .int .i64 0, .bool false, .int .i64 1, .int .i64 0, .bool false]).sl 0 _ (by intro j u hu; simpa [Ent.cells] using hu)
  go_wp2_with fail
  refine (build_n (some ⟨w1.heap.size, 0, none⟩) ([⟨1, 0, false⟩, ⟨1, 0, false⟩] : List Ent) 2 2 _ rfl sl2 (by simp)).mono ?_
  rw [(show buildE [⟨1, 0, false⟩, ⟨1, 0, false⟩] = 130 by decide), (show buildL [⟨1, 0, false⟩, ⟨1, 0, false⟩] = [] by rfl)]
  rintro e v2 ⟨A2, c2, rfl, ho2, hv2⟩
  have hb02 := bext hd1 (bext q2 hv2)
  have r2 : Below v2.heap.size v2 (v2.alloc (.cells #[.slice A2 0 c2] 24)) := (Below.refl _ _).alloc (Nat.le_refl _) _
  have hd2 := bext hb02 r2
  go_upto_region 3 with fail
  obtain ⟨w2, hw2⟩ : ∃ W, v2.alloc (.cells #[.slice A2 0 c2] 24) = W := ⟨_, rfl⟩
  rw [hw2] at hd2
  try rw [hw2]
  clear hw2 r2 ho2 hb02 sl2 q2 hv2 hd1
  have q3 : Below w2.heap.size w2 (w2.alloc (.cells #[.int .i64 1, .int .i64 0, .bool false, .int .i64 1, .int .i64 1, .bool true] 29)) := (Below.refl _ _).alloc (Nat.le_refl _) _
  have sl3 : Sl (w2.alloc (.cells #[.int .i64 1, .int .i64 0, .bool false, .int .i64 1, .int .i64 1, .bool true] 29)) (some ⟨w2.heap.size, 0, none⟩) (([⟨1, 0, false⟩, ⟨1, 1, true⟩] : List Ent).flatMap Ent.cells) := (Blk.new w2 29 #[.int .i64 1, .int .i64 0, .bool false, .int .i64 1, .int .i64 1, .bool true]).sl 0 _ (by intro j u hu; simpa [Ent.cells] using hu)
  go_wp2_with fail
  refine (build_n (some ⟨w2.heap.size, 0, none⟩) ([⟨1, 0, false⟩, ⟨1, 1, true⟩] : List Ent) 2 2 _ rfl sl3 (by simp)).mono ?_
  rw [(show buildE [⟨1, 0, false⟩, ⟨1, 1, true⟩] = 8 by decide), (show buildL [⟨1, 0, false⟩, ⟨1, 1, true⟩] = [] by rfl)]
  rintro e v3 ⟨A3, c3, rfl, ho3, hv3⟩
  have hb03 := bext hd2 (bext q3 hv3)
  have r3 : Below v3.heap.size v3 (v3.alloc (.cells #[.slice A3 0 c3] 24)) := (Below.refl _ _).alloc (Nat.le_refl _) _
  have hd3 := bext hb03 r3
  go_upto_region 4 with fail
  obtain ⟨w3, hw3⟩ : ∃ W, v3.alloc (.cells #[.slice A3 0 c3] 24) = W := ⟨_, rfl⟩
  rw [hw3] at hd3
  try rw [hw3]
  clear hw3 r3 ho3 hb03 sl3 q3 hv3 hd2
  have q4 : Below w3.heap.size w3 (w3.alloc (.cells (madeCells #[.int .i64 0, .int .i64 0, .bool false] (N * 3)) 29)) := (Below.refl _ _).alloc (Nat.le_refl _) _
  have sl4 := made_sl (Blk.new w3 29 (madeCells #[.int .i64 0, .int .i64 0, .bool false] (N * 3)))
  have hm3 := hmk.out w3
  have hE4 : buildE (List.replicate N (⟨0, 0, false⟩ : Ent)) = 4 := by unfold buildE; rw [if_pos (by rw [List.length_replicate]; have := HN.out; omega)]
  have hL4 : buildL (List.replicate N (⟨0, 0, false⟩ : Ent)) = [] := by unfold buildL; rw [hE4]; rfl
  have H4 := Lib.hid (And.intro hE4 hL4)
  have hsl4 := Lib.hid sl4
  have hq4 := Lib.hid q4
  clear hE4 hL4 sl4 q4
  go_wp2_with fail
  refine (build_n (some ⟨w3.heap.size, 0, none⟩) (List.replicate N (⟨0, 0, false⟩ : Ent)) N N _ (List.length_replicate) hsl4.out (by rw [List.length_replicate]; have := HN.out; omega)).mono ?_
  rw [H4.out.1, H4.out.2]
  rintro e v4 ⟨A4, c4, rfl, ho4, hv4⟩
  have hb04 := bext hd3 (bext hq4.out hv4)
  clear hm3 hsl4 hv4 hd3
  have r4 : Below v4.heap.size v4 (v4.alloc (.cells #[.slice A4 0 c4] 24)) := (Below.refl _ _).alloc (Nat.le_refl _) _
  have hd4 := bext hb04 r4
  go_upto_region 5 with fail
  obtain ⟨w4, hw4⟩ : ∃ W, v4.alloc (.cells #[.slice A4 0 c4] 24) = W := ⟨_, rfl⟩
  rw [hw4] at hd4
  try rw [hw4]
  clear hw4 r4 ho4 hb04
  have q5 : Below w4.heap.size w4 (w4.alloc (.cells #[.int .i64 (-9223372036854775808), .int .i64 0, .bool true, .int .i64 9223372036854775807, .int .i64 3, .bool false] 29)) := (Below.refl _ _).alloc (Nat.le_refl _) _
  have sl5 : Sl (w4.alloc (.cells #[.int .i64 (-9223372036854775808), .int .i64 0, .bool true, .int .i64 9223372036854775807, .int .i64 3, .bool false] 29)) (some ⟨w4.heap.size, 0, none⟩) (([⟨(-9223372036854775808), 0, true⟩, ⟨9223372036854775807, 3, false⟩] : List Ent).flatMap Ent.cells) := (Blk.new w4 29 #[.int .i64 (-9223372036854775808), .int .i64 0, .bool true, .int .i64 9223372036854775807, .int .i64 3, .bool false]).sl 0 _ (by intro j u hu; simpa [Ent.cells] using hu)
  go_wp2_with fail
  refine (build_n (some ⟨w4.heap.size, 0, none⟩) ([⟨(-9223372036854775808), 0, true⟩, ⟨9223372036854775807, 3, false⟩] : List Ent) 2 2 _ rfl sl5 (by simp)).mono ?_
  rw [(show buildE [⟨(-9223372036854775808), 0, true⟩, ⟨9223372036854775807, 3, false⟩] = 0 from nm_E), (show buildL [⟨(-9223372036854775808), 0, true⟩, ⟨9223372036854775807, 3, false⟩] = nmR from nm_L)]
  rintro e v5 ⟨A5, c5, rfl, ho5, hv5⟩
  have hb05 := bext hd4 (bext q5 hv5)
  have s5 := own_sl ho5
  have r5 : Below v5.heap.size v5 (v5.alloc (.cells #[.slice A5 nmR.length c5] 24)) := (Below.refl _ _).alloc (Nat.le_refl _) _
  have hd5 := bext hb05 r5
  have b5 : Blk (v5.alloc (.cells #[.slice A5 nmR.length c5] 24)) v5.heap.size 24 #[.slice A5 nmR.length c5] := Blk.new _ _ _
  have s5' := s5.below r5
  obtain ⟨g, hg⟩ : ∃ g, v5.heap.size = g := ⟨_, rfl⟩
  go_upto_region 6 with fail
  obtain ⟨w5, hw5⟩ : ∃ W, v5.alloc (.cells #[.slice A5 nmR.length c5] 24) = W := ⟨_, rfl⟩
  rw [hw5] at hd5 b5 s5'
  try rw [hw5]
  rw [hg] at b5
  try rw [hg]
  have g5 : w5.cell? ⟨g, 0, none⟩ = some (.slice A5 nmR.length c5) := b5.cell 0
  clear hw5 r5 ho5 hb05 sl5 q5 hv5 hd4 s5 hg
  go_wp2_with fail
  refine (find_n A5 nmR nmR.length c5 (-9223372036854775808) _ rfl s5' (by decide) (tab_below hTl HT.out hd5)).mono ?_
  unfold GivesII
  rw [nm_a.1, nm_a.2]
  rintro e w6 ⟨rfl, hv6⟩
  have hd6 := bext hd5 hv6
  have b6 := Blk.below b5 hv6 b5.lt
  have s6 := Sl.below s5' hv6
  clear g5
  have g6 : w6.cell? ⟨g, 0, none⟩ = some (.slice A5 nmR.length c5) := b6.cell 0
  clear b5 s5' hv6
  go_wp2_with fail
  refine (find_n A5 nmR nmR.length c5 (9223372036854775807) _ rfl s6 (by decide) (tab_below hTl HT.out hd6)).mono ?_
  unfold GivesII
  rw [nm_b.1, nm_b.2]
  rintro e w7 ⟨rfl, hv7⟩
  have hd7 := bext hd6 hv7
  have b7 := Blk.below b6 hv7 b6.lt
  have s7 := Sl.below s6 hv7
  clear g6
  have g7 : w7.cell? ⟨g, 0, none⟩ = some (.slice A5 nmR.length c5) := b7.cell 0
  clear b6 s6 hv7
  go_wp2_with fail
  refine (find_n A5 nmR nmR.length c5 (0) _ rfl s7 (by decide) (tab_below hTl HT.out hd7)).mono ?_
  unfold GivesII
  rw [nm_c.1, nm_c.2]
  rintro e w8 ⟨rfl, hv8⟩
  have hd8 := bext hd7 hv8
  have b8 := Blk.below b7 hv8 b7.lt
  have s8 := Sl.below s7 hv8
  clear g7
  have g8 : w8.cell? ⟨g, 0, none⟩ = some (.slice A5 nmR.length c5) := b8.cell 0
  clear b7 s7 hv8
  clear g8 b8 s8
  go_wp2_with fail
  refine (rank_n none [] 0 0 5 _ rfl (.inl rfl) (by simp) (tab_below hTl HT.out hd8)).mono ?_
  unfold GivesII
  rw [nil_rk, nil_chk]
  rintro e w9 ⟨rfl, hv9⟩
  have hd9 := bext hd8 hv9
  go_wp2_with fail
  refine (lower_n none [] 0 0 5 _ rfl (.inl rfl) (by simp) (tab_below hTl HT.out hd9)).mono ?_
  unfold GivesII
  rw [nil_low.1, nil_low.2]
  rintro e w10 ⟨rfl, hv10⟩
  have hd10 := bext hd9 hv10
  have q11 : Below w10.heap.size w10 (w10.alloc (.cells #[.int .i64 1, .int .i64 0, .bool false, .int .i64 2, .int .i64 0, .bool false] 29)) := (Below.refl _ _).alloc (Nat.le_refl _) _
  have sl11 : Sl (w10.alloc (.cells #[.int .i64 1, .int .i64 0, .bool false, .int .i64 2, .int .i64 0, .bool false] 29)) (some ⟨w10.heap.size, 0, none⟩) (([⟨1, 0, false⟩, ⟨2, 0, false⟩] : List Ent).flatMap Ent.cells) := (Blk.new w10 29 #[.int .i64 1, .int .i64 0, .bool false, .int .i64 2, .int .i64 0, .bool false]).sl 0 _ (by intro j u hu; simpa [Ent.cells] using hu)
  go_wp2_with fail
  refine (check_n2 (some ⟨w10.heap.size, 0, none⟩) ([⟨1, 0, false⟩, ⟨2, 0, false⟩] : List Ent) 2 2 _ rfl sl11 (by simp)).mono ?_
  rw [c1_chk]
  rintro e w11 ⟨rfl, hv11⟩
  have hd11 := bext hd10 (bext q11 hv11)
  have q12 : Below w11.heap.size w11 (w11.alloc (.cells #[.int .i64 1, .int .i64 0, .bool false, .int .i64 0, .int .i64 0, .bool false] 29)) := (Below.refl _ _).alloc (Nat.le_refl _) _
  have sl12 : Sl (w11.alloc (.cells #[.int .i64 1, .int .i64 0, .bool false, .int .i64 0, .int .i64 0, .bool false] 29)) (some ⟨w11.heap.size, 0, none⟩) (([⟨1, 0, false⟩, ⟨0, 0, false⟩] : List Ent).flatMap Ent.cells) := (Blk.new w11 29 #[.int .i64 1, .int .i64 0, .bool false, .int .i64 0, .int .i64 0, .bool false]).sl 0 _ (by intro j u hu; simpa [Ent.cells] using hu)
  go_wp2_with fail
  refine (check_n2 (some ⟨w11.heap.size, 0, none⟩) ([⟨1, 0, false⟩, ⟨0, 0, false⟩] : List Ent) 2 2 _ rfl sl12 (by simp)).mono ?_
  rw [c2_chk]
  rintro e w12 ⟨rfl, hv12⟩
  have hd12 := bext hd11 (bext q12 hv12)
  go_wp2_with fail
  refine (alive_any _ (tab_below hTl HT.out hd12)).mono ?_
  rintro e w13 ⟨rfl, hv13⟩
  go_wp2
  go_ret
  exact ⟨rfl, bext hd12 hv13⟩
end Go.Proofs.YtokomclcgegfkaaDoor
