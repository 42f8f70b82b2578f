/- Fk Dh: texts of the claim, in this order. -/
import Derived.Test.YthbppblmecdekaaGreatDoorWu2
import Derived.Test.YthbppblmecdekaaGreatDoorWu3
import Derived.Test.YthbppblmecdekaaGreatDoorWu1
/- Contracts: ladder.Range, shelfmarkref27.Range. -/
namespace Go.Proofs.YthbppblmecdekaaGreatDoor
open Go Go.RowKit
set_option maxRecDepth 100000
/-- hands back a map, a number and an error -/
def GivesLn (c : Cfg) (L : Lv) (n cnt e : Int) (w : World) (r : Ending) (w' : World) : Prop := ∃ B k Rs, r = .returned (.tuple #[.agg (lrow c B Rs.length k n), .int .i64 cnt, .int .i64 e]) ∧ lvs Rs = L ∧ OwnRs w' w.heap.size B k Rs ∧ Below w.heap.size w w'
/-- pairs laid anew -/
def newL (l : List Pr) : Lv := standL [] (laid (l.map aliveE))
def rgL (c : Cfg) (L : Lv) (a b : Int) : Lv := if errL c L = 0 then newL (withoutL (prD c L) a b) else []
def rgN (c : Cfg) (L : Lv) (n a b : Int) : Int := if errL c L = 0 then IntKind.u64.wrap (n + (withoutL (prD c L) a b).length) else 0
def rgC (c : Cfg) (L : Lv) (a b : Int) : Int := if errL c L = 0 then ((prD c L).length : Int) - ((withoutL (prD c L) a b).length : Int) else 0
theorem alive_build {l : List Pr} (h : Ris l) (hl : l.length ≤ 65536) : buildE (l.map aliveE) = 0 := by
  unfold buildE
  rw [if_neg (by simp; omega), if_neg (by simp [badEnt, aliveE]), if_pos]
  unfold Ris keys at h
  rw [List.map_map]
  exact h
theorem anew_ok {c : Cfg} {L : Lv} {l : List Pr} (n : Int) (he : errL c L = 0) (hs : l.length ≤ (prD c L).length) (hr : Ris l) (hl : l.length ≤ 65536) : anE c L l = 0 ∧ anL c L l = newL l ∧ anN c L n l = IntKind.u64.wrap (n + l.length) := by
  obtain ⟨_, h2, h3, _⟩ := errL_zero he
  have hP : prD c L = prR L := by unfold prD; rw [if_pos he]
  rw [hP] at hs
  have h4 : ¬ c.most < (l.length : Int) := by omega
  have h5 : ofEr L l = 0 := by unfold ofEr; rw [if_neg (by simp [h2])]; exact alive_build hr hl
  unfold anE anL anN ofLr ofNr newL
  rw [if_neg h4, if_neg h4, if_neg h4, if_pos h5, if_pos h5]
  exact ⟨h5, rfl, rfl⟩
theorem without_ris {l : List Pr} (h : Ris l) (a b : Int) : Ris (withoutL l a b) := h.sub List.filter_sublist
set_option maxHeartbeats 16000000 in
theorem rangeD_any (B : Option Addr) (Rs : List Rm) (k : Nat) (c : Cfg) (n : Int) (x y : Int) (w : World) (hB : RunsAt w B Rs) (hT : tot (lvs Rs) ≤ 1000000) (hl : Rs.length ≤ 1000000) (hT3 : tot (lvs Rs) ≤ 300) :
    Calls Tryz.prog 29 #[.agg (lrow c B Rs.length k n), .int .i64 x, .int .i64 y] w (GivesLn (ldC c (errL c (lvs Rs))) (rgL c (lvs Rs) x y) (rgN c (lvs Rs) n x y) (rgC c (lvs Rs) x y) (errL c (lvs Rs)) w) := by
  obtain ⟨W0, hW0⟩ : ∃ W0, (((w.alloc (.cells #[.int .u8 c.tag, .int .i64 c.most, .int .i64 c.seg, .int .i64 c.least, .int .i64 c.den, .int .i64 c.leafLow, .int .i64 c.rootLow, .int .i64 c.rootHigh, .int .i64 c.leafHigh, .slice B Rs.length k, .int .u64 n] 29)).alloc (.cells #[.int .i64 x] 2)).alloc (.cells #[.int .i64 y] 2)).alloc (.cells #[.int .u8 0, .int .i64 0, .int .i64 0, .int .i64 0, .int .i64 0, .int .i64 0, .int .i64 0, .int .i64 0, .int .i64 0, .slice none 0 0, .int .u64 0] 29) = W0 := ⟨_, rfl⟩
  have hb0 : Below w.heap.size w W0 := by rw [← hW0]; exact ((((Below.refl _ _).alloc (Nat.le_refl _) _).alloc (by simp) _).alloc (by simp; omega) _).alloc (by simp; omega) _
  have b0 : Blk W0 w.heap.size 29 #[.int .u8 c.tag, .int .i64 c.most, .int .i64 c.seg, .int .i64 c.least, .int .i64 c.den, .int .i64 c.leafLow, .int .i64 c.rootLow, .int .i64 c.rootHigh, .int .i64 c.leafHigh, .slice B Rs.length k, .int .u64 n] := by rw [← hW0]; exact (((Blk.new _ _ _).alloc _).alloc _).alloc _
  have bx0 : Blk W0 (w.heap.size + 1) 2 #[.int .i64 x] := by
    rw [← hW0]
    have := Blk.new (w.alloc (.cells #[.int .u8 c.tag, .int .i64 c.most, .int .i64 c.seg, .int .i64 c.least, .int .i64 c.den, .int .i64 c.leafLow, .int .i64 c.rootLow, .int .i64 c.rootHigh, .int .i64 c.leafHigh, .slice B Rs.length k, .int .u64 n] 29)) 2 #[.int .i64 x]
    rw [World.size_alloc] at this
    exact (this.alloc _).alloc _
  have by0 : Blk W0 (w.heap.size + 1 + 1) 2 #[.int .i64 y] := by
    rw [← hW0]
    have := Blk.new ((w.alloc (.cells #[.int .u8 c.tag, .int .i64 c.most, .int .i64 c.seg, .int .i64 c.least, .int .i64 c.den, .int .i64 c.leafLow, .int .i64 c.rootLow, .int .i64 c.rootHigh, .int .i64 c.leafHigh, .slice B Rs.length k, .int .u64 n] 29)).alloc (.cells #[.int .i64 x] 2)) 2 #[.int .i64 y]
    rw [World.size_alloc, World.size_alloc] at this
    exact this.alloc _
  have br0 : Blk W0 (w.heap.size + 1 + 1 + 1) 29 #[.int .u8 0, .int .i64 0, .int .i64 0, .int .i64 0, .int .i64 0, .int .i64 0, .int .i64 0, .int .i64 0, .int .i64 0, .slice none 0 0, .int .u64 0] := by
    rw [← hW0]
    have := Blk.new (((w.alloc (.cells #[.int .u8 c.tag, .int .i64 c.most, .int .i64 c.seg, .int .i64 c.least, .int .i64 c.den, .int .i64 c.leafLow, .int .i64 c.rootLow, .int .i64 c.rootHigh, .int .i64 c.leafHigh, .slice B Rs.length k, .int .u64 n] 29)).alloc (.cells #[.int .i64 x] 2)).alloc (.cells #[.int .i64 y] 2)) 29 #[.int .u8 0, .int .i64 0, .int .i64 0, .int .i64 0, .int .i64 0, .int .i64 0, .int .i64 0, .int .i64 0, .int .i64 0, .slice none 0 0, .int .u64 0]
    rwa [World.size_alloc, World.size_alloc, World.size_alloc] at this
  have HW0 := Lib.hid hW0
  have HB := Lib.hid (hB.below hb0)
  have HB0 := Lib.hid hb0
  have HC0 := Lib.hid b0
  have HX0 := Lib.hid bx0
  have HY0 := Lib.hid by0
  have HR0 := Lib.hid br0
  have hpa := pairsD_any B Rs k c n W0 HB.out hT hl
  have hok := fun he l hs hr hl => anew_ok (c := c) (L := lvs Rs) (l := l) n he hs hr hl
  obtain ⟨E, hE⟩ : ∃ E, errL c (lvs Rs) = E := ⟨_, rfl⟩
  obtain ⟨P, hP⟩ : ∃ P, prD c (lvs Rs) = P := ⟨_, rfl⟩
  have hrL : rgL c (lvs Rs) x y = if E = 0 then newL (withoutL P x y) else [] := by rw [← hE, ← hP]; rfl
  have hrN : rgN c (lvs Rs) n x y = if E = 0 then IntKind.u64.wrap (n + (withoutL P x y).length) else 0 := by rw [← hE, ← hP]; rfl
  have hrC : rgC c (lvs Rs) x y = if E = 0 then (P.length : Int) - ((withoutL P x y).length : Int) else 0 := by rw [← hE, ← hP]; rfl
  have hrE : ldC c E = if E = 0 then c else cz := rfl
  obtain ⟨Lr, hLr⟩ : ∃ z, rgL c (lvs Rs) x y = z := ⟨_, rfl⟩
  obtain ⟨Nr, hNr⟩ : ∃ z, rgN c (lvs Rs) n x y = z := ⟨_, rfl⟩
  obtain ⟨Cr, hCr⟩ : ∃ z, rgC c (lvs Rs) x y = z := ⟨_, rfl⟩
  rw [hE, hLr, hNr, hCr]
  rw [hLr] at hrL
  rw [hNr] at hrN
  rw [hCr] at hrC
  have hris := prD_ris c (lvs Rs)
  have hln := prD_len c (lvs Rs)
  have hwl := without_len P x y
  rw [hP] at hris hln
  have hwr := without_ris hris x y
  have hP3 : P.length ≤ 300 := by omega
  rw [hE, hP] at hpa
  rw [hP] at hok
  have hok2 := fun he => hok he (withoutL P x y) hwl hwr (by omega)
  have han := fun A ca W (hW : RunsAt W B Rs) (hA : Sl W A ((withoutL P x y).flatMap Pr.cells)) => anew_any B Rs k c n A (withoutL P x y) ca W hW hT hl hA (by omega)
  rw [hE] at hok2
  have hcl := fun A ca W (hA : Sl W A (P.flatMap Pr.cells)) => clone_any A P ca W hA (by omega)
  have hde := fun A ca g4 g5 B0 W hF h4 h5 l4 l5 hB0 => deleteP_any P A ca g4 g5 B0 x y W hF h4 h5 l4 l5 hB0 (by omega)
  obtain ⟨M, hM⟩ : ∃ M, withoutL P x y = M := ⟨_, rfl⟩
  rw [hM] at hrL hrN hrC hok2 han hde hwl
  obtain ⟨ae, hae⟩ : ∃ z, anE c (lvs Rs) M = z := ⟨_, rfl⟩
  obtain ⟨al, hal⟩ : ∃ z, anL c (lvs Rs) M = z := ⟨_, rfl⟩
  obtain ⟨an, hann⟩ : ∃ z, anN c (lvs Rs) n M = z := ⟨_, rfl⟩
  rw [hae, hal, hann] at hok2 han
  obtain ⟨ac, hac⟩ : ∃ z, ldC c ae = z := ⟨_, rfl⟩
  rw [hac] at han
  have HPA := Lib.hid hpa
  have HOK := Lib.hid hok2
  have HAN := Lib.hid han
  have HCL := Lib.hid hcl
  have HDE := Lib.hid hde
  have HRL := Lib.hid hrL
  have HRN := Lib.hid hrN
  have HRC := Lib.hid hrC
  have HAC := Lib.hid hac
  have HP3 := Lib.hid (And.intro hP3 hwl)
  clear hW0 hB hpa hok hok2 han hcl hde hrL hrN hrC hrE hac hae hal hann hM hE hP hLr hNr hCr hris hln hwl hwr hP3 hT hT3
  have q0 : W0.cell? ⟨w.heap.size, 0, none⟩ = some (.int .u8 c.tag) := b0.cell 0
  have q1 : W0.cell? ⟨w.heap.size, 1, none⟩ = some (.int .i64 c.most) := b0.cell 1
  have q2 : W0.cell? ⟨w.heap.size, 2, none⟩ = some (.int .i64 c.seg) := b0.cell 2
  have q3 : W0.cell? ⟨w.heap.size, 3, none⟩ = some (.int .i64 c.least) := b0.cell 3
  have q4 : W0.cell? ⟨w.heap.size, 4, none⟩ = some (.int .i64 c.den) := b0.cell 4
  have q5 : W0.cell? ⟨w.heap.size, 5, none⟩ = some (.int .i64 c.leafLow) := b0.cell 5
  have q6 : W0.cell? ⟨w.heap.size, 6, none⟩ = some (.int .i64 c.rootLow) := b0.cell 6
  have q7 : W0.cell? ⟨w.heap.size, 7, none⟩ = some (.int .i64 c.rootHigh) := b0.cell 7
  have q8 : W0.cell? ⟨w.heap.size, 8, none⟩ = some (.int .i64 c.leafHigh) := b0.cell 8
  have q9 : W0.cell? ⟨w.heap.size, 9, none⟩ = some (.slice B Rs.length k) := b0.cell 9
  have q10 : W0.cell? ⟨w.heap.size, 10, none⟩ = some (.int .u64 n) := b0.cell 10
  clear b0 hb0 br0 bx0 by0
  go_enter Tryz.func29, Tryz.ntmps29
  go_upto_region 1 with fail
  rw [HW0.out]
  have HY1 := Lib.hid (HB.out)
  go_wp2_with fail
  refine (HPA.out).mono ?_
  rintro e w2 ⟨A1, c1, rfl, ho1, hb3⟩
  have HP1 := Lib.hid (own_sl ho1)
  clear ho1 q0 q1 q2 q3 q4 q5 q6 q7 q8 q9 q10
  have HF4 := Lib.hid (bext HB0.out hb3)
  have HX5 := Lib.hid (HC0.out.below hb3 HC0.out.lt)
  have HX6 := Lib.hid (HX0.out.below hb3 HX0.out.lt)
  have HX7 := Lib.hid (HY0.out.below hb3 HY0.out.lt)
  have HX8 := Lib.hid (HR0.out.below hb3 HR0.out.lt)
  have HY9 := Lib.hid (RunsAt.below HY1.out hb3)
  clear HC0 HX0 HY0 HR0 HY1
  clear hb3
  have HY10 := Lib.hid (HP1.out)
  have c11 : w2.cell? ⟨(w.heap.size + 1 + 1 + 1), 0, none⟩ = some (.int .u8 0) := HX8.out.cell 0
  have c12 : w2.cell? ⟨(w.heap.size + 1 + 1 + 1), 1, none⟩ = some (.int .i64 0) := HX8.out.cell 1
  have c13 : w2.cell? ⟨(w.heap.size + 1 + 1 + 1), 2, none⟩ = some (.int .i64 0) := HX8.out.cell 2
  have c14 : w2.cell? ⟨(w.heap.size + 1 + 1 + 1), 3, none⟩ = some (.int .i64 0) := HX8.out.cell 3
  have c15 : w2.cell? ⟨(w.heap.size + 1 + 1 + 1), 4, none⟩ = some (.int .i64 0) := HX8.out.cell 4
  have c16 : w2.cell? ⟨(w.heap.size + 1 + 1 + 1), 5, none⟩ = some (.int .i64 0) := HX8.out.cell 5
  have c17 : w2.cell? ⟨(w.heap.size + 1 + 1 + 1), 6, none⟩ = some (.int .i64 0) := HX8.out.cell 6
  have c18 : w2.cell? ⟨(w.heap.size + 1 + 1 + 1), 7, none⟩ = some (.int .i64 0) := HX8.out.cell 7
  have c19 : w2.cell? ⟨(w.heap.size + 1 + 1 + 1), 8, none⟩ = some (.int .i64 0) := HX8.out.cell 8
  have c20 : w2.cell? ⟨(w.heap.size + 1 + 1 + 1), 9, none⟩ = some (.slice none 0 0) := HX8.out.cell 9
  have c21 : w2.cell? ⟨(w.heap.size + 1 + 1 + 1), 10, none⟩ = some (.int .u64 0) := HX8.out.cell 10
  have l22 : (w.heap.size + 1 + 1 + 1) < w2.heap.size := HX8.out.lt
  have fr0 := HX8.out.frozen 0
  have fr1 := HX8.out.frozen 1
  have fr2 := HX8.out.frozen 2
  have fr3 := HX8.out.frozen 3
  have fr4 := HX8.out.frozen 4
  have fr5 := HX8.out.frozen 5
  have fr6 := HX8.out.frozen 6
  have fr7 := HX8.out.frozen 7
  have fr8 := HX8.out.frozen 8
  have fr9 := HX8.out.frozen 9
  have fr10 := HX8.out.frozen 10
  by_cases hE0 : E = 0
  case neg =>
    have h1 : (E != 0) = true := by simpa using hE0
    have HZ : Hid (Lr = [] ∧ Nr = 0 ∧ Cr = 0 ∧ ldC c E = cz) := by
      show _ ∧ _
      rw [HRL.out, HRN.out, HRC.out, if_neg hE0, if_neg hE0, if_neg hE0]
      exact ⟨rfl, rfl, rfl, by unfold ldC; rw [if_neg hE0]⟩
    go_wp2_with fail
    have bz := put11 HX8.out (.int .u8 0) (.int .i64 0) (.int .i64 0) (.int .i64 0) (.int .i64 0) (.int .i64 0) (.int .i64 0) (.int .i64 0) (.int .i64 0) (.slice none 0 0) (.int .u64 0)
    have z0 := bz.cell 0
    have z1 := bz.cell 1
    have z2 := bz.cell 2
    have z3 := bz.cell 3
    have z4 := bz.cell 4
    have z5 := bz.cell 5
    have z6 := bz.cell 6
    have z7 := bz.cell 7
    have z8 := bz.cell 8
    have z9 := bz.cell 9
    have z10 := bz.cell 10
    simp only [List.getElem?_toArray, List.getElem?_cons_zero, List.getElem?_cons_succ] at z0 z1 z2 z3 z4 z5 z6 z7 z8 z9 z10
    refine bodyPost_ret (v := .tuple #[.agg #[.int .u8 0, .int .i64 0, .int .i64 0, .int .i64 0, .int .i64 0, .int .i64 0, .int .i64 0, .int .i64 0, .int .i64 0, .slice none 0 0, .int .u64 0], .int .i64 0, .int .i64 E]) (by simp [results, Tryz.results29, go_sem, z0, z1, z2, z3, z4, z5, z6, z7, z8, z9, z10]) rfl ?_
    rw [HZ.out.1, HZ.out.2.1, HZ.out.2.2.1, HZ.out.2.2.2]
    exact ⟨none, 0, [], rfl, rfl, OwnRs.nil _ _, below11 HF4.out (by omega) _ _ _ _ _ _ _ _ _ _ _⟩
  case pos =>
  have HZ : Hid (Lr = newL M ∧ Nr = IntKind.u64.wrap (n + M.length) ∧ Cr = (P.length : Int) - (M.length : Int) ∧ ldC c E = c) := by
    show _ ∧ _
    rw [HRL.out, HRN.out, HRC.out, if_pos hE0, if_pos hE0, if_pos hE0]
    exact ⟨rfl, rfl, rfl, by unfold ldC; rw [if_pos hE0]⟩
  have HO2 := Lib.hid (HOK.out hE0)
  clear HOK HRL HRN HRC
  subst hE0
  go_wp2_with fail
  clear c11 c12 c13 c14 c15 c16 c17 c18 c19 c20 c21 l22
  clear fr0 fr1 fr2 fr3 fr4 fr5 fr6 fr7 fr8 fr9 fr10
  refine (HCL.out _ _ _ HY10.out).mono ?_
  rintro e w23 ⟨A2, c2, rfl, hf2, hb24⟩
  have HSA := Lib.hid (show w.heap.size + 1 + 1 + 1 < w2.heap.size from HX8.out.lt)
  have hde := HDE.out A2 c2 (w.heap.size + 1) (w.heap.size + 1 + 1) _ w23 hf2 ((HX6.out.below hb24 HX6.out.lt).cell 0) ((HX7.out.below hb24 HX7.out.lt).cell 0) (by have := HSA.out; omega) (by have := HSA.out; omega) hb24.size
  have HD2 := Lib.hid hde
  have HB24 := Lib.hid hb24
  clear hde hf2 hb24
  go_wp2_with fail
  refine HD2.out.mono ?_
  rintro e w8 ⟨c8, rfl, hs8, hb8⟩
  have HS8 := Lib.hid hs8
  have hb28 := HB24.out.trans hb8
  clear hs8 hb8 HD2 HB24
  have HF23 := Lib.hid (bext HF4.out hb28)
  have HX24 := Lib.hid (HX5.out.below hb28 HX5.out.lt)
  have HX25 := Lib.hid (HX6.out.below hb28 HX6.out.lt)
  have HX26 := Lib.hid (HX7.out.below hb28 HX7.out.lt)
  have HX27 := Lib.hid (HX8.out.below hb28 HX8.out.lt)
  have HY28 := Lib.hid (RunsAt.below HY9.out hb28)
  have HY29 := Lib.hid (HY10.out.below hb28)
  clear HF4 HX5 HX6 HX7 HX8 HY9 HY10
  clear hb28
  have HY30 := Lib.hid (HS8.out)
  have c31 : w8.cell? ⟨w.heap.size, 0, none⟩ = some (.int .u8 c.tag) := HX24.out.cell 0
  have c32 : w8.cell? ⟨w.heap.size, 1, none⟩ = some (.int .i64 c.most) := HX24.out.cell 1
  have c33 : w8.cell? ⟨w.heap.size, 2, none⟩ = some (.int .i64 c.seg) := HX24.out.cell 2
  have c34 : w8.cell? ⟨w.heap.size, 3, none⟩ = some (.int .i64 c.least) := HX24.out.cell 3
  have c35 : w8.cell? ⟨w.heap.size, 4, none⟩ = some (.int .i64 c.den) := HX24.out.cell 4
  have c36 : w8.cell? ⟨w.heap.size, 5, none⟩ = some (.int .i64 c.leafLow) := HX24.out.cell 5
  have c37 : w8.cell? ⟨w.heap.size, 6, none⟩ = some (.int .i64 c.rootLow) := HX24.out.cell 6
  have c38 : w8.cell? ⟨w.heap.size, 7, none⟩ = some (.int .i64 c.rootHigh) := HX24.out.cell 7
  have c39 : w8.cell? ⟨w.heap.size, 8, none⟩ = some (.int .i64 c.leafHigh) := HX24.out.cell 8
  have c40 : w8.cell? ⟨w.heap.size, 9, none⟩ = some (.slice B Rs.length k) := HX24.out.cell 9
  have c41 : w8.cell? ⟨w.heap.size, 10, none⟩ = some (.int .u64 n) := HX24.out.cell 10
  have l42 : w.heap.size < w8.heap.size := HX24.out.lt
  go_wp2_with fail
  clear c31 c32 c33 c34 c35 c36 c37 c38 c39 c40 c41 l42
  refine (HAN.out _ _ _ HY28.out HY30.out).mono ?_
  rintro e w43 ⟨B2, k2, R2, rfl, hl2, ho2, hb44⟩
  have HL2 := Lib.hid hl2
  obtain ⟨M2, hM2⟩ : ∃ N, R2.length = N := ⟨_, rfl⟩
  rw [hM2]
  have HM2 := Lib.hid hM2
  have HO9 := Lib.hid (ho2.mono HF23.out.size)
  clear hl2 ho2 hM2
  have HF45 := Lib.hid (bext HF23.out hb44)
  have HX46 := Lib.hid (HX24.out.below hb44 HX24.out.lt)
  have HX47 := Lib.hid (HX25.out.below hb44 HX25.out.lt)
  have HX48 := Lib.hid (HX26.out.below hb44 HX26.out.lt)
  have HX49 := Lib.hid (HX27.out.below hb44 HX27.out.lt)
  have HY50 := Lib.hid (RunsAt.below HY28.out hb44)
  have HY51 := Lib.hid (HY29.out.below hb44)
  have HY52 := Lib.hid (HY30.out.below hb44)
  clear HF23 HX24 HX25 HX26 HX27 HY28 HY29 HY30
  clear hb44
  have HY53 := Lib.hid (HO9.out)
  go_upto_region 6 with fail
  obtain ⟨U54, h56⟩ : ∃ U, w43.alloc (.cells #[.int .u8 ac.tag, .int .i64 ac.most, .int .i64 ac.seg, .int .i64 ac.least, .int .i64 ac.den, .int .i64 ac.leafLow, .int .i64 ac.rootLow, .int .i64 ac.rootHigh, .int .i64 ac.leafHigh, .slice B2 M2 k2, .int .u64 an] 29) = U := ⟨_, rfl⟩
  have ba57 : Below w43.heap.size w43 U54 := by rw [← h56]; exact (Below.refl _ _).alloc (Nat.le_refl _) _
  have bn58 : Blk U54 w43.heap.size 29 #[.int .u8 ac.tag, .int .i64 ac.most, .int .i64 ac.seg, .int .i64 ac.least, .int .i64 ac.den, .int .i64 ac.leafLow, .int .i64 ac.rootLow, .int .i64 ac.rootHigh, .int .i64 ac.leafHigh, .slice B2 M2 k2, .int .u64 an] := by rw [← h56]; exact Blk.new _ _ _
  try rw [h56]
  have HF59 := Lib.hid (bext HF45.out ba57)
  have HX60 := Lib.hid (HX46.out.below ba57 HX46.out.lt)
  have HX61 := Lib.hid (HX47.out.below ba57 HX47.out.lt)
  have HX62 := Lib.hid (HX48.out.below ba57 HX48.out.lt)
  have HX63 := Lib.hid (HX49.out.below ba57 HX49.out.lt)
  have HY64 := Lib.hid (RunsAt.below HY50.out ba57)
  have HY65 := Lib.hid (HY51.out.below ba57)
  have HY66 := Lib.hid (HY52.out.below ba57)
  have HY67 := Lib.hid (OwnRs.below HY53.out ba57)
  clear HF45 HX46 HX47 HX48 HX49 HY50 HY51 HY52 HY53
  obtain ⟨g55, h68⟩ : ∃ g, w43.heap.size = g := ⟨_, rfl⟩
  rw [h68] at bn58
  try rw [h68]
  have HX69 := Lib.hid bn58
  clear h56 ba57 bn58 h68
  obtain ⟨z1, z2, z3⟩ := HO2.out
  have HZ2 := Lib.hid z2
  have HZ3 := Lib.hid z3
  have HZ1 : Hid (ac = c) := by show _ = _; rw [← HAC.out, z1]; rfl
  clear z2 z3
  subst z1
  have hp3 := HP3.out
  have hw : IntKind.i64.wrap ((P.length : Int) - (M.length : Int)) = (P.length : Int) - (M.length : Int) := IntWalk.i64_in _ (by omega)
  clear hp3
  have c70 : U54.cell? ⟨g55, 0, none⟩ = some (.int .u8 ac.tag) := HX69.out.cell 0
  have c71 : U54.cell? ⟨g55, 1, none⟩ = some (.int .i64 ac.most) := HX69.out.cell 1
  have c72 : U54.cell? ⟨g55, 2, none⟩ = some (.int .i64 ac.seg) := HX69.out.cell 2
  have c73 : U54.cell? ⟨g55, 3, none⟩ = some (.int .i64 ac.least) := HX69.out.cell 3
  have c74 : U54.cell? ⟨g55, 4, none⟩ = some (.int .i64 ac.den) := HX69.out.cell 4
  have c75 : U54.cell? ⟨g55, 5, none⟩ = some (.int .i64 ac.leafLow) := HX69.out.cell 5
  have c76 : U54.cell? ⟨g55, 6, none⟩ = some (.int .i64 ac.rootLow) := HX69.out.cell 6
  have c77 : U54.cell? ⟨g55, 7, none⟩ = some (.int .i64 ac.rootHigh) := HX69.out.cell 7
  have c78 : U54.cell? ⟨g55, 8, none⟩ = some (.int .i64 ac.leafHigh) := HX69.out.cell 8
  have c79 : U54.cell? ⟨g55, 9, none⟩ = some (.slice B2 M2 k2) := HX69.out.cell 9
  have c80 : U54.cell? ⟨g55, 10, none⟩ = some (.int .u64 an) := HX69.out.cell 10
  have l81 : g55 < U54.heap.size := HX69.out.lt
  have c82 : U54.cell? ⟨(w.heap.size + 1 + 1 + 1), 0, none⟩ = some (.int .u8 0) := HX63.out.cell 0
  have c83 : U54.cell? ⟨(w.heap.size + 1 + 1 + 1), 1, none⟩ = some (.int .i64 0) := HX63.out.cell 1
  have c84 : U54.cell? ⟨(w.heap.size + 1 + 1 + 1), 2, none⟩ = some (.int .i64 0) := HX63.out.cell 2
  have c85 : U54.cell? ⟨(w.heap.size + 1 + 1 + 1), 3, none⟩ = some (.int .i64 0) := HX63.out.cell 3
  have c86 : U54.cell? ⟨(w.heap.size + 1 + 1 + 1), 4, none⟩ = some (.int .i64 0) := HX63.out.cell 4
  have c87 : U54.cell? ⟨(w.heap.size + 1 + 1 + 1), 5, none⟩ = some (.int .i64 0) := HX63.out.cell 5
  have c88 : U54.cell? ⟨(w.heap.size + 1 + 1 + 1), 6, none⟩ = some (.int .i64 0) := HX63.out.cell 6
  have c89 : U54.cell? ⟨(w.heap.size + 1 + 1 + 1), 7, none⟩ = some (.int .i64 0) := HX63.out.cell 7
  have c90 : U54.cell? ⟨(w.heap.size + 1 + 1 + 1), 8, none⟩ = some (.int .i64 0) := HX63.out.cell 8
  have c91 : U54.cell? ⟨(w.heap.size + 1 + 1 + 1), 9, none⟩ = some (.slice none 0 0) := HX63.out.cell 9
  have c92 : U54.cell? ⟨(w.heap.size + 1 + 1 + 1), 10, none⟩ = some (.int .u64 0) := HX63.out.cell 10
  have l93 : (w.heap.size + 1 + 1 + 1) < U54.heap.size := HX63.out.lt
  have fr0 := HX63.out.frozen 0
  have fr1 := HX63.out.frozen 1
  have fr2 := HX63.out.frozen 2
  have fr3 := HX63.out.frozen 3
  have fr4 := HX63.out.frozen 4
  have fr5 := HX63.out.frozen 5
  have fr6 := HX63.out.frozen 6
  have fr7 := HX63.out.frozen 7
  have fr8 := HX63.out.frozen 8
  have fr9 := HX63.out.frozen 9
  have fr10 := HX63.out.frozen 10
  go_wp2_with fail
  have bz := put11 HX63.out (.int .u8 ac.tag) (.int .i64 ac.most) (.int .i64 ac.seg) (.int .i64 ac.least) (.int .i64 ac.den) (.int .i64 ac.leafLow) (.int .i64 ac.rootLow) (.int .i64 ac.rootHigh) (.int .i64 ac.leafHigh) (.slice B2 M2 k2) (.int .u64 an)
  have z0 := bz.cell 0
  have z1 := bz.cell 1
  have z2 := bz.cell 2
  have z3 := bz.cell 3
  have z4 := bz.cell 4
  have z5 := bz.cell 5
  have z6 := bz.cell 6
  have z7 := bz.cell 7
  have z8 := bz.cell 8
  have z9 := bz.cell 9
  have z10 := bz.cell 10
  simp only [List.getElem?_toArray, List.getElem?_cons_zero, List.getElem?_cons_succ] at z0 z1 z2 z3 z4 z5 z6 z7 z8 z9 z10
  refine bodyPost_ret (v := .tuple #[.agg #[.int .u8 ac.tag, .int .i64 ac.most, .int .i64 ac.seg, .int .i64 ac.least, .int .i64 ac.den, .int .i64 ac.leafLow, .int .i64 ac.rootLow, .int .i64 ac.rootHigh, .int .i64 ac.leafHigh, .slice B2 M2 k2, .int .u64 an], .int .i64 ((P.length : Int) - (M.length : Int)), .int .i64 0]) (by simp [results, Tryz.results29, go_sem, z0, z1, z2, z3, z4, z5, z6, z7, z8, z9, z10]) rfl ?_
  rw [HZ.out.1, HZ.out.2.1, HZ.out.2.2.1, HZ.out.2.2.2, ← HZ1.out, ← HZ2.out, ← HZ3.out]
  exact ⟨B2, k2, R2, by rw [HM2.out], HL2.out, HY67.out.set11 HX63.out (by decide) (by decide) _ _ _ _ _ _ _ _ _ _ _, below11 HF59.out (by omega) _ _ _ _ _ _ _ _ _ _ _⟩
set_option maxHeartbeats 16000000 in
theorem range27_any (B : Option Addr) (Rs : List Rm) (k : Nat) (c : Cfg) (n : Int) (x y : Int) (w : World) (hB : RunsAt w B Rs) (hT : tot (lvs Rs) ≤ 1000000) (hl : Rs.length ≤ 1000000) (hT3 : tot (lvs Rs) ≤ 300) :
    Calls Tryz.prog 30 #[.agg (lrow c B Rs.length k n), .int .i64 x, .int .i64 y] w (GivesLn (ldC c (errL c (lvs Rs))) (rgL c (lvs Rs) x y) (rgN c (lvs Rs) n x y) (rgC c (lvs Rs) x y) (errL c (lvs Rs)) w) := by
  obtain ⟨W0, hW0⟩ : ∃ W0, (w.alloc (.cells #[.int .u8 c.tag, .int .i64 c.most, .int .i64 c.seg, .int .i64 c.least, .int .i64 c.den, .int .i64 c.leafLow, .int .i64 c.rootLow, .int .i64 c.rootHigh, .int .i64 c.leafHigh, .slice B Rs.length k, .int .u64 n] 29)).alloc (.cells #[.int .u8 0, .int .i64 0, .int .i64 0, .int .i64 0, .int .i64 0, .int .i64 0, .int .i64 0, .int .i64 0, .int .i64 0, .slice none 0 0, .int .u64 0] 29) = W0 := ⟨_, rfl⟩
  have hb0 : Below w.heap.size w W0 := by rw [← hW0]; exact ((Below.refl _ _).alloc (Nat.le_refl _) _).alloc (by simp) _
  have b0 : Blk W0 w.heap.size 29 #[.int .u8 c.tag, .int .i64 c.most, .int .i64 c.seg, .int .i64 c.least, .int .i64 c.den, .int .i64 c.leafLow, .int .i64 c.rootLow, .int .i64 c.rootHigh, .int .i64 c.leafHigh, .slice B Rs.length k, .int .u64 n] := by rw [← hW0]; exact (Blk.new _ _ _).alloc _
  have br0 : Blk W0 (w.heap.size + 1) 29 #[.int .u8 0, .int .i64 0, .int .i64 0, .int .i64 0, .int .i64 0, .int .i64 0, .int .i64 0, .int .i64 0, .int .i64 0, .slice none 0 0, .int .u64 0] := by
    rw [← hW0]
    have := Blk.new (w.alloc (.cells #[.int .u8 c.tag, .int .i64 c.most, .int .i64 c.seg, .int .i64 c.least, .int .i64 c.den, .int .i64 c.leafLow, .int .i64 c.rootLow, .int .i64 c.rootHigh, .int .i64 c.leafHigh, .slice B Rs.length k, .int .u64 n] 29)) 29 #[.int .u8 0, .int .i64 0, .int .i64 0, .int .i64 0, .int .i64 0, .int .i64 0, .int .i64 0, .int .i64 0, .int .i64 0, .slice none 0 0, .int .u64 0]
    rwa [World.size_alloc] at this
  have HW0 := Lib.hid hW0
  have HB := Lib.hid (hB.below hb0)
  have HB0 := Lib.hid hb0
  have HC0 := Lib.hid b0
  have HR0 := Lib.hid br0
  have hpa := pairs27_any B Rs k c n W0 HB.out hT hl
  obtain ⟨E, hE⟩ : ∃ E, errL c (lvs Rs) = E := ⟨_, rfl⟩
  obtain ⟨P, hP⟩ : ∃ P, prD c (lvs Rs) = P := ⟨_, rfl⟩
  have hrL : rgL c (lvs Rs) x y = if E = 0 then newL (withoutL P x y) else [] := by rw [← hE, ← hP]; rfl
  have hrN : rgN c (lvs Rs) n x y = if E = 0 then IntKind.u64.wrap (n + (withoutL P x y).length) else 0 := by rw [← hE, ← hP]; rfl
  have hrC : rgC c (lvs Rs) x y = if E = 0 then (P.length : Int) - ((withoutL P x y).length : Int) else 0 := by rw [← hE, ← hP]; rfl
  have hrE : ldC c E = if E = 0 then c else cz := rfl
  obtain ⟨Lr, hLr⟩ : ∃ z, rgL c (lvs Rs) x y = z := ⟨_, rfl⟩
  obtain ⟨Nr, hNr⟩ : ∃ z, rgN c (lvs Rs) n x y = z := ⟨_, rfl⟩
  obtain ⟨Cr, hCr⟩ : ∃ z, rgC c (lvs Rs) x y = z := ⟨_, rfl⟩
  rw [hE, hLr, hNr, hCr]
  rw [hLr] at hrL
  rw [hNr] at hrN
  rw [hCr] at hrC
  have hris := prD_ris c (lvs Rs)
  have hln := prD_len c (lvs Rs)
  have hwl := without_len P x y
  rw [hP] at hris hln
  have hwr := without_ris hris x y
  have hP3 : P.length ≤ 300 := by omega
  rw [hE, hP] at hpa
  have hwo := fun A ca W (hA : Sl W A (P.flatMap Pr.cells)) => without_any A P ca x y W hA (by omega)
  obtain ⟨M, hM⟩ : ∃ M, withoutL P x y = M := ⟨_, rfl⟩
  rw [hM] at hrL hrN hrC hwo hwl
  have han := fun A ca W (hA : Sl W A (M.flatMap Pr.cells)) => anew27_any B Rs k c n A M ca W hA (by omega)
  have HPA := Lib.hid hpa
  have HAN := Lib.hid han
  have HWO := Lib.hid hwo
  have HRL := Lib.hid hrL
  have HRN := Lib.hid hrN
  have HRC := Lib.hid hrC
  have HP3 := Lib.hid (And.intro hP3 hwl)
  clear hW0 hB hpa han hwo hrL hrN hrC hrE hM hE hP hLr hNr hCr hris hln hwl hwr hP3 hT hT3
  have q0 : W0.cell? ⟨w.heap.size, 0, none⟩ = some (.int .u8 c.tag) := b0.cell 0
  have q1 : W0.cell? ⟨w.heap.size, 1, none⟩ = some (.int .i64 c.most) := b0.cell 1
  have q2 : W0.cell? ⟨w.heap.size, 2, none⟩ = some (.int .i64 c.seg) := b0.cell 2
  have q3 : W0.cell? ⟨w.heap.size, 3, none⟩ = some (.int .i64 c.least) := b0.cell 3
  have q4 : W0.cell? ⟨w.heap.size, 4, none⟩ = some (.int .i64 c.den) := b0.cell 4
  have q5 : W0.cell? ⟨w.heap.size, 5, none⟩ = some (.int .i64 c.leafLow) := b0.cell 5
  have q6 : W0.cell? ⟨w.heap.size, 6, none⟩ = some (.int .i64 c.rootLow) := b0.cell 6
  have q7 : W0.cell? ⟨w.heap.size, 7, none⟩ = some (.int .i64 c.rootHigh) := b0.cell 7
  have q8 : W0.cell? ⟨w.heap.size, 8, none⟩ = some (.int .i64 c.leafHigh) := b0.cell 8
  have q9 : W0.cell? ⟨w.heap.size, 9, none⟩ = some (.slice B Rs.length k) := b0.cell 9
  have q10 : W0.cell? ⟨w.heap.size, 10, none⟩ = some (.int .u64 n) := b0.cell 10
  clear b0 hb0 br0
  go_enter Tryz.func30, Tryz.ntmps30
  go_upto_region 1 with fail
  rw [HW0.out]
  go_wp2_with fail
  refine (HPA.out).mono ?_
  rintro e w1 ⟨A1, c1, rfl, ho1, hb2⟩
  have HP1 := Lib.hid (own_sl ho1)
  clear ho1 q0 q1 q2 q3 q4 q5 q6 q7 q8 q9 q10
  have HF3 := Lib.hid (bext HB0.out hb2)
  have HX4 := Lib.hid (HC0.out.below hb2 HC0.out.lt)
  have HX5 := Lib.hid (HR0.out.below hb2 HR0.out.lt)
  clear HC0 HR0
  clear hb2
  have HY6 := Lib.hid (HP1.out)
  have c7 : w1.cell? ⟨(w.heap.size + 1), 0, none⟩ = some (.int .u8 0) := HX5.out.cell 0
  have c8 : w1.cell? ⟨(w.heap.size + 1), 1, none⟩ = some (.int .i64 0) := HX5.out.cell 1
  have c9 : w1.cell? ⟨(w.heap.size + 1), 2, none⟩ = some (.int .i64 0) := HX5.out.cell 2
  have c10 : w1.cell? ⟨(w.heap.size + 1), 3, none⟩ = some (.int .i64 0) := HX5.out.cell 3
  have c11 : w1.cell? ⟨(w.heap.size + 1), 4, none⟩ = some (.int .i64 0) := HX5.out.cell 4
  have c12 : w1.cell? ⟨(w.heap.size + 1), 5, none⟩ = some (.int .i64 0) := HX5.out.cell 5
  have c13 : w1.cell? ⟨(w.heap.size + 1), 6, none⟩ = some (.int .i64 0) := HX5.out.cell 6
  have c14 : w1.cell? ⟨(w.heap.size + 1), 7, none⟩ = some (.int .i64 0) := HX5.out.cell 7
  have c15 : w1.cell? ⟨(w.heap.size + 1), 8, none⟩ = some (.int .i64 0) := HX5.out.cell 8
  have c16 : w1.cell? ⟨(w.heap.size + 1), 9, none⟩ = some (.slice none 0 0) := HX5.out.cell 9
  have c17 : w1.cell? ⟨(w.heap.size + 1), 10, none⟩ = some (.int .u64 0) := HX5.out.cell 10
  have l18 : (w.heap.size + 1) < w1.heap.size := HX5.out.lt
  have fr0 := HX5.out.frozen 0
  have fr1 := HX5.out.frozen 1
  have fr2 := HX5.out.frozen 2
  have fr3 := HX5.out.frozen 3
  have fr4 := HX5.out.frozen 4
  have fr5 := HX5.out.frozen 5
  have fr6 := HX5.out.frozen 6
  have fr7 := HX5.out.frozen 7
  have fr8 := HX5.out.frozen 8
  have fr9 := HX5.out.frozen 9
  have fr10 := HX5.out.frozen 10
  by_cases hE0 : E = 0
  case neg =>
    have h1 : (E != 0) = true := by simpa using hE0
    have HZ : Hid (Lr = [] ∧ Nr = 0 ∧ Cr = 0 ∧ ldC c E = cz) := by
      show _ ∧ _
      rw [HRL.out, HRN.out, HRC.out, if_neg hE0, if_neg hE0, if_neg hE0]
      exact ⟨rfl, rfl, rfl, by unfold ldC; rw [if_neg hE0]⟩
    go_wp2_with fail
    have bz := put11 HX5.out (.int .u8 0) (.int .i64 0) (.int .i64 0) (.int .i64 0) (.int .i64 0) (.int .i64 0) (.int .i64 0) (.int .i64 0) (.int .i64 0) (.slice none 0 0) (.int .u64 0)
    have z0 := bz.cell 0
    have z1 := bz.cell 1
    have z2 := bz.cell 2
    have z3 := bz.cell 3
    have z4 := bz.cell 4
    have z5 := bz.cell 5
    have z6 := bz.cell 6
    have z7 := bz.cell 7
    have z8 := bz.cell 8
    have z9 := bz.cell 9
    have z10 := bz.cell 10
    simp only [List.getElem?_toArray, List.getElem?_cons_zero, List.getElem?_cons_succ] at z0 z1 z2 z3 z4 z5 z6 z7 z8 z9 z10
    refine bodyPost_ret (v := .tuple #[.agg #[.int .u8 0, .int .i64 0, .int .i64 0, .int .i64 0, .int .i64 0, .int .i64 0, .int .i64 0, .int .i64 0, .int .i64 0, .slice none 0 0, .int .u64 0], .int .i64 0, .int .i64 E]) (by simp [results, Tryz.results30, go_sem, z0, z1, z2, z3, z4, z5, z6, z7, z8, z9, z10]) rfl ?_
    rw [HZ.out.1, HZ.out.2.1, HZ.out.2.2.1, HZ.out.2.2.2]
    exact ⟨none, 0, [], rfl, rfl, OwnRs.nil _ _, below11 HF3.out (by omega) _ _ _ _ _ _ _ _ _ _ _⟩
  case pos =>
  have HZ : Hid (Lr = newL M ∧ Nr = IntKind.u64.wrap (n + M.length) ∧ Cr = (P.length : Int) - (M.length : Int) ∧ ldC c E = c) := by
    show _ ∧ _
    rw [HRL.out, HRN.out, HRC.out, if_pos hE0, if_pos hE0, if_pos hE0]
    exact ⟨rfl, rfl, rfl, by unfold ldC; rw [if_pos hE0]⟩
  clear HRL HRN HRC
  subst hE0
  go_wp2_with fail
  clear c7 c8 c9 c10 c11 c12 c13 c14 c15 c16 c17 l18
  clear fr0 fr1 fr2 fr3 fr4 fr5 fr6 fr7 fr8 fr9 fr10
  refine (HWO.out _ _ _ HY6.out).mono ?_
  rintro e w19 ⟨A2, c2, rfl, hf2, hb20⟩
  have HFA := Lib.hid hf2.sl
  clear hf2
  have HF21 := Lib.hid (bext HF3.out hb20)
  have HX22 := Lib.hid (HX4.out.below hb20 HX4.out.lt)
  have HX23 := Lib.hid (HX5.out.below hb20 HX5.out.lt)
  have HY24 := Lib.hid (HY6.out.below hb20)
  clear HF3 HX4 HX5 HY6
  clear hb20
  have HY25 := Lib.hid (HFA.out)
  have c26 : w19.cell? ⟨w.heap.size, 0, none⟩ = some (.int .u8 c.tag) := HX22.out.cell 0
  have c27 : w19.cell? ⟨w.heap.size, 1, none⟩ = some (.int .i64 c.most) := HX22.out.cell 1
  have c28 : w19.cell? ⟨w.heap.size, 2, none⟩ = some (.int .i64 c.seg) := HX22.out.cell 2
  have c29 : w19.cell? ⟨w.heap.size, 3, none⟩ = some (.int .i64 c.least) := HX22.out.cell 3
  have c30 : w19.cell? ⟨w.heap.size, 4, none⟩ = some (.int .i64 c.den) := HX22.out.cell 4
  have c31 : w19.cell? ⟨w.heap.size, 5, none⟩ = some (.int .i64 c.leafLow) := HX22.out.cell 5
  have c32 : w19.cell? ⟨w.heap.size, 6, none⟩ = some (.int .i64 c.rootLow) := HX22.out.cell 6
  have c33 : w19.cell? ⟨w.heap.size, 7, none⟩ = some (.int .i64 c.rootHigh) := HX22.out.cell 7
  have c34 : w19.cell? ⟨w.heap.size, 8, none⟩ = some (.int .i64 c.leafHigh) := HX22.out.cell 8
  have c35 : w19.cell? ⟨w.heap.size, 9, none⟩ = some (.slice B Rs.length k) := HX22.out.cell 9
  have c36 : w19.cell? ⟨w.heap.size, 10, none⟩ = some (.int .u64 n) := HX22.out.cell 10
  have l37 : w.heap.size < w19.heap.size := HX22.out.lt
  go_wp2_with fail
  clear c26 c27 c28 c29 c30 c31 c32 c33 c34 c35 c36 l37
  refine (HAN.out _ _ _ HY25.out).mono ?_
  rintro e w38 ⟨B2, k2, R2, rfl, hl2, ho2, hb39⟩
  have HL2 := Lib.hid hl2
  obtain ⟨M2, hM2⟩ : ∃ N, R2.length = N := ⟨_, rfl⟩
  rw [hM2]
  have HM2 := Lib.hid hM2
  have HO9 := Lib.hid (ho2.mono HF21.out.size)
  obtain ⟨an, hanq⟩ : ∃ z, IntKind.u64.wrap (n + (M.length : Int)) = z := ⟨_, rfl⟩
  rw [hanq]
  have HZ3 := Lib.hid hanq
  clear hl2 ho2 hM2 hanq
  have HF40 := Lib.hid (bext HF21.out hb39)
  have HX41 := Lib.hid (HX22.out.below hb39 HX22.out.lt)
  have HX42 := Lib.hid (HX23.out.below hb39 HX23.out.lt)
  have HY43 := Lib.hid (HY24.out.below hb39)
  have HY44 := Lib.hid (HY25.out.below hb39)
  clear HF21 HX22 HX23 HY24 HY25
  clear hb39
  have HY45 := Lib.hid (HO9.out)
  have hp3 := HP3.out
  have hw : IntKind.i64.wrap ((P.length : Int) - (M.length : Int)) = (P.length : Int) - (M.length : Int) := IntWalk.i64_in _ (by omega)
  clear hp3
  have c46 : w38.cell? ⟨(w.heap.size + 1), 0, none⟩ = some (.int .u8 0) := HX42.out.cell 0
  have c47 : w38.cell? ⟨(w.heap.size + 1), 1, none⟩ = some (.int .i64 0) := HX42.out.cell 1
  have c48 : w38.cell? ⟨(w.heap.size + 1), 2, none⟩ = some (.int .i64 0) := HX42.out.cell 2
  have c49 : w38.cell? ⟨(w.heap.size + 1), 3, none⟩ = some (.int .i64 0) := HX42.out.cell 3
  have c50 : w38.cell? ⟨(w.heap.size + 1), 4, none⟩ = some (.int .i64 0) := HX42.out.cell 4
  have c51 : w38.cell? ⟨(w.heap.size + 1), 5, none⟩ = some (.int .i64 0) := HX42.out.cell 5
  have c52 : w38.cell? ⟨(w.heap.size + 1), 6, none⟩ = some (.int .i64 0) := HX42.out.cell 6
  have c53 : w38.cell? ⟨(w.heap.size + 1), 7, none⟩ = some (.int .i64 0) := HX42.out.cell 7
  have c54 : w38.cell? ⟨(w.heap.size + 1), 8, none⟩ = some (.int .i64 0) := HX42.out.cell 8
  have c55 : w38.cell? ⟨(w.heap.size + 1), 9, none⟩ = some (.slice none 0 0) := HX42.out.cell 9
  have c56 : w38.cell? ⟨(w.heap.size + 1), 10, none⟩ = some (.int .u64 0) := HX42.out.cell 10
  have l57 : (w.heap.size + 1) < w38.heap.size := HX42.out.lt
  have fr0 := HX42.out.frozen 0
  have fr1 := HX42.out.frozen 1
  have fr2 := HX42.out.frozen 2
  have fr3 := HX42.out.frozen 3
  have fr4 := HX42.out.frozen 4
  have fr5 := HX42.out.frozen 5
  have fr6 := HX42.out.frozen 6
  have fr7 := HX42.out.frozen 7
  have fr8 := HX42.out.frozen 8
  have fr9 := HX42.out.frozen 9
  have fr10 := HX42.out.frozen 10
  go_wp2_with fail
  have bz := put11 HX42.out (.int .u8 c.tag) (.int .i64 c.most) (.int .i64 c.seg) (.int .i64 c.least) (.int .i64 c.den) (.int .i64 c.leafLow) (.int .i64 c.rootLow) (.int .i64 c.rootHigh) (.int .i64 c.leafHigh) (.slice B2 M2 k2) (.int .u64 an)
  have z0 := bz.cell 0
  have z1 := bz.cell 1
  have z2 := bz.cell 2
  have z3 := bz.cell 3
  have z4 := bz.cell 4
  have z5 := bz.cell 5
  have z6 := bz.cell 6
  have z7 := bz.cell 7
  have z8 := bz.cell 8
  have z9 := bz.cell 9
  have z10 := bz.cell 10
  simp only [List.getElem?_toArray, List.getElem?_cons_zero, List.getElem?_cons_succ] at z0 z1 z2 z3 z4 z5 z6 z7 z8 z9 z10
  refine bodyPost_ret (v := .tuple #[.agg #[.int .u8 c.tag, .int .i64 c.most, .int .i64 c.seg, .int .i64 c.least, .int .i64 c.den, .int .i64 c.leafLow, .int .i64 c.rootLow, .int .i64 c.rootHigh, .int .i64 c.leafHigh, .slice B2 M2 k2, .int .u64 an], .int .i64 ((P.length : Int) - (M.length : Int)), .int .i64 0]) (by simp [results, Tryz.results30, go_sem, z0, z1, z2, z3, z4, z5, z6, z7, z8, z9, z10]) rfl ?_
  rw [HZ.out.1, HZ.out.2.1, HZ.out.2.2.1, HZ.out.2.2.2, HZ3.out]
  exact ⟨B2, k2, R2, by rw [HM2.out], HL2.out, HY45.out.set11 HX42.out (by decide) (by decide) _ _ _ _ _ _ _ _ _ _ _, below11 HF40.out (by omega) _ _ _ _ _ _ _ _ _ _ _⟩
end Go.Proofs.YthbppblmecdekaaGreatDoor

/- Plain facts for the law LadderGets. No program in sight. -/
namespace Go.Proofs.YthbppblmecdekaaGreatDoor
open Go
theorem keys_nodup {L : Lv} (hM : May L) : ((allL L).map Ent.key).Nodup := by
  have h := allL_ris hM
  unfold RisE at h
  unfold List.Nodup
  rw [List.pairwise_map]
  exact h.imp fun h => by omega
theorem add_keys {L : Lv} {n : Int} {y : Ent} (ha : addE L y = 0) : (allL (addL L n y)).length ≤ (allL L).length + (if y.dead = true ∨ isB L y.key = true then 0 else 1) := by
  have hM := (addE_zero.1 ha).1
  have hM' := (add_may ha n).1
  have hk : ∀ k, k ≠ y.key → isB L k = isB (addL L n y) k := fun k => (adds_ok ha n k).alike
  have hn := keys_nodup hM'
  by_cases h : y.dead = true ∨ isB L y.key = true
  · rw [if_pos h]
    have := len_sub (b := (allL L).map Ent.key) hn fun x hx => by
      have hx' := (key_in hM' x).1 hx
      refine (key_in hM x).2 ?_
      by_cases hxy : x = y.key
      · subst hxy
        rcases h with h | h
        · unfold isB at hx'
          simp at hx'
          have := (adds_ok ha n y.key).went h hx'.1
          rw [this] at hx'
          exact absurd hx'.2 (by simp)
        · exact h
      · rw [hk x hxy]; exact hx'
    simpa using this
  · rw [if_neg h]
    have := len_sub (b := y.key :: (allL L).map Ent.key) hn fun x hx => by
      have hx' := (key_in hM' x).1 hx
      by_cases hxy : x = y.key
      · subst hxy; exact List.mem_cons_self
      · exact List.mem_cons_of_mem _ ((key_in hM x).2 (by rw [hk x hxy]; exact hx'))
    simpa using this
theorem isB_ve {c : Cfg} {L : Lv} {k : Int} (h : errL c L = 0) : veD c L k = 0 ↔ isB L k = true := by
  unfold veD
  rw [if_pos h]
  by_cases hb : isB L k = true
  · rw [if_pos hb]; simp [hb]
  · rw [if_neg hb]; simp [hb]
theorem ve_two {c : Cfg} {L : Lv} {k : Int} (h : errL c L = 0) : veD c L k = 0 ∨ veD c L k = 6 := by
  unfold veD
  rw [if_pos h]
  split <;> simp
theorem ve_same {c : Cfg} {L L' : Lv} {k : Int} (h : errL c L = 0) (h' : errL c L' = 0) (hb : isB L k = isB L' k) (hs : isB L k = true → gxR L k = gxR L' k) : veD c L' k = veD c L k ∧ vlD c L' k = vlD c L k := by
  unfold veD vlD
  rw [if_pos h, if_pos h', ← hb]
  refine ⟨rfl, ?_⟩
  by_cases hi : isB L k = true
  · rw [if_pos ⟨h', hi⟩, if_pos ⟨h, hi⟩, hs hi]
  · rw [if_neg (fun x => hi x.2), if_neg (fun x => hi x.2)]
structure Gets (c : Cfg) (L L' : Lv) (key other ve vl : Int) : Prop where
  err : errL c L' = 0
  e : veD c L' key = ve
  v : ve = 0 → vlD c L' key = vl
  le : tot L' ≤ 65536
  ln : L'.length ≤ 17
  same : other ≠ key → veD c L' other = veD c L other ∧ vlD c L' other = vlD c L other
theorem up_zero {e0 : Int} {L : Lv} {y : Ent} (h : upE e0 L y = 0) (n : Int) : e0 = 0 ∧ addE L y = 0 ∧ upL e0 L n y = addL L n y := by
  unfold upE at h
  by_cases h0 : e0 = 0
  · rw [if_pos h0] at h
    exact ⟨h0, h, by unfold upL; rw [if_pos h0]⟩
  · rw [if_neg h0] at h; exact absurd h h0
theorem put_gets {c : Cfg} {L : Lv} {n key val : Int} (other : Int) (he : errL c L = 0) (hg : upE (putE0 c L key) L (putY key val) = 0) : Gets c L (upL (putE0 c L key) L n (putY key val)) key other 0 val := by
  obtain ⟨h0, ha, hL⟩ := up_zero hg n
  rw [hL]
  obtain ⟨hC, hR, hm, _⟩ := errL_zero he
  rw [prR_len hR] at hm
  have hlen : ((allL (addL L n (putY key val))).length : Int) ≤ c.most := by
    have hk := add_keys (n := n) ha
    by_cases hb : isB L key = true
    · rw [if_pos (show (putY key val).dead = true ∨ isB L (putY key val).key = true from Or.inr hb)] at hk
      omega
    · rw [if_neg (show ¬ ((putY key val).dead = true ∨ isB L (putY key val).key = true) from fun h => h.elim (fun h => by cases h) hb)] at hk
      have hv : veD c L key = 6 := by
        rcases ve_two (k := key) he with h | h
        · exact absurd ((isB_ve he).1 h) hb
        · exact h
      unfold putE0 at h0
      rw [if_pos hv, prR_len hR] at h0
      by_cases hq : ((allL L).length : Int) = c.most
      · rw [if_pos hq] at h0; cases h0
      · omega
  have hE := errL_ok hC (add_may ha n).1 hlen (add_may ha n).2.1
  have hA := adds_ok ha n other
  have hd := hA.had rfl
  have hb : isB (addL L n (putY key val)) key = true := by
    unfold isB
    rw [show geR (addL L n (putY key val)) key = 0 from hd.1, show gxR (addL L n (putY key val)) key = putY key val from hd.2]
    rfl
  refine ⟨hE, (isB_ve hE).2 hb, fun _ => ?_, (add_may ha n).1.size, (add_may ha n).1.len, fun hne => ve_same he hE (hA.alike hne) (hA.same hne)⟩
  unfold vlD
  rw [if_pos ⟨hE, hb⟩, show gxR (addL L n (putY key val)) key = putY key val from hd.2]
  rfl
theorem del_gets {c : Cfg} {L : Lv} {n key : Int} (other vl : Int) (he : errL c L = 0) (hg : upE (veD c L key) L (delY key) = 0) : Gets c L (upL (veD c L key) L n (delY key)) key other 6 vl := by
  obtain ⟨h0, ha, hL⟩ := up_zero hg n
  rw [hL]
  obtain ⟨hC, hR, hm, _⟩ := errL_zero he
  rw [prR_len hR] at hm
  have hlen : ((allL (addL L n (delY key))).length : Int) ≤ c.most := by
    have hk := add_keys (n := n) ha
    rw [if_pos (show (delY key).dead = true ∨ isB L (delY key).key = true from Or.inl rfl)] at hk
    omega
  have hE := errL_ok hC (add_may ha n).1 hlen (add_may ha n).2.1
  have hA := adds_ok ha n other
  have hb : ¬ isB (addL L n (delY key)) key = true := by
    intro hb
    unfold isB at hb
    simp at hb
    have := hA.went rfl hb.1
    rw [show gxR (addL L n (delY key)) (delY key).key = gxR (addL L n (delY key)) key from rfl, hb.2] at this
    cases this
  refine ⟨hE, ?_, fun h => absurd h (by decide), (add_may ha n).1.size, (add_may ha n).1.len, fun hne => ve_same he hE (hA.alike hne) (hA.same hne)⟩
  rcases ve_two (k := key) hE with h | h
  · exact absurd ((isB_ve hE).1 h) hb
  · exact h
theorem up_add {e0 : Int} {L : Lv} {y : Ent} (hR : chkR L = 0) (ht : tot L ≤ 300) (hy : badEnt y = false) : upE e0 L y = e0 := by
  unfold upE
  by_cases h : e0 = 0
  · rw [if_pos h, h]
    exact addE_zero.2 ⟨chkR_zero.1 hR, by omega, hy⟩
  · rw [if_neg h]
theorem put_iff {c : Cfg} {L : Lv} {key val : Int} (he : errL c L = 0) (ht : tot L ≤ 300) : (upE (putE0 c L key) L (putY key val) = 0) ↔ (veD c L key = 0 ∨ ((prD c L).length : Int) < c.most) := by
  obtain ⟨hC, hR, hm, _⟩ := errL_zero he
  rw [up_add hR ht (by rfl)]
  unfold prD putE0
  rw [if_pos he]
  rcases ve_two (k := key) he with h | h
  · rw [h]; simp
  · rw [h, if_pos rfl]
    by_cases hq : ((prR L).length : Int) = c.most
    · rw [if_pos hq]; simp; omega
    · rw [if_neg hq]; simp; omega
theorem del_iff {c : Cfg} {L : Lv} {key : Int} (he : errL c L = 0) (ht : tot L ≤ 300) : upE (veD c L key) L (delY key) = veD c L key :=
  up_add (errL_zero he).2.1 ht (by rfl)
theorem errL_vals (c : Cfg) (L : Lv) : errL c L = 0 ∨ errL c L = 8 ∨ errL c L = 50 := by
  unfold errL
  rcases errC_vals c with h | h
  · rw [if_pos h]; split <;> simp
  · rw [h]; simp
theorem bad_all {c : Cfg} {L : Lv} (he : errL c L ≠ 0) (k key val : Int) : veD c L k = errL c L ∧ upE (putE0 c L key) L (putY key val) = errL c L ∧ upE (veD c L key) L (delY key) = errL c L := by
  have hv : ∀ k, veD c L k = errL c L := fun k => by unfold veD; rw [if_neg he]
  have h6 : errL c L ≠ 6 := by rcases errL_vals c L with h | h | h <;> rw [h] <;> decide
  refine ⟨hv k, ?_, ?_⟩
  · unfold upE putE0
    rw [hv key, if_neg h6, if_neg he]
  · unfold upE
    rw [hv key, if_neg he]
end Go.Proofs.YthbppblmecdekaaGreatDoor
