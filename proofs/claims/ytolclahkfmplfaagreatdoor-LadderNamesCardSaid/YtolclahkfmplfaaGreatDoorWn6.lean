/- Fn Pb0 Mg Fm: texts of the claim, in this order. -/
import Derived.Test.YtolclahkfmplfaaGreatDoorWn4
import Derived.Test.YtolclahkfmplfaaGreatDoorWg7
import Derived.Test.YtolclahkfmplfaaGreatDoorWg11
import Derived.Test.YtolclahkfmplfaaGreatDoorWn5
/- Contract: ladder.Merge. -/
namespace Go.Proofs.YtolclahkfmplfaaGreatDoor
open Go Go.RowKit
set_option maxRecDepth 100000
/-- pairs of two maps in one: the second's stand ahead -/
def mgP (a b : List Pr) : List Pr := prL (mL [laid (b.map aliveE), laid (a.map aliveE)] true)
def meE (c : Cfg) (L : Lv) (d : Cfg) (K : Lv) : Int := if errL c L = 0 then (if errL d K = 0 then anE c L (mgP (prD c L) (prD d K)) else errL d K) else errL c L
def meL (c : Cfg) (L : Lv) (d : Cfg) (K : Lv) : Lv := if errL c L = 0 then (if errL d K = 0 then anL c L (mgP (prD c L) (prD d K)) else []) else []
def meN (c : Cfg) (L : Lv) (n : Int) (d : Cfg) (K : Lv) : Int := if errL c L = 0 then (if errL d K = 0 then anN c L n (mgP (prD c L) (prD d K)) else 0) else 0
theorem alive_mE {a b : List Pr} (ha : Ris a) (hb : Ris b) (hl : a.length + b.length ≤ 65536) : mE [laid (b.map aliveE), laid (a.map aliveE)] = 0 :=
  mE_of (chkAll_zero fun r hr => by
    simp at hr
    rcases hr with rfl | rfl
    · exact build_chk (alive_build hb (by omega))
    · exact build_chk (alive_build ha (by omega))) (by simp [tot, laid_length]; omega)
set_option maxHeartbeats 16000000 in
theorem mergeD_any (B : Option Addr) (Rs : List Rm) (k : Nat) (c : Cfg) (n : Int) (d : Cfg) (D : Option Addr) (Ts : List Rm) (q : Nat) (m : Int) (w : World) (hB : RunsAt w B Rs) (hT : tot (lvs Rs) ≤ 1000000) (hl : Rs.length ≤ 1000000) (hD : RunsAt w D Ts) (hT3 : tot (lvs Rs) ≤ 300) (hK3 : tot (lvs Ts) ≤ 300) (hlT : Ts.length ≤ 1000000) :
    Calls Tryz.prog 10 #[.agg (lrow c B Rs.length k n), .agg (lrow d D Ts.length q m)] w (GivesLd (ldC c (meE c (lvs Rs) d (lvs Ts))) (meL c (lvs Rs) d (lvs Ts)) (meN c (lvs Rs) n d (lvs Ts)) (meE c (lvs Rs) d (lvs Ts)) w) := by
  obtain ⟨W0, hW0⟩ : ∃ W0, ((w.alloc (.cells #[.int .u8 c.tag, .int .i64 c.most, .int .i64 c.seg, .int .i64 c.least, .int .i64 c.den, .int .i64 c.leafLow, .int .i64 c.rootLow, .int .i64 c.rootHigh, .int .i64 c.leafHigh, .slice B Rs.length k, .int .u64 n] 29)).alloc (.cells #[.int .u8 d.tag, .int .i64 d.most, .int .i64 d.seg, .int .i64 d.least, .int .i64 d.den, .int .i64 d.leafLow, .int .i64 d.rootLow, .int .i64 d.rootHigh, .int .i64 d.leafHigh, .slice D Ts.length q, .int .u64 m] 29)).alloc (.cells #[.int .u8 0, .int .i64 0, .int .i64 0, .int .i64 0, .int .i64 0, .int .i64 0, .int .i64 0, .int .i64 0, .int .i64 0, .slice none 0 0, .int .u64 0] 29) = W0 := ⟨_, rfl⟩
  have hb0 : Below w.heap.size w W0 := by rw [← hW0]; exact (((Below.refl _ _).alloc (Nat.le_refl _) _).alloc (by simp) _).alloc (by simp; omega) _
  have b1 : Blk W0 w.heap.size 29 #[.int .u8 c.tag, .int .i64 c.most, .int .i64 c.seg, .int .i64 c.least, .int .i64 c.den, .int .i64 c.leafLow, .int .i64 c.rootLow, .int .i64 c.rootHigh, .int .i64 c.leafHigh, .slice B Rs.length k, .int .u64 n] := by rw [← hW0]; exact ((Blk.new _ _ _).alloc _).alloc _
  have b2 : Blk W0 (w.heap.size + 1) 29 #[.int .u8 d.tag, .int .i64 d.most, .int .i64 d.seg, .int .i64 d.least, .int .i64 d.den, .int .i64 d.leafLow, .int .i64 d.rootLow, .int .i64 d.rootHigh, .int .i64 d.leafHigh, .slice D Ts.length q, .int .u64 m] := by
    rw [← hW0]
    have := Blk.new (w.alloc (.cells #[.int .u8 c.tag, .int .i64 c.most, .int .i64 c.seg, .int .i64 c.least, .int .i64 c.den, .int .i64 c.leafLow, .int .i64 c.rootLow, .int .i64 c.rootHigh, .int .i64 c.leafHigh, .slice B Rs.length k, .int .u64 n] 29)) 29 #[.int .u8 d.tag, .int .i64 d.most, .int .i64 d.seg, .int .i64 d.least, .int .i64 d.den, .int .i64 d.leafLow, .int .i64 d.rootLow, .int .i64 d.rootHigh, .int .i64 d.leafHigh, .slice D Ts.length q, .int .u64 m]
    rw [World.size_alloc] at this
    exact this.alloc _
  have br0 : Blk W0 (w.heap.size + 1 + 1) 29 #[.int .u8 0, .int .i64 0, .int .i64 0, .int .i64 0, .int .i64 0, .int .i64 0, .int .i64 0, .int .i64 0, .int .i64 0, .slice none 0 0, .int .u64 0] := by
    rw [← hW0]
    have := Blk.new ((w.alloc (.cells #[.int .u8 c.tag, .int .i64 c.most, .int .i64 c.seg, .int .i64 c.least, .int .i64 c.den, .int .i64 c.leafLow, .int .i64 c.rootLow, .int .i64 c.rootHigh, .int .i64 c.leafHigh, .slice B Rs.length k, .int .u64 n] 29)).alloc (.cells #[.int .u8 d.tag, .int .i64 d.most, .int .i64 d.seg, .int .i64 d.least, .int .i64 d.den, .int .i64 d.leafLow, .int .i64 d.rootLow, .int .i64 d.rootHigh, .int .i64 d.leafHigh, .slice D Ts.length q, .int .u64 m] 29)) 29 #[.int .u8 0, .int .i64 0, .int .i64 0, .int .i64 0, .int .i64 0, .int .i64 0, .int .i64 0, .int .i64 0, .int .i64 0, .slice none 0 0, .int .u64 0]
    rwa [World.size_alloc, World.size_alloc] at this
  have HW0 := Lib.hid hW0
  have HB := Lib.hid (hB.below hb0)
  have HD := Lib.hid (hD.below hb0)
  have HB0 := Lib.hid hb0
  have HX1 := Lib.hid b1
  have HX2 := Lib.hid b2
  have HR0 := Lib.hid br0
  have hpa := fun W (hW : RunsAt W B Rs) => pairsD_any B Rs k c n W hW hT hl
  have hpb := fun W (hW : RunsAt W D Ts) => pairsD_any D Ts q d m W hW (by omega) hlT
  have ra := prD_ris c (lvs Rs)
  have rb := prD_ris d (lvs Ts)
  have la := prD_len c (lvs Rs)
  have lb := prD_len d (lvs Ts)
  obtain ⟨E, hE⟩ : ∃ x, errL c (lvs Rs) = x := ⟨_, rfl⟩
  obtain ⟨K, hK⟩ : ∃ x, errL d (lvs Ts) = x := ⟨_, rfl⟩
  have h1E : meE c (lvs Rs) d (lvs Ts) = if E = 0 then (if K = 0 then anE c (lvs Rs) (mgP (prD c (lvs Rs)) (prD d (lvs Ts))) else K) else E := by rw [← hE, ← hK]; rfl
  have h1L : meL c (lvs Rs) d (lvs Ts) = if E = 0 then (if K = 0 then anL c (lvs Rs) (mgP (prD c (lvs Rs)) (prD d (lvs Ts))) else []) else [] := by rw [← hE, ← hK]; rfl
  have h1N : meN c (lvs Rs) n d (lvs Ts) = if E = 0 then (if K = 0 then anN c (lvs Rs) n (mgP (prD c (lvs Rs)) (prD d (lvs Ts))) else 0) else 0 := by rw [← hE, ← hK]; rfl
  obtain ⟨E9, hE9⟩ : ∃ x, meE c (lvs Rs) d (lvs Ts) = x := ⟨_, rfl⟩
  obtain ⟨L9, hL9⟩ : ∃ x, meL c (lvs Rs) d (lvs Ts) = x := ⟨_, rfl⟩
  obtain ⟨N9, hN9⟩ : ∃ x, meN c (lvs Rs) n d (lvs Ts) = x := ⟨_, rfl⟩
  obtain ⟨a, ha⟩ : ∃ x, prD c (lvs Rs) = x := ⟨_, rfl⟩
  obtain ⟨b, hb⟩ : ∃ x, prD d (lvs Ts) = x := ⟨_, rfl⟩
  rw [hE9, hL9, hN9]
  rw [hE9, ha, hb] at h1E
  rw [hL9, ha, hb] at h1L
  rw [hN9, ha, hb] at h1N
  rw [hE, ha] at hpa
  rw [hK, hb] at hpb
  rw [ha] at ra la
  rw [hb] at rb lb
  have hof := fun (P : List Pr) (hr : Ris P) (hl3 : P.length ≤ 300) A ca W (hA : Sl W A (P.flatMap Pr.cells)) => (show Calls Tryz.prog 26 #[.slice A P.length ca] W (GivesRun 46 (laid (P.map aliveE)) 0 W) from by
    have h := runOf_any A P ca W hA (by omega)
    have h0 := alive_build hr (by omega)
    rw [show buildL (P.map aliveE) = laid (P.map aliveE) from by unfold buildL; rw [if_pos h0], h0] at h
    exact h)
  have hofa := hof a ra (by omega)
  have hofb := hof b rb (by omega)
  have hlla : (laid (a.map aliveE)).length ≤ 300 := by rw [laid_length, List.length_map]; omega
  have hllb : (laid (b.map aliveE)).length ≤ 300 := by rw [laid_length, List.length_map]; omega
  have hmE := alive_mE ra rb (by omega)
  have hmg : mgP a b = prL (mL [laid (b.map aliveE), laid (a.map aliveE)] true) := rfl
  obtain ⟨LA, hLA⟩ : ∃ x, laid (a.map aliveE) = x := ⟨_, rfl⟩
  obtain ⟨LB, hLB⟩ : ∃ x, laid (b.map aliveE) = x := ⟨_, rfl⟩
  rw [hLA] at hofa hlla hmE hmg
  rw [hLB] at hofb hllb hmE hmg
  have htw := fun (A B : Option Addr) (ca cb : Nat) W (hA : Sl W A (LB.flatMap Ent.cells)) (hB : Sl W B (LA.flatMap Ent.cells)) h1 h2 h3 h4 => (show Calls Tryz.prog 27 #[.agg #[.slice A LB.length ca], .agg #[.slice B LA.length cb], .bool true] W (GivesRun 46 (mL [LB, LA] true) 0 W) from by
    have h := two_any A B LB LA ca cb true W hA hB h1 h2 h3 h4 (by omega)
    rw [mrgL_m, mrgE_m] at h
    rw [show ([⟨LB, A, ca⟩, ⟨LA, B, cb⟩] : List Rm).map Rm.l = [LB, LA] from rfl, hmE] at h
    exact h)
  have hml := mL_len (rs := [LB, LA]) (T := 600) true (by simp; omega)
  obtain ⟨M, hM⟩ : ∃ x, mL [LB, LA] true = x := ⟨_, rfl⟩
  rw [hM] at htw hml hmg
  have hpr := fun A ca W (hA : Sl W A (M.flatMap Ent.cells)) => pairs_any A M ca W hA (by omega)
  have hpl : (prL M).length ≤ 600 := by
    rw [pr_lv]
    unfold lvN
    split
    · exact Nat.le_trans (live_le _) hml
    · omega
  rw [← hmg] at hpr hpl
  obtain ⟨P, hP⟩ : ∃ x, mgP a b = x := ⟨_, rfl⟩
  obtain ⟨pe, hpe⟩ : ∃ x, chkE M = x := ⟨_, rfl⟩
  rw [hP] at hpr hpl h1E h1L h1N
  rw [hpe] at hpr
  have han := fun A ca W (hW : RunsAt W B Rs) (hA : Sl W A (P.flatMap Pr.cells)) => anew_any B Rs k c n A P ca W hW hT hl hA (by omega)
  obtain ⟨ae, hae⟩ : ∃ z, anE c (lvs Rs) P = z := ⟨_, rfl⟩
  obtain ⟨al, hal⟩ : ∃ z, anL c (lvs Rs) P = z := ⟨_, rfl⟩
  obtain ⟨an, hann⟩ : ∃ z, anN c (lvs Rs) n P = z := ⟨_, rfl⟩
  rw [hae, hal, hann] at han
  rw [hae] at h1E
  rw [hal] at h1L
  rw [hann] at h1N
  obtain ⟨ac, hac⟩ : ∃ z, ldC c ae = z := ⟨_, rfl⟩
  rw [hac] at han
  have hz9 : ∀ e : Int, e ≠ 0 → ldC c e = cz := fun e h => by unfold ldC; rw [if_neg h]
  have HPA := Lib.hid hpa
  have HPB := Lib.hid hpb
  have HOA := Lib.hid hofa
  have HOB := Lib.hid hofb
  have HTW := Lib.hid htw
  have HPR := Lib.hid hpr
  have HAN := Lib.hid han
  have H1E := Lib.hid h1E
  have H1L := Lib.hid h1L
  have H1N := Lib.hid h1N
  have HAC := Lib.hid hac
  have HZ9 := Lib.hid hz9
  clear hW0 hB hD hpa hpb hof hofa hofb htw hpr han h1E h1L h1N hac hae hal hann hE9 hL9 hN9 hz9 hmg hmE hml hpl hlla hllb hLA hLB hM hP hpe ha hb hE hK ra rb la lb hT hT3 hK3
  have q0 : W0.cell? ⟨w.heap.size, 0, none⟩ = some (.int .u8 c.tag) := b1.cell 0
  have q1 : W0.cell? ⟨w.heap.size, 1, none⟩ = some (.int .i64 c.most) := b1.cell 1
  have q2 : W0.cell? ⟨w.heap.size, 2, none⟩ = some (.int .i64 c.seg) := b1.cell 2
  have q3 : W0.cell? ⟨w.heap.size, 3, none⟩ = some (.int .i64 c.least) := b1.cell 3
  have q4 : W0.cell? ⟨w.heap.size, 4, none⟩ = some (.int .i64 c.den) := b1.cell 4
  have q5 : W0.cell? ⟨w.heap.size, 5, none⟩ = some (.int .i64 c.leafLow) := b1.cell 5
  have q6 : W0.cell? ⟨w.heap.size, 6, none⟩ = some (.int .i64 c.rootLow) := b1.cell 6
  have q7 : W0.cell? ⟨w.heap.size, 7, none⟩ = some (.int .i64 c.rootHigh) := b1.cell 7
  have q8 : W0.cell? ⟨w.heap.size, 8, none⟩ = some (.int .i64 c.leafHigh) := b1.cell 8
  have q9 : W0.cell? ⟨w.heap.size, 9, none⟩ = some (.slice B Rs.length k) := b1.cell 9
  have q10 : W0.cell? ⟨w.heap.size, 10, none⟩ = some (.int .u64 n) := b1.cell 10
  clear b1 b2 hb0 br0
  go_enter Tryz.func10, Tryz.ntmps10
  go_upto_region 1 with fail
  rw [HW0.out]
  have HY1 := Lib.hid (HB.out)
  have HY2 := Lib.hid (HD.out)
  go_wp2_with fail
  refine (HPA.out _ HY1.out).mono ?_
  rintro e w3 ⟨Aa, ca, rfl, hoa, hb4⟩
  have HPa := Lib.hid (own_sl hoa)
  clear hoa q0 q1 q2 q3 q4 q5 q6 q7 q8 q9 q10
  have HF5 := Lib.hid (bext HB0.out hb4)
  have HX6 := Lib.hid (HX1.out.below hb4 HX1.out.lt)
  have HX7 := Lib.hid (HX2.out.below hb4 HX2.out.lt)
  have HX8 := Lib.hid (HR0.out.below hb4 HR0.out.lt)
  have HY9 := Lib.hid (RunsAt.below HY1.out hb4)
  have HY10 := Lib.hid (RunsAt.below HY2.out hb4)
  clear HX1 HX2 HR0 HY1 HY2
  clear hb4
  have HY11 := Lib.hid (HPa.out)
  have c12 : w3.cell? ⟨(w.heap.size + 1 + 1), 0, none⟩ = some (.int .u8 0) := HX8.out.cell 0
  have c13 : w3.cell? ⟨(w.heap.size + 1 + 1), 1, none⟩ = some (.int .i64 0) := HX8.out.cell 1
  have c14 : w3.cell? ⟨(w.heap.size + 1 + 1), 2, none⟩ = some (.int .i64 0) := HX8.out.cell 2
  have c15 : w3.cell? ⟨(w.heap.size + 1 + 1), 3, none⟩ = some (.int .i64 0) := HX8.out.cell 3
  have c16 : w3.cell? ⟨(w.heap.size + 1 + 1), 4, none⟩ = some (.int .i64 0) := HX8.out.cell 4
  have c17 : w3.cell? ⟨(w.heap.size + 1 + 1), 5, none⟩ = some (.int .i64 0) := HX8.out.cell 5
  have c18 : w3.cell? ⟨(w.heap.size + 1 + 1), 6, none⟩ = some (.int .i64 0) := HX8.out.cell 6
  have c19 : w3.cell? ⟨(w.heap.size + 1 + 1), 7, none⟩ = some (.int .i64 0) := HX8.out.cell 7
  have c20 : w3.cell? ⟨(w.heap.size + 1 + 1), 8, none⟩ = some (.int .i64 0) := HX8.out.cell 8
  have c21 : w3.cell? ⟨(w.heap.size + 1 + 1), 9, none⟩ = some (.slice none 0 0) := HX8.out.cell 9
  have c22 : w3.cell? ⟨(w.heap.size + 1 + 1), 10, none⟩ = some (.int .u64 0) := HX8.out.cell 10
  have l23 : (w.heap.size + 1 + 1) < w3.heap.size := HX8.out.lt
  have fr0 := HX8.out.frozen 0
  have fr1 := HX8.out.frozen 1
  have fr2 := HX8.out.frozen 2
  have fr3 := HX8.out.frozen 3
  have fr4 := HX8.out.frozen 4
  have fr5 := HX8.out.frozen 5
  have fr6 := HX8.out.frozen 6
  have fr7 := HX8.out.frozen 7
  have fr8 := HX8.out.frozen 8
  have fr9 := HX8.out.frozen 9
  have fr10 := HX8.out.frozen 10
  by_cases hE0 : E = 0
  case neg =>
    have h1 : (E != 0) = true := by simpa using hE0
    have HX : Hid (E9 = E ∧ L9 = [] ∧ N9 = 0) := by
      show _ ∧ _
      rw [H1E.out, H1L.out, H1N.out, if_neg hE0, if_neg hE0, if_neg hE0]
      exact ⟨rfl, rfl, rfl⟩
    go_wp2_with fail
    have bz := put11 HX8.out (.int .u8 0) (.int .i64 0) (.int .i64 0) (.int .i64 0) (.int .i64 0) (.int .i64 0) (.int .i64 0) (.int .i64 0) (.int .i64 0) (.slice none 0 0) (.int .u64 0)
    have z0 := bz.cell 0
    have z1 := bz.cell 1
    have z2 := bz.cell 2
    have z3 := bz.cell 3
    have z4 := bz.cell 4
    have z5 := bz.cell 5
    have z6 := bz.cell 6
    have z7 := bz.cell 7
    have z8 := bz.cell 8
    have z9 := bz.cell 9
    have z10 := bz.cell 10
    simp only [List.getElem?_toArray, List.getElem?_cons_zero, List.getElem?_cons_succ] at z0 z1 z2 z3 z4 z5 z6 z7 z8 z9 z10
    refine bodyPost_ret (v := .tuple #[.agg #[.int .u8 0, .int .i64 0, .int .i64 0, .int .i64 0, .int .i64 0, .int .i64 0, .int .i64 0, .int .i64 0, .int .i64 0, .slice none 0 0, .int .u64 0], .int .i64 E]) (by simp [results, Tryz.results10, go_sem, z0, z1, z2, z3, z4, z5, z6, z7, z8, z9, z10]) rfl ?_
    rw [HX.out.1, HX.out.2.1, HX.out.2.2, HZ9.out E hE0]
    exact ⟨none, 0, [], rfl, rfl, OwnRs.nil _ _, below11 HF5.out (by omega) _ _ _ _ _ _ _ _ _ _ _⟩
  case pos =>
  clear c12 c13 c14 c15 c16 c17 c18 c19 c20 c21 c22 l23
  clear fr0 fr1 fr2 fr3 fr4 fr5 fr6 fr7 fr8 fr9 fr10
  have HE0 := Lib.hid hE0
  have he1 : (E != 0) = false := by simpa using hE0
  clear hE0
  have c24 : w3.cell? ⟨(w.heap.size + 1), 0, none⟩ = some (.int .u8 d.tag) := HX7.out.cell 0
  have c25 : w3.cell? ⟨(w.heap.size + 1), 1, none⟩ = some (.int .i64 d.most) := HX7.out.cell 1
  have c26 : w3.cell? ⟨(w.heap.size + 1), 2, none⟩ = some (.int .i64 d.seg) := HX7.out.cell 2
  have c27 : w3.cell? ⟨(w.heap.size + 1), 3, none⟩ = some (.int .i64 d.least) := HX7.out.cell 3
  have c28 : w3.cell? ⟨(w.heap.size + 1), 4, none⟩ = some (.int .i64 d.den) := HX7.out.cell 4
  have c29 : w3.cell? ⟨(w.heap.size + 1), 5, none⟩ = some (.int .i64 d.leafLow) := HX7.out.cell 5
  have c30 : w3.cell? ⟨(w.heap.size + 1), 6, none⟩ = some (.int .i64 d.rootLow) := HX7.out.cell 6
  have c31 : w3.cell? ⟨(w.heap.size + 1), 7, none⟩ = some (.int .i64 d.rootHigh) := HX7.out.cell 7
  have c32 : w3.cell? ⟨(w.heap.size + 1), 8, none⟩ = some (.int .i64 d.leafHigh) := HX7.out.cell 8
  have c33 : w3.cell? ⟨(w.heap.size + 1), 9, none⟩ = some (.slice D Ts.length q) := HX7.out.cell 9
  have c34 : w3.cell? ⟨(w.heap.size + 1), 10, none⟩ = some (.int .u64 m) := HX7.out.cell 10
  have l35 : (w.heap.size + 1) < w3.heap.size := HX7.out.lt
  go_wp2_with fail
  clear c24 c25 c26 c27 c28 c29 c30 c31 c32 c33 c34 l35
  refine (HPB.out _ HY10.out).mono ?_
  rintro e w36 ⟨Ab, cb, rfl, hob, hb37⟩
  have HPb := Lib.hid (own_sl hob)
  clear hob
  have HF38 := Lib.hid (bext HF5.out hb37)
  have HX39 := Lib.hid (HX6.out.below hb37 HX6.out.lt)
  have HX40 := Lib.hid (HX7.out.below hb37 HX7.out.lt)
  have HX41 := Lib.hid (HX8.out.below hb37 HX8.out.lt)
  have HY42 := Lib.hid (RunsAt.below HY9.out hb37)
  have HY43 := Lib.hid (RunsAt.below HY10.out hb37)
  have HY44 := Lib.hid (HY11.out.below hb37)
  clear HF5 HX6 HX7 HX8 HY9 HY10 HY11
  clear hb37
  have HY45 := Lib.hid (HPb.out)
  clear he1
  have c46 : w36.cell? ⟨(w.heap.size + 1 + 1), 0, none⟩ = some (.int .u8 0) := HX41.out.cell 0
  have c47 : w36.cell? ⟨(w.heap.size + 1 + 1), 1, none⟩ = some (.int .i64 0) := HX41.out.cell 1
  have c48 : w36.cell? ⟨(w.heap.size + 1 + 1), 2, none⟩ = some (.int .i64 0) := HX41.out.cell 2
  have c49 : w36.cell? ⟨(w.heap.size + 1 + 1), 3, none⟩ = some (.int .i64 0) := HX41.out.cell 3
  have c50 : w36.cell? ⟨(w.heap.size + 1 + 1), 4, none⟩ = some (.int .i64 0) := HX41.out.cell 4
  have c51 : w36.cell? ⟨(w.heap.size + 1 + 1), 5, none⟩ = some (.int .i64 0) := HX41.out.cell 5
  have c52 : w36.cell? ⟨(w.heap.size + 1 + 1), 6, none⟩ = some (.int .i64 0) := HX41.out.cell 6
  have c53 : w36.cell? ⟨(w.heap.size + 1 + 1), 7, none⟩ = some (.int .i64 0) := HX41.out.cell 7
  have c54 : w36.cell? ⟨(w.heap.size + 1 + 1), 8, none⟩ = some (.int .i64 0) := HX41.out.cell 8
  have c55 : w36.cell? ⟨(w.heap.size + 1 + 1), 9, none⟩ = some (.slice none 0 0) := HX41.out.cell 9
  have c56 : w36.cell? ⟨(w.heap.size + 1 + 1), 10, none⟩ = some (.int .u64 0) := HX41.out.cell 10
  have l57 : (w.heap.size + 1 + 1) < w36.heap.size := HX41.out.lt
  have fr0 := HX41.out.frozen 0
  have fr1 := HX41.out.frozen 1
  have fr2 := HX41.out.frozen 2
  have fr3 := HX41.out.frozen 3
  have fr4 := HX41.out.frozen 4
  have fr5 := HX41.out.frozen 5
  have fr6 := HX41.out.frozen 6
  have fr7 := HX41.out.frozen 7
  have fr8 := HX41.out.frozen 8
  have fr9 := HX41.out.frozen 9
  have fr10 := HX41.out.frozen 10
  by_cases hK0 : K = 0
  case neg =>
    have h1 : (K != 0) = true := by simpa using hK0
    have HX : Hid (E9 = K ∧ L9 = [] ∧ N9 = 0) := by
      show _ ∧ _
      rw [H1E.out, H1L.out, H1N.out, if_pos HE0.out, if_pos HE0.out, if_pos HE0.out, if_neg hK0, if_neg hK0, if_neg hK0]
      exact ⟨rfl, rfl, rfl⟩
    go_wp2_with fail
    have bz := put11 HX41.out (.int .u8 0) (.int .i64 0) (.int .i64 0) (.int .i64 0) (.int .i64 0) (.int .i64 0) (.int .i64 0) (.int .i64 0) (.int .i64 0) (.slice none 0 0) (.int .u64 0)
    have z0 := bz.cell 0
    have z1 := bz.cell 1
    have z2 := bz.cell 2
    have z3 := bz.cell 3
    have z4 := bz.cell 4
    have z5 := bz.cell 5
    have z6 := bz.cell 6
    have z7 := bz.cell 7
    have z8 := bz.cell 8
    have z9 := bz.cell 9
    have z10 := bz.cell 10
    simp only [List.getElem?_toArray, List.getElem?_cons_zero, List.getElem?_cons_succ] at z0 z1 z2 z3 z4 z5 z6 z7 z8 z9 z10
    refine bodyPost_ret (v := .tuple #[.agg #[.int .u8 0, .int .i64 0, .int .i64 0, .int .i64 0, .int .i64 0, .int .i64 0, .int .i64 0, .int .i64 0, .int .i64 0, .slice none 0 0, .int .u64 0], .int .i64 K]) (by simp [results, Tryz.results10, go_sem, z0, z1, z2, z3, z4, z5, z6, z7, z8, z9, z10]) rfl ?_
    rw [HX.out.1, HX.out.2.1, HX.out.2.2, HZ9.out K hK0]
    exact ⟨none, 0, [], rfl, rfl, OwnRs.nil _ _, below11 HF38.out (by omega) _ _ _ _ _ _ _ _ _ _ _⟩
  case pos =>
  clear c46 c47 c48 c49 c50 c51 c52 c53 c54 c55 c56 l57
  clear fr0 fr1 fr2 fr3 fr4 fr5 fr6 fr7 fr8 fr9 fr10
  have HX : Hid (E9 = ae ∧ L9 = al ∧ N9 = an) := by
    show _ ∧ _
    rw [H1E.out, H1L.out, H1N.out, if_pos HE0.out, if_pos HE0.out, if_pos HE0.out, if_pos hK0, if_pos hK0, if_pos hK0]
    exact ⟨rfl, rfl, rfl⟩
  have he2 : (K != 0) = false := by simpa using hK0
  clear hK0 H1E H1L H1N
  go_wp2_with fail
  refine (HOA.out _ _ _ HY44.out).mono ?_
  rintro e w58 ⟨A3, c3, rfl, ho3, hb59⟩
  obtain ⟨_, _, hq3, hle3, hmx3⟩ := own_form ho3
  have HLE3 := Lib.hid (show LA.length ≤ c3 ∧ c3 ≤ maxLen by injection hq3 with _ _ h3; subst h3; exact ⟨hle3, hmx3⟩)
  have HO3 := Lib.hid (own_sl ho3)
  clear ho3 hq3 hle3 hmx3 he2
  have HF60 := Lib.hid (bext HF38.out hb59)
  have HX61 := Lib.hid (HX39.out.below hb59 HX39.out.lt)
  have HX62 := Lib.hid (HX40.out.below hb59 HX40.out.lt)
  have HX63 := Lib.hid (HX41.out.below hb59 HX41.out.lt)
  have HY64 := Lib.hid (RunsAt.below HY42.out hb59)
  have HY65 := Lib.hid (RunsAt.below HY43.out hb59)
  have HY66 := Lib.hid (HY44.out.below hb59)
  have HY67 := Lib.hid (HY45.out.below hb59)
  clear HF38 HX39 HX40 HX41 HY42 HY43 HY44 HY45
  clear hb59
  have HY68 := Lib.hid (HO3.out)
  go_upto_region 8 with fail
  obtain ⟨U69, h71⟩ : ∃ U, w58.alloc (.cells #[.slice A3 LA.length c3] 49) = U := ⟨_, rfl⟩
  have ba72 : Below w58.heap.size w58 U69 := by rw [← h71]; exact (Below.refl _ _).alloc (Nat.le_refl _) _
  have bn73 : Blk U69 w58.heap.size 49 #[.slice A3 LA.length c3] := by rw [← h71]; exact Blk.new _ _ _
  try rw [h71]
  have HF74 := Lib.hid (bext HF60.out ba72)
  have HX75 := Lib.hid (HX61.out.below ba72 HX61.out.lt)
  have HX76 := Lib.hid (HX62.out.below ba72 HX62.out.lt)
  have HX77 := Lib.hid (HX63.out.below ba72 HX63.out.lt)
  have HY78 := Lib.hid (RunsAt.below HY64.out ba72)
  have HY79 := Lib.hid (RunsAt.below HY65.out ba72)
  have HY80 := Lib.hid (HY66.out.below ba72)
  have HY81 := Lib.hid (HY67.out.below ba72)
  have HY82 := Lib.hid (HY68.out.below ba72)
  clear HF60 HX61 HX62 HX63 HY64 HY65 HY66 HY67 HY68
  obtain ⟨g70, h83⟩ : ∃ g, w58.heap.size = g := ⟨_, rfl⟩
  rw [h83] at bn73
  try rw [h83]
  have HX84 := Lib.hid bn73
  clear h71 ba72 bn73 h83
  go_wp2_with fail
  refine (HOB.out _ _ _ HY81.out).mono ?_
  rintro e w85 ⟨A4, c4, rfl, ho4, hb86⟩
  obtain ⟨_, _, hq4, hle4, hmx4⟩ := own_form ho4
  have HLE4 := Lib.hid (show LB.length ≤ c4 ∧ c4 ≤ maxLen by injection hq4 with _ _ h3; subst h3; exact ⟨hle4, hmx4⟩)
  have HO4 := Lib.hid (own_sl ho4)
  clear ho4 hq4 hle4 hmx4
  have HF87 := Lib.hid (bext HF74.out hb86)
  have HX88 := Lib.hid (HX75.out.below hb86 HX75.out.lt)
  have HX89 := Lib.hid (HX76.out.below hb86 HX76.out.lt)
  have HX90 := Lib.hid (HX77.out.below hb86 HX77.out.lt)
  have HX91 := Lib.hid (HX84.out.below hb86 HX84.out.lt)
  have HY92 := Lib.hid (RunsAt.below HY78.out hb86)
  have HY93 := Lib.hid (RunsAt.below HY79.out hb86)
  have HY94 := Lib.hid (HY80.out.below hb86)
  have HY95 := Lib.hid (HY81.out.below hb86)
  have HY96 := Lib.hid (HY82.out.below hb86)
  clear HF74 HX75 HX76 HX77 HX84 HY78 HY79 HY80 HY81 HY82
  clear hb86
  have HY97 := Lib.hid (HO4.out)
  go_upto_region 9 with fail
  obtain ⟨U98, h100⟩ : ∃ U, w85.alloc (.cells #[.slice A4 LB.length c4] 49) = U := ⟨_, rfl⟩
  have ba101 : Below w85.heap.size w85 U98 := by rw [← h100]; exact (Below.refl _ _).alloc (Nat.le_refl _) _
  have bn102 : Blk U98 w85.heap.size 49 #[.slice A4 LB.length c4] := by rw [← h100]; exact Blk.new _ _ _
  try rw [h100]
  have HF103 := Lib.hid (bext HF87.out ba101)
  have HX104 := Lib.hid (HX88.out.below ba101 HX88.out.lt)
  have HX105 := Lib.hid (HX89.out.below ba101 HX89.out.lt)
  have HX106 := Lib.hid (HX90.out.below ba101 HX90.out.lt)
  have HX107 := Lib.hid (HX91.out.below ba101 HX91.out.lt)
  have HY108 := Lib.hid (RunsAt.below HY92.out ba101)
  have HY109 := Lib.hid (RunsAt.below HY93.out ba101)
  have HY110 := Lib.hid (HY94.out.below ba101)
  have HY111 := Lib.hid (HY95.out.below ba101)
  have HY112 := Lib.hid (HY96.out.below ba101)
  have HY113 := Lib.hid (HY97.out.below ba101)
  clear HF87 HX88 HX89 HX90 HX91 HY92 HY93 HY94 HY95 HY96 HY97
  obtain ⟨g99, h114⟩ : ∃ g, w85.heap.size = g := ⟨_, rfl⟩
  rw [h114] at bn102
  try rw [h114]
  have HX115 := Lib.hid bn102
  clear h100 ba101 bn102 h114
  have c116 : U98.cell? ⟨g99, 0, none⟩ = some (.slice A4 LB.length c4) := HX115.out.cell 0
  have l117 : g99 < U98.heap.size := HX115.out.lt
  have c118 : U98.cell? ⟨g70, 0, none⟩ = some (.slice A3 LA.length c3) := HX107.out.cell 0
  have l119 : g70 < U98.heap.size := HX107.out.lt
  go_wp2_with fail
  clear c116 l117 c118 l119
  refine (HTW.out _ _ _ _ _ HY113.out HY112.out HLE4.out.1 HLE3.out.1 HLE4.out.2 HLE3.out.2).mono ?_
  rintro e w120 ⟨A5, c5, rfl, ho5, hb121⟩
  have HO5 := Lib.hid (own_sl ho5)
  clear ho5
  have HF122 := Lib.hid (bext HF103.out hb121)
  have HX123 := Lib.hid (HX104.out.below hb121 HX104.out.lt)
  have HX124 := Lib.hid (HX105.out.below hb121 HX105.out.lt)
  have HX125 := Lib.hid (HX106.out.below hb121 HX106.out.lt)
  have HX126 := Lib.hid (HX107.out.below hb121 HX107.out.lt)
  have HX127 := Lib.hid (HX115.out.below hb121 HX115.out.lt)
  have HY128 := Lib.hid (RunsAt.below HY108.out hb121)
  have HY129 := Lib.hid (RunsAt.below HY109.out hb121)
  have HY130 := Lib.hid (HY110.out.below hb121)
  have HY131 := Lib.hid (HY111.out.below hb121)
  have HY132 := Lib.hid (HY112.out.below hb121)
  have HY133 := Lib.hid (HY113.out.below hb121)
  clear HF103 HX104 HX105 HX106 HX107 HX115 HY108 HY109 HY110 HY111 HY112 HY113
  clear hb121
  have HY134 := Lib.hid (HO5.out)
  go_upto_region 10 with fail
  obtain ⟨U135, h137⟩ : ∃ U, w120.alloc (.cells #[.slice A5 M.length c5] 49) = U := ⟨_, rfl⟩
  have ba138 : Below w120.heap.size w120 U135 := by rw [← h137]; exact (Below.refl _ _).alloc (Nat.le_refl _) _
  have bn139 : Blk U135 w120.heap.size 49 #[.slice A5 M.length c5] := by rw [← h137]; exact Blk.new _ _ _
  try rw [h137]
  have HF140 := Lib.hid (bext HF122.out ba138)
  have HX141 := Lib.hid (HX123.out.below ba138 HX123.out.lt)
  have HX142 := Lib.hid (HX124.out.below ba138 HX124.out.lt)
  have HX143 := Lib.hid (HX125.out.below ba138 HX125.out.lt)
  have HX144 := Lib.hid (HX126.out.below ba138 HX126.out.lt)
  have HX145 := Lib.hid (HX127.out.below ba138 HX127.out.lt)
  have HY146 := Lib.hid (RunsAt.below HY128.out ba138)
  have HY147 := Lib.hid (RunsAt.below HY129.out ba138)
  have HY148 := Lib.hid (HY130.out.below ba138)
  have HY149 := Lib.hid (HY131.out.below ba138)
  have HY150 := Lib.hid (HY132.out.below ba138)
  have HY151 := Lib.hid (HY133.out.below ba138)
  have HY152 := Lib.hid (HY134.out.below ba138)
  clear HF122 HX123 HX124 HX125 HX126 HX127 HY128 HY129 HY130 HY131 HY132 HY133 HY134
  obtain ⟨g136, h153⟩ : ∃ g, w120.heap.size = g := ⟨_, rfl⟩
  rw [h153] at bn139
  try rw [h153]
  have HX154 := Lib.hid bn139
  clear h137 ba138 bn139 h153
  have c155 : U135.cell? ⟨g136, 0, none⟩ = some (.slice A5 M.length c5) := HX154.out.cell 0
  have l156 : g136 < U135.heap.size := HX154.out.lt
  go_wp2_with fail
  clear c155 l156
  refine (HPR.out _ _ _ HY152.out).mono ?_
  rintro e w157 ⟨A6, c6, rfl, ho6, hb158⟩
  have HO6 := Lib.hid (own_sl ho6)
  clear ho6
  have HF159 := Lib.hid (bext HF140.out hb158)
  have HX160 := Lib.hid (HX141.out.below hb158 HX141.out.lt)
  have HX161 := Lib.hid (HX142.out.below hb158 HX142.out.lt)
  have HX162 := Lib.hid (HX143.out.below hb158 HX143.out.lt)
  have HX163 := Lib.hid (HX144.out.below hb158 HX144.out.lt)
  have HX164 := Lib.hid (HX145.out.below hb158 HX145.out.lt)
  have HX165 := Lib.hid (HX154.out.below hb158 HX154.out.lt)
  have HY166 := Lib.hid (RunsAt.below HY146.out hb158)
  have HY167 := Lib.hid (RunsAt.below HY147.out hb158)
  have HY168 := Lib.hid (HY148.out.below hb158)
  have HY169 := Lib.hid (HY149.out.below hb158)
  have HY170 := Lib.hid (HY150.out.below hb158)
  have HY171 := Lib.hid (HY151.out.below hb158)
  have HY172 := Lib.hid (HY152.out.below hb158)
  clear HF140 HX141 HX142 HX143 HX144 HX145 HX154 HY146 HY147 HY148 HY149 HY150 HY151 HY152
  clear hb158
  have HY173 := Lib.hid (HO6.out)
  have c174 : w157.cell? ⟨w.heap.size, 0, none⟩ = some (.int .u8 c.tag) := HX160.out.cell 0
  have c175 : w157.cell? ⟨w.heap.size, 1, none⟩ = some (.int .i64 c.most) := HX160.out.cell 1
  have c176 : w157.cell? ⟨w.heap.size, 2, none⟩ = some (.int .i64 c.seg) := HX160.out.cell 2
  have c177 : w157.cell? ⟨w.heap.size, 3, none⟩ = some (.int .i64 c.least) := HX160.out.cell 3
  have c178 : w157.cell? ⟨w.heap.size, 4, none⟩ = some (.int .i64 c.den) := HX160.out.cell 4
  have c179 : w157.cell? ⟨w.heap.size, 5, none⟩ = some (.int .i64 c.leafLow) := HX160.out.cell 5
  have c180 : w157.cell? ⟨w.heap.size, 6, none⟩ = some (.int .i64 c.rootLow) := HX160.out.cell 6
  have c181 : w157.cell? ⟨w.heap.size, 7, none⟩ = some (.int .i64 c.rootHigh) := HX160.out.cell 7
  have c182 : w157.cell? ⟨w.heap.size, 8, none⟩ = some (.int .i64 c.leafHigh) := HX160.out.cell 8
  have c183 : w157.cell? ⟨w.heap.size, 9, none⟩ = some (.slice B Rs.length k) := HX160.out.cell 9
  have c184 : w157.cell? ⟨w.heap.size, 10, none⟩ = some (.int .u64 n) := HX160.out.cell 10
  have l185 : w.heap.size < w157.heap.size := HX160.out.lt
  go_wp2_with fail
  clear c174 c175 c176 c177 c178 c179 c180 c181 c182 c183 c184 l185
  refine (HAN.out _ _ _ HY166.out HY173.out).mono ?_
  rintro e w186 ⟨B2, k2, R2, rfl, hl2, ho2, hb187⟩
  have HL2 := Lib.hid hl2
  have HO9 := Lib.hid (ho2.mono HF159.out.size)
  clear hl2 ho2
  have HF188 := Lib.hid (bext HF159.out hb187)
  have HX189 := Lib.hid (HX160.out.below hb187 HX160.out.lt)
  have HX190 := Lib.hid (HX161.out.below hb187 HX161.out.lt)
  have HX191 := Lib.hid (HX162.out.below hb187 HX162.out.lt)
  have HX192 := Lib.hid (HX163.out.below hb187 HX163.out.lt)
  have HX193 := Lib.hid (HX164.out.below hb187 HX164.out.lt)
  have HX194 := Lib.hid (HX165.out.below hb187 HX165.out.lt)
  have HY195 := Lib.hid (RunsAt.below HY166.out hb187)
  have HY196 := Lib.hid (RunsAt.below HY167.out hb187)
  have HY197 := Lib.hid (HY168.out.below hb187)
  have HY198 := Lib.hid (HY169.out.below hb187)
  have HY199 := Lib.hid (HY170.out.below hb187)
  have HY200 := Lib.hid (HY171.out.below hb187)
  have HY201 := Lib.hid (HY172.out.below hb187)
  have HY202 := Lib.hid (HY173.out.below hb187)
  clear HF159 HX160 HX161 HX162 HX163 HX164 HX165 HY166 HY167 HY168 HY169 HY170 HY171 HY172 HY173
  clear hb187
  have HY203 := Lib.hid (HO9.out)
  have c204 : w186.cell? ⟨(w.heap.size + 1 + 1), 0, none⟩ = some (.int .u8 0) := HX191.out.cell 0
  have c205 : w186.cell? ⟨(w.heap.size + 1 + 1), 1, none⟩ = some (.int .i64 0) := HX191.out.cell 1
  have c206 : w186.cell? ⟨(w.heap.size + 1 + 1), 2, none⟩ = some (.int .i64 0) := HX191.out.cell 2
  have c207 : w186.cell? ⟨(w.heap.size + 1 + 1), 3, none⟩ = some (.int .i64 0) := HX191.out.cell 3
  have c208 : w186.cell? ⟨(w.heap.size + 1 + 1), 4, none⟩ = some (.int .i64 0) := HX191.out.cell 4
  have c209 : w186.cell? ⟨(w.heap.size + 1 + 1), 5, none⟩ = some (.int .i64 0) := HX191.out.cell 5
  have c210 : w186.cell? ⟨(w.heap.size + 1 + 1), 6, none⟩ = some (.int .i64 0) := HX191.out.cell 6
  have c211 : w186.cell? ⟨(w.heap.size + 1 + 1), 7, none⟩ = some (.int .i64 0) := HX191.out.cell 7
  have c212 : w186.cell? ⟨(w.heap.size + 1 + 1), 8, none⟩ = some (.int .i64 0) := HX191.out.cell 8
  have c213 : w186.cell? ⟨(w.heap.size + 1 + 1), 9, none⟩ = some (.slice none 0 0) := HX191.out.cell 9
  have c214 : w186.cell? ⟨(w.heap.size + 1 + 1), 10, none⟩ = some (.int .u64 0) := HX191.out.cell 10
  have l215 : (w.heap.size + 1 + 1) < w186.heap.size := HX191.out.lt
  have fr0 := HX191.out.frozen 0
  have fr1 := HX191.out.frozen 1
  have fr2 := HX191.out.frozen 2
  have fr3 := HX191.out.frozen 3
  have fr4 := HX191.out.frozen 4
  have fr5 := HX191.out.frozen 5
  have fr6 := HX191.out.frozen 6
  have fr7 := HX191.out.frozen 7
  have fr8 := HX191.out.frozen 8
  have fr9 := HX191.out.frozen 9
  have fr10 := HX191.out.frozen 10
  go_wp2_with fail
  have bz := put11 HX191.out (.int .u8 ac.tag) (.int .i64 ac.most) (.int .i64 ac.seg) (.int .i64 ac.least) (.int .i64 ac.den) (.int .i64 ac.leafLow) (.int .i64 ac.rootLow) (.int .i64 ac.rootHigh) (.int .i64 ac.leafHigh) (.slice B2 R2.length k2) (.int .u64 an)
  have z0 := bz.cell 0
  have z1 := bz.cell 1
  have z2 := bz.cell 2
  have z3 := bz.cell 3
  have z4 := bz.cell 4
  have z5 := bz.cell 5
  have z6 := bz.cell 6
  have z7 := bz.cell 7
  have z8 := bz.cell 8
  have z9 := bz.cell 9
  have z10 := bz.cell 10
  simp only [List.getElem?_toArray, List.getElem?_cons_zero, List.getElem?_cons_succ] at z0 z1 z2 z3 z4 z5 z6 z7 z8 z9 z10
  refine bodyPost_ret (v := .tuple #[.agg #[.int .u8 ac.tag, .int .i64 ac.most, .int .i64 ac.seg, .int .i64 ac.least, .int .i64 ac.den, .int .i64 ac.leafLow, .int .i64 ac.rootLow, .int .i64 ac.rootHigh, .int .i64 ac.leafHigh, .slice B2 R2.length k2, .int .u64 an], .int .i64 ae]) (by simp [results, Tryz.results10, go_sem, z0, z1, z2, z3, z4, z5, z6, z7, z8, z9, z10]) rfl ?_
  rw [HX.out.1, HX.out.2.1, HX.out.2.2, HAC.out]
  exact ⟨B2, k2, R2, rfl, HL2.out, HY203.out.set11 HX191.out (by decide) (by decide) _ _ _ _ _ _ _ _ _ _ _, below11 HF188.out (by omega) _ _ _ _ _ _ _ _ _ _ _⟩
end Go.Proofs.YtolclahkfmplfaaGreatDoor

/- Plain: two rising lists in one. No program in sight. -/
namespace Go.Proofs.YtolclahkfmplfaaGreatDoor
open Go Go.RowKit
/-- two lists, the second one's where both have a key -/
def bothL : List Pr → List Pr → List Pr
  | [], b => b
  | x :: a, [] => x :: bothL a []
  | x :: a, y :: b => if x.key < y.key then x :: bothL a (y :: b) else if x.key = y.key then y :: bothL a b else y :: bothL (x :: a) b
termination_by a b => a.length + b.length

theorem both_nil : ∀ (a : List Pr), bothL a [] = a
  | [] => by rw [bothL]
  | x :: a => by rw [bothL, both_nil a]
end Go.Proofs.YtolclahkfmplfaaGreatDoor

/- Plain: two maps' pairs in one are both lists' (the second's where both have a key). No program in sight. -/
namespace Go.Proofs.YtolclahkfmplfaaGreatDoor
open Go
theorem both_alive : ∀ (n : Nat) (a b : List Pr), a.length + b.length ≤ n → bothE (b.map aliveE) (a.map aliveE) = (bothL a b).map aliveE := by
  intro n
  induction n with
  | zero =>
    intro a b h
    cases a <;> cases b <;> simp at h
    simp [bothE, bothL]
  | succ n ih =>
    intro a b h
    match a, b with
    | [], [] => simp [bothE, bothL]
    | [], y :: b => rw [bothL]; simp [bothE]
    | x :: a, [] => rw [both_nil]; simp [bothE]
    | x :: a, y :: b =>
      have k1 : (aliveE x).key = x.key := rfl
      have k2 : (aliveE y).key = y.key := rfl
      simp only [List.length_cons] at h
      rw [bothL, List.map_cons, List.map_cons, bothE, k1, k2]
      by_cases c1 : x.key < y.key
      · rw [if_pos c1, if_neg (by omega), if_neg (by omega), List.map_cons]
        rw [← ih a (y :: b) (by simp; omega)]
        rfl
      · rw [if_neg c1]
        by_cases c2 : x.key = y.key
        · rw [if_pos c2, if_neg (by omega), if_pos c2.symm, List.map_cons, ih a b (by omega)]
        · rw [if_neg c2, if_pos (by omega), List.map_cons]
          rw [← ih (x :: a) b (by simp; omega)]
          rfl
theorem live_alive (l : List Pr) : liveE (l.map aliveE) = l.map aliveE := by
  unfold liveE
  refine List.filter_eq_self.2 fun e he => ?_
  obtain ⟨p, _, rfl⟩ := List.mem_map.1 he
  rfl
theorem mg_both {a b : List Pr} (ha : Ris a) (hb : Ris b) (hl : a.length + b.length ≤ 65536) : mgP a b = bothL a b := by
  have hm := alive_mE ha hb hl
  have hc := mL_chk true hm
  have hM : mL [laid (b.map aliveE), laid (a.map aliveE)] true = laid ((bothL a b).map aliveE) := by
    unfold mL
    rw [if_pos hm, List.map_cons, List.map_cons, List.map_nil, in_laid, in_laid, all_two, both_alive _ a b (Nat.le_refl _)]
    unfold bareE
    rw [if_pos rfl, live_alive]
  unfold mgP prL
  rw [if_pos hc, hM, in_laid, plain_alive']
end Go.Proofs.YtolclahkfmplfaaGreatDoor

/- Contract: ladder.Load. -/
namespace Go.Proofs.YtolclahkfmplfaaGreatDoor
open Go Go.RowKit
set_option maxRecDepth 100000
def loE (c : Cfg) (L : Lv) (l : List Pr) : Int := if errL c L = 0 then (if Ris l then anE c L l else 130) else errL c L
def loL (c : Cfg) (L : Lv) (l : List Pr) : Lv := if errL c L = 0 then (if Ris l then anL c L l else []) else []
def loN (c : Cfg) (L : Lv) (n : Int) (l : List Pr) : Int := if errL c L = 0 then (if Ris l then anN c L n l else 0) else 0
set_option maxHeartbeats 16000000 in
theorem loadD_any (B : Option Addr) (Rs : List Rm) (k : Nat) (c : Cfg) (n : Int) (A : Option Addr) (l : List Pr) (ca : Nat) (w : World) (hB : RunsAt w B Rs) (hT : tot (lvs Rs) ≤ 1000000) (hl : Rs.length ≤ 1000000) (hA : Sl w A (l.flatMap Pr.cells)) (hl6 : l.length ≤ 65536) :
    Calls Tryz.prog 9 #[.agg (lrow c B Rs.length k n), .slice A l.length ca] w (GivesLd (ldC c (loE c (lvs Rs) l)) (loL c (lvs Rs) l) (loN c (lvs Rs) n l) (loE c (lvs Rs) l) w) := by
  obtain ⟨W0, hW0⟩ : ∃ W0, (w.alloc (.cells #[.int .u8 c.tag, .int .i64 c.most, .int .i64 c.seg, .int .i64 c.least, .int .i64 c.den, .int .i64 c.leafLow, .int .i64 c.rootLow, .int .i64 c.rootHigh, .int .i64 c.leafHigh, .slice B Rs.length k, .int .u64 n] 29)).alloc (.cells #[.int .u8 0, .int .i64 0, .int .i64 0, .int .i64 0, .int .i64 0, .int .i64 0, .int .i64 0, .int .i64 0, .int .i64 0, .slice none 0 0, .int .u64 0] 29) = W0 := ⟨_, rfl⟩
  have hb0 : Below w.heap.size w W0 := by rw [← hW0]; exact ((Below.refl _ _).alloc (Nat.le_refl _) _).alloc (by simp) _
  have b0 : Blk W0 w.heap.size 29 #[.int .u8 c.tag, .int .i64 c.most, .int .i64 c.seg, .int .i64 c.least, .int .i64 c.den, .int .i64 c.leafLow, .int .i64 c.rootLow, .int .i64 c.rootHigh, .int .i64 c.leafHigh, .slice B Rs.length k, .int .u64 n] := by rw [← hW0]; exact (Blk.new _ _ _).alloc _
  have br0 : Blk W0 (w.heap.size + 1) 29 #[.int .u8 0, .int .i64 0, .int .i64 0, .int .i64 0, .int .i64 0, .int .i64 0, .int .i64 0, .int .i64 0, .int .i64 0, .slice none 0 0, .int .u64 0] := by
    rw [← hW0]
    have := Blk.new (w.alloc (.cells #[.int .u8 c.tag, .int .i64 c.most, .int .i64 c.seg, .int .i64 c.least, .int .i64 c.den, .int .i64 c.leafLow, .int .i64 c.rootLow, .int .i64 c.rootHigh, .int .i64 c.leafHigh, .slice B Rs.length k, .int .u64 n] 29)) 29 #[.int .u8 0, .int .i64 0, .int .i64 0, .int .i64 0, .int .i64 0, .int .i64 0, .int .i64 0, .int .i64 0, .int .i64 0, .slice none 0 0, .int .u64 0]
    rwa [World.size_alloc] at this
  have HW0 := Lib.hid hW0
  have HB := Lib.hid (hB.below hb0)
  have HB0 := Lib.hid hb0
  have HC0 := Lib.hid b0
  have HR0 := Lib.hid br0
  have hck := checkD_any B Rs k c n W0 HB.out hT hl
  have han := fun W (hW : Below w.heap.size w W) => anew_any B Rs k c n A l ca W (hB.below hW) hT hl (hA.below hW) hl6
  obtain ⟨V, hV⟩ : ∃ x, errL c (lvs Rs) = x := ⟨_, rfl⟩
  have hE : loE c (lvs Rs) l = if V = 0 then (if Ris l then anE c (lvs Rs) l else 130) else V := by rw [← hV]; rfl
  have hL : loL c (lvs Rs) l = if V = 0 then (if Ris l then anL c (lvs Rs) l else []) else [] := by rw [← hV]; rfl
  have hN : loN c (lvs Rs) n l = if V = 0 then (if Ris l then anN c (lvs Rs) n l else 0) else 0 := by rw [← hV]; rfl
  obtain ⟨E9, hE9⟩ : ∃ x, loE c (lvs Rs) l = x := ⟨_, rfl⟩
  obtain ⟨L9, hL9⟩ : ∃ x, loL c (lvs Rs) l = x := ⟨_, rfl⟩
  obtain ⟨N9, hN9⟩ : ∃ x, loN c (lvs Rs) n l = x := ⟨_, rfl⟩
  rw [hE9] at hE
  rw [hL9] at hL
  rw [hN9] at hN
  rw [hE9, hL9, hN9]
  rw [hV] at hck
  obtain ⟨ae, hae⟩ : ∃ z, anE c (lvs Rs) l = z := ⟨_, rfl⟩
  obtain ⟨al, hal⟩ : ∃ z, anL c (lvs Rs) l = z := ⟨_, rfl⟩
  obtain ⟨an, hann⟩ : ∃ z, anN c (lvs Rs) n l = z := ⟨_, rfl⟩
  rw [hae, hal, hann] at han
  rw [hae] at hE
  rw [hal] at hL
  rw [hann] at hN
  obtain ⟨ac, hac⟩ : ∃ z, ldC c ae = z := ⟨_, rfl⟩
  rw [hac] at han
  have hz9 : ∀ e : Int, e ≠ 0 → ldC c e = cz := fun e h => by unfold ldC; rw [if_neg h]
  have HCK := Lib.hid hck
  have HAN := Lib.hid han
  have HE := Lib.hid hE
  have HL := Lib.hid hL
  have HN := Lib.hid hN
  have HAC := Lib.hid hac
  have HZ9 := Lib.hid hz9
  have HA := Lib.hid hA
  clear hW0 hB hck han hE hL hN hac hae hal hann hE9 hL9 hN9 hV hz9 hA hT
  have q0 : W0.cell? ⟨w.heap.size, 0, none⟩ = some (.int .u8 c.tag) := b0.cell 0
  have q1 : W0.cell? ⟨w.heap.size, 1, none⟩ = some (.int .i64 c.most) := b0.cell 1
  have q2 : W0.cell? ⟨w.heap.size, 2, none⟩ = some (.int .i64 c.seg) := b0.cell 2
  have q3 : W0.cell? ⟨w.heap.size, 3, none⟩ = some (.int .i64 c.least) := b0.cell 3
  have q4 : W0.cell? ⟨w.heap.size, 4, none⟩ = some (.int .i64 c.den) := b0.cell 4
  have q5 : W0.cell? ⟨w.heap.size, 5, none⟩ = some (.int .i64 c.leafLow) := b0.cell 5
  have q6 : W0.cell? ⟨w.heap.size, 6, none⟩ = some (.int .i64 c.rootLow) := b0.cell 6
  have q7 : W0.cell? ⟨w.heap.size, 7, none⟩ = some (.int .i64 c.rootHigh) := b0.cell 7
  have q8 : W0.cell? ⟨w.heap.size, 8, none⟩ = some (.int .i64 c.leafHigh) := b0.cell 8
  have q9 : W0.cell? ⟨w.heap.size, 9, none⟩ = some (.slice B Rs.length k) := b0.cell 9
  have q10 : W0.cell? ⟨w.heap.size, 10, none⟩ = some (.int .u64 n) := b0.cell 10
  clear b0 hb0 br0
  go_enter Tryz.func9, Tryz.ntmps9
  go_upto_region 1 with fail
  rw [HW0.out]
  go_wp2_with fail
  refine HCK.out.mono ?_
  rintro e w1 ⟨rfl, hb1⟩
  have HF1 := Lib.hid (bext HB0.out hb1)
  have HC1 := Lib.hid (HC0.out.below hb1 HC0.out.lt)
  have HR1 := Lib.hid (HR0.out.below hb1 HR0.out.lt)
  clear hb1 q0 q1 q2 q3 q4 q5 q6 q7 q8 q9 q10
  by_cases hV0 : V = 0
  case neg =>
    have h1 : (V != 0) = true := by simpa using hV0
    have HX : Hid (E9 = V ∧ L9 = [] ∧ N9 = 0) := by
      show _ ∧ _
      rw [HE.out, HL.out, HN.out, if_neg hV0, if_neg hV0, if_neg hV0]
      exact ⟨rfl, rfl, rfl⟩
    have br1 := HR1.out
    have y0 : w1.cell? ⟨(w.heap.size + 1), 0, none⟩ = some (.int .u8 0) := br1.cell 0
    have y1 : w1.cell? ⟨(w.heap.size + 1), 1, none⟩ = some (.int .i64 0) := br1.cell 1
    have y2 : w1.cell? ⟨(w.heap.size + 1), 2, none⟩ = some (.int .i64 0) := br1.cell 2
    have y3 : w1.cell? ⟨(w.heap.size + 1), 3, none⟩ = some (.int .i64 0) := br1.cell 3
    have y4 : w1.cell? ⟨(w.heap.size + 1), 4, none⟩ = some (.int .i64 0) := br1.cell 4
    have y5 : w1.cell? ⟨(w.heap.size + 1), 5, none⟩ = some (.int .i64 0) := br1.cell 5
    have y6 : w1.cell? ⟨(w.heap.size + 1), 6, none⟩ = some (.int .i64 0) := br1.cell 6
    have y7 : w1.cell? ⟨(w.heap.size + 1), 7, none⟩ = some (.int .i64 0) := br1.cell 7
    have y8 : w1.cell? ⟨(w.heap.size + 1), 8, none⟩ = some (.int .i64 0) := br1.cell 8
    have y9 : w1.cell? ⟨(w.heap.size + 1), 9, none⟩ = some (.slice none 0 0) := br1.cell 9
    have y10 : w1.cell? ⟨(w.heap.size + 1), 10, none⟩ = some (.int .u64 0) := br1.cell 10
    have fr0 := br1.frozen 0
    have fr1 := br1.frozen 1
    have fr2 := br1.frozen 2
    have fr3 := br1.frozen 3
    have fr4 := br1.frozen 4
    have fr5 := br1.frozen 5
    have fr6 := br1.frozen 6
    have fr7 := br1.frozen 7
    have fr8 := br1.frozen 8
    have fr9 := br1.frozen 9
    have fr10 := br1.frozen 10
    have l2 := br1.lt
    clear br1
    go_wp2_with fail
    have bz := put11 HR1.out (.int .u8 0) (.int .i64 0) (.int .i64 0) (.int .i64 0) (.int .i64 0) (.int .i64 0) (.int .i64 0) (.int .i64 0) (.int .i64 0) (.slice none 0 0) (.int .u64 0)
    have z0 := bz.cell 0
    have z1 := bz.cell 1
    have z2 := bz.cell 2
    have z3 := bz.cell 3
    have z4 := bz.cell 4
    have z5 := bz.cell 5
    have z6 := bz.cell 6
    have z7 := bz.cell 7
    have z8 := bz.cell 8
    have z9 := bz.cell 9
    have z10 := bz.cell 10
    simp only [List.getElem?_toArray, List.getElem?_cons_zero, List.getElem?_cons_succ] at z0 z1 z2 z3 z4 z5 z6 z7 z8 z9 z10
    refine bodyPost_ret (v := .tuple #[.agg #[.int .u8 0, .int .i64 0, .int .i64 0, .int .i64 0, .int .i64 0, .int .i64 0, .int .i64 0, .int .i64 0, .int .i64 0, .slice none 0 0, .int .u64 0], .int .i64 V]) (by simp [results, Tryz.results9, go_sem, z0, z1, z2, z3, z4, z5, z6, z7, z8, z9, z10]) rfl ?_
    rw [HX.out.1, HX.out.2.1, HX.out.2.2, HZ9.out V hV0]
    exact ⟨none, 0, [], rfl, rfl, OwnRs.nil _ _, below11 HF1.out (Nat.le_succ _) _ _ _ _ _ _ _ _ _ _ _⟩
  case pos =>
  have HXY : Hid (Ris l → E9 = ae ∧ L9 = al ∧ N9 = an) := by
    show _ → _
    intro h
    rw [HE.out, HL.out, HN.out, if_pos hV0, if_pos hV0, if_pos hV0, if_pos h, if_pos h, if_pos h]
    exact ⟨rfl, rfl, rfl⟩
  have HXN : Hid (¬ Ris l → E9 = 130 ∧ L9 = [] ∧ N9 = 0) := by
    show _ → _
    intro h
    rw [HE.out, HL.out, HN.out, if_pos hV0, if_pos hV0, if_pos hV0, if_neg h, if_neg h, if_neg h]
    exact ⟨rfl, rfl, rfl⟩
  clear HE HL HN
  subst hV0
  go_wp2_with fail
  go_loopw [7] (fun i wr => ∃ k : Nat, 1 ≤ k ∧ i = .int .i64 k ∧ Below w1.heap.size w1 wr ∧ Hid (RiseTo (l.map Pr.key) k)) (fun i _ => l.length - (intOf i).toNat)
  case atStart => exact ⟨1, Nat.le_refl _, rfl, Below.refl _ _, RiseTo.start _⟩
  case round =>
    obtain ⟨j, hj, rfl, hb, hn⟩ := hrel
    have HB2 := Lib.hid (bext HF1.out hb)
    have HR2 := Lib.hid (HR1.out.below hb HR1.out.lt)
    have HC2 := Lib.hid (HC1.out.below hb HC1.out.lt)
    by_cases hlt : j < l.length
    · obtain ⟨b, off, rfl, hbl, c1, c2⟩ := (HA.out.below HB2.out).pr j hlt
      obtain ⟨b', off', e, _, d1, d2⟩ := (HA.out.below HB2.out).pr (j - 1) (by omega)
      simp only [Option.some.injEq, Addr.mk.injEq] at e
      obtain ⟨rfl, rfl, _⟩ := e
      have i0 : (0 : Int) ≤ (j : Int) := by omega
      have i1 : (j : Int) < (l.length : Int) := by omega
      have i2 : (0 : Int) ≤ (j : Int) - 1 := by omega
      have i3 : (j : Int) - 1 < (l.length : Int) := by omega
      clear c2 d2
      go_upto_region 7 with fail
      go_quiet (fail)
      by_cases hx : (l[j]'hlt).key ≤ (l[j - 1]'(by omega)).key
      · have HNR : Hid (¬ Ris l) := fun h => absurd (h.symm.trans (RiseTo.no (ks := keys l) hj (by simpa [keys] using hlt) (by simpa [keys] using hx))) (by simp)
        have HX := Lib.hid (HXN.out HNR.out)
        have hbq := bdrew (Below.refl wr.heap.size wr) nq
        have HBQ := Lib.hid (bdrew HB2.out nq)
        have br1 := HR2.out.below hbq HR2.out.lt
        have HRQ := Lib.hid br1
        have hx2 : (l[j]'hlt).key ≤ (l[j - 1]'(by omega)).key := hx
        have y0 : (wr.drewN nq).cell? ⟨(w.heap.size + 1), 0, none⟩ = some (.int .u8 0) := br1.cell 0
        have y1 : (wr.drewN nq).cell? ⟨(w.heap.size + 1), 1, none⟩ = some (.int .i64 0) := br1.cell 1
        have y2 : (wr.drewN nq).cell? ⟨(w.heap.size + 1), 2, none⟩ = some (.int .i64 0) := br1.cell 2
        have y3 : (wr.drewN nq).cell? ⟨(w.heap.size + 1), 3, none⟩ = some (.int .i64 0) := br1.cell 3
        have y4 : (wr.drewN nq).cell? ⟨(w.heap.size + 1), 4, none⟩ = some (.int .i64 0) := br1.cell 4
        have y5 : (wr.drewN nq).cell? ⟨(w.heap.size + 1), 5, none⟩ = some (.int .i64 0) := br1.cell 5
        have y6 : (wr.drewN nq).cell? ⟨(w.heap.size + 1), 6, none⟩ = some (.int .i64 0) := br1.cell 6
        have y7 : (wr.drewN nq).cell? ⟨(w.heap.size + 1), 7, none⟩ = some (.int .i64 0) := br1.cell 7
        have y8 : (wr.drewN nq).cell? ⟨(w.heap.size + 1), 8, none⟩ = some (.int .i64 0) := br1.cell 8
        have y9 : (wr.drewN nq).cell? ⟨(w.heap.size + 1), 9, none⟩ = some (.slice none 0 0) := br1.cell 9
        have y10 : (wr.drewN nq).cell? ⟨(w.heap.size + 1), 10, none⟩ = some (.int .u64 0) := br1.cell 10
        have fr0 := br1.frozen 0
        have fr1 := br1.frozen 1
        have fr2 := br1.frozen 2
        have fr3 := br1.frozen 3
        have fr4 := br1.frozen 4
        have fr5 := br1.frozen 5
        have fr6 := br1.frozen 6
        have fr7 := br1.frozen 7
        have fr8 := br1.frozen 8
        have fr9 := br1.frozen 9
        have fr10 := br1.frozen 10
        have l2 := br1.lt
        clear br1 hbq
        go_wp2_with fail
        have bz := put11 HRQ.out (.int .u8 0) (.int .i64 0) (.int .i64 0) (.int .i64 0) (.int .i64 0) (.int .i64 0) (.int .i64 0) (.int .i64 0) (.int .i64 0) (.slice none 0 0) (.int .u64 0)
        have z0 := bz.cell 0
        have z1 := bz.cell 1
        have z2 := bz.cell 2
        have z3 := bz.cell 3
        have z4 := bz.cell 4
        have z5 := bz.cell 5
        have z6 := bz.cell 6
        have z7 := bz.cell 7
        have z8 := bz.cell 8
        have z9 := bz.cell 9
        have z10 := bz.cell 10
        simp only [List.getElem?_toArray, List.getElem?_cons_zero, List.getElem?_cons_succ] at z0 z1 z2 z3 z4 z5 z6 z7 z8 z9 z10
        refine bodyPost_ret (v := .tuple #[.agg #[.int .u8 0, .int .i64 0, .int .i64 0, .int .i64 0, .int .i64 0, .int .i64 0, .int .i64 0, .int .i64 0, .int .i64 0, .slice none 0 0, .int .u64 0], .int .i64 130]) (by simp [results, Tryz.results9, go_sem, z0, z1, z2, z3, z4, z5, z6, z7, z8, z9, z10]) rfl ?_
        rw [HX.out.1, HX.out.2.1, HX.out.2.2, HZ9.out 130 (by omega)]
        exact ⟨none, 0, [], rfl, rfl, OwnRs.nil _ _, below11 HBQ.out (Nat.le_succ _) _ _ _ _ _ _ _ _ _ _ _⟩
      · have hx2 : (l[j - 1]'(by omega)).key < (l[j]'hlt).key := by omega
        have HST := Lib.hid (hn.out.step hj (by simpa using hlt) (by simpa using hx2))
        go_wp2_with fail
        go_roundw
        case rel => exact ⟨j + 1, by omega, by go_num, bdrew hb _, HST.out⟩
        case measure => simp [intOf]; omega
    · have HRI : Hid (Ris l) := hn.out.all (by simp; omega)
      have HX := Lib.hid (HXY.out HRI.out)
      have bm1 := HC2.out
      have q0 : wr.cell? ⟨w.heap.size, 0, none⟩ = some (.int .u8 c.tag) := bm1.cell 0
      have q1 : wr.cell? ⟨w.heap.size, 1, none⟩ = some (.int .i64 c.most) := bm1.cell 1
      have q2 : wr.cell? ⟨w.heap.size, 2, none⟩ = some (.int .i64 c.seg) := bm1.cell 2
      have q3 : wr.cell? ⟨w.heap.size, 3, none⟩ = some (.int .i64 c.least) := bm1.cell 3
      have q4 : wr.cell? ⟨w.heap.size, 4, none⟩ = some (.int .i64 c.den) := bm1.cell 4
      have q5 : wr.cell? ⟨w.heap.size, 5, none⟩ = some (.int .i64 c.leafLow) := bm1.cell 5
      have q6 : wr.cell? ⟨w.heap.size, 6, none⟩ = some (.int .i64 c.rootLow) := bm1.cell 6
      have q7 : wr.cell? ⟨w.heap.size, 7, none⟩ = some (.int .i64 c.rootHigh) := bm1.cell 7
      have q8 : wr.cell? ⟨w.heap.size, 8, none⟩ = some (.int .i64 c.leafHigh) := bm1.cell 8
      have q9 : wr.cell? ⟨w.heap.size, 9, none⟩ = some (.slice B Rs.length k) := bm1.cell 9
      have q10 : wr.cell? ⟨w.heap.size, 10, none⟩ = some (.int .u64 n) := bm1.cell 10
      clear bm1
      go_wp2_with fail
      refine (HAN.out _ HB2.out).mono ?_
      rintro e w9 ⟨B2, k2, R2, rfl, hl2, ho2, hb9⟩
      have HL2 := Lib.hid hl2
      have HO2 := Lib.hid (ho2.mono HB2.out.size)
      have HB9 := Lib.hid (bext HB2.out hb9)
      have HR9 := Lib.hid (HR2.out.below hb9 HR2.out.lt)
      clear hl2 ho2 hb9 q0 q1 q2 q3 q4 q5 q6 q7 q8 q9 q10
      have br1 := HR9.out
      have y0 : w9.cell? ⟨(w.heap.size + 1), 0, none⟩ = some (.int .u8 0) := br1.cell 0
      have y1 : w9.cell? ⟨(w.heap.size + 1), 1, none⟩ = some (.int .i64 0) := br1.cell 1
      have y2 : w9.cell? ⟨(w.heap.size + 1), 2, none⟩ = some (.int .i64 0) := br1.cell 2
      have y3 : w9.cell? ⟨(w.heap.size + 1), 3, none⟩ = some (.int .i64 0) := br1.cell 3
      have y4 : w9.cell? ⟨(w.heap.size + 1), 4, none⟩ = some (.int .i64 0) := br1.cell 4
      have y5 : w9.cell? ⟨(w.heap.size + 1), 5, none⟩ = some (.int .i64 0) := br1.cell 5
      have y6 : w9.cell? ⟨(w.heap.size + 1), 6, none⟩ = some (.int .i64 0) := br1.cell 6
      have y7 : w9.cell? ⟨(w.heap.size + 1), 7, none⟩ = some (.int .i64 0) := br1.cell 7
      have y8 : w9.cell? ⟨(w.heap.size + 1), 8, none⟩ = some (.int .i64 0) := br1.cell 8
      have y9 : w9.cell? ⟨(w.heap.size + 1), 9, none⟩ = some (.slice none 0 0) := br1.cell 9
      have y10 : w9.cell? ⟨(w.heap.size + 1), 10, none⟩ = some (.int .u64 0) := br1.cell 10
      have fr0 := br1.frozen 0
      have fr1 := br1.frozen 1
      have fr2 := br1.frozen 2
      have fr3 := br1.frozen 3
      have fr4 := br1.frozen 4
      have fr5 := br1.frozen 5
      have fr6 := br1.frozen 6
      have fr7 := br1.frozen 7
      have fr8 := br1.frozen 8
      have fr9 := br1.frozen 9
      have fr10 := br1.frozen 10
      have l2 := br1.lt
      clear br1
      go_wp2_with fail
      have bz := put11 HR9.out (.int .u8 ac.tag) (.int .i64 ac.most) (.int .i64 ac.seg) (.int .i64 ac.least) (.int .i64 ac.den) (.int .i64 ac.leafLow) (.int .i64 ac.rootLow) (.int .i64 ac.rootHigh) (.int .i64 ac.leafHigh) (.slice B2 R2.length k2) (.int .u64 an)
      have z0 := bz.cell 0
      have z1 := bz.cell 1
      have z2 := bz.cell 2
      have z3 := bz.cell 3
      have z4 := bz.cell 4
      have z5 := bz.cell 5
      have z6 := bz.cell 6
      have z7 := bz.cell 7
      have z8 := bz.cell 8
      have z9 := bz.cell 9
      have z10 := bz.cell 10
      simp only [List.getElem?_toArray, List.getElem?_cons_zero, List.getElem?_cons_succ] at z0 z1 z2 z3 z4 z5 z6 z7 z8 z9 z10
      refine bodyPost_ret (v := .tuple #[.agg #[.int .u8 ac.tag, .int .i64 ac.most, .int .i64 ac.seg, .int .i64 ac.least, .int .i64 ac.den, .int .i64 ac.leafLow, .int .i64 ac.rootLow, .int .i64 ac.rootHigh, .int .i64 ac.leafHigh, .slice B2 R2.length k2, .int .u64 an], .int .i64 ae]) (by simp [results, Tryz.results9, go_sem, z0, z1, z2, z3, z4, z5, z6, z7, z8, z9, z10]) rfl ?_
      rw [HX.out.1, HX.out.2.1, HX.out.2.2, HAC.out]
      exact ⟨B2, k2, R2, rfl, HL2.out, HO2.out.set11 HR9.out (by decide) (by decide) _ _ _ _ _ _ _ _ _ _ _, below11 HB9.out (Nat.le_succ _) _ _ _ _ _ _ _ _ _ _ _⟩
end Go.Proofs.YtolclahkfmplfaaGreatDoor
