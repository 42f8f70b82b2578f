/- Fd Gs Hs Fe Eq: texts of the claim, in this order. -/
import Derived.Test.YthbppblmecdekaaGreatDoorWg22
import Derived.Test.YthbppblmecdekaaGreatDoorWt1
import Derived.Test.YthbppblmecdekaaGreatDoorWt3
import Derived.Test.YthbppblmecdekaaGreatDoorWg12
import Derived.BigRegion
import Derived.Test.YthbppblmecdekaaGreatDoorWg19
import Derived.Test.YthbppblmecdekaaGreatDoorWg11
/- Contracts: shelfmarkref27 Value, Get, Next, Last. -/
namespace Go.Proofs.YthbppblmecdekaaGreatDoor
open Go Go.RowKit
set_option maxRecDepth 100000
theorem prD_ris (c : Cfg) (L : Lv) : Ris (prD c L) := by
  unfold prD
  by_cases he : errL c L = 0
  · have hR := (errL_zero he).2.1
    rw [if_pos he, prR_map hR, ris_iff, List.pairwise_map]
    exact allL_ris (chkR_zero.1 hR)
  · rw [if_neg he]; exact Ris.nil
theorem prD_len (c : Cfg) (L : Lv) : (prD c L).length ≤ tot L := by
  unfold prD
  by_cases he : errL c L = 0
  · rw [if_pos he, prR_len (errL_zero he).2.1]; exact allL_le
  · rw [if_neg he]; exact Nat.zero_le _
theorem isE_vals (o : Option Ent) : isE o = 0 ∨ isE o = 6 := by cases o <;> simp [isE]
theorem resP_six {o : Option Ent} (h : isE o = 6) : resP 0 o = ⟨0, 0⟩ := by
  cases o with
  | none => rfl
  | some e => simp [isE] at h
structure Near27 (P : List Pr) (key : Int) (X : Pr) (E : Int) (Y : Pr) (F : Int) : Prop where
  n1 : ceilB P key = true → X = ceilP P key ∧ E = 0
  n0 : ceilB P key = false → X = ⟨0, 0⟩ ∧ E = 6
  l0 : bel P key = 0 → Y = ⟨0, 0⟩ ∧ F = 6
  l1 : ∀ h : bel P key - 1 < P.length, 0 < bel P key → Y = P[bel P key - 1]'h ∧ F = 0
theorem near27 {c : Cfg} {L : Lv} {key : Int} (he : errL c L = 0) : Near27 (prD c L) key (resP 0 (nxO L key)) (resE 0 (nxO L key)) (resP 0 (lsO L key)) (resE 0 (lsO L key)) := by
  have hr := prD_ris c L
  obtain ⟨g1, g2, g3, g4⟩ := near_ok he (n := bel (prD c L) key) (key := key) (bel_le _ _) (fun j h hj => (bel_iff hr key j h).2 hj) (fun h h2 => by have := (bel_iff hr key _ h).1 h2; omega)
  refine ⟨fun h => ?_, fun h => ?_, fun h => ?_, fun h h0 => ?_⟩
  · have h1 : bel (prD c L) key < (prD c L).length := of_decide_eq_true h
    have h2 := g1 h1
    refine ⟨?_, h2.1⟩
    have h3 : ceilP (prD c L) key = (prD c L)[bel (prD c L) key]'h1 := by unfold ceilP; rw [if_pos h1, getElem!_pos (prD c L) _ h1]
    rw [h3, ← h2.2]
    rfl
  · have h1 : ¬ bel (prD c L) key < (prD c L).length := of_decide_eq_false h
    exact ⟨resP_six (g2 h1), g2 h1⟩
  · exact ⟨resP_six (g4 (by omega)), g4 (by omega)⟩
  · have h2 := g3 h h0
    refine ⟨?_, h2.1⟩
    rw [← h2.2]
    rfl
/-- a key's value among pairs -/
def valB (P : List Pr) (key : Int) : Bool := ceilB P key && decide ((ceilP P key).key = key)
def valV (P : List Pr) (key : Int) : Int := if valB P key = true then (ceilP P key).val else 0
theorem val_at {P : List Pr} (hr : Ris P) {p : Pr} (hp : p ∈ P) : valB P p.key = true ∧ ceilP P p.key = p := by
  obtain ⟨i, hi, rfl⟩ := List.getElem_of_mem hp
  have h1 : bel P (P[i]'hi).key = i := by
    have h2 := bel_iff hr (P[i]'hi).key
    rcases Nat.lt_trichotomy (bel P (P[i]'hi).key) i with h | h | h
    · have h3 := hr.get h hi
      have h4 := (h2 _ (by omega)).1 h3
      omega
    · exact h
    · have h4 := (h2 i hi).2 h
      omega
  have h5 : ceilP P (P[i]'hi).key = P[i]'hi := by unfold ceilP; rw [h1, if_pos hi, getElem!_pos P _ hi]
  refine ⟨?_, h5⟩
  unfold valB ceilB
  rw [h5, h1, decide_eq_true hi, decide_eq_true rfl]
  rfl
theorem val_is {c : Cfg} {L : Lv} (he : errL c L = 0) (key : Int) : valB (prD c L) key = isB L key ∧ valV (prD c L) key = vlD c L key ∧ veD c L key = if valB (prD c L) key = true then 0 else 6 := by
  have hR := (errL_zero he).2.1
  have hP : prD c L = prR L := by unfold prD; rw [if_pos he]
  have hr := prD_ris c L
  have hm := prR_mem hR key
  have hve : veD c L key = if isB L key = true then 0 else 6 := by unfold veD; rw [if_pos he]
  have hvl : vlD c L key = if isB L key = true then (gxR L key).val else 0 := by
    unfold vlD
    by_cases h : isB L key = true
    · rw [if_pos ⟨he, h⟩, if_pos h]
    · rw [if_neg (fun x => h x.2), if_neg h]
  rw [← hP] at hm
  by_cases h : isB L key = true
  · have h1 := of_decide_eq_true (hm.trans h)
    obtain ⟨h2, h3⟩ := val_at hr h1
    refine ⟨h2.trans h.symm, ?_, ?_⟩
    · unfold valV
      rw [h2, if_pos rfl, hvl, if_pos h, h3]
    · rw [hve, if_pos h, if_pos h2]
  · have h2 : valB (prD c L) key = false := by
      cases hv : valB (prD c L) key with
      | false => rfl
      | true =>
        unfold valB at hv
        rw [Bool.and_eq_true] at hv
        have h3 : bel (prD c L) key < (prD c L).length := of_decide_eq_true hv.1
        have h4 : (ceilP (prD c L) key).key = key := of_decide_eq_true hv.2
        have h5 : ceilP (prD c L) key = (prD c L)[bel (prD c L) key]'h3 := by unfold ceilP; rw [if_pos h3, getElem!_pos (prD c L) _ h3]
        rw [h5] at h4
        have h6 : (prD c L)[bel (prD c L) key]'h3 ∈ prD c L := List.getElem_mem h3
        have h7 : key ∈ (prD c L).map Pr.key := List.mem_map.2 ⟨_, h6, h4⟩
        have h8 : (prD c L).map Pr.key = (allL L).map Ent.key := by rw [hP, prR_map hR, List.map_map]; rfl
        rw [h8] at h7
        exact absurd ((key_in (chkR_zero.1 hR) key).1 h7) h
    have h9 : isB L key = false := by cases hb : isB L key <;> simp_all
    refine ⟨h2.trans h9.symm, ?_, ?_⟩
    · unfold valV
      rw [h2, hvl, if_neg h]; rfl
    · rw [hve, if_neg h, h2]; rfl
set_option maxHeartbeats 4000000 in
theorem value27_any (A : Option Addr) (P : List Pr) (ca : Nat) (key : Int) (w : World) (hA : Sl w A (P.flatMap Pr.cells)) (hl : P.length ≤ 1000000) (hr : Hid (Ris P)) :
    Calls Tryz.prog 44 #[.slice A P.length ca, .int .i64 key] w fun r w' => r = .returned (.tuple #[.int .i64 (valV P key), .bool (valB P key)]) ∧ Below w.heap.size w w' := by
  have hc := ceilOf_any A P ca key w hA (by omega) hr
  have hB : valB P key = (ceilB P key && decide ((ceilP P key).key = key)) := rfl
  have hV : valV P key = if valB P key = true then (ceilP P key).val else 0 := rfl
  obtain ⟨p, hp⟩ : ∃ p, ceilP P key = p := ⟨_, rfl⟩
  obtain ⟨b, hb⟩ : ∃ b, ceilB P key = b := ⟨_, rfl⟩
  obtain ⟨V, hv⟩ : ∃ b, valV P key = b := ⟨_, rfl⟩
  obtain ⟨K, hk⟩ : ∃ b, valB P key = b := ⟨_, rfl⟩
  rw [hp, hb] at hc hB
  rw [hk] at hB
  rw [hv, hk, hp] at hV
  rw [hv, hk]
  have HC := Lib.hid hc
  have HKB := Lib.hid hB
  have HV := Lib.hid hV
  clear hc hB hV hp hb hv hk hA
  go_enter Tryz.func44, Tryz.ntmps44
  have HF := Lib.hid (Below.refl w.heap.size w)
  go_wp2_with fail
  refine (HC.out).mono ?_
  rintro e w1 ⟨rfl, hb2⟩
  have HF3 := Lib.hid (bext HF.out hb2)
  clear HF
  clear hb2
  go_upto_region 2 with fail
  obtain ⟨U4, h6⟩ : ∃ U, w1.alloc (.cells #[.int .i64 p.key, .int .i64 p.val] 47) = U := ⟨_, rfl⟩
  have ba7 : Below w1.heap.size w1 U4 := by rw [← h6]; exact (Below.refl _ _).alloc (Nat.le_refl _) _
  have bn8 : Blk U4 w1.heap.size 47 #[.int .i64 p.key, .int .i64 p.val] := by rw [← h6]; exact Blk.new _ _ _
  try rw [h6]
  have HF9 := Lib.hid (bext HF3.out ba7)
  clear HF3
  obtain ⟨g5, h10⟩ : ∃ g, w1.heap.size = g := ⟨_, rfl⟩
  rw [h10] at bn8
  try rw [h10]
  have HX11 := Lib.hid bn8
  clear h6 ba7 bn8 h10
  have c12 : U4.cell? ⟨g5, 0, none⟩ = some (.int .i64 p.key) := HX11.out.cell 0
  have c13 : U4.cell? ⟨g5, 1, none⟩ = some (.int .i64 p.val) := HX11.out.cell 1
  have l14 : g5 < U4.heap.size := HX11.out.lt
  cases b with
  | false =>
    have HK : Hid (K = false) := by show _ = _; rw [HKB.out]; rfl
    go_wp2_with fail
    refine bodyPost_ret (v := .tuple #[.int .i64 0, .bool false]) (by simp [results, Tryz.results44, go_sem]) rfl ?_
    rw [HV.out, HK.out]
    exact ⟨rfl, HF9.out⟩
  | true =>
  by_cases hpk : p.key = key
  case neg =>
    have HK : Hid (K = false) := by show _ = _; rw [HKB.out, decide_eq_false hpk]; rfl
    have h1 : (p.key != key) = true := by simpa using hpk
    clear hpk
    go_wp2_with fail
    refine bodyPost_ret (v := .tuple #[.int .i64 0, .bool false]) (by simp [results, Tryz.results44, go_sem]) rfl ?_
    rw [HV.out, HK.out]
    exact ⟨rfl, HF9.out⟩
  case pos =>
  have HK : Hid (K = true) := by show _ = _; rw [HKB.out, decide_eq_true hpk]; rfl
  have h1 : (p.key != key) = false := by simpa using hpk
  clear hpk
  go_wp2_with fail
  refine bodyPost_ret (v := .tuple #[.int .i64 p.val, .bool true]) (by simp [results, Tryz.results44, go_sem]) rfl ?_
  rw [HV.out, HK.out]
  exact ⟨rfl, HF9.out⟩
set_option maxHeartbeats 8000000 in
theorem get27_any (B : Option Addr) (Rs : List Rm) (k : Nat) (c : Cfg) (n : Int) (key : Int) (w : World) (hB : RunsAt w B Rs) (hT : tot (lvs Rs) ≤ 1000000) (hl : Rs.length ≤ 1000000) :
    Calls Tryz.prog 14 #[.agg (lrow c B Rs.length k n), .int .i64 key] w fun r w' => r = .returned (.tuple #[.int .i64 (vlD c (lvs Rs) key), .int .i64 (veD c (lvs Rs) key)]) ∧ Below w.heap.size w w' := by
  obtain ⟨W0, hW0⟩ : ∃ W0, w.alloc (.cells #[.int .u8 c.tag, .int .i64 c.most, .int .i64 c.seg, .int .i64 c.least, .int .i64 c.den, .int .i64 c.leafLow, .int .i64 c.rootLow, .int .i64 c.rootHigh, .int .i64 c.leafHigh, .slice B Rs.length k, .int .u64 n] 29) = W0 := ⟨_, rfl⟩
  have hb0 : Below w.heap.size w W0 := by rw [← hW0]; exact (Below.refl _ _).alloc (Nat.le_refl _) _
  have b0 : Blk W0 w.heap.size 29 #[.int .u8 c.tag, .int .i64 c.most, .int .i64 c.seg, .int .i64 c.least, .int .i64 c.den, .int .i64 c.leafLow, .int .i64 c.rootLow, .int .i64 c.rootHigh, .int .i64 c.leafHigh, .slice B Rs.length k, .int .u64 n] := by rw [← hW0]; exact Blk.new _ _ _
  have HW0 := Lib.hid hW0
  have HB := Lib.hid (hB.below hb0)
  have HB0 := Lib.hid hb0
  have HC0 := Lib.hid b0
  have hpa := pairs27_any B Rs k c n W0 HB.out hT hl
  have hr := prD_ris c (lvs Rs)
  have hln := prD_len c (lvs Rs)
  have hvi := fun he => val_is (c := c) (L := lvs Rs) he key
  have hno : errL c (lvs Rs) ≠ 0 → veD c (lvs Rs) key = errL c (lvs Rs) ∧ vlD c (lvs Rs) key = 0 := fun h => by unfold veD vlD; rw [if_neg h, if_neg (fun x => h x.1)]; exact ⟨rfl, rfl⟩
  obtain ⟨E, hE⟩ : ∃ E, errL c (lvs Rs) = E := ⟨_, rfl⟩
  obtain ⟨P, hP⟩ : ∃ P, prD c (lvs Rs) = P := ⟨_, rfl⟩
  obtain ⟨v, hv⟩ : ∃ E, vlD c (lvs Rs) key = E := ⟨_, rfl⟩
  obtain ⟨f, hf⟩ : ∃ E, veD c (lvs Rs) key = E := ⟨_, rfl⟩
  rw [hE, hP] at hpa
  rw [hP] at hr hln
  rw [hE, hP, hv, hf] at hvi
  rw [hE, hv, hf] at hno
  rw [hv, hf]
  have hx0 : valB P key = false → valV P key = 0 := fun h => by unfold valV; rw [h]; rfl
  have hva := fun A ca W (hA : Sl W A (P.flatMap Pr.cells)) => value27_any A P ca key W hA (by omega) hr
  obtain ⟨x, hx⟩ : ∃ E, valV P key = E := ⟨_, rfl⟩
  obtain ⟨y, hy⟩ : ∃ E, valB P key = E := ⟨_, rfl⟩
  rw [hx, hy] at hvi hva hx0
  have HX0 := Lib.hid hx0
  have HPA := Lib.hid hpa
  have HVI := Lib.hid hvi
  have HNO := Lib.hid hno
  have HVA := Lib.hid hva
  clear hW0 hB hpa hvi hno hva hx0 hE hP hv hf hx hy hr hln hT
  have q0 : W0.cell? ⟨w.heap.size, 0, none⟩ = some (.int .u8 c.tag) := b0.cell 0
  have q1 : W0.cell? ⟨w.heap.size, 1, none⟩ = some (.int .i64 c.most) := b0.cell 1
  have q2 : W0.cell? ⟨w.heap.size, 2, none⟩ = some (.int .i64 c.seg) := b0.cell 2
  have q3 : W0.cell? ⟨w.heap.size, 3, none⟩ = some (.int .i64 c.least) := b0.cell 3
  have q4 : W0.cell? ⟨w.heap.size, 4, none⟩ = some (.int .i64 c.den) := b0.cell 4
  have q5 : W0.cell? ⟨w.heap.size, 5, none⟩ = some (.int .i64 c.leafLow) := b0.cell 5
  have q6 : W0.cell? ⟨w.heap.size, 6, none⟩ = some (.int .i64 c.rootLow) := b0.cell 6
  have q7 : W0.cell? ⟨w.heap.size, 7, none⟩ = some (.int .i64 c.rootHigh) := b0.cell 7
  have q8 : W0.cell? ⟨w.heap.size, 8, none⟩ = some (.int .i64 c.leafHigh) := b0.cell 8
  have q9 : W0.cell? ⟨w.heap.size, 9, none⟩ = some (.slice B Rs.length k) := b0.cell 9
  have q10 : W0.cell? ⟨w.heap.size, 10, none⟩ = some (.int .u64 n) := b0.cell 10
  clear b0 hb0
  go_enter Tryz.func14, Tryz.ntmps14
  go_upto_region 1 with fail
  rw [HW0.out]
  go_wp2_with fail
  refine (HPA.out).mono ?_
  rintro e w1 ⟨A1, c1, rfl, ho1, hb2⟩
  have HP1 := Lib.hid (own_sl ho1)
  clear ho1 q0 q1 q2 q3 q4 q5 q6 q7 q8 q9 q10
  have HF3 := Lib.hid (bext HB0.out hb2)
  clear hb2
  have HY4 := Lib.hid (HP1.out)
  by_cases hE0 : E = 0
  case neg =>
    have h1 : (E != 0) = true := by simpa using hE0
    obtain ⟨n1, n2⟩ := HNO.out hE0
    subst n1 n2
    go_wp2_with fail
    refine bodyPost_ret (v := .tuple #[.int .i64 0, .int .i64 f]) (by simp [results, Tryz.results14, go_sem]) rfl ?_
    exact ⟨rfl, HF3.out⟩
  case pos =>
  have hvi := HVI.out hE0
  subst hE0
  obtain ⟨v1, v2, v3⟩ := hvi
  have HV3 := Lib.hid v3
  subst v2
  clear v1 v3 HVI
  go_wp2_with fail
  refine (HVA.out _ _ _ HY4.out).mono ?_
  rintro e w5 ⟨rfl, hb6⟩
  have HF7 := Lib.hid (bext HF3.out hb6)
  have HY8 := Lib.hid (HY4.out.below hb6)
  clear HF3 HY4
  clear hb6
  cases y with
  | true =>
    have HF : Hid (f = 0) := HV3.out
    go_wp2_with fail
    refine bodyPost_ret (v := .tuple #[.int .i64 x, .int .i64 0]) (by simp [results, Tryz.results14, go_sem]) rfl ?_
    rw [HF.out]
    exact ⟨rfl, HF7.out⟩
  | false =>
    have HF : Hid (f = 6) := HV3.out
    have HX : Hid (x = 0) := HX0.out rfl
    go_wp2_with fail
    refine bodyPost_ret (v := .tuple #[.int .i64 0, .int .i64 6]) (by simp [results, Tryz.results14, go_sem]) rfl ?_
    rw [HF.out, HX.out]
    exact ⟨rfl, HF7.out⟩
set_option maxHeartbeats 8000000 in
theorem next27_any (B : Option Addr) (Rs : List Rm) (k : Nat) (c : Cfg) (n : Int) (key : Int) (w : World) (hB : RunsAt w B Rs) (hT : tot (lvs Rs) ≤ 1000000) (hl : Rs.length ≤ 1000000) :
    Calls Tryz.prog 16 #[.agg (lrow c B Rs.length k n), .int .i64 key] w fun r w' => r = .returned (.tuple #[.agg #[.int .i64 (resP (errL c (lvs Rs)) (nxO (lvs Rs) key)).key, .int .i64 (resP (errL c (lvs Rs)) (nxO (lvs Rs) key)).val], .int .i64 (resE (errL c (lvs Rs)) (nxO (lvs Rs) key))]) ∧ Below w.heap.size w w' := by
  obtain ⟨W0, hW0⟩ : ∃ W0, (w.alloc (.cells #[.int .u8 c.tag, .int .i64 c.most, .int .i64 c.seg, .int .i64 c.least, .int .i64 c.den, .int .i64 c.leafLow, .int .i64 c.rootLow, .int .i64 c.rootHigh, .int .i64 c.leafHigh, .slice B Rs.length k, .int .u64 n] 29)).alloc (.cells #[.int .i64 0, .int .i64 0] 47) = W0 := ⟨_, rfl⟩
  have hb0 : Below w.heap.size w W0 := by rw [← hW0]; exact ((Below.refl _ _).alloc (Nat.le_refl _) _).alloc (by simp) _
  have b0 : Blk W0 w.heap.size 29 #[.int .u8 c.tag, .int .i64 c.most, .int .i64 c.seg, .int .i64 c.least, .int .i64 c.den, .int .i64 c.leafLow, .int .i64 c.rootLow, .int .i64 c.rootHigh, .int .i64 c.leafHigh, .slice B Rs.length k, .int .u64 n] := by rw [← hW0]; exact (Blk.new _ _ _).alloc _
  have br0 : Blk W0 (w.heap.size + 1) 47 #[.int .i64 0, .int .i64 0] := by
    rw [← hW0]
    have := Blk.new (w.alloc (.cells #[.int .u8 c.tag, .int .i64 c.most, .int .i64 c.seg, .int .i64 c.least, .int .i64 c.den, .int .i64 c.leafLow, .int .i64 c.rootLow, .int .i64 c.rootHigh, .int .i64 c.leafHigh, .slice B Rs.length k, .int .u64 n] 29)) 47 #[.int .i64 0, .int .i64 0]
    rwa [World.size_alloc] at this
  have HW0 := Lib.hid hW0
  have HB0 := Lib.hid hb0
  have HR0 := Lib.hid br0
  have hpa := pairs27_any B Rs k c n W0 (hB.below hb0) hT hl
  have hr := prD_ris c (lvs Rs)
  have hln := prD_len c (lvs Rs)
  have hnr := fun he => near27 (c := c) (L := lvs Rs) (key := key) he
  have hno : errL c (lvs Rs) ≠ 0 → resP (errL c (lvs Rs)) (nxO (lvs Rs) key) = ⟨0, 0⟩ ∧ resE (errL c (lvs Rs)) (nxO (lvs Rs) key) = errL c (lvs Rs) := fun h => by unfold resE resP; rw [if_neg h, if_neg h]; exact ⟨rfl, rfl⟩
  have hz : errL c (lvs Rs) = 0 → resP (errL c (lvs Rs)) (nxO (lvs Rs) key) = resP 0 (nxO (lvs Rs) key) ∧ resE (errL c (lvs Rs)) (nxO (lvs Rs) key) = resE 0 (nxO (lvs Rs) key) := fun h => by rw [h]; exact ⟨rfl, rfl⟩
  obtain ⟨X, hX⟩ : ∃ X, resP (errL c (lvs Rs)) (nxO (lvs Rs) key) = X := ⟨_, rfl⟩
  obtain ⟨F, hF⟩ : ∃ X, resE (errL c (lvs Rs)) (nxO (lvs Rs) key) = X := ⟨_, rfl⟩
  rw [hX, hF] at hno hz
  rw [hX, hF]
  obtain ⟨E, hE⟩ : ∃ E, errL c (lvs Rs) = E := ⟨_, rfl⟩
  obtain ⟨P, hP⟩ : ∃ P, prD c (lvs Rs) = P := ⟨_, rfl⟩
  rw [hE, hP] at hpa
  rw [hP] at hr hln
  rw [hE] at hno hz
  rw [hE, hP] at hnr
  have hal : E = 0 → (ceilB P key = true → X = ceilP P key ∧ F = 0) ∧ (ceilB P key = false → X = ⟨0, 0⟩ ∧ F = 6) := fun h => by
    obtain ⟨z1, z2⟩ := hz h
    have := hnr h
    exact ⟨fun h1 => by rw [z1, z2]; exact this.n1 h1, fun h1 => by rw [z1, z2]; exact this.n0 h1⟩
  have hca := fun A ca W (hA : Sl W A (P.flatMap Pr.cells)) => ceilOf_any A P ca key W hA (by omega) hr
  obtain ⟨p, hp⟩ : ∃ x, ceilP P key = x := ⟨_, rfl⟩
  obtain ⟨q, hq⟩ : ∃ x, ceilB P key = x := ⟨_, rfl⟩
  rw [hp, hq] at hca hal
  clear hp hq
  have HPA := Lib.hid hpa
  have HAL := Lib.hid hal
  have HNO := Lib.hid hno
  have HCA := Lib.hid hca
  clear hW0 hB hpa hal hno hca hE hP hX hF hz hnr hr hln hT
  have q0 : W0.cell? ⟨w.heap.size, 0, none⟩ = some (.int .u8 c.tag) := b0.cell 0
  have q1 : W0.cell? ⟨w.heap.size, 1, none⟩ = some (.int .i64 c.most) := b0.cell 1
  have q2 : W0.cell? ⟨w.heap.size, 2, none⟩ = some (.int .i64 c.seg) := b0.cell 2
  have q3 : W0.cell? ⟨w.heap.size, 3, none⟩ = some (.int .i64 c.least) := b0.cell 3
  have q4 : W0.cell? ⟨w.heap.size, 4, none⟩ = some (.int .i64 c.den) := b0.cell 4
  have q5 : W0.cell? ⟨w.heap.size, 5, none⟩ = some (.int .i64 c.leafLow) := b0.cell 5
  have q6 : W0.cell? ⟨w.heap.size, 6, none⟩ = some (.int .i64 c.rootLow) := b0.cell 6
  have q7 : W0.cell? ⟨w.heap.size, 7, none⟩ = some (.int .i64 c.rootHigh) := b0.cell 7
  have q8 : W0.cell? ⟨w.heap.size, 8, none⟩ = some (.int .i64 c.leafHigh) := b0.cell 8
  have q9 : W0.cell? ⟨w.heap.size, 9, none⟩ = some (.slice B Rs.length k) := b0.cell 9
  have q10 : W0.cell? ⟨w.heap.size, 10, none⟩ = some (.int .u64 n) := b0.cell 10
  clear b0 hb0 br0
  go_enter Tryz.func16, Tryz.ntmps16
  go_upto_region 1 with fail
  rw [HW0.out]
  go_wp2_with fail
  refine (HPA.out).mono ?_
  rintro e w1 ⟨A1, c1, rfl, ho1, hb2⟩
  have HP1 := Lib.hid (own_sl ho1)
  clear ho1 q0 q1 q2 q3 q4 q5 q6 q7 q8 q9 q10
  have HF3 := Lib.hid (bext HB0.out hb2)
  have HX4 := Lib.hid (HR0.out.below hb2 HR0.out.lt)
  clear HR0
  clear hb2
  have HY5 := Lib.hid (HP1.out)
  have c6 : w1.cell? ⟨(w.heap.size + 1), 0, none⟩ = some (.int .i64 0) := HX4.out.cell 0
  have c7 : w1.cell? ⟨(w.heap.size + 1), 1, none⟩ = some (.int .i64 0) := HX4.out.cell 1
  have l8 : (w.heap.size + 1) < w1.heap.size := HX4.out.lt
  have f0 := HX4.out.frozen 0
  have f1 := HX4.out.frozen 1
  by_cases hE0 : E = 0
  case neg =>
    have h1 : (E != 0) = true := by simpa using hE0
    obtain ⟨n1, n2⟩ := HNO.out hE0
    subst n1 n2
    go_wp2_with fail
    have hbx := box2 HX4.out (.int .i64 0) (.int .i64 0)
    have e0 := hbx.cell 0
    have e1 := hbx.cell 1
    refine bodyPost_ret (v := .tuple #[.agg #[.int .i64 0, .int .i64 0], .int .i64 F]) (by first | (simp [results, Tryz.results16, go_sem, e0, e1]; done) | (simp at e0 e1; simp [results, Tryz.results16, go_sem, e0, e1])) rfl ?_
    exact ⟨rfl, below2 HF3.out (Nat.le_succ _) _ _⟩
  case pos =>
  have hal := HAL.out hE0
  subst hE0
  have HA2 := Lib.hid hal
  clear hal HAL
  clear c6 c7 l8
  clear f0 f1
  have c9 : w1.cell? ⟨(w.heap.size + 1), 0, none⟩ = some (.int .i64 0) := HX4.out.cell 0
  have c10 : w1.cell? ⟨(w.heap.size + 1), 1, none⟩ = some (.int .i64 0) := HX4.out.cell 1
  have l11 : (w.heap.size + 1) < w1.heap.size := HX4.out.lt
  go_wp2_with fail
  clear c9 c10 l11
  refine (HCA.out _ _ _ HY5.out).mono ?_
  rintro e w12 ⟨rfl, hb13⟩
  have HF14 := Lib.hid (bext HF3.out hb13)
  have HX15 := Lib.hid (HX4.out.below hb13 HX4.out.lt)
  have HY16 := Lib.hid (HY5.out.below hb13)
  clear HF3 HX4 HY5
  clear hb13
  go_upto_region 5 with fail
  obtain ⟨U17, h19⟩ : ∃ U, w12.alloc (.cells #[.int .i64 p.key, .int .i64 p.val] 47) = U := ⟨_, rfl⟩
  have ba20 : Below w12.heap.size w12 U17 := by rw [← h19]; exact (Below.refl _ _).alloc (Nat.le_refl _) _
  have bn21 : Blk U17 w12.heap.size 47 #[.int .i64 p.key, .int .i64 p.val] := by rw [← h19]; exact Blk.new _ _ _
  try rw [h19]
  have HF22 := Lib.hid (bext HF14.out ba20)
  have HX23 := Lib.hid (HX15.out.below ba20 HX15.out.lt)
  have HY24 := Lib.hid (HY16.out.below ba20)
  clear HF14 HX15 HY16
  obtain ⟨g18, h25⟩ : ∃ g, w12.heap.size = g := ⟨_, rfl⟩
  rw [h25] at bn21
  try rw [h25]
  have HX26 := Lib.hid bn21
  clear h19 ba20 bn21 h25
  have c27 : U17.cell? ⟨g18, 0, none⟩ = some (.int .i64 p.key) := HX26.out.cell 0
  have c28 : U17.cell? ⟨g18, 1, none⟩ = some (.int .i64 p.val) := HX26.out.cell 1
  have l29 : g18 < U17.heap.size := HX26.out.lt
  have c30 : U17.cell? ⟨(w.heap.size + 1), 0, none⟩ = some (.int .i64 0) := HX23.out.cell 0
  have c31 : U17.cell? ⟨(w.heap.size + 1), 1, none⟩ = some (.int .i64 0) := HX23.out.cell 1
  have l32 : (w.heap.size + 1) < U17.heap.size := HX23.out.lt
  have f0 := HX23.out.frozen 0
  have f1 := HX23.out.frozen 1
  cases q with
  | false =>
    obtain ⟨n1, n2⟩ := HA2.out.2 rfl
    subst n1 n2
    go_wp2_with fail
    have hbx := box2 HX23.out (.int .i64 0) (.int .i64 0)
    have e0 := hbx.cell 0
    have e1 := hbx.cell 1
    refine bodyPost_ret (v := .tuple #[.agg #[.int .i64 0, .int .i64 0], .int .i64 6]) (by first | (simp [results, Tryz.results16, go_sem, e0, e1]; done) | (simp at e0 e1; simp [results, Tryz.results16, go_sem, e0, e1])) rfl ?_
    exact ⟨rfl, below2 HF22.out (Nat.le_succ _) _ _⟩
  | true =>
    obtain ⟨n1, n2⟩ := HA2.out.1 rfl
    subst n1 n2
    go_wp2_with fail
    have hbx := box2 HX23.out (.int .i64 X.key) (.int .i64 X.val)
    have e0 := hbx.cell 0
    have e1 := hbx.cell 1
    refine bodyPost_ret (v := .tuple #[.agg #[.int .i64 X.key, .int .i64 X.val], .int .i64 0]) (by first | (simp [results, Tryz.results16, go_sem, e0, e1]; done) | (simp at e0 e1; simp [results, Tryz.results16, go_sem, e0, e1])) rfl ?_
    exact ⟨rfl, below2 HF22.out (Nat.le_succ _) _ _⟩
set_option maxHeartbeats 8000000 in
theorem last27_any (B : Option Addr) (Rs : List Rm) (k : Nat) (c : Cfg) (n : Int) (key : Int) (w : World) (hB : RunsAt w B Rs) (hT : tot (lvs Rs) ≤ 1000000) (hl : Rs.length ≤ 1000000) :
    Calls Tryz.prog 18 #[.agg (lrow c B Rs.length k n), .int .i64 key] w fun r w' => r = .returned (.tuple #[.agg #[.int .i64 (resP (errL c (lvs Rs)) (lsO (lvs Rs) key)).key, .int .i64 (resP (errL c (lvs Rs)) (lsO (lvs Rs) key)).val], .int .i64 (resE (errL c (lvs Rs)) (lsO (lvs Rs) key))]) ∧ Below w.heap.size w w' := by
  obtain ⟨W0, hW0⟩ : ∃ W0, (w.alloc (.cells #[.int .u8 c.tag, .int .i64 c.most, .int .i64 c.seg, .int .i64 c.least, .int .i64 c.den, .int .i64 c.leafLow, .int .i64 c.rootLow, .int .i64 c.rootHigh, .int .i64 c.leafHigh, .slice B Rs.length k, .int .u64 n] 29)).alloc (.cells #[.int .i64 0, .int .i64 0] 47) = W0 := ⟨_, rfl⟩
  have hb0 : Below w.heap.size w W0 := by rw [← hW0]; exact ((Below.refl _ _).alloc (Nat.le_refl _) _).alloc (by simp) _
  have b0 : Blk W0 w.heap.size 29 #[.int .u8 c.tag, .int .i64 c.most, .int .i64 c.seg, .int .i64 c.least, .int .i64 c.den, .int .i64 c.leafLow, .int .i64 c.rootLow, .int .i64 c.rootHigh, .int .i64 c.leafHigh, .slice B Rs.length k, .int .u64 n] := by rw [← hW0]; exact (Blk.new _ _ _).alloc _
  have br0 : Blk W0 (w.heap.size + 1) 47 #[.int .i64 0, .int .i64 0] := by
    rw [← hW0]
    have := Blk.new (w.alloc (.cells #[.int .u8 c.tag, .int .i64 c.most, .int .i64 c.seg, .int .i64 c.least, .int .i64 c.den, .int .i64 c.leafLow, .int .i64 c.rootLow, .int .i64 c.rootHigh, .int .i64 c.leafHigh, .slice B Rs.length k, .int .u64 n] 29)) 47 #[.int .i64 0, .int .i64 0]
    rwa [World.size_alloc] at this
  have HW0 := Lib.hid hW0
  have HB0 := Lib.hid hb0
  have HR0 := Lib.hid br0
  have hpa := pairs27_any B Rs k c n W0 (hB.below hb0) hT hl
  have hr := prD_ris c (lvs Rs)
  have hln := prD_len c (lvs Rs)
  have hnr := fun he => near27 (c := c) (L := lvs Rs) (key := key) he
  have hno : errL c (lvs Rs) ≠ 0 → resP (errL c (lvs Rs)) (lsO (lvs Rs) key) = ⟨0, 0⟩ ∧ resE (errL c (lvs Rs)) (lsO (lvs Rs) key) = errL c (lvs Rs) := fun h => by unfold resE resP; rw [if_neg h, if_neg h]; exact ⟨rfl, rfl⟩
  have hz : errL c (lvs Rs) = 0 → resP (errL c (lvs Rs)) (lsO (lvs Rs) key) = resP 0 (lsO (lvs Rs) key) ∧ resE (errL c (lvs Rs)) (lsO (lvs Rs) key) = resE 0 (lsO (lvs Rs) key) := fun h => by rw [h]; exact ⟨rfl, rfl⟩
  obtain ⟨X, hX⟩ : ∃ X, resP (errL c (lvs Rs)) (lsO (lvs Rs) key) = X := ⟨_, rfl⟩
  obtain ⟨F, hF⟩ : ∃ X, resE (errL c (lvs Rs)) (lsO (lvs Rs) key) = X := ⟨_, rfl⟩
  rw [hX, hF] at hno hz
  rw [hX, hF]
  obtain ⟨E, hE⟩ : ∃ E, errL c (lvs Rs) = E := ⟨_, rfl⟩
  obtain ⟨P, hP⟩ : ∃ P, prD c (lvs Rs) = P := ⟨_, rfl⟩
  rw [hE, hP] at hpa
  rw [hP] at hr hln
  rw [hE] at hno hz
  rw [hE, hP] at hnr
  have hal : E = 0 → (bel P key = 0 → X = ⟨0, 0⟩ ∧ F = 6) ∧ (∀ h : bel P key - 1 < P.length, 0 < bel P key → X = P[bel P key - 1]'h ∧ F = 0) := fun h => by
    obtain ⟨z1, z2⟩ := hz h
    have := hnr h
    exact ⟨fun h1 => by rw [z1, z2]; exact this.l0 h1, fun h1 h2 => by rw [z1, z2]; exact this.l1 h1 h2⟩
  have hca := fun A ca W (hA : Sl W A (P.flatMap Pr.cells)) => refBelow_any A P ca key W hA (by omega)
  have hbe := bel_le P key
  obtain ⟨q, hq⟩ : ∃ x, bel P key = x := ⟨_, rfl⟩
  rw [hq] at hca hal hbe
  have HBE := Lib.hid hbe
  have HLN := Lib.hid (show P.length ≤ 1000000 by omega)
  clear hq hbe
  have HPA := Lib.hid hpa
  have HAL := Lib.hid hal
  have HNO := Lib.hid hno
  have HCA := Lib.hid hca
  clear hW0 hB hpa hal hno hca hE hP hX hF hz hnr hr hln hT
  have q0 : W0.cell? ⟨w.heap.size, 0, none⟩ = some (.int .u8 c.tag) := b0.cell 0
  have q1 : W0.cell? ⟨w.heap.size, 1, none⟩ = some (.int .i64 c.most) := b0.cell 1
  have q2 : W0.cell? ⟨w.heap.size, 2, none⟩ = some (.int .i64 c.seg) := b0.cell 2
  have q3 : W0.cell? ⟨w.heap.size, 3, none⟩ = some (.int .i64 c.least) := b0.cell 3
  have q4 : W0.cell? ⟨w.heap.size, 4, none⟩ = some (.int .i64 c.den) := b0.cell 4
  have q5 : W0.cell? ⟨w.heap.size, 5, none⟩ = some (.int .i64 c.leafLow) := b0.cell 5
  have q6 : W0.cell? ⟨w.heap.size, 6, none⟩ = some (.int .i64 c.rootLow) := b0.cell 6
  have q7 : W0.cell? ⟨w.heap.size, 7, none⟩ = some (.int .i64 c.rootHigh) := b0.cell 7
  have q8 : W0.cell? ⟨w.heap.size, 8, none⟩ = some (.int .i64 c.leafHigh) := b0.cell 8
  have q9 : W0.cell? ⟨w.heap.size, 9, none⟩ = some (.slice B Rs.length k) := b0.cell 9
  have q10 : W0.cell? ⟨w.heap.size, 10, none⟩ = some (.int .u64 n) := b0.cell 10
  clear b0 hb0 br0
  go_enter Tryz.func18, Tryz.ntmps18
  go_upto_region 1 with fail
  rw [HW0.out]
  go_wp2_with fail
  refine (HPA.out).mono ?_
  rintro e w1 ⟨A1, c1, rfl, ho1, hb2⟩
  have HP1 := Lib.hid (own_sl ho1)
  clear ho1 q0 q1 q2 q3 q4 q5 q6 q7 q8 q9 q10
  have HF3 := Lib.hid (bext HB0.out hb2)
  have HX4 := Lib.hid (HR0.out.below hb2 HR0.out.lt)
  clear HR0
  clear hb2
  have HY5 := Lib.hid (HP1.out)
  have c6 : w1.cell? ⟨(w.heap.size + 1), 0, none⟩ = some (.int .i64 0) := HX4.out.cell 0
  have c7 : w1.cell? ⟨(w.heap.size + 1), 1, none⟩ = some (.int .i64 0) := HX4.out.cell 1
  have l8 : (w.heap.size + 1) < w1.heap.size := HX4.out.lt
  have f0 := HX4.out.frozen 0
  have f1 := HX4.out.frozen 1
  by_cases hE0 : E = 0
  case neg =>
    have h1 : (E != 0) = true := by simpa using hE0
    obtain ⟨n1, n2⟩ := HNO.out hE0
    subst n1 n2
    go_wp2_with fail
    have hbx := box2 HX4.out (.int .i64 0) (.int .i64 0)
    have e0 := hbx.cell 0
    have e1 := hbx.cell 1
    refine bodyPost_ret (v := .tuple #[.agg #[.int .i64 0, .int .i64 0], .int .i64 F]) (by first | (simp [results, Tryz.results18, go_sem, e0, e1]; done) | (simp at e0 e1; simp [results, Tryz.results18, go_sem, e0, e1])) rfl ?_
    exact ⟨rfl, below2 HF3.out (Nat.le_succ _) _ _⟩
  case pos =>
  have hal := HAL.out hE0
  subst hE0
  have HA2 := Lib.hid hal
  clear hal HAL
  clear c6 c7 l8
  clear f0 f1
  have c9 : w1.cell? ⟨(w.heap.size + 1), 0, none⟩ = some (.int .i64 0) := HX4.out.cell 0
  have c10 : w1.cell? ⟨(w.heap.size + 1), 1, none⟩ = some (.int .i64 0) := HX4.out.cell 1
  have l11 : (w.heap.size + 1) < w1.heap.size := HX4.out.lt
  go_wp2_with fail
  clear c9 c10 l11
  refine (HCA.out _ _ _ HY5.out).mono ?_
  rintro e w12 ⟨rfl, hb13⟩
  have HF14 := Lib.hid (bext HF3.out hb13)
  have HX15 := Lib.hid (HX4.out.below hb13 HX4.out.lt)
  have HY16 := Lib.hid (HY5.out.below hb13)
  clear HF3 HX4 HY5
  clear hb13
  have c17 : w12.cell? ⟨(w.heap.size + 1), 0, none⟩ = some (.int .i64 0) := HX15.out.cell 0
  have c18 : w12.cell? ⟨(w.heap.size + 1), 1, none⟩ = some (.int .i64 0) := HX15.out.cell 1
  have l19 : (w.heap.size + 1) < w12.heap.size := HX15.out.lt
  have f0 := HX15.out.frozen 0
  have f1 := HX15.out.frozen 1
  by_cases hq0 : q = 0
  case pos =>
    obtain ⟨n1, n2⟩ := HA2.out.1 hq0
    subst n1 n2 hq0
    go_wp2_with fail
    have hbx := box2 HX15.out (.int .i64 0) (.int .i64 0)
    have e0 := hbx.cell 0
    have e1 := hbx.cell 1
    refine bodyPost_ret (v := .tuple #[.agg #[.int .i64 0, .int .i64 0], .int .i64 6]) (by first | (simp [results, Tryz.results18, go_sem, e0, e1]; done) | (simp at e0 e1; simp [results, Tryz.results18, go_sem, e0, e1])) rfl ?_
    exact ⟨rfl, below2 HF14.out (Nat.le_succ _) _ _⟩
  case neg =>
  have hbe := HBE.out
  have hln := HLN.out
  have hlt : q - 1 < P.length := by omega
  obtain ⟨n1, n2⟩ := HA2.out.2 hlt (by omega)
  obtain ⟨z, hz⟩ : ∃ z, q - 1 = z := ⟨_, rfl⟩
  have hzl : z < P.length := by omega
  have n3 : X = P[z]'hzl := by rw [n1]; congr 1
  obtain ⟨b, off, hA, hbl, d0, d1⟩ := HY16.out.pr z hzl
  rw [← n3] at d0 d1
  subst hA
  have h1 : ((q : Int) == 0) = false := by simp; omega
  have hw1 : IntKind.i64.wrap ((q : Int) - 1) = (z : Int) := (IntWalk.i64_in _ (by omega)).trans (by omega)
  have z0 : (0 : Int) ≤ (z : Int) := by omega
  have z1 : (z : Int) < (P.length : Int) := by omega
  subst n2
  clear n1 n3 hz hbe hlt hq0 HA2
  go_wp2_with fail
  have hbx := box2 HX15.out (.int .i64 X.key) (.int .i64 X.val)
  have e0 := hbx.cell 0
  have e1 := hbx.cell 1
  refine bodyPost_ret (v := .tuple #[.agg #[.int .i64 X.key, .int .i64 X.val], .int .i64 0]) (by first | (simp [results, Tryz.results18, go_sem, e0, e1]; done) | (simp at e0 e1; simp [results, Tryz.results18, go_sem, e0, e1])) rfl ?_
  exact ⟨rfl, below2 HF14.out (Nat.le_succ _) _ _⟩
end Go.Proofs.YthbppblmecdekaaGreatDoor

/- Levels that are written over: what stays so that the walk may go on. No walk. -/
namespace Go.Proofs.YthbppblmecdekaaGreatDoor
open Go Go.RowKit
set_option maxRecDepth 100000
def KeyRow (w : World) (B0 E : Nat) (A : Option Addr) (m : Nat) : Prop := m = 0 ∨ ∃ g cs, A = some ⟨g, 0, none⟩ ∧ (B0 ≤ g ∧ g < E) ∧ Blk w g 71 cs ∧ ∀ q, q < m → ∃ k, cs[q * 3]? = some (.int .i64 k)
structure LvRow (w : World) (B0 E g n : Nat) (cs : Array Value) : Prop where
  blk : Blk w g 74 cs
  base : B0 ≤ g ∧ g < E
  row : ∀ j, j < n → ∃ A m c, cs[j]? = some (.slice A m c) ∧ m ≤ 1000000 ∧ KeyRow w B0 E A m
section
variable {w w' : World} {B0 E g g2 n m i : Nat} {A : Option Addr} {cs : Array Value}
theorem KeyRow.get (h : KeyRow w B0 E A m) {q : Nat} (hq : q < m) : ∃ g k, A = some ⟨g, 0, none⟩ ∧ (B0 ≤ g ∧ g < E) ∧ w.cell? ⟨g, q * 3, none⟩ = some (.int .i64 k) ∧ w.frozen? ⟨g, q * 3, none⟩ = false ∧ ∃ cs, Blk w g 71 cs := by
  rcases h with h0 | ⟨g, cs, h1, h2, h3, h4⟩
  · omega
  · obtain ⟨k, hk⟩ := h4 q hq
    exact ⟨g, k, h1, h2, (h3.cell _).trans hk, h3.frozen _, cs, h3⟩
theorem KeyRow.setKey (h : KeyRow w B0 E A m) (g i : Nat) (k : Int) : KeyRow (w.setCell ⟨g, i, none⟩ (.int .i64 k)) B0 E A m := by
  rcases h with h0 | ⟨g', cs, h1, h2, h4, h5⟩
  · exact .inl h0
  · by_cases e : g' = g
    · subst e
      refine .inr ⟨g', _, h1, h2, h4.set_ i _, fun j hj => ?_⟩
      obtain ⟨k', hk'⟩ := h5 j hj
      rw [Array.getElem?_setIfInBounds]
      by_cases e2 : i = j * 3
      · rw [if_pos e2]
        have hlt : i < cs.size := by rw [e2]; exact (Array.getElem?_eq_some_iff.1 hk').1
        rw [if_pos hlt]
        exact ⟨k, rfl⟩
      · rw [if_neg e2]
        exact ⟨k', hk'⟩
    · exact .inr ⟨g', cs, h1, h2, h4.far (p := ⟨g, i, none⟩) e _, h5⟩
theorem KeyRow.setRow (h : KeyRow w B0 E A m) (hB : Blk w g 74 cs) (i : Nat) (u : Value) : KeyRow (w.setCell ⟨g, i, none⟩ u) B0 E A m := by
  rcases h with h0 | ⟨g', cs', h1, h2, h4, h5⟩
  · exact .inl h0
  · refine .inr ⟨g', cs', h1, h2, h4.far (p := ⟨g, i, none⟩) ?_ _, h5⟩
    intro e
    have e2 : g' = g := e
    subst e2
    have := h4.symm.trans hB
    simp at this
theorem KeyRow.below (h : KeyRow w B0 E A m) (hb : Below w.heap.size w w') : KeyRow w' B0 E A m := by
  rcases h with h0 | ⟨g', cs', h1, h2, h4, h5⟩
  · exact .inl h0
  · exact .inr ⟨g', cs', h1, h2, h4.below hb h4.lt, h5⟩
theorem LvRow.below (h : LvRow w B0 E g n cs) (hb : Below w.heap.size w w') : LvRow w' B0 E g n cs :=
  ⟨h.blk.below hb h.blk.lt, h.base, fun j hj => by obtain ⟨A, m, c, h1, h2, h3⟩ := h.row j hj; exact ⟨A, m, c, h1, h2, h3.below hb⟩⟩
theorem LvRow.setKey {cs2 : Array Value} (h : LvRow w B0 E g n cs) (h2 : Blk w g2 71 cs2) (i : Nat) (k : Int) : LvRow (w.setCell ⟨g2, i, none⟩ (.int .i64 k)) B0 E g n cs := by
  refine ⟨h.blk.far (p := ⟨g2, i, none⟩) ?_ _, h.base, fun j hj => ?_⟩
  · intro e
    have e2 : g = g2 := e
    subst e2
    have := h.blk.symm.trans h2
    simp at this
  · obtain ⟨A, m, c, h1, h3, h4⟩ := h.row j hj
    exact ⟨A, m, c, h1, h3, h4.setKey _ _ _⟩
theorem LvRow.clear (h : LvRow w B0 E g n cs) (i : Nat) : LvRow (w.setCell ⟨g, i, none⟩ (.slice none 0 0)) B0 E g n (cs.setIfInBounds i (.slice none 0 0)) := by
  refine ⟨h.blk.set_ i _, h.base, fun j hj => ?_⟩
  obtain ⟨A, m, c, h1, h3, h4⟩ := h.row j hj
  by_cases e : i = j
  · subst e
    have hlt : i < cs.size := (Array.getElem?_eq_some_iff.1 h1).1
    exact ⟨none, 0, 0, by rw [Array.getElem?_setIfInBounds, if_pos rfl, if_pos hlt], by omega, .inl rfl⟩
  · exact ⟨A, m, c, by rw [Array.getElem?_setIfInBounds, if_neg e]; exact h1, h3, h4.setRow h.blk _ _⟩
theorem OwnRs.lvRow {w0 : World} {B : Option Addr} {c : Nat} {Rs : List Rm} (h0 : OwnRs w0 B0 B c Rs) (h : OwnRs w B0 B c Rs) (hn : 0 < Rs.length) (hm : ∀ r ∈ Rs, r.l.length ≤ 1000000) : ∃ g cs, B = some ⟨g, 0, none⟩ ∧ LvRow w B0 w0.heap.size g Rs.length cs := by
  obtain ⟨g, cur, h1, h2, h3, h4, h5⟩ := h.at hn
  have hg0 := (h0.row.lt g (by rw [h1]; simp [Value.ownBlock])).2
  refine ⟨g, cur, h1, h3, ⟨h2, hg0⟩, fun j hj => ?_⟩
  have h6 := h5 j hj
  rw [h3.cell] at h6
  have hmem := List.getElem_mem hj
  refine ⟨_, _, _, h6, hm _ hmem, ?_⟩
  have h7 := h.ent _ hmem
  have h8 := h0.ent _ hmem
  by_cases hz : (Rs[j]'hj).l.length = 0
  · exact .inl hz
  · obtain ⟨g', cap, cur', hv, hg, hb, hn', _, hs, ht⟩ := own_blk h7 (by omega)
    have hg1 := (h8.lt g' (by rw [hv]; simp [Value.ownBlock])).2
    refine .inr ⟨g', cur', ?_, ⟨hg, hg1⟩, hb, fun q hq => ⟨((Rs[j]'hj).l[q]'hq).key, ?_⟩⟩
    · have := hv
      unfold Rm.v at this
      injection this
    · have hc := flat_get Ent.cells 3 Ent.cells_length (Rs[j]'hj).l q 0 hq (by omega)
      rw [← ht, List.getElem?_take, if_pos (by omega)] at hc
      simpa [Ent.cells] using hc
end
end Go.Proofs.YthbppblmecdekaaGreatDoor

/- Contract: levels written over (shelfmarklaw26.spoil). -/
namespace Go.Proofs.YthbppblmecdekaaGreatDoor
open Go Go.RowKit
set_option maxRecDepth 100000
theorem KeyRow.drew {w : World} {B0 E m : Nat} {A : Option Addr} (h : KeyRow w B0 E A m) : KeyRow w.drew B0 E A m := h
theorem LvRow.drew {w : World} {B0 E g n : Nat} {cs : Array Value} (h : LvRow w B0 E g n cs) : LvRow w.drew B0 E g n cs := ⟨h.blk, h.base, h.row⟩
end Go.Proofs.YthbppblmecdekaaGreatDoor

/- Contract: maps written over (shelfmarklaw27.spoil). -/
namespace Go.Proofs.YthbppblmecdekaaGreatDoor
open Go Go.RowKit
set_option maxRecDepth 100000
set_option maxHeartbeats 4000000 in
theorem spoil27_any (cf : Cfg) (B : Option Addr) (Rs : List Rm) (c B0 : Nat) (n : Int) (w0 w : World) (hO0 : OwnRs w0 B0 B c Rs) (hO : OwnRs w B0 B c Rs) (_hsw : w0.heap.size ≤ w.heap.size) (hl : Rs.length ≤ 1000000) (hm : ∀ r ∈ Rs, r.l.length ≤ 1000000) :
    Calls Tryz.prog 23 #[.agg (lrow cf B Rs.length c n)] w fun r w' => (∃ v, r = .returned v) ∧ Mod (fun b => B0 ≤ b ∧ b < w0.heap.size) w w' := by
  obtain ⟨W0, hW0⟩ : ∃ W0, w.alloc (.cells #[.int .u8 cf.tag, .int .i64 cf.most, .int .i64 cf.seg, .int .i64 cf.least, .int .i64 cf.den, .int .i64 cf.leafLow, .int .i64 cf.rootLow, .int .i64 cf.rootHigh, .int .i64 cf.leafHigh, .slice B Rs.length c, .int .u64 n] 29) = W0 := ⟨_, rfl⟩
  have hb0 : Below w.heap.size w W0 := by rw [← hW0]; exact (Below.refl _ _).alloc (Nat.le_refl _) _
  have b1 : Blk W0 w.heap.size 29 #[.int .u8 cf.tag, .int .i64 cf.most, .int .i64 cf.seg, .int .i64 cf.least, .int .i64 cf.den, .int .i64 cf.leafLow, .int .i64 cf.rootLow, .int .i64 cf.rootHigh, .int .i64 cf.leafHigh, .slice B Rs.length c, .int .u64 n] := by rw [← hW0]; exact Blk.new _ _ _
  have hbB : Hid (Mod (fun b => B0 ≤ b ∧ b < w0.heap.size) w W0) := Mod.of_ext hb0
  have hlw : w.heap.size ≤ W0.heap.size := hb0.size
  have HW0 := Lib.hid hW0
  have HO := Lib.hid (hO.below hb0)
  have HO0 := Lib.hid hO0
  clear hW0 hO hO0
  by_cases h0 : Rs.length = 0
  · have c10 : W0.cell? ⟨w.heap.size, 9, none⟩ = some (.slice B Rs.length c) := b1.cell 9
    rw [h0] at c10
    rw [h0] at HW0 ⊢
    clear h0 HO b1
    go_enter Tryz.func23, Tryz.ntmps23
    go_wp2
    rw [HW0.out]
    refine wp_loop_rounds 1 ?_
    rw [rounds_succ]
    go_wp2
    first
    | (go_end0; exact ⟨⟨_, rfl⟩, hbB.out⟩)
    | fail "no end"
  · obtain ⟨g, cs, rfl, hrow⟩ := HO0.out.lvRow HO.out (by omega) hm
    obtain ⟨N, hN⟩ : ∃ N, Rs.length = N := ⟨_, rfl⟩
    have HROW := Lib.hid hrow
    rw [hN] at b1 HW0 HROW hl h0 ⊢
    clear hrow hm HO hN
    go_enter Tryz.func23, Tryz.ntmps23
    go_wp2
    rw [HW0.out]
    go_loopw [2] (fun i wr => ∃ (k : Nat) (cs : Array Value), k ≤ N ∧ i = .int .i64 k ∧ Blk wr w.heap.size 29 #[.int .u8 cf.tag, .int .i64 cf.most, .int .i64 cf.seg, .int .i64 cf.least, .int .i64 cf.den, .int .i64 cf.leafLow, .int .i64 cf.rootLow, .int .i64 cf.rootHigh, .int .i64 cf.leafHigh, .slice (some ⟨g, 0, none⟩) N c, .int .u64 n] ∧ Hid (Mod (fun b => B0 ≤ b ∧ b < w0.heap.size) w wr ∧ LvRow wr B0 w0.heap.size g N cs)) (fun i _ => N - (intOf i).toNat)
    case atStart => exact ⟨0, cs, Nat.zero_le _, rfl, b1, hbB.out, HROW.out⟩
    case round =>
      obtain ⟨k, cs, hk, rfl, bX, hH⟩ := hrel
      have c10 : wr.cell? ⟨w.heap.size, 9, none⟩ = some (.slice (some ⟨g, 0, none⟩) N c) := bX.cell 9
      have c11 : wr.cell? ⟨w.heap.size, 10, none⟩ = some (.int .u64 n) := bX.cell 10
      by_cases hlt : k < N
      · obtain ⟨A, m, c2, hc1, hm1, hkr⟩ := hH.out.2.row k hlt
        have hki : (0 : Int) ≤ (k : Int) := by omega
        have hki2 : (k : Int) < (N : Int) := by omega
        have HC1 := Lib.hid hc1
        have HKR := Lib.hid hkr
        have HBX := Lib.hid bX
        clear hc1 hkr bX
        go_wp2_with fail
        clear c10 c11
        go_loopw [3] (fun i wq => ∃ q : Nat, q ≤ m ∧ i = .int .i64 q ∧ Blk wq w.heap.size 29 #[.int .u8 cf.tag, .int .i64 cf.most, .int .i64 cf.seg, .int .i64 cf.least, .int .i64 cf.den, .int .i64 cf.leafLow, .int .i64 cf.rootLow, .int .i64 cf.rootHigh, .int .i64 cf.leafHigh, .slice (some ⟨g, 0, none⟩) N c, .int .u64 n] ∧ Hid (Mod (fun b => B0 ≤ b ∧ b < w0.heap.size) w wq ∧ LvRow wq B0 w0.heap.size g N cs ∧ KeyRow wq B0 w0.heap.size A m)) (fun i _ => m - (intOf i).toNat)
        case atStart => exact ⟨0, Nat.zero_le _, rfl, HBX.out, hH.out.1, hH.out.2, HKR.out⟩
        case round =>
          obtain ⟨q, hq, rfl, bY, hI⟩ := hrel
          have c10 : wr.cell? ⟨w.heap.size, 9, none⟩ = some (.slice (some ⟨g, 0, none⟩) N c) := bY.cell 9
          have c11 : wr.cell? ⟨w.heap.size, 10, none⟩ = some (.int .u64 n) := bY.cell 10
          have c20 : wr.cell? ⟨g, k, none⟩ = some (.slice A m c2) := (hI.out.2.1.blk.cell k).trans HC1.out
          have f20 : wr.frozen? ⟨g, k, none⟩ = false := hI.out.2.1.blk.frozen k
          by_cases hqm : q < m
          · obtain ⟨g2, kk, rfl, hg2, ck, fk, cs2, b2⟩ := hI.out.2.2.get hqm
            have i0 : (0 : Int) ≤ (q : Int) := by omega
            have i1 : (q : Int) < (m : Int) := by omega
            have HB2 := Lib.hid b2
            have HBY := Lib.hid bY
            have hneX : Hid (w.heap.size ≠ g2) := (blk_ne b2 bY (by decide)).symm
            clear b2 bY
            go_upto_region 7 with fail
            go_region
            all_goals
              go_wp2
              go_roundw
              case rel =>
                exact ⟨q + 1, by omega, by go_num, HBY.out.far (p := ⟨g2, q * 3, none⟩) hneX.out _, (hI.out.1.setCell (p := ⟨g2, q * 3, none⟩) hg2 _).drew, (hI.out.2.1.setKey HB2.out (q * 3) _).drew, (hI.out.2.2.setKey g2 (q * 3) _).drew⟩
              case measure => simp [intOf]; omega
          · have hqf : ¬ (q : Int) < (m : Int) := by omega
            have lg := hI.out.2.1.blk.lt
            have HBY := Lib.hid bY
            have hneX : Hid (w.heap.size ≠ g) := (blk_ne hI.out.2.1.blk bY (by decide)).symm
            clear bY
            go_wp2
            go_roundw
            case rel =>
              have hHo := hI.out
              exact ⟨k + 1, cs, by omega, by go_num, HBY.out, hHo.1, hHo.2.1⟩
            case measure => simp [intOf]; omega
      · have hkf : ¬ (k : Int) < (N : Int) := by omega
        go_wp2
        first
        | (go_end0; exact ⟨⟨_, rfl⟩, hH.out.1⟩)
        | fail "no end"
end Go.Proofs.YthbppblmecdekaaGreatDoor

/- Structs compared: entries and pairs. No walk. -/
namespace Go.Proofs.YthbppblmecdekaaGreatDoor
open Go Go.RowKit
set_option maxRecDepth 100000
def eqX (a b : Ent) : Bool := decide (a = b)
theorem eqX_self (a : Ent) : eqX a a = true := decide_eq_true rfl
theorem run_eql_ent (a b : Ent) (w : World) :
    (binOp .eql 71 (.agg #[.int .i64 a.key, .int .i64 a.val, .bool a.dead]) (.agg #[.int .i64 b.key, .int .i64 b.val, .bool b.dead])).run Tryz.prog w = .ok (.bool (eqX a b)) w := by
  have h3 := Tryz.underlying71
  obtain ⟨k, v, d⟩ := a
  obtain ⟨k', v', d'⟩ := b
  simp only [go_sem, h3]
  simp [go_sem, eqX]
  by_cases hk : k = k' <;> by_cases hv : v = v' <;> by_cases hd : d = d' <;> simp [hk, hv, hd]
theorem tab_below' {g : Nat} {w w' : World} (h : TabAt g Lib.deBruijn64tab w) (hb : Below w.heap.size w w') : TabAt g Lib.deBruijn64tab w' := tab_below (tab_lt h) h hb
def eqP (a b : Pr) : Bool := decide (a = b)
theorem run_eql_pr (a b : Pr) (w : World) :
    (binOp .eql 47 (.agg #[.int .i64 a.key, .int .i64 a.val]) (.agg #[.int .i64 b.key, .int .i64 b.val])).run Tryz.prog w = .ok (.bool (eqP a b)) w := by
  have h3 := Tryz.underlying47
  obtain ⟨k, v⟩ := a
  obtain ⟨k', v'⟩ := b
  simp only [go_sem, h3]
  simp [go_sem, eqP]
  by_cases hk : k = k' <;> by_cases hv : v = v' <;> simp [hk, hv]
theorem met_succ {m : List Pr} {k : Nat} (h : k < m.length) (q : Pr) : decide (q ∈ m.take (k + 1)) = (decide (q ∈ m.take k) || eqP (m[k]'h) q) := by
  have h0 : q ∈ m.take (k + 1) ↔ q ∈ m.take k ∨ q = m[k]'h := by rw [List.take_succ_eq_append_getElem h, List.mem_append, List.mem_singleton]
  unfold eqP
  rw [Bool.eq_iff_iff, decide_eq_true_iff, h0, Bool.or_eq_true, decide_eq_true_iff, decide_eq_true_iff]
  exact ⟨fun h => h.imp id Eq.symm, fun h => h.imp id Eq.symm⟩
end Go.Proofs.YthbppblmecdekaaGreatDoor
