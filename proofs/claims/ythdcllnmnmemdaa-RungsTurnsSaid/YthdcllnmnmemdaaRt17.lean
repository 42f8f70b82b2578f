/- The law RungsTurns: for every levels, entry and pairs it returns true (what is let in, and levels of pairs, or the errors, are the document's; they stay, and what is answered is new memory). It holds of all levels, entries and pairs that can be read; no further condition. -/
import Derived.Test.YthdcllnmnmemdaaRt16
import Derived.Test.YthdcllnmnmemdaaRt1
import Derived.ProofKit
import Derived.OpenShut
import Derived.JoinedCond
import Derived.Deep.Slices
import Derived.Test.YthdcllnmnmemdaaProg
import Derived.Test.YthdcllnmnmemdaaRt6
import Derived.Test.YthdcllnmnmemdaaRt9
import Derived.Test.YthdcllnmnmemdaaRows
/- The law RungsTurns: for every levels, entry and pairs it returns true; its arguments stay as they were. -/
namespace Go.Proofs.Ythdcllnmnmemdaa
open Go Go.RowKit
set_option maxRecDepth 100000
theorem addL_small {rs : Lv} {n : Int} {y : Ent} {T : Nat} (hT : tot rs ≤ T) : tot (addL rs n y) ≤ T + 1 ∧ (addL rs n y).length ≤ 17 := by
  unfold addL
  split
  · rename_i h
    obtain ⟨hM, ht, hb⟩ := addE_zero.1 h
    have h1 := letL_tot hM hb ht n
    have h2 := let_may hM hb ht n
    have h3 := (slim_may h2).1.len
    refine ⟨?_, h3⟩
    unfold slimL
    split
    · rw [alone_tot, laid_length]
      have := @allL_le (letL rs n y)
      omega
    · omega
  · exact ⟨by simp [tot], by simp⟩
theorem ofLr_small {rs : Lv} {l : List Pr} {T : Nat} (hT : l.length ≤ T) (h6 : T ≤ 65536) : tot (ofLr rs l) ≤ T ∧ (ofLr rs l).length ≤ 17 := by
  unfold ofLr
  split
  · refine ⟨by rw [alone_tot, laid_length, List.length_map]; exact hT, ?_⟩
    rw [stand_len]
    have := up_16 (n := (laid (l.map aliveE)).length) (by rw [laid_length, List.length_map]; omega)
    split <;> simp <;> omega
  · exact ⟨by simp [tot], by simp⟩
theorem rs_small {Rs : List Rm} {L : Lv} {T : Nat} (h : lvs Rs = L) (h1 : tot L ≤ T) (h2 : L.length ≤ 17) (h3 : T ≤ 1000000 := by omega) : Rs.length ≤ 1000000 ∧ ∀ r ∈ Rs, r.l.length ≤ 1000000 := by
  refine ⟨by rw [rs_len h]; omega, fun r hr => ?_⟩
  have h5 := le_sum (List.mem_map.2 ⟨r.l, List.mem_map.2 ⟨r, hr, rfl⟩, rfl⟩ : r.l.length ∈ ((lvs Rs).map List.length))
  rw [h] at h5
  unfold tot at h1
  omega
theorem lv_le {Rs : List Rm} {T : Nat} (h : tot (lvs Rs) ≤ T) : ∀ r ∈ Rs, r.l.length ≤ T := fun r hr => by
  have h1 := le_sum (List.mem_map.2 ⟨r.l, List.mem_map.2 ⟨r, hr, rfl⟩, rfl⟩ : r.l.length ∈ ((lvs Rs).map List.length))
  unfold tot at h
  omega
theorem OwnRs.modF {w w' : World} {S : Nat → Prop} {B0 : Nat} {B : Option Addr} {c : Nat} {Rs : List Rm} (h : OwnRs w B0 B c Rs) (hm : Mod S w w') (hn : ∀ k, B0 ≤ k → ¬ S k) : OwnRs w' B0 B c Rs :=
  ⟨own_mod h.row hm hn, fun r hr => own_mod (h.ent r hr) hm hn⟩
theorem RunsAt.modF {w w' : World} {S : Nat → Prop} {B : Option Addr} {Rs : List Rm} {L : Nat} (_h : RunsAt w B Rs) (hm : Mod S w w') (hL : ∀ k, S k → L ≤ k) {w0 : World} (h0 : RunsAt w0 B Rs) (hw : w0.heap.size ≤ L) (hbl : Below w0.heap.size w0 w) : RunsAt w' B Rs := by
  have hb2 : Below w0.heap.size w0 w' := hbl.trans (hm.below (B := w0.heap.size) hbl.size (fun k hk => by have := hL k hk; omega))
  exact h0.below hb2
set_option maxHeartbeats 16000000 in
theorem rungsTurns_any (B A : Option Addr) (Rs : List Rm) (c cq : Nat) (n : Int) (y : Ent) (l : List Pr) (w : World) (hB : RunsAt w B Rs) (hn : 0 ≤ n ∧ n ≤ 18446744073709551615) (hA : Sl w A (l.flatMap Pr.cells)) :
    Calls Try.prog 3 #[.agg #[.slice B Rs.length c, .int .u64 n], .agg #[.int .i64 y.key, .int .i64 y.val, .bool y.dead], .slice A l.length cq] w fun r w' => r = .returned (.bool true) ∧ Below w.heap.size w w' := by
  obtain ⟨W0, hW0⟩ : ∃ W0, (w.alloc (.cells #[.slice B Rs.length c, .int .u64 n] 25)).alloc (.cells #[.int .i64 y.key, .int .i64 y.val, .bool y.dead] 27) = W0 := ⟨_, rfl⟩
  have hb0 : Below w.heap.size w W0 := by rw [← hW0]; exact ((Below.refl _ _).alloc (Nat.le_refl _) _).alloc (by simp) _
  have b30 : Blk W0 w.heap.size 25 #[.slice B Rs.length c, .int .u64 n] := by rw [← hW0]; exact (Blk.new _ _ _).alloc _
  have b40 : Blk W0 (w.heap.size + 1) 27 #[.int .i64 y.key, .int .i64 y.val, .bool y.dead] := by
    rw [← hW0]
    have := Blk.new (w.alloc (.cells #[.slice B Rs.length c, .int .u64 n] 25)) 27 #[.int .i64 y.key, .int .i64 y.val, .bool y.dead]
    rwa [World.size_alloc] at this
  have HW0 := Lib.hid hW0
  have HB := Lib.hid (hB.below hb0)
  have HA := Lib.hid (hA.below hb0)
  have HNR := Lib.hid hn
  clear hW0 hB hA hn
  go_enter Try.func3, Try.ntmps3
  go_wp2_with fail
  rw [HW0.out]
  refine (great26_any B Rs c 300 n _ HB.out (by omega)).mono ?_
  rintro e w1 ⟨G, rfl, hG, hb1⟩
  have HB01 := Lib.hid (bext hb0 hb1)
  cases G with
  | true =>
    clear hG
    go_wp2
    go_ret
    exact ⟨rfl, HB01.out⟩
  | false =>
  have hG2 := hG rfl
  clear hG
  by_cases hl : l.length > 300
  · have g1 : (300 : Int) < (l.length : Int) := by omega
    go_wp2
    go_ret
    exact ⟨rfl, HB01.out⟩
  have g1 : ¬ (300 : Int) < (l.length : Int) := by omega
  have hl3 : l.length ≤ 300 := by omega
  have hT3 : tot (lvs Rs) ≤ 300 := by omega
  have hR3 : Rs.length ≤ 300 := by omega
  have HRS := Lib.hid (lv_le hT3)
  have b31 := b30.below hb1 b30.lt
  have b41 := b40.below hb1 b40.lt
  have HB1 := Lib.hid (HB.out.below hb1)
  have HA1 := Lib.hid (HA.out.below hb1)
  obtain ⟨ti0, hTI⟩ := info_parts pr_info
  have HTI := Lib.hid hTI
  clear hG2 hl b30 b40 hb0 hb1 HB HA hTI
  have c30 : w1.cell? ⟨w.heap.size, 0, none⟩ = some (.slice B Rs.length c) := b31.cell 0
  have c31 : w1.cell? ⟨w.heap.size, 1, none⟩ = some (.int .u64 n) := b31.cell 1
  go_wp2_with fail
  clear g1
  refine (twin26_any B Rs c n _ HB1.out (by omega) (fun r hr => by have := HRS.out r hr; omega)).mono ?_
  rintro e w2 ⟨B2, c2, Rs2, rfl, hl2, ho2, hb2⟩
  have HL2 := Lib.hid hl2
  have hN2 : Rs2.length = Rs.length := by rw [rs_len hl2, lvs_len]
  rw [hN2]
  have b32 := b31.below hb2 b31.lt
  have b42 := b41.below hb2 b41.lt
  have HB02 := Lib.hid (bext HB01.out hb2)
  have HB2 := Lib.hid (HB1.out.below hb2)
  have HA2 := Lib.hid (HA1.out.below hb2)
  have hs2 : w.heap.size ≤ w2.heap.size := HB02.out.size
  have HO2 := Lib.hid ho2
  have HN2 := Lib.hid hN2
  have hown0 : (w2.alloc (.cells #[] 68)).ownsRow w2.heap.size 68 2 (.slice (some ⟨w2.heap.size, 0, none⟩) 0 0) 0 [] := World.ownsRow_made (base := w2.heap.size) (e := 68) (size := 2) w2 #[] 0 (Nat.le_refl _) (Nat.zero_le _) rfl
  have HOWN0 := Lib.hid hown0
  clear hl2 ho2 hown0 c30 c31 hN2
  go_upto_region 4 with (at_builtin; refine wpList_append_sl _ rfl (.tmp 27) (.tmp 28) _ rfl w2.heap.size 68 ti0 _ 2 16 Try.underlying28 HTI.out.1 HTI.out.2.1 HTI.out.2.2.1 HTI.out.2.2.2 rfl (by omega) (.slice (some ⟨w2.heap.size, 0, none⟩) 0 0) 0 [] rfl HOWN0.out A l.length cq (l.flatMap Pr.cells) rfl (HA2.out.below ((Below.refl _ _).alloc (Nat.le_refl _) _)) (flat_length Pr.cells 2 Pr.cells_length l) (by intro u hu; obtain ⟨e, _, he⟩ := List.mem_flatMap.1 hu; simp [Pr.cells] at he; rcases he with rfl | rfl <;> rfl) (by unfold maxLen; omega) (by omega) (by simp) ?_; intro v3 w3 hown3 hg3; obtain ⟨A3, c3, hv3⟩ := own_form hown3; have hv4 := hv3.1; subst hv4; have HO3 := Lib.hid hown3; have HG3 := Lib.hid hg3; clear hown3 hg3 hv3)
  have hb3 : Below w2.heap.size w2 w3 := ((Below.refl _ _).alloc (Nat.le_refl _) _).grown HG3.out (by simp) (by intro q hq; simp [Value.ownBlock] at hq; omega)
  obtain ⟨U1, hU1⟩ : ∃ U, w3.alloc (.cells #[.slice B2 Rs.length c2, .int .u64 n] 25) = U := ⟨_, rfl⟩
  have hb4 : Below w3.heap.size w3 U1 := by rw [← hU1]; exact (Below.refl _ _).alloc (Nat.le_refl _) _
  have bo1 : Blk U1 w3.heap.size 25 #[.slice B2 Rs.length c2, .int .u64 n] := by rw [← hU1]; exact Blk.new _ _ _
  rw [hU1]
  have hb34 := bext hb3 hb4
  have HX1 := Lib.hid (b32.below hb34 b32.lt)
  have HY1 := Lib.hid (b42.below hb34 b42.lt)
  have HBU := Lib.hid (HB2.out.below hb34)
  have HAU := Lib.hid (HA2.out.below hb34)
  have HOU := Lib.hid (HO2.out.below hb34)
  have HMU := Lib.hid ((own_sl HO3.out).below hb4)
  have HWU := Lib.hid (bext HB02.out hb34)
  obtain ⟨gx, hgx⟩ : ∃ g, w.heap.size = g := ⟨_, rfl⟩
  obtain ⟨gy, hgy⟩ : ∃ g, w.heap.size + 1 = g := ⟨_, rfl⟩
  obtain ⟨go, hgo⟩ : ∃ g, w3.heap.size = g := ⟨_, rfl⟩
  have HX2 : Hid (Blk U1 gx 25 #[.slice B Rs.length c, .int .u64 n]) := by rw [← hgx]; exact HX1
  have HY2 : Hid (Blk U1 gy 27 #[.int .i64 y.key, .int .i64 y.val, .bool y.dead]) := by rw [← hgy]; exact HY1
  have HO2b : Hid (Blk U1 go 25 #[.slice B2 Rs.length c2, .int .u64 n]) := by rw [← hgo]; exact bo1
  rw [hgy]
  try rw [hgx]
  rw [hgo]
  obtain ⟨LA, hLA⟩ : ∃ L, addL (lvs Rs) n y = L := ⟨_, rfl⟩
  obtain ⟨NA, hNA⟩ : ∃ L, addN (lvs Rs) n y = L := ⟨_, rfl⟩
  obtain ⟨EA, hEA⟩ : ∃ L, addE (lvs Rs) y = L := ⟨_, rfl⟩
  obtain ⟨LO, hLO⟩ : ∃ L, ofLr (lvs Rs) l = L := ⟨_, rfl⟩
  obtain ⟨NO, hNO⟩ : ∃ L, ofNr (lvs Rs) n l = L := ⟨_, rfl⟩
  obtain ⟨EO, hEO⟩ : ∃ L, ofEr (lvs Rs) l = L := ⟨_, rfl⟩
  have HSA := Lib.hid (show tot LA ≤ 301 ∧ LA.length ≤ 17 by rw [← hLA]; exact addL_small hT3)
  have HSO := Lib.hid (show tot LO ≤ 300 ∧ LO.length ≤ 17 by rw [← hLO]; exact ofLr_small hl3 (by omega))
  have hL2 : lvs Rs2 = lvs Rs := HL2.out
  have hN2 : Rs2.length = Rs.length := HN2.out
  have HADD : Hid (∀ W, Below U1.heap.size U1 W → Calls Try.prog 7 #[.agg #[.slice B2 Rs.length c2, .int .u64 n], .agg #[.int .i64 y.key, .int .i64 y.val, .bool y.dead]] W (GivesRgE LA NA EA W)) := by
    show ∀ _, _
    intro W hW
    have h8 := addR_any B2 Rs2 c2 n y W (HOU.out.runsAt.below hW) (by rw [hL2]; omega) (by omega)
    rw [hN2, hL2, hLA, hNA, hEA] at h8
    exact h8
  have HADR : Hid (∀ W, Below U1.heap.size U1 W → Calls Try.prog 8 #[.agg #[.slice B Rs.length c, .int .u64 n], .agg #[.int .i64 y.key, .int .i64 y.val, .bool y.dead]] W (GivesRgE LA NA EA W)) := by
    show ∀ _, _
    intro W hW
    have h8 := add26_any B Rs c n y W (HBU.out.below hW) (by omega) (by omega) HNR.out
    rw [hLA, hNA, hEA] at h8
    exact h8
  have HOFF : Hid (∀ W, Below U1.heap.size U1 W → Calls Try.prog 9 #[.agg #[.slice B2 Rs.length c2, .int .u64 n], .slice A3 l.length c3] W (GivesRgE LO NO EO W)) := by
    show ∀ _, _
    intro W hW
    have h8 := ofR_any B2 A3 Rs2 l c2 c3 n W (HOU.out.runsAt.below hW) (by rw [hL2]; omega) (by omega) (HMU.out.below hW) (by omega)
    rw [hN2, hL2, hLO, hNO, hEO] at h8
    exact h8
  have HOFR : Hid (∀ W, Below U1.heap.size U1 W → Calls Try.prog 10 #[.agg #[.slice B Rs.length c, .int .u64 n], .slice A l.length cq] W (GivesRgE LO NO EO W)) := by
    show ∀ _, _
    intro W hW
    have h8 := of26_any B A Rs l c cq n W (HBU.out.below hW) (by omega) (by omega) (HAU.out.below hW) (by omega)
    rw [hLO, hNO, hEO] at h8
    exact h8
  have HFR : Hid (Below U1.heap.size U1 U1) := Below.refl _ _
  clear hb3 hb4 hb34 bo1 hU1 HX1 HY1 HO3 HG3 HB1 HA1 HA2 HB2 HO2 HB01 HB02 b32 b42 hgx hgy hgo hLA hNA hEA hLO hNO hEO hL2 hN2 b31 b41 hs2 HOWN0 HTI HW0
  have KX := HX2
  have KY := HY2
  have KO := HO2b
  have c1 : U1.cell? ⟨go, 0, none⟩ = some (.slice B2 Rs.length c2) := HO2b.out.cell 0
  have c2 : U1.cell? ⟨go, 1, none⟩ = some (.int .u64 n) := HO2b.out.cell 1
  have l3 : go < U1.heap.size := HO2b.out.lt
  have c4 : U1.cell? ⟨gy, 0, none⟩ = some (.int .i64 y.key) := HY2.out.cell 0
  have c5 : U1.cell? ⟨gy, 1, none⟩ = some (.int .i64 y.val) := HY2.out.cell 1
  have c6 : U1.cell? ⟨gy, 2, none⟩ = some (.bool y.dead) := HY2.out.cell 2
  have l7 : gy < U1.heap.size := HY2.out.lt
  go_wp2_with fail
  clear c1 c2 l3 c4 c5 c6 l7
  refine (HADD.out _ HFR.out).mono ?_
  rintro e w8 ⟨Ba, ca, Ra, rfl, hla, hoa, hb9⟩
  obtain ⟨Na, hNa⟩ : ∃ N, Ra.length = N := ⟨_, rfl⟩
  rw [hNa]
  have KNa := Lib.hid hNa
  have KLa := Lib.hid hla
  have KOa := Lib.hid hoa
  have KSa := Lib.hid (rs_small hla HSA.out.1 HSA.out.2)
  clear hNa hla hoa
  have HF10 := Lib.hid (bext HFR.out hb9)
  have HX11 := Lib.hid (HX2.out.below hb9 HX2.out.lt)
  have HX12 := Lib.hid (HY2.out.below hb9 HY2.out.lt)
  have HX13 := Lib.hid (HO2b.out.below hb9 HO2b.out.lt)
  clear HFR HX2 HY2 HO2b
  clear hb9
  have HY14 := Lib.hid (KOa.out)
  have HY15 := Lib.hid ((Below.refl w8.heap.size w8))
  go_upto_region 5 with fail
  obtain ⟨U16, h18⟩ : ∃ U, w8.alloc (.cells #[.slice Ba Na ca, .int .u64 NA] 25) = U := ⟨_, rfl⟩
  have ba19 : Below w8.heap.size w8 U16 := by rw [← h18]; exact (Below.refl _ _).alloc (Nat.le_refl _) _
  have bn20 : Blk U16 w8.heap.size 25 #[.slice Ba Na ca, .int .u64 NA] := by rw [← h18]; exact Blk.new _ _ _
  try rw [h18]
  have HF21 := Lib.hid (bext HF10.out ba19)
  have HX22 := Lib.hid (HX11.out.below ba19 HX11.out.lt)
  have HX23 := Lib.hid (HX12.out.below ba19 HX12.out.lt)
  have HX24 := Lib.hid (HX13.out.below ba19 HX13.out.lt)
  have HY25 := Lib.hid (HY14.out.below ba19)
  have HY26 := Lib.hid (bext HY15.out ba19)
  clear HF10 HX11 HX12 HX13 HY14 HY15
  obtain ⟨g17, h27⟩ : ∃ g, w8.heap.size = g := ⟨_, rfl⟩
  rw [h27] at bn20
  try rw [h27]
  have HX28 := Lib.hid bn20
  clear h18 ba19 bn20 h27
  have c29 : U16.cell? ⟨gx, 0, none⟩ = some (.slice B Rs.length c) := HX22.out.cell 0
  have c30 : U16.cell? ⟨gx, 1, none⟩ = some (.int .u64 n) := HX22.out.cell 1
  have l31 : gx < U16.heap.size := HX22.out.lt
  have c32 : U16.cell? ⟨gy, 0, none⟩ = some (.int .i64 y.key) := HX23.out.cell 0
  have c33 : U16.cell? ⟨gy, 1, none⟩ = some (.int .i64 y.val) := HX23.out.cell 1
  have c34 : U16.cell? ⟨gy, 2, none⟩ = some (.bool y.dead) := HX23.out.cell 2
  have l35 : gy < U16.heap.size := HX23.out.lt
  go_wp2_with fail
  clear c29 c30 l31 c32 c33 c34 l35
  refine (HADR.out _ HF21.out).mono ?_
  rintro e w36 ⟨Bb, cb, Rb, rfl, hlb, hob, hb37⟩
  obtain ⟨Nb, hNb⟩ : ∃ N, Rb.length = N := ⟨_, rfl⟩
  rw [hNb]
  have KNb := Lib.hid hNb
  have KLb := Lib.hid hlb
  have KOb := Lib.hid hob
  have KSb := Lib.hid (rs_small hlb HSA.out.1 HSA.out.2)
  clear hNb hlb hob
  have HF38 := Lib.hid (bext HF21.out hb37)
  have HX39 := Lib.hid (HX22.out.below hb37 HX22.out.lt)
  have HX40 := Lib.hid (HX23.out.below hb37 HX23.out.lt)
  have HX41 := Lib.hid (HX24.out.below hb37 HX24.out.lt)
  have HX42 := Lib.hid (HX28.out.below hb37 HX28.out.lt)
  have HY43 := Lib.hid (HY25.out.below hb37)
  have HY44 := Lib.hid (bext HY26.out hb37)
  clear HF21 HX22 HX23 HX24 HX28 HY25 HY26
  clear hb37
  have HY45 := Lib.hid (KOb.out)
  have HY46 := Lib.hid ((Below.refl w36.heap.size w36))
  go_upto_region 6 with fail
  obtain ⟨U47, h49⟩ : ∃ U, w36.alloc (.cells #[.slice Bb Nb cb, .int .u64 NA] 25) = U := ⟨_, rfl⟩
  have ba50 : Below w36.heap.size w36 U47 := by rw [← h49]; exact (Below.refl _ _).alloc (Nat.le_refl _) _
  have bn51 : Blk U47 w36.heap.size 25 #[.slice Bb Nb cb, .int .u64 NA] := by rw [← h49]; exact Blk.new _ _ _
  try rw [h49]
  have HF52 := Lib.hid (bext HF38.out ba50)
  have HX53 := Lib.hid (HX39.out.below ba50 HX39.out.lt)
  have HX54 := Lib.hid (HX40.out.below ba50 HX40.out.lt)
  have HX55 := Lib.hid (HX41.out.below ba50 HX41.out.lt)
  have HX56 := Lib.hid (HX42.out.below ba50 HX42.out.lt)
  have HY57 := Lib.hid (HY43.out.below ba50)
  have HY58 := Lib.hid (bext HY44.out ba50)
  have HY59 := Lib.hid (HY45.out.below ba50)
  have HY60 := Lib.hid (bext HY46.out ba50)
  clear HF38 HX39 HX40 HX41 HX42 HY43 HY44 HY45 HY46
  obtain ⟨g48, h61⟩ : ∃ g, w36.heap.size = g := ⟨_, rfl⟩
  rw [h61] at bn51
  try rw [h61]
  have HX62 := Lib.hid bn51
  clear h49 ba50 bn51 h61
  have HCA := Lib.hid (HY58.out.size)
  have HUC := Lib.hid (HF52.out.size)
  have c63 : U47.cell? ⟨go, 0, none⟩ = some (.slice B2 Rs.length c2) := HX55.out.cell 0
  have c64 : U47.cell? ⟨go, 1, none⟩ = some (.int .u64 n) := HX55.out.cell 1
  have l65 : go < U47.heap.size := HX55.out.lt
  go_wp2_with fail
  clear c63 c64 l65
  refine (HOFF.out _ HF52.out).mono ?_
  rintro e w66 ⟨Bc, cc, Rc, rfl, hlc, hoc, hb67⟩
  obtain ⟨Nc, hNc⟩ : ∃ N, Rc.length = N := ⟨_, rfl⟩
  rw [hNc]
  have KNc := Lib.hid hNc
  have KLc := Lib.hid hlc
  have KOc := Lib.hid hoc
  have KSc := Lib.hid (rs_small hlc HSO.out.1 HSO.out.2)
  clear hNc hlc hoc
  have HF68 := Lib.hid (bext HF52.out hb67)
  have HX69 := Lib.hid (HX53.out.below hb67 HX53.out.lt)
  have HX70 := Lib.hid (HX54.out.below hb67 HX54.out.lt)
  have HX71 := Lib.hid (HX55.out.below hb67 HX55.out.lt)
  have HX72 := Lib.hid (HX56.out.below hb67 HX56.out.lt)
  have HX73 := Lib.hid (HX62.out.below hb67 HX62.out.lt)
  have HY74 := Lib.hid (HY57.out.below hb67)
  have HY75 := Lib.hid (bext HY58.out hb67)
  have HY76 := Lib.hid (HY59.out.below hb67)
  have HY77 := Lib.hid (bext HY60.out hb67)
  clear HF52 HX53 HX54 HX55 HX56 HX62 HY57 HY58 HY59 HY60
  clear hb67
  have HY78 := Lib.hid (KOc.out)
  have hcgs := HY75.out.size
  have HY79 := Lib.hid ((Below.refl w66.heap.size w66))
  go_upto_region 7 with fail
  obtain ⟨U80, h82⟩ : ∃ U, w66.alloc (.cells #[.slice Bc Nc cc, .int .u64 NO] 25) = U := ⟨_, rfl⟩
  have ba83 : Below w66.heap.size w66 U80 := by rw [← h82]; exact (Below.refl _ _).alloc (Nat.le_refl _) _
  have bn84 : Blk U80 w66.heap.size 25 #[.slice Bc Nc cc, .int .u64 NO] := by rw [← h82]; exact Blk.new _ _ _
  try rw [h82]
  have HF85 := Lib.hid (bext HF68.out ba83)
  have HX86 := Lib.hid (HX69.out.below ba83 HX69.out.lt)
  have HX87 := Lib.hid (HX70.out.below ba83 HX70.out.lt)
  have HX88 := Lib.hid (HX71.out.below ba83 HX71.out.lt)
  have HX89 := Lib.hid (HX72.out.below ba83 HX72.out.lt)
  have HX90 := Lib.hid (HX73.out.below ba83 HX73.out.lt)
  have HY91 := Lib.hid (HY74.out.below ba83)
  have HY92 := Lib.hid (bext HY75.out ba83)
  have HY93 := Lib.hid (HY76.out.below ba83)
  have HY94 := Lib.hid (bext HY77.out ba83)
  have HY95 := Lib.hid (HY78.out.below ba83)
  have HY96 := Lib.hid (bext HY79.out ba83)
  clear HF68 HX69 HX70 HX71 HX72 HX73 HY74 HY75 HY76 HY77 HY78 HY79
  obtain ⟨g81, h97⟩ : ∃ g, w66.heap.size = g := ⟨_, rfl⟩
  rw [h97] at bn84
  try rw [h97]
  have HX98 := Lib.hid bn84
  have HCG := Lib.hid (show w8.heap.size ≤ g81 by rw [← h97]; exact hcgs)
  clear hcgs
  clear h82 ba83 bn84 h97
  have c99 : U80.cell? ⟨gx, 0, none⟩ = some (.slice B Rs.length c) := HX86.out.cell 0
  have c100 : U80.cell? ⟨gx, 1, none⟩ = some (.int .u64 n) := HX86.out.cell 1
  have l101 : gx < U80.heap.size := HX86.out.lt
  go_wp2_with fail
  clear c99 c100 l101
  refine (HOFR.out _ HF85.out).mono ?_
  rintro e w102 ⟨Bd, cd, Rd, rfl, hld, hod, hb103⟩
  obtain ⟨Nd, hNd⟩ : ∃ N, Rd.length = N := ⟨_, rfl⟩
  rw [hNd]
  have KNd := Lib.hid hNd
  have KLd := Lib.hid hld
  have KOd := Lib.hid hod
  have KSd := Lib.hid (rs_small hld HSO.out.1 HSO.out.2)
  clear hNd hld hod
  have HF104 := Lib.hid (bext HF85.out hb103)
  have HX105 := Lib.hid (HX86.out.below hb103 HX86.out.lt)
  have HX106 := Lib.hid (HX87.out.below hb103 HX87.out.lt)
  have HX107 := Lib.hid (HX88.out.below hb103 HX88.out.lt)
  have HX108 := Lib.hid (HX89.out.below hb103 HX89.out.lt)
  have HX109 := Lib.hid (HX90.out.below hb103 HX90.out.lt)
  have HX110 := Lib.hid (HX98.out.below hb103 HX98.out.lt)
  have HY111 := Lib.hid (HY91.out.below hb103)
  have HY112 := Lib.hid (bext HY92.out hb103)
  have HY113 := Lib.hid (HY93.out.below hb103)
  have HY114 := Lib.hid (bext HY94.out hb103)
  have HY115 := Lib.hid (HY95.out.below hb103)
  have HY116 := Lib.hid (bext HY96.out hb103)
  clear HF85 HX86 HX87 HX88 HX89 HX90 HX98 HY91 HY92 HY93 HY94 HY95 HY96
  clear hb103
  have HY117 := Lib.hid (KOd.out)
  have HY118 := Lib.hid ((Below.refl w102.heap.size w102))
  go_upto_region 8 with fail
  obtain ⟨U119, h121⟩ : ∃ U, w102.alloc (.cells #[.slice Bd Nd cd, .int .u64 NO] 25) = U := ⟨_, rfl⟩
  have ba122 : Below w102.heap.size w102 U119 := by rw [← h121]; exact (Below.refl _ _).alloc (Nat.le_refl _) _
  have bn123 : Blk U119 w102.heap.size 25 #[.slice Bd Nd cd, .int .u64 NO] := by rw [← h121]; exact Blk.new _ _ _
  try rw [h121]
  have HF124 := Lib.hid (bext HF104.out ba122)
  have HX125 := Lib.hid (HX105.out.below ba122 HX105.out.lt)
  have HX126 := Lib.hid (HX106.out.below ba122 HX106.out.lt)
  have HX127 := Lib.hid (HX107.out.below ba122 HX107.out.lt)
  have HX128 := Lib.hid (HX108.out.below ba122 HX108.out.lt)
  have HX129 := Lib.hid (HX109.out.below ba122 HX109.out.lt)
  have HX130 := Lib.hid (HX110.out.below ba122 HX110.out.lt)
  have HY131 := Lib.hid (HY111.out.below ba122)
  have HY132 := Lib.hid (bext HY112.out ba122)
  have HY133 := Lib.hid (HY113.out.below ba122)
  have HY134 := Lib.hid (bext HY114.out ba122)
  have HY135 := Lib.hid (HY115.out.below ba122)
  have HY136 := Lib.hid (bext HY116.out ba122)
  have HY137 := Lib.hid (HY117.out.below ba122)
  have HY138 := Lib.hid (bext HY118.out ba122)
  clear HF104 HX105 HX106 HX107 HX108 HX109 HX110 HY111 HY112 HY113 HY114 HY115 HY116 HY117 HY118
  obtain ⟨g120, h139⟩ : ∃ g, w102.heap.size = g := ⟨_, rfl⟩
  rw [h139] at bn123
  try rw [h139]
  have HX140 := Lib.hid bn123
  clear h121 ba122 bn123 h139
  have c141 : U119.cell? ⟨g17, 0, none⟩ = some (.slice Ba Na ca) := HX128.out.cell 0
  have c142 : U119.cell? ⟨g17, 1, none⟩ = some (.int .u64 NA) := HX128.out.cell 1
  have l143 : g17 < U119.heap.size := HX128.out.lt
  have c144 : U119.cell? ⟨g48, 0, none⟩ = some (.slice Bb Nb cb) := HX129.out.cell 0
  have c145 : U119.cell? ⟨g48, 1, none⟩ = some (.int .u64 NA) := HX129.out.cell 1
  have l146 : g48 < U119.heap.size := HX129.out.lt
  go_wp2_with fail
  clear c141 c142 l143 c144 c145 l146
  refine (same26_yes Bb Ba Rb Ra Nb Na cb ca NA _ KNb.out KNa.out HY133.out.runsAt HY131.out.runsAt (by rw [KLa.out, KLb.out]) KSb.out.1 KSb.out.2).mono ?_
  rintro e w147 ⟨rfl, hb148⟩
  have HF149 := Lib.hid (bext HF124.out hb148)
  have HX150 := Lib.hid (HX125.out.below hb148 HX125.out.lt)
  have HX151 := Lib.hid (HX126.out.below hb148 HX126.out.lt)
  have HX152 := Lib.hid (HX127.out.below hb148 HX127.out.lt)
  have HX153 := Lib.hid (HX128.out.below hb148 HX128.out.lt)
  have HX154 := Lib.hid (HX129.out.below hb148 HX129.out.lt)
  have HX155 := Lib.hid (HX130.out.below hb148 HX130.out.lt)
  have HX156 := Lib.hid (HX140.out.below hb148 HX140.out.lt)
  have HY157 := Lib.hid (HY131.out.below hb148)
  have HY158 := Lib.hid (bext HY132.out hb148)
  have HY159 := Lib.hid (HY133.out.below hb148)
  have HY160 := Lib.hid (bext HY134.out hb148)
  have HY161 := Lib.hid (HY135.out.below hb148)
  have HY162 := Lib.hid (bext HY136.out hb148)
  have HY163 := Lib.hid (HY137.out.below hb148)
  have HY164 := Lib.hid (bext HY138.out hb148)
  clear HF124 HX125 HX126 HX127 HX128 HX129 HX130 HX140 HY131 HY132 HY133 HY134 HY135 HY136 HY137 HY138
  clear hb148
  have c165 : w147.cell? ⟨g81, 0, none⟩ = some (.slice Bc Nc cc) := HX155.out.cell 0
  have c166 : w147.cell? ⟨g81, 1, none⟩ = some (.int .u64 NO) := HX155.out.cell 1
  have l167 : g81 < w147.heap.size := HX155.out.lt
  have c168 : w147.cell? ⟨g120, 0, none⟩ = some (.slice Bd Nd cd) := HX156.out.cell 0
  have c169 : w147.cell? ⟨g120, 1, none⟩ = some (.int .u64 NO) := HX156.out.cell 1
  have l170 : g120 < w147.heap.size := HX156.out.lt
  go_wp2_with fail
  clear c165 c166 l167 c168 c169 l170
  refine (same26_yes Bd Bc Rd Rc Nd Nc cd cc NO _ KNd.out KNc.out HY163.out.runsAt HY161.out.runsAt (by rw [KLc.out, KLd.out]) KSd.out.1 KSd.out.2).mono ?_
  rintro e w171 ⟨rfl, hb172⟩
  have HF173 := Lib.hid (bext HF149.out hb172)
  have HX174 := Lib.hid (HX150.out.below hb172 HX150.out.lt)
  have HX175 := Lib.hid (HX151.out.below hb172 HX151.out.lt)
  have HX176 := Lib.hid (HX152.out.below hb172 HX152.out.lt)
  have HX177 := Lib.hid (HX153.out.below hb172 HX153.out.lt)
  have HX178 := Lib.hid (HX154.out.below hb172 HX154.out.lt)
  have HX179 := Lib.hid (HX155.out.below hb172 HX155.out.lt)
  have HX180 := Lib.hid (HX156.out.below hb172 HX156.out.lt)
  have HY181 := Lib.hid (HY157.out.below hb172)
  have HY182 := Lib.hid (bext HY158.out hb172)
  have HY183 := Lib.hid (HY159.out.below hb172)
  have HY184 := Lib.hid (bext HY160.out hb172)
  have HY185 := Lib.hid (HY161.out.below hb172)
  have HY186 := Lib.hid (bext HY162.out hb172)
  have HY187 := Lib.hid (HY163.out.below hb172)
  have HY188 := Lib.hid (bext HY164.out hb172)
  clear HF149 HX150 HX151 HX152 HX153 HX154 HX155 HX156 HY157 HY158 HY159 HY160 HY161 HY162 HY163 HY164
  clear hb172
  have c189 : w171.cell? ⟨g17, 0, none⟩ = some (.slice Ba Na ca) := HX177.out.cell 0
  have c190 : w171.cell? ⟨g17, 1, none⟩ = some (.int .u64 NA) := HX177.out.cell 1
  have l191 : g17 < w171.heap.size := HX177.out.lt
  go_wp2_with fail
  clear c189 c190 l191
  have hspa := spoil26_any Ba Ra ca U1.heap.size NA w8 _ KOa.out HY181.out HY182.out.size KSa.out.1 KSa.out.2
  rw [KNa.out] at hspa
  refine hspa.mono ?_
  clear hspa
  rintro e w192 ⟨⟨va, rfl⟩, hm193⟩
  have HF194 := Lib.hid (HF173.out.trans (hm193.below (B := U1.heap.size) HF173.out.size (fun k hk => hk.1)))
  have HOc2 := Lib.hid (HY185.out.modF hm193 (fun k hk hs => by have h1 := HCA.out; omega))
  have HBc2 := Lib.hid (HX179.out.mod hm193 (fun hs => by have h1 := HCG.out; omega))
  have HSc2 := Lib.hid (Nat.le_trans HY186.out.size hm193.size)
  clear hm193
  have qc1 : w192.cell? ⟨g81, 0, none⟩ = some (.slice Bc Nc cc) := HBc2.out.cell 0
  have qc2 : w192.cell? ⟨g81, 1, none⟩ = some (.int .u64 NO) := HBc2.out.cell 1
  have ql3 := HBc2.out.lt
  go_wp2_with fail
  clear qc1 qc2 ql3
  have hspc := spoil26_any Bc Rc cc U47.heap.size NO w66 _ KOc.out HOc2.out HSc2.out KSc.out.1 KSc.out.2
  rw [KNc.out] at hspc
  refine hspc.mono ?_
  clear hspc
  rintro e wz ⟨⟨vc, rfl⟩, hmz⟩
  have HFZ := Lib.hid (HF194.out.trans (hmz.below (B := U1.heap.size) HF194.out.size (fun k hk => Nat.le_trans HUC.out hk.1)))
  clear hmz
  have bz1 := KO.out.below HFZ.out KO.out.lt
  have bz2 := KX.out.below HFZ.out KX.out.lt
  have qc1 : wz.cell? ⟨go, 0, none⟩ = some (.slice B2 Rs.length c2) := bz1.cell 0
  have qc2 : wz.cell? ⟨go, 1, none⟩ = some (.int .u64 n) := bz1.cell 1
  have ql3 := bz1.lt
  have qc4 : wz.cell? ⟨gx, 0, none⟩ = some (.slice B Rs.length c) := bz2.cell 0
  have qc5 : wz.cell? ⟨gx, 1, none⟩ = some (.int .u64 n) := bz2.cell 1
  have ql6 := bz2.lt
  clear bz1 bz2
  go_wp2_with fail
  clear qc1 qc2 ql3 qc4 qc5 ql6
  refine (same26_yes B B2 Rs Rs2 Rs.length Rs.length c c2 n _ rfl HN2.out (HBU.out.below HFZ.out) (HOU.out.runsAt.below HFZ.out) HL2.out (by omega) (fun r hr => Nat.le_trans (HRS.out r hr) (by omega))).mono ?_
  rintro e wy ⟨rfl, hby⟩
  have HFY := Lib.hid (bext HFZ.out hby)
  clear hby
  go_wp2_with fail
  refine (samePairs_any A3 A l l c3 cq _ (HMU.out.below HFY.out) (HAU.out.below HFY.out) (by omega) (by omega)).mono ?_
  rw [decide_eq_true rfl]
  rintro e wx ⟨rfl, hbx⟩
  clear HADD HADR HOFF HOFR KX KY KO
  go_wp2_with fail
  go_ret
  refine ⟨?_, bext HWU.out (bext HFY.out hbx)⟩
  rfl
end Go.Proofs.Ythdcllnmnmemdaa

/- Reading a law's arguments as data, and the last step of a law's row: it returned true and nothing that was there has turned. No program in sight. -/
namespace Go.Proofs.Ythdcllnmnmemdaa
open Go Go.ChangeShapes Go.WideShapes Go.ChangeAt Go.RowKit Go.Deep

section
variable {H : Type} {enc : TypeId × Value → H} {P : Program}

theorem trodAll_stays (hl : laidOutB P = true) {W W' : World} {sp : Nat → Bool} : ∀ {ts : List TypeId} {vs : List Value} {ds : List (DataW H)} {ps : List MemPlace},
    (∀ t ∈ ts, P.readableRec t = true ∧ t < P.types.size) → DataW.TrodAll enc P W 0 (fun _ => true) true ts vs ds ps → (∀ p ∈ ps, W.sameAt W' p) → (∀ p ∈ ps, sp p.block = true) →
    DataW.TrodAll enc P W' 0 sp true ts vs ds ps := by
  intro ts
  induction ts with
  | nil =>
    intro vs ds ps _ h _ _
    obtain ⟨rfl, rfl, rfl⟩ := trodAll_nil h
    exact trodAll_mk0
  | cons t ts ih =>
    intro vs ds ps hr h hs hsp
    obtain ⟨v, vs', d, ds', p, q, rfl, rfl, rfl, h0, h1⟩ := trodAll_cons h
    exact ⟨p, q, WideElems.Trod_stays hl (hr t (by simp)).1 (hr t (by simp)).2 h0 (fun x hx => hs x (by simp [hx])) (fun x hx => hsp x (by simp [hx])),
      ih (fun t' ht' => hr t' (by simp [ht'])) h1 (fun x hx => hs x (by simp [hx])) (fun x hx => hsp x (by simp [hx])), rfl⟩

/-- a law's row, its last step -/
theorem law_post {f : Func} {s : ChangeSpec} {W W' : World} {args : Array Value} {ds : List (DataW H)} {before : List MemPlace} {tb : TypeId}
    (hl : laidOutB P = true) (hr : ∀ t ∈ f.params.toList, P.readableRec t = true ∧ t < P.types.size) (hv : s.vars = [])
    (hW : DataW.Whole enc P f.params.toList s.vars false W args.toList ds [] before)
    (hres : (s.fn H (ds ++ [])).results = [.lit (.bool true)]) (harg : (s.fn H (ds ++ [])).args = ds) (hvr : (s.fn H (ds ++ [])).vars = [])
    (hrt : f.resultTypes = #[tb]) (hbt : P.underlying tb = some .bool) (hb : Below W.heap.size W W') :
    s.post enc P f false true false false W args (.bool true) W' := by
  have hlt := hW.lt
  have hW0 := hW
  obtain ⟨p, q, hA, hV, rfl, _, _⟩ := hW
  rw [hv] at hV
  obtain ⟨_, rfl⟩ := trodVars_none hV
  refine ⟨ds, [], p ++ [], [], p, [], hW0, ?_, ?_, ?_, World.keptBut_mono (fun x hx => ⟨hx, ?_⟩) (hb.frame (· ∈ p ++ [])), fun h => by cases h⟩
  · rw [hres, hrt]
    exact trodAll_cons_mk (shut_bool hbt _) trodAll_mk0
  · rw [harg]
    refine trodAll_stays hl hr hA (fun x hx => hb.same (hlt x (by simp [hx]))) (fun x hx => ?_)
    have := hlt x (by simp [hx])
    simpa using this
  · rw [hv, hvr]; rfl
  · rw [List.append_nil] at hx; exact .inr (.inl hx)

theorem addr_flat {w : World} {a : Addr} {v : Value} (h : w.cell? a = some v) : a = ⟨a.block, a.off, none⟩ := by
  obtain ⟨b, o, s⟩ := a
  cases s with
  | none => rfl
  | some s =>
    unfold World.cell? at h
    split at h <;> simp at h

/-- a slice's reading, where each element's cells are those of some datum x of which R holds -/
theorem read_slice {α : Type} {w : World} {t e : TypeId} {s fuel : Nat} {v : Value} {x : DataW H × List MemPlace} (f : α → List Value) (R : α → Prop) (hf : ∀ x, (f x).length = s) (hs : 0 < s)
    (ht : P.underlying t = some (.slice e)) (hc : P.cellsOf e = s)
    (hdec : ∀ fuel cs y, DataW.trod enc P w 0 (fun _ => true) true fuel e cs = some y → ∃ x, cs = f x ∧ R x)
    (hv : ∃ a len cap, v = .slice a len cap) (h : DataW.trod enc P w 0 (fun _ => true) true fuel t v.cells.toList = some x) :
    ∃ (A : Option Addr) (l : List α) (c : Nat), v = .slice A l.length c ∧ l.length ≤ c ∧ c ≤ maxLen ∧ Sl w A (l.flatMap f) ∧ ∀ x ∈ l, R x := by
  obtain ⟨a0, len0, cap0, rfl⟩ := hv
  rcases open_slice ht h with ⟨hcs, _⟩ | ⟨a, len, cap, m, n, D, Pl, hcs, -, hlc, hcm, hm, -, hi⟩
  · simp only [Value.cells] at hcs
    injection hcs with hcs _
    rw [hcs]
    exact ⟨none, [], 0, rfl, Nat.le_refl _, Nat.zero_le _, .inl rfl, by simp⟩
  · simp only [Value.cells] at hcs
    injection hcs with hcs _
    rw [hcs]
    have hlm : len ≤ m := by rw [hm]; simp; exact hlc
    have hx : ∀ i, i < len → ∃ x, (∀ j, j < s → w.cell? (a.add (i * s + j)) = (f x)[j]?) ∧ R x := fun i hil => by
      obtain ⟨cs', h1, h2⟩ := hi i (by omega)
      obtain ⟨x, rfl, hR⟩ := hdec _ _ _ h2
      rw [hc] at h1
      obtain ⟨_, _, h3⟩ := World.cells?_some h1
      refine ⟨x, fun j hj => ?_, hR⟩
      rw [← h3 j hj, Go.Deep.add_add]
    have hl : ∃ l : List α, l.length = len ∧ ∀ i (hil : i < l.length), (∀ j, j < s → w.cell? (a.add (i * s + j)) = (f (l[i]'hil))[j]?) ∧ R (l[i]'hil) := by
      clear hi hlm hcs hm hlc hcm h
      induction len with
      | zero => exact ⟨[], rfl, fun i hil => by simp at hil⟩
      | succ len ih =>
        obtain ⟨l, hl, hg⟩ := ih fun i hi => hx i (by omega)
        obtain ⟨y, hy⟩ := hx len (by omega)
        refine ⟨l ++ [y], by simp [hl], fun i hil => ?_⟩
        by_cases e : i < l.length
        · rw [List.getElem_append_left e]; exact hg i e
        · have : i = len := by simp at hil; omega
          subst this
          rw [List.getElem_append_right (by omega)]
          simpa [hl] using hy
    obtain ⟨l, rfl, hg⟩ := hl
    refine ⟨some a, l, cap, rfl, hlc, hcm, ?_, fun x hx => ?_⟩
    · by_cases h0 : l.length = 0
      · left; rw [List.eq_nil_of_length_eq_zero h0]; rfl
      · right
        have hc0 := (hg 0 (by omega)).1 0 hs
        have hf0 : (f (l[0]'(by omega)))[0]? = some ((f (l[0]'(by omega)))[0]'(by rw [hf]; exact hs)) := List.getElem?_eq_getElem _
        rw [hf0] at hc0
        have ha0 : a.add (0 * s + 0) = a := by simp [Addr.add]
        rw [ha0] at hc0
        have ha := addr_flat hc0
        refine ⟨a.block, a.off, by rw [← ha], World.block_lt_of_cell? w a hc0, fun j u hu => ?_⟩
        have hjl : j < l.length * s := by
          have := (List.getElem?_eq_some_iff.1 hu).1
          rwa [flat_length f s hf] at this
        have hi : j / s < l.length := Nat.div_lt_of_lt_mul (by rw [Nat.mul_comm]; exact hjl)
        have hjs : j % s < s := Nat.mod_lt _ hs
        have hj : j / s * s + j % s = j := by rw [Nat.mul_comm]; exact Nat.div_add_mod j s
        have hc1 := (hg (j / s) hi).1 (j % s) hjs
        rw [hj] at hc1
        have hfl := flat_get f s hf l (j / s) (j % s) hi hjs
        rw [hj, hu] at hfl
        rw [← hfl] at hc1
        rw [ha, Addr.add_lit] at hc1
        exact hc1
    · obtain ⟨i, hi, rfl⟩ := List.getElem_of_mem hx
      exact (hg i hi).2

theorem dec_ent {w : World} {e ti tb : TypeId} (he : P.underlying e = some (.struct #[⟨ "Key", ti, 0, false, "", "", 0⟩, ⟨ "Val", ti, 1, false, "", "", 8⟩, ⟨ "Dead", tb, 2, false, "", "", 16⟩]))
    (hi : P.underlying ti = some (.int .i64)) (hb : P.underlying tb = some .bool) (hc : P.cellsOf e = 3) (hci : P.cellsOf ti = 1) (hcb : P.cellsOf tb = 1)
    (fuel : Nat) (cs : List Value) (y : DataW H × List MemPlace) (h : DataW.trod enc P w 0 (fun _ => true) true fuel e cs = some y) : ∃ x : Ent, cs = x.cells ∧ True := by
  obtain ⟨xs, n, _, _, hlen, hxl, hf⟩ := DataW.trod_struct he h
  rw [hc] at hlen
  match cs, hlen with
  | [c0, c1, c2], _ =>
    match xs, hxl with
    | [x0, x1, x2], _ =>
      have h0 := hf 0 ⟨ "Key", ti, 0, false, "", "", 0⟩ rfl
      have h1 := hf 1 ⟨ "Val", ti, 1, false, "", "", 8⟩ rfl
      have h2 := hf 2 ⟨ "Dead", tb, 2, false, "", "", 16⟩ rfl
      dsimp only at h0 h1 h2
      rw [hci] at h0 h1
      rw [hcb] at h2
      obtain ⟨k, e0, _⟩ := DataW.trod_int hi h0
      obtain ⟨v, e1, _⟩ := DataW.trod_int hi h1
      obtain ⟨d, e2, _⟩ := DataW.trod_bool hb h2
      simp at e0 e1 e2
      subst e0 e1 e2
      exact ⟨⟨k, v, d⟩, rfl, trivial⟩

theorem dec_pr {w : World} {e ti : TypeId} (he : P.underlying e = some (.struct #[⟨ "Key", ti, 0, false, "", "", 0⟩, ⟨ "Val", ti, 1, false, "", "", 8⟩]))
    (hi : P.underlying ti = some (.int .i64)) (hc : P.cellsOf e = 2) (hci : P.cellsOf ti = 1)
    (fuel : Nat) (cs : List Value) (y : DataW H × List MemPlace) (h : DataW.trod enc P w 0 (fun _ => true) true fuel e cs = some y) : ∃ x : Pr, cs = x.cells ∧ True := by
  obtain ⟨xs, n, _, _, hlen, hxl, hf⟩ := DataW.trod_struct he h
  rw [hc] at hlen
  match cs, hlen with
  | [c0, c1], _ =>
    match xs, hxl with
    | [x0, x1], _ =>
      have h0 := hf 0 ⟨ "Key", ti, 0, false, "", "", 0⟩ rfl
      have h1 := hf 1 ⟨ "Val", ti, 1, false, "", "", 8⟩ rfl
      dsimp only at h0 h1
      rw [hci] at h0 h1
      obtain ⟨k, e0, _⟩ := DataW.trod_int hi h0
      obtain ⟨v, e1, _⟩ := DataW.trod_int hi h1
      simp at e0 e1
      subst e0 e1
      exact ⟨⟨k, v⟩, rfl, trivial⟩
end
end Go.Proofs.Ythdcllnmnmemdaa

/- The arguments of this seat's laws, read as data. -/
namespace Go.Proofs.Ythdcllnmnmemdaa
open Go Go.ChangeShapes Go.WideShapes Go.ChangeAt Go.RowKit
set_option maxRecDepth 100000

theorem own : ownKnob Try.prog.godebug = none := by kernel_rfl
theorem laidOut : laidOutB Try.prog = true := by kernel_rfl

theorem read_ents {H : Type} {enc : TypeId × Value → H} {w : World} {base : Nat} {v : Value} {d : DataW H} {p : List MemPlace} (hok : Value.okWide Try.prog w .any base 47 v)
    (h : DataW.Trod enc Try.prog w 0 (fun _ => true) true 47 v d p) : ∃ (A : Option Addr) (l : List Ent) (c : Nat), v = .slice A l.length c ∧ l.length ≤ c ∧ c ≤ maxLen ∧ Sl w A (l.flatMap Ent.cells) := by
  obtain ⟨fuel, hf⟩ := h
  obtain ⟨A, l, c, h1, h2, h3, h4, _⟩ := read_slice Ent.cells (fun _ => True) Ent.cells_length (by omega) Try.underlying47 (by kernel_rfl)
    (fun fuel cs y h => dec_ent Try.underlying27 Try.underlying2 Try.underlying4 (by kernel_rfl) (by kernel_rfl) (by kernel_rfl) fuel cs y h) (okWide_slice Try.underlying47 hok) hf
  exact ⟨A, l, c, h1, h2, h3, h4⟩

theorem read_prs {H : Type} {enc : TypeId × Value → H} {w : World} {base : Nat} {v : Value} {d : DataW H} {p : List MemPlace} (hok : Value.okWide Try.prog w .any base 28 v)
    (h : DataW.Trod enc Try.prog w 0 (fun _ => true) true 28 v d p) : ∃ (A : Option Addr) (l : List Pr) (c : Nat), v = .slice A l.length c ∧ l.length ≤ c ∧ c ≤ maxLen ∧ Sl w A (l.flatMap Pr.cells) := by
  obtain ⟨fuel, hf⟩ := h
  obtain ⟨A, l, c, h1, h2, h3, h4, _⟩ := read_slice Pr.cells (fun _ => True) Pr.cells_length (by omega) Try.underlying28 (by kernel_rfl)
    (fun fuel cs y h => dec_pr Try.underlying68 Try.underlying2 (by kernel_rfl) (by kernel_rfl) fuel cs y h) (okWide_slice Try.underlying28 hok) hf
  exact ⟨A, l, c, h1, h2, h3, h4⟩

theorem read_ent {H : Type} {enc : TypeId × Value → H} {w : World} {base : Nat} {v : Value} {d : DataW H} {p : List MemPlace} (hok : Value.okWide Try.prog w .any base 27 v)
    (h : DataW.Trod enc Try.prog w 0 (fun _ => true) true 27 v d p) : ∃ x : Ent, v = .agg #[.int .i64 x.key, .int .i64 x.val, .bool x.dead] := by
  obtain ⟨cs, rfl, _⟩ := okWide_struct Try.underlying27 hok
  obtain ⟨fuel, hf⟩ := h
  obtain ⟨x, hx, _⟩ := dec_ent Try.underlying27 Try.underlying2 Try.underlying4 (by kernel_rfl) (by kernel_rfl) (by kernel_rfl) fuel _ _ hf
  refine ⟨x, ?_⟩
  obtain ⟨l⟩ := cs
  simp only [Value.cells] at hx
  simp only [Value.agg.injEq]
  rw [show l = x.cells from hx]
  rfl
end Go.Proofs.Ythdcllnmnmemdaa

/- A run, and runs, read as data. -/
namespace Go.Proofs.Ythdcllnmnmemdaa
open Go Go.ChangeShapes Go.WideShapes Go.ChangeAt Go.RowKit
set_option maxRecDepth 100000

theorem dec_ents {H : Type} {enc : TypeId × Value → H} {w : World} (fuel : Nat) (cs : List Value) (y : DataW H × List MemPlace) (h : DataW.trod enc Try.prog w 0 (fun _ => true) true fuel 47 cs = some y) :
    ∃ (A : Option Addr) (l : List Ent) (c : Nat), cs = [.slice A l.length c] ∧ l.length ≤ c ∧ c ≤ maxLen ∧ Sl w A (l.flatMap Ent.cells) := by
  have hv : ∃ a len cap, cs = [.slice a len cap] := by
    rcases Go.Deep.open_slice Try.underlying47 h with ⟨h1, _⟩ | ⟨a, len, cap, _, _, _, _, h1, _⟩
    · exact ⟨_, _, _, h1⟩
    · exact ⟨_, _, _, h1⟩
  obtain ⟨a, len, cap, rfl⟩ := hv
  obtain ⟨A, l, c, h1, h2, h3, h4, _⟩ := read_slice (v := .slice a len cap) Ent.cells (fun _ => True) Ent.cells_length (by omega) Try.underlying47 (by kernel_rfl)
    (fun fuel cs y h => dec_ent Try.underlying27 Try.underlying2 Try.underlying4 (by kernel_rfl) (by kernel_rfl) (by kernel_rfl) fuel cs y h) ⟨_, _, _, rfl⟩ h
  exact ⟨A, l, c, by rw [h1], h2, h3, h4⟩
theorem read_run {H : Type} {enc : TypeId × Value → H} {w : World} {base : Nat} {v : Value} {d : DataW H} {p : List MemPlace} (hok : Value.okWide Try.prog w .any base 49 v)
    (h : DataW.Trod enc Try.prog w 0 (fun _ => true) true 49 v d p) : ∃ (A : Option Addr) (l : List Ent) (c : Nat), v = .agg #[.slice A l.length c] ∧ l.length ≤ c ∧ c ≤ maxLen ∧ Sl w A (l.flatMap Ent.cells) := by
  obtain ⟨cs, rfl, _⟩ := okWide_struct Try.underlying49 hok
  obtain ⟨fuel, hf⟩ := h
  obtain ⟨xs, n, _, _, hlen, hxl, hg⟩ := DataW.trod_struct Try.underlying49 hf
  rw [show Try.prog.cellsOf 49 = 1 from by kernel_rfl] at hlen
  obtain ⟨cl⟩ := cs
  match cl, hlen with
  | [c0], _ =>
    match xs, hxl with
    | [x0], _ =>
      have h0 : DataW.trod enc Try.prog w 0 (fun _ => true) true n 47 (List.take (Try.prog.cellsOf 47) (List.drop 0 [c0])) = some x0 := hg 0 _ rfl
      rw [show Try.prog.cellsOf 47 = 1 from by kernel_rfl] at h0
      obtain ⟨A, l, c, e, h2, h3, h4⟩ := dec_ents _ _ _ h0
      simp at e
      subst e
      exact ⟨A, l, c, rfl, h2, h3, h4⟩
/-- runs -/
theorem dec_run {H : Type} {enc : TypeId × Value → H} {w : World} (fuel : Nat) (cs : List Value) (y : DataW H × List MemPlace) (h : DataW.trod enc Try.prog w 0 (fun _ => true) true fuel 49 cs = some y) :
    ∃ r : Rm, cs = [r.v] ∧ r.Ok w := by
  obtain ⟨xs, n, _, _, hlen, hxl, hg⟩ := DataW.trod_struct Try.underlying49 h
  rw [show Try.prog.cellsOf 49 = 1 from by kernel_rfl] at hlen
  match cs, hlen with
  | [c0], _ =>
    match xs, hxl with
    | [x0], _ =>
      have h0 : DataW.trod enc Try.prog w 0 (fun _ => true) true n 47 (List.take (Try.prog.cellsOf 47) (List.drop 0 [c0])) = some x0 := hg 0 _ rfl
      rw [show Try.prog.cellsOf 47 = 1 from by kernel_rfl] at h0
      obtain ⟨A, l, c, e, h2, h3, h4⟩ := dec_ents _ _ _ h0
      simp at e
      subst e
      exact ⟨⟨l, A, c⟩, rfl, h4, h2, h3⟩
theorem read_runs {H : Type} {enc : TypeId × Value → H} {w : World} {base : Nat} {v : Value} {d : DataW H} {p : List MemPlace} (hok : Value.okWide Try.prog w .any base 22 v)
    (h : DataW.Trod enc Try.prog w 0 (fun _ => true) true 22 v d p) : ∃ (B : Option Addr) (Rs : List Rm) (c : Nat), v = .slice B Rs.length c ∧ Rs.length ≤ c ∧ c ≤ maxLen ∧ RunsAt w B Rs := by
  obtain ⟨fuel, hf⟩ := h
  obtain ⟨B, Rs, c, h1, h2, h3, h4, h5⟩ := read_slice (s := 1) (fun r : Rm => [r.v]) (fun r => r.Ok w) (fun _ => rfl) (by omega) Try.underlying22 (by kernel_rfl) (fun fuel cs y h => dec_run fuel cs y h) (okWide_slice Try.underlying22 hok) hf
  have hm : Rs.flatMap (fun r => [r.v]) = Rs.map Rm.v := by
    clear h1 h2 h4 h5
    induction Rs with
    | nil => rfl
    | cons r Rs ih => rw [List.flatMap_cons, ih]; rfl
  rw [hm] at h4
  exact ⟨B, Rs, c, h1, h2, h3, h4, h5⟩
end Go.Proofs.Ythdcllnmnmemdaa

/- Rungs read as data. -/
namespace Go.Proofs.Ythdcllnmnmemdaa
open Go Go.ChangeShapes Go.WideShapes Go.ChangeAt Go.RowKit
set_option maxRecDepth 100000

theorem wf_u64g {n : Int} (h : (Lit.int .u64 n).wf = true) : 0 ≤ n ∧ n ≤ 18446744073709551615 := by
  simp only [Lit.wf, Bool.and_eq_true, decide_eq_true_eq] at h
  exact h
theorem read_rungs {H : Type} {enc : TypeId × Value → H} {w : World} {base : Nat} {v : Value} {d : DataW H} {p : List MemPlace} (hok : Value.okWide Try.prog w .any base 25 v)
    (h : DataW.Trod enc Try.prog w 0 (fun _ => true) true 25 v d p) : ∃ (B : Option Addr) (Rs : List Rm) (c : Nat) (n : Int), v = .agg #[.slice B Rs.length c, .int .u64 n] ∧ Rs.length ≤ c ∧ c ≤ maxLen ∧ RunsAt w B Rs ∧ 0 ≤ n ∧ n ≤ 18446744073709551615 := by
  obtain ⟨cs, rfl, _⟩ := okWide_struct Try.underlying25 hok
  obtain ⟨fuel, hf⟩ := h
  obtain ⟨xs, m, _, _, hlen, hxl, hg⟩ := DataW.trod_struct Try.underlying25 hf
  rw [show Try.prog.cellsOf 25 = 2 from by kernel_rfl] at hlen
  obtain ⟨cl⟩ := cs
  match cl, hlen with
  | [c0, c1], _ =>
    match xs, hxl with
    | [x0, x1], _ =>
      have h0 : DataW.trod enc Try.prog w 0 (fun _ => true) true m 22 (List.take (Try.prog.cellsOf 22) (List.drop 0 [c0, c1])) = some x0 := hg 0 _ rfl
      have h1 : DataW.trod enc Try.prog w 0 (fun _ => true) true m 23 (List.take (Try.prog.cellsOf 23) (List.drop 1 [c0, c1])) = some x1 := hg 1 _ rfl
      rw [show Try.prog.cellsOf 22 = 1 from by kernel_rfl] at h0
      rw [show Try.prog.cellsOf 23 = 1 from by kernel_rfl] at h1
      obtain ⟨n, e1, _, f1⟩ := DataW.trod_int Try.underlying23 h1
      have hv : ∃ a len cap, List.take 1 (List.drop 0 [c0, c1]) = [.slice a len cap] := by
        rcases Go.Deep.open_slice Try.underlying22 h0 with ⟨h1, _⟩ | ⟨a, len, cap, _, _, _, _, h1, _⟩
        · exact ⟨_, _, _, h1⟩
        · exact ⟨_, _, _, h1⟩
      obtain ⟨a, len, cap, e0⟩ := hv
      simp at e0 e1
      subst e0 e1
      obtain ⟨B, Rs, c, h2, h3, h4, h5, h6⟩ := read_slice (v := .slice a len cap) (s := 1) (fun r : Rm => [r.v]) (fun r => r.Ok w) (fun _ => rfl) (by omega) Try.underlying22 (by kernel_rfl) (fun fuel cs y h => dec_run fuel cs y h) ⟨_, _, _, rfl⟩ h0
      have hm : Rs.flatMap (fun r => [r.v]) = Rs.map Rm.v := by
        clear h2 h3 h5 h6
        induction Rs with
        | nil => rfl
        | cons r Rs ih => rw [List.flatMap_cons, ih]; rfl
      rw [hm] at h5
      obtain ⟨g1, g2⟩ := wf_u64g f1
      exact ⟨B, Rs, c, n, by rw [h2], h3, h4, ⟨h5, h6⟩, g1, g2⟩
end Go.Proofs.Ythdcllnmnmemdaa

namespace Go.Proofs.Ythdcllnmnmemdaa
open Go Go.ChangeShapes Go.WideShapes Go.ChangeAt Go.RowKit
set_option maxRecDepth 100000

set_option maxRecDepth 100000 in
theorem rungsTurns_lifted (os : Os) (started : os.Started) (H : Type) (enc : TypeId × Value → H) :
    ReturnsInHanded {} Try.checked os 3 .any (Rows.rungsTurnsSpec.pre6 enc Try.prog Try.f3 Rows.rungsTurnsRow.domain false)
      (Rows.rungsTurnsSpec.post enc Try.prog Try.f3 false true false false) := by
  refine returnsInHanded_of_change (C := Try.checked) own started (by kernel_rfl) Try.func3
    (ChangeSpec.witness6 (enc := enc) (C := Try.checked) false ⟨#[], #[.agg #[.slice none 0 0, .int .u64 0], .agg #[.int .i64 0, .int .i64 0, .bool false], .slice none 0 0], []⟩ 8 (by kernel_rfl) (by kernel_rfl) (by kernel_rfl) (by kernel_rfl)) ?_
  intro W base args ds gs before hval0 hW _ _
  have hval : ∀ (j : Nat) t v, Try.f3.params[j]? = some t → args[j]? = some v → Value.okWide Try.prog W .any base t v := hval0
  have hW' := hW
  obtain ⟨p, q, hA0, hV, rfl, hfz, hnd⟩ := hW
  have hA : DataW.TrodAll enc Try.prog W 0 (fun _ => true) true Try.f3.params.toList args.toList ds p := hA0
  rw [Try.params3] at hA hval
  obtain ⟨v0, v1, v2, d0, d1, d2, p0, p1, p2, rfl, rfl, rfl, h0, h1, h2⟩ := trodAll_three hA
  obtain ⟨rfl, rfl⟩ := trodVars_none hV
  obtain ⟨B, Rs, c, n, rfl, _, _, hs, hn1, hn2⟩ := read_rungs (hval 0 25 v0 rfl rfl) h0
  obtain ⟨y, rfl⟩ := read_ent (hval 1 27 v1 rfl rfl) h1
  obtain ⟨A, l, ca, rfl, _, _, hs2⟩ := read_prs (hval 2 28 v2 rfl rfl) h2
  refine (rungsTurns_any B A Rs c ca n y l W hs ⟨hn1, hn2⟩ hs2).mono fun e W' ⟨he, hb⟩ => ?_
  subst he
  exact ⟨_, rfl, law_post (tb := 4) laidOut (by intro t ht; rw [Try.params3] at ht; simp at ht; rcases ht with rfl | rfl | rfl <;> exact ⟨by kernel_rfl, of_decide_eq_true (by kernel_rfl)⟩) rfl hW' rfl rfl rfl (by kernel_rfl) Try.underlying4 hb⟩

theorem rungsTurns_holds : Rows.RungsTurnsSaid :=
  OpenClaim.holds_of_wide 3 Try.f3 rfl rfl rfl rfl rfl rfl rfl ⟨rfl, rfl, rfl, rfl, rfl⟩ rfl rfl rfl rfl rfl (by kernel_rfl) Try.func3 (by kernel_rfl)
    (of_decide_eq_true (by kernel_rfl)) (by unfold Func.isWrapper; first | (rw [if_pos (by decide +kernel)]; kernel_rfl) | (rw [if_neg (by decide +kernel)]; exact ⟨rfl, rfl⟩))
    (fun os started H enc _ => rungsTurns_lifted os started H enc)
end Go.Proofs.Ythdcllnmnmemdaa
