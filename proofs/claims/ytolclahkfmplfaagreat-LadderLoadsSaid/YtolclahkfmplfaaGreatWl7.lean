/- Ll: texts of the claim, in this order. -/
import Derived.Test.YtolclahkfmplfaaGreatWl5
import Derived.Test.YtolclahkfmplfaaGreatWl6
import Derived.Test.YtolclahkfmplfaaGreatWz6
import Derived.Test.YtolclahkfmplfaaGreatWl2
import Derived.Deep.CutRange
/- The law LadderLoads: for every two maps and pairs it returns true; its arguments stay as they were. -/
namespace Go.Proofs.YtolclahkfmplfaaGreat
open Go Go.RowKit
set_option maxRecDepth 100000
theorem ls_of {Rs : List Rm} {L : Lv} {T : Nat} (h : lvs Rs = L) (h1 : L.length + tot L ≤ T) (h3 : T ≤ 1000000 := by omega) : Rs.length ≤ 1000000 ∧ ∀ r ∈ Rs, r.l.length ≤ 1000000 := by
  refine ⟨by rw [rs_len h]; omega, fun r hr => ?_⟩
  have h5 := le_sum (List.mem_map.2 ⟨r.l, List.mem_map.2 ⟨r, hr, rfl⟩, rfl⟩ : r.l.length ∈ ((lvs Rs).map List.length))
  rw [h] at h5
  unfold tot at h1
  omega
theorem small_nil : ([] : Lv).length + tot ([] : Lv) ≤ 100000 := by simp [tot]
theorem may_small {L : Lv} (h : May L) : L.length + tot L ≤ 100000 := by
  have h1 := h.len
  have h2 := h.size
  omega
theorem new_small {l : List Pr} (hr : Ris l) (hl : l.length ≤ 65536) : (newL l).length + tot (newL l) ≤ 100000 := by
  unfold newL
  refine may_small (alone_may (build_chk (alive_build hr hl)) ?_)
  unfold deadE
  rw [List.any_eq_false]
  intro e he
  obtain ⟨p, _, rfl⟩ := List.mem_map.1 (laid_mem he)
  simp [aliveE]
theorem lo_small (c : Cfg) (L : Lv) {l : List Pr} (hl : l.length ≤ 300) : (loL c L l).length + tot (loL c L l) ≤ 100000 := by
  unfold loL
  by_cases h1 : errL c L = 0
  · rw [if_pos h1]
    by_cases h2 : Ris l
    · rw [if_pos h2, (anew_rl 0 h1 h2 (by omega)).2.1]
      split
      · exact small_nil
      · exact new_small h2 (by omega)
    · rw [if_neg h2]; exact small_nil
  · rw [if_neg h1]; exact small_nil
theorem me_small {c d : Cfg} {L K : Lv} (hL : tot L ≤ 300) (hK : tot K ≤ 300) : (meL c L d K).length + tot (meL c L d K) ≤ 100000 := by
  have ra := prD_ris c L
  have rb := prD_ris d K
  have la := prD_len c L
  have lb := prD_len d K
  have hbl := both_len _ (prD c L) (prD d K) (Nat.le_refl _)
  have hbr := both_ris _ _ _ (Nat.le_refl _) ra rb
  unfold meL
  by_cases h1 : errL c L = 0
  · rw [if_pos h1]
    by_cases h2 : errL d K = 0
    · rw [if_pos h2, mg_both ra rb (by omega), (anew_rl 0 h1 hbr (by omega)).2.1]
      split
      · exact small_nil
      · exact new_small hbr (by omega)
    · rw [if_neg h2]; exact small_nil
  · rw [if_neg h1]; exact small_nil
theorem rb_small {c : Cfg} {L : Lv} (hL : tot L ≤ 300) : (rbL c L).length + tot (rbL c L) ≤ 100000 := by
  have ra := prD_ris c L
  have la := prD_len c L
  unfold rbL
  split
  · exact new_small ra (by omega)
  · exact small_nil
theorem OwnRs.mod {Sx : Nat → Prop} {w w' : World} {B0 : Nat} {B : Option Addr} {c : Nat} {Rs : List Rm} (h : OwnRs w B0 B c Rs) (hm : Mod Sx w w') (hn : ∀ k, B0 ≤ k → ¬ Sx k) : OwnRs w' B0 B c Rs := ⟨own_mod h.row hm hn, fun r hr => own_mod (h.ent r hr) hm hn⟩
theorem full_any {W W1 : World} {X : Nat → Prop} {t : TypeId} {l : List Pr} {A : Option Addr} {v : Value} (h1 : 0 < l.length → W1.ownsRow W.heap.size t 2 v (0 + l.length) ([] ++ l.flatMap Pr.cells)) (h2 : l.length = 0 → v = .slice A 0 0 ∧ W1 = W) (hg : W.grownBy W1 none) (hX : ∀ k, X k → k < W.heap.size) :
    ∃ (A4 : Option Addr) (c4 : Nat), v = .slice A4 l.length c4 ∧ Held X (fun W => Sl W A4 (l.flatMap Pr.cells)) W1 ∧ Below W.heap.size W W1 := by
  have hb : Below W.heap.size W W1 := (Below.refl _ _).grown hg (Nat.le_refl _) (fun k hk => by cases hk)
  by_cases h0 : l.length = 0
  · obtain ⟨rfl, rfl⟩ := h2 h0
    have hl := List.eq_nil_of_length_eq_zero h0
    subst hl
    exact ⟨A, 0, rfl, fun _ _ => .inl rfl, hb⟩
  · have h3 := h1 (by omega)
    rw [Nat.zero_add, List.nil_append] at h3
    obtain ⟨A4, c4, rfl, _, _⟩ := own_form h3
    exact ⟨A4, c4, rfl, fun w2 hm => own_sl (own_mod h3 hm (fun k hk hx => by have := hX k hx; omega)), hb⟩
set_option maxHeartbeats 32000000 in
theorem ladderLoads_any (c d : Cfg) (B D A : Option Addr) (Rs Ts : List Rm) (l : List Pr) (k q ca : Nat) (n m : Int) (w : World) (hB : RunsAt w B Rs) (hD : RunsAt w D Ts) (hA : Sl w A (l.flatMap Pr.cells)) :
    Calls Tryz.prog 3 #[.agg (lrow c B Rs.length k n), .agg (lrow d D Ts.length q m), .slice A l.length ca] w fun r w' => r = .returned (.bool true) ∧ Below w.heap.size w w' := by
  have HB0 := Lib.hid hB
  have HD0 := Lib.hid hD
  have HA0 := Lib.hid hA
  clear hB hD hA
  go_enter Tryz.func3, Tryz.ntmps3
  have HF := Lib.hid (Below.refl w.heap.size w)
  have HY1 := Lib.hid (HB0.out)
  have HY2 := Lib.hid (HD0.out)
  have HY3 := Lib.hid (HA0.out)
  go_upto_region 1 with fail
  obtain ⟨U4, h5⟩ : ∃ U, (w.alloc (.cells #[.int .u8 c.tag, .int .i64 c.most, .int .i64 c.seg, .int .i64 c.least, .int .i64 c.den, .int .i64 c.leafLow, .int .i64 c.rootLow, .int .i64 c.rootHigh, .int .i64 c.leafHigh, .slice B Rs.length k, .int .u64 n] 29)).alloc (.cells #[.int .u8 d.tag, .int .i64 d.most, .int .i64 d.seg, .int .i64 d.least, .int .i64 d.den, .int .i64 d.leafLow, .int .i64 d.rootLow, .int .i64 d.rootHigh, .int .i64 d.leafHigh, .slice D Ts.length q, .int .u64 m] 29) = U := ⟨_, rfl⟩
  have ba6 : Below w.heap.size w U4 := by rw [← h5]; exact ((Below.refl _ _).alloc (by first | (simp; done) | (simp; omega)) _).alloc (by first | (simp; done) | (simp; omega)) _
  have bn7 : Blk U4 (w.heap.size) 29 #[.int .u8 c.tag, .int .i64 c.most, .int .i64 c.seg, .int .i64 c.least, .int .i64 c.den, .int .i64 c.leafLow, .int .i64 c.rootLow, .int .i64 c.rootHigh, .int .i64 c.leafHigh, .slice B Rs.length k, .int .u64 n] := by
    rw [← h5]
    have hq := (Blk.new w 29 #[.int .u8 c.tag, .int .i64 c.most, .int .i64 c.seg, .int .i64 c.least, .int .i64 c.den, .int .i64 c.leafLow, .int .i64 c.rootLow, .int .i64 c.rootHigh, .int .i64 c.leafHigh, .slice B Rs.length k, .int .u64 n])
    exact (hq.alloc _)
  have bn8 : Blk U4 (w.heap.size + 1) 29 #[.int .u8 d.tag, .int .i64 d.most, .int .i64 d.seg, .int .i64 d.least, .int .i64 d.den, .int .i64 d.leafLow, .int .i64 d.rootLow, .int .i64 d.rootHigh, .int .i64 d.leafHigh, .slice D Ts.length q, .int .u64 m] := by
    rw [← h5]
    have hq := (Blk.new (w.alloc (.cells #[.int .u8 c.tag, .int .i64 c.most, .int .i64 c.seg, .int .i64 c.least, .int .i64 c.den, .int .i64 c.leafLow, .int .i64 c.rootLow, .int .i64 c.rootHigh, .int .i64 c.leafHigh, .slice B Rs.length k, .int .u64 n] 29)) 29 #[.int .u8 d.tag, .int .i64 d.most, .int .i64 d.seg, .int .i64 d.least, .int .i64 d.den, .int .i64 d.leafLow, .int .i64 d.rootLow, .int .i64 d.rootHigh, .int .i64 d.leafHigh, .slice D Ts.length q, .int .u64 m])
    simp only [World.size_alloc] at hq
    exact hq
  try rw [h5]
  have HF9 := Lib.hid (bext HF.out ba6)
  have HY10 := Lib.hid (RunsAt.below HY1.out ba6)
  have HY11 := Lib.hid (RunsAt.below HY2.out ba6)
  have HY12 := Lib.hid (HY3.out.below ba6)
  clear HF HY1 HY2 HY3
  obtain ⟨g13, h14⟩ : ∃ g, (w.heap.size + 1) = g := ⟨_, rfl⟩
  rw [h14] at bn8
  try rw [h14]
  have HX15 := Lib.hid bn8
  clear bn8 h14
  obtain ⟨g16, h17⟩ : ∃ g, (w.heap.size) = g := ⟨_, rfl⟩
  rw [h17] at bn7
  try rw [h17]
  have HX18 := Lib.hid bn7
  clear bn7 h17
  clear h5 ba6
  have c19 : U4.cell? ⟨g16, 0, none⟩ = some (.int .u8 c.tag) := HX18.out.cell 0
  have c20 : U4.cell? ⟨g16, 1, none⟩ = some (.int .i64 c.most) := HX18.out.cell 1
  have c21 : U4.cell? ⟨g16, 2, none⟩ = some (.int .i64 c.seg) := HX18.out.cell 2
  have c22 : U4.cell? ⟨g16, 3, none⟩ = some (.int .i64 c.least) := HX18.out.cell 3
  have c23 : U4.cell? ⟨g16, 4, none⟩ = some (.int .i64 c.den) := HX18.out.cell 4
  have c24 : U4.cell? ⟨g16, 5, none⟩ = some (.int .i64 c.leafLow) := HX18.out.cell 5
  have c25 : U4.cell? ⟨g16, 6, none⟩ = some (.int .i64 c.rootLow) := HX18.out.cell 6
  have c26 : U4.cell? ⟨g16, 7, none⟩ = some (.int .i64 c.rootHigh) := HX18.out.cell 7
  have c27 : U4.cell? ⟨g16, 8, none⟩ = some (.int .i64 c.leafHigh) := HX18.out.cell 8
  have c28 : U4.cell? ⟨g16, 9, none⟩ = some (.slice B Rs.length k) := HX18.out.cell 9
  have c29 : U4.cell? ⟨g16, 10, none⟩ = some (.int .u64 n) := HX18.out.cell 10
  have l30 : g16 < U4.heap.size := HX18.out.lt
  go_wp2_with fail
  clear c19 c20 c21 c22 c23 c24 c25 c26 c27 c28 c29 l30
  refine (great27_any B Rs k 300 c n _ HY10.out (by omega)).mono ?_
  rintro e w31 ⟨G, rfl, hG, hb32⟩
  have HF33 := Lib.hid (bext HF9.out hb32)
  have HX34 := Lib.hid (HX15.out.below hb32 HX15.out.lt)
  have HX35 := Lib.hid (HX18.out.below hb32 HX18.out.lt)
  have HY36 := Lib.hid (RunsAt.below HY10.out hb32)
  have HY37 := Lib.hid (RunsAt.below HY11.out hb32)
  have HY38 := Lib.hid (HY12.out.below hb32)
  clear HF9 HX15 HX18 HY10 HY11 HY12
  clear hb32
  cases G with
  | true =>
    clear hG
    go_wp2
    go_ret
    exact ⟨rfl, HF33.out⟩
  | false =>
  have hGm := hG rfl
  clear hG
  have c39 : w31.cell? ⟨g13, 0, none⟩ = some (.int .u8 d.tag) := HX34.out.cell 0
  have c40 : w31.cell? ⟨g13, 1, none⟩ = some (.int .i64 d.most) := HX34.out.cell 1
  have c41 : w31.cell? ⟨g13, 2, none⟩ = some (.int .i64 d.seg) := HX34.out.cell 2
  have c42 : w31.cell? ⟨g13, 3, none⟩ = some (.int .i64 d.least) := HX34.out.cell 3
  have c43 : w31.cell? ⟨g13, 4, none⟩ = some (.int .i64 d.den) := HX34.out.cell 4
  have c44 : w31.cell? ⟨g13, 5, none⟩ = some (.int .i64 d.leafLow) := HX34.out.cell 5
  have c45 : w31.cell? ⟨g13, 6, none⟩ = some (.int .i64 d.rootLow) := HX34.out.cell 6
  have c46 : w31.cell? ⟨g13, 7, none⟩ = some (.int .i64 d.rootHigh) := HX34.out.cell 7
  have c47 : w31.cell? ⟨g13, 8, none⟩ = some (.int .i64 d.leafHigh) := HX34.out.cell 8
  have c48 : w31.cell? ⟨g13, 9, none⟩ = some (.slice D Ts.length q) := HX34.out.cell 9
  have c49 : w31.cell? ⟨g13, 10, none⟩ = some (.int .u64 m) := HX34.out.cell 10
  have l50 : g13 < w31.heap.size := HX34.out.lt
  go_wp2_with fail
  clear c39 c40 c41 c42 c43 c44 c45 c46 c47 c48 c49 l50
  refine (great27_any D Ts q 300 d m _ HY37.out (by omega)).mono ?_
  rintro e w51 ⟨G, rfl, hG, hb52⟩
  have HF53 := Lib.hid (bext HF33.out hb52)
  have HX54 := Lib.hid (HX34.out.below hb52 HX34.out.lt)
  have HX55 := Lib.hid (HX35.out.below hb52 HX35.out.lt)
  have HY56 := Lib.hid (RunsAt.below HY36.out hb52)
  have HY57 := Lib.hid (RunsAt.below HY37.out hb52)
  have HY58 := Lib.hid (HY38.out.below hb52)
  clear HF33 HX34 HX35 HY36 HY37 HY38
  clear hb52
  cases G with
  | true =>
    clear hG
    go_wp2
    go_ret
    exact ⟨rfl, HF53.out⟩
  | false =>
  have hGo := hG rfl
  clear hG
  by_cases hl3 : 300 < l.length
  case pos =>
    have h1 : (300 : Int) < (l.length : Int) := by omega
    clear hGm hGo
    go_wp2
    go_ret
    exact ⟨rfl, HF53.out⟩
  case neg =>
  have hli : ¬ (300 : Int) < (l.length : Int) := by omega
  have hT3 : tot (lvs Rs) ≤ 300 := by omega
  have hK3 : tot (lvs Ts) ≤ 300 := by omega
  have HLI := Lib.hid (show l.length ≤ 300 by omega)
  have HSR := Lib.hid (ls_of (Rs := Rs) (T := 300) rfl (by rw [lvs_len]; omega))
  have HST := Lib.hid (ls_of (Rs := Ts) (T := 300) rfl (by rw [lvs_len]; omega))
  clear hl3
  obtain ⟨L, hL⟩ : ∃ L, lvs Rs = L := ⟨_, rfl⟩
  obtain ⟨K, hK⟩ : ∃ L, lvs Ts = L := ⟨_, rfl⟩
  have HLL := Lib.hid (show L.length + tot L ≤ 600 by rw [← hL, lvs_len]; omega)
  have HKK := Lib.hid (show K.length + tot K ≤ 600 by rw [← hK, lvs_len]; omega)
  clear hGm hGo
  have hT4 : tot L ≤ 300 := by rw [← hL]; exact hT3
  have hK4 : tot K ≤ 300 := by rw [← hK]; exact hK3
  have sx := lo_small c L HLI.out
  have sz := me_small (c := c) (d := d) hT4 hK4
  have sa := rb_small (c := c) hT4
  obtain ⟨ex, hex⟩ : ∃ x, loE c L l = x := ⟨_, rfl⟩
  obtain ⟨Lx, hLx⟩ : ∃ x, loL c L l = x := ⟨_, rfl⟩
  obtain ⟨Nx, hNx⟩ : ∃ x, loN c L n l = x := ⟨_, rfl⟩
  obtain ⟨cx, hcx⟩ : ∃ x, ldC c ex = x := ⟨_, rfl⟩
  obtain ⟨ez, hez⟩ : ∃ x, meE c L d K = x := ⟨_, rfl⟩
  obtain ⟨Lz, hLz⟩ : ∃ x, meL c L d K = x := ⟨_, rfl⟩
  obtain ⟨Nz, hNz⟩ : ∃ x, meN c L n d K = x := ⟨_, rfl⟩
  obtain ⟨cz2, hcz⟩ : ∃ x, ldC c ez = x := ⟨_, rfl⟩
  obtain ⟨ea, hea⟩ : ∃ x, errL c L = x := ⟨_, rfl⟩
  obtain ⟨La, hLa⟩ : ∃ x, rbL c L = x := ⟨_, rfl⟩
  obtain ⟨Na, hNa⟩ : ∃ x, rbN c L n = x := ⟨_, rfl⟩
  obtain ⟨cca, hca⟩ : ∃ x, ldC c ea = x := ⟨_, rfl⟩
  rw [hLx] at sx
  rw [hLz] at sz
  rw [hLa] at sa
  have HSX := Lib.hid sx
  have HSZ := Lib.hid sz
  have HSA := Lib.hid sa
  have HCON := Lib.hid (show ∀ (A2 X Y : Option Addr) (Qs Ps : List Rm) (a b ca2 : Nat) (W : World), lvs Qs = L → lvs Ps = K → RunsAt W X Qs →
      (Sl W A2 (l.flatMap Pr.cells) → Calls Tryz.prog 6 #[.agg (lrow c X Rs.length a n), .slice A2 l.length ca2] W (GivesLd cx Lx Nx ex W)) ∧
      (RunsAt W Y Ps → Calls Tryz.prog 8 #[.agg (lrow c X Rs.length a n), .agg (lrow d Y Ts.length b m)] W (GivesLd cz2 Lz Nz ez W)) ∧
      Calls Tryz.prog 10 #[.agg (lrow c X Rs.length a n)] W (GivesLd cca La Na ea W) from by
    intro A2 X Y Qs Ps a b ca2 W hq hp hW
    have hn : Qs.length = Rs.length := by rw [rs_len hq, ← hL, lvs_len]
    have hn2 : Ps.length = Ts.length := by rw [rs_len hp, ← hK, lvs_len]
    have hs := ls_of (Rs := Qs) (T := 600) hq HLL.out
    have hs2 := ls_of (Rs := Ps) (T := 600) hp HKK.out
    have k1 := fun h => loadD_any X Qs a c n A2 l ca2 W hW (by rw [hq]; omega) hs.1 h (by have := HLI.out; omega)
    have k2 := fun h => mergeD_any X Qs a c n d Y Ps b m W hW (by rw [hq]; omega) hs.1 h (by rw [hq]; exact hT4) (by rw [hp]; exact hK4) hs2.1
    have k3 := rebuildD_any X Qs a c n W hW (by rw [hq]; omega) hs.1 (by rw [hq]; exact hT4)
    rw [hq, hn, hex, hLx, hNx, hcx] at k1
    rw [hq, hp, hn, hn2, hez, hLz, hNz, hcz] at k2
    rw [hq, hn, hea, hLa, hNa, hca] at k3
    exact ⟨k1, k2, k3⟩)
  have HREF := Lib.hid (show ∀ W, RunsAt W B Rs →
      (Sl W A (l.flatMap Pr.cells) → Calls Tryz.prog 7 #[.agg (lrow c B Rs.length k n), .slice A l.length ca] W (GivesLd cx Lx Nx ex W)) ∧
      (RunsAt W D Ts → Calls Tryz.prog 9 #[.agg (lrow c B Rs.length k n), .agg (lrow d D Ts.length q m)] W (GivesLd cz2 Lz Nz ez W)) ∧
      Calls Tryz.prog 11 #[.agg (lrow c B Rs.length k n)] W (GivesLd cca La Na ea W) from by
    intro W hW
    have k1 := fun h => load27_any B Rs k c n A l ca W hW (by omega) HSR.out.1 h (by have := HLI.out; omega)
    have k2 := fun h => merge27_any B Rs k c n d D Ts q m W hW (by omega) HSR.out.1 h hT3 hK3 HST.out.1
    have k3 := rebuild27_any B Rs k c n W hW (by omega) HSR.out.1 hT3
    rw [hL, hex, hLx, hNx, hcx] at k1
    rw [hL, hK, hez, hLz, hNz, hcz] at k2
    rw [hL, hea, hLa, hNa, hca] at k3
    exact ⟨k1, k2, k3⟩)
  have HL := Lib.hid hL
  have HK := Lib.hid hK
  clear hL hK hex hLx hNx hcx hez hLz hNz hcz hea hLa hNa hca hT3 hT4 hK3 hK4 sx sz sa
  have HTI0 := info_parts pr_info
  obtain ⟨ti0, hTI⟩ := HTI0
  have HTI := Lib.hid (show True ∧ _ from ⟨trivial, hTI⟩)
  clear hTI
  have c59 : w51.cell? ⟨g16, 0, none⟩ = some (.int .u8 c.tag) := HX55.out.cell 0
  have c60 : w51.cell? ⟨g16, 1, none⟩ = some (.int .i64 c.most) := HX55.out.cell 1
  have c61 : w51.cell? ⟨g16, 2, none⟩ = some (.int .i64 c.seg) := HX55.out.cell 2
  have c62 : w51.cell? ⟨g16, 3, none⟩ = some (.int .i64 c.least) := HX55.out.cell 3
  have c63 : w51.cell? ⟨g16, 4, none⟩ = some (.int .i64 c.den) := HX55.out.cell 4
  have c64 : w51.cell? ⟨g16, 5, none⟩ = some (.int .i64 c.leafLow) := HX55.out.cell 5
  have c65 : w51.cell? ⟨g16, 6, none⟩ = some (.int .i64 c.rootLow) := HX55.out.cell 6
  have c66 : w51.cell? ⟨g16, 7, none⟩ = some (.int .i64 c.rootHigh) := HX55.out.cell 7
  have c67 : w51.cell? ⟨g16, 8, none⟩ = some (.int .i64 c.leafHigh) := HX55.out.cell 8
  have c68 : w51.cell? ⟨g16, 9, none⟩ = some (.slice B Rs.length k) := HX55.out.cell 9
  have c69 : w51.cell? ⟨g16, 10, none⟩ = some (.int .u64 n) := HX55.out.cell 10
  have l70 : g16 < w51.heap.size := HX55.out.lt
  have c71 : w51.cell? ⟨g13, 0, none⟩ = some (.int .u8 d.tag) := HX54.out.cell 0
  have c72 : w51.cell? ⟨g13, 1, none⟩ = some (.int .i64 d.most) := HX54.out.cell 1
  have c73 : w51.cell? ⟨g13, 2, none⟩ = some (.int .i64 d.seg) := HX54.out.cell 2
  have c74 : w51.cell? ⟨g13, 3, none⟩ = some (.int .i64 d.least) := HX54.out.cell 3
  have c75 : w51.cell? ⟨g13, 4, none⟩ = some (.int .i64 d.den) := HX54.out.cell 4
  have c76 : w51.cell? ⟨g13, 5, none⟩ = some (.int .i64 d.leafLow) := HX54.out.cell 5
  have c77 : w51.cell? ⟨g13, 6, none⟩ = some (.int .i64 d.rootLow) := HX54.out.cell 6
  have c78 : w51.cell? ⟨g13, 7, none⟩ = some (.int .i64 d.rootHigh) := HX54.out.cell 7
  have c79 : w51.cell? ⟨g13, 8, none⟩ = some (.int .i64 d.leafHigh) := HX54.out.cell 8
  have c80 : w51.cell? ⟨g13, 9, none⟩ = some (.slice D Ts.length q) := HX54.out.cell 9
  have c81 : w51.cell? ⟨g13, 10, none⟩ = some (.int .u64 m) := HX54.out.cell 10
  have l82 : g13 < w51.heap.size := HX54.out.lt
  go_upto_region 3 with fail
  clear c59 c60 c61 c62 c63 c64 c65 c66 c67 c68 c69 l70 c71 c72 c73 c74 c75 c76 c77 c78 c79 c80 c81 l82
  go_cut [7, 8, 9] from 34 to 40 (fun x y z wx => ∃ g7 g8 B35 k35 R35 B37 k37 R37 A40 c40, x = .pointer (some ⟨g7, 0, none⟩) ∧ y = .pointer (some ⟨g8, 0, none⟩) ∧ z = .slice A40 l.length c40 ∧ ((lvs R35 = lvs Rs ∧ RunsAt wx B35 R35) ∧ (lvs R37 = lvs Ts ∧ RunsAt wx B37 R37) ∧ Sl wx A40 (l.flatMap Pr.cells) ∧ Blk wx g7 29 #[.int .u8 c.tag, .int .i64 c.most, .int .i64 c.seg, .int .i64 c.least, .int .i64 c.den, .int .i64 c.leafLow, .int .i64 c.rootLow, .int .i64 c.rootHigh, .int .i64 c.leafHigh, .slice B35 R35.length k35, .int .u64 n] ∧ Blk wx g8 29 #[.int .u8 d.tag, .int .i64 d.most, .int .i64 d.seg, .int .i64 d.least, .int .i64 d.den, .int .i64 d.leafLow, .int .i64 d.rootLow, .int .i64 d.rootHigh, .int .i64 d.leafHigh, .slice B37 R37.length k37, .int .u64 m]) ∧ Below w51.heap.size w51 wx)
  case first =>
    refine region_inv (by kernel_rfl) (by kernel_rfl) (fun L a W => ∃ (X : Nat → Prop) (t34 t35 t36 t37 t38 t39 t40 t7 t8 t9 : Value) (B35 : Option Addr) (k35 : Nat) (R35 : List Rm) (B37 : Option Addr) (k37 : Nat) (R37 : List Rm) (A38 : Option Addr) (A40 : Option Addr) (c40 : Nat) (g7 : Nat) (g8 : Nat), a = ⟨#[(.agg (lrow c B Rs.length k n)), (.agg (lrow d D Ts.length q m)), (.slice A l.length ca), (.pointer (some ⟨g16, 0, none⟩)), (.pointer (some ⟨g13, 0, none⟩)), undef, (.bool false), t7, t8, t9, undef, undef, undef, undef, undef, undef, undef, undef, undef, undef, undef, undef, undef, .agg #[.int .u8 c.tag, .int .i64 c.most, .int .i64 c.seg, .int .i64 c.least, .int .i64 c.den, .int .i64 c.leafLow, .int .i64 c.rootLow, .int .i64 c.rootHigh, .int .i64 c.leafHigh, .slice B Rs.length k, .int .u64 n], .bool false, .bool false, .agg #[.int .u8 d.tag, .int .i64 d.most, .int .i64 d.seg, .int .i64 d.least, .int .i64 d.den, .int .i64 d.leafLow, .int .i64 d.rootLow, .int .i64 d.rootHigh, .int .i64 d.leafHigh, .slice D Ts.length q, .int .u64 m], .bool false, .bool false, .bool false, .slice A l.length ca, .int .i64 l.length, .bool (decide ((300 : Int) < (l.length : Int))), .bool (decide ((300 : Int) < (l.length : Int))), t34, t35, t36, t37, t38, t39, t40, undef, undef, undef, undef, undef, undef, undef, undef, undef, undef, undef, undef, undef, undef, undef, undef, undef, undef, undef, undef, undef, undef, undef, undef, undef, undef, undef, undef, undef, undef, undef, undef, undef, undef, undef, undef, undef, undef, undef, undef, undef, undef, undef, undef, undef, undef, undef, undef, undef, undef, undef, undef, undef, undef, undef, undef, undef, undef, undef, undef, undef, undef, undef, undef, undef, undef, undef, undef, undef, undef, undef, undef, undef, undef, undef, undef, undef, undef, undef, undef, undef, undef, undef, undef], []⟩ ∧ Below w51.heap.size w51 W ∧ (∀ k, X k → w51.heap.size ≤ k ∧ k < W.heap.size) ∧ (L 0 = true → t34 = .agg #[.int .u8 c.tag, .int .i64 c.most, .int .i64 c.seg, .int .i64 c.least, .int .i64 c.den, .int .i64 c.leafLow, .int .i64 c.rootLow, .int .i64 c.rootHigh, .int .i64 c.leafHigh, .slice B Rs.length k, .int .u64 n]) ∧ (L 1 = true → t35 = .agg (lrow c B35 R35.length k35 n) ∧ Held X (fun W => lvs R35 = lvs Rs ∧ RunsAt W B35 R35) W) ∧ (L 2 = true → t36 = .agg #[.int .u8 d.tag, .int .i64 d.most, .int .i64 d.seg, .int .i64 d.least, .int .i64 d.den, .int .i64 d.leafLow, .int .i64 d.rootLow, .int .i64 d.rootHigh, .int .i64 d.leafHigh, .slice D Ts.length q, .int .u64 m]) ∧ (L 3 = true → t37 = .agg (lrow d B37 R37.length k37 m) ∧ Held X (fun W => lvs R37 = lvs Ts ∧ RunsAt W B37 R37) W) ∧ (L 4 = true → t38 = .slice A38 0 0) ∧ (L 5 = true → t39 = .slice A l.length ca) ∧ (L 6 = true → t40 = .slice A40 l.length c40 ∧ Held X (fun W => Sl W A40 (l.flatMap Pr.cells)) W) ∧ (L 7 = true → t7 = .pointer (some ⟨g7, 0, none⟩) ∧ X g7 ∧ Held (fun k => X k ∧ k ≠ g7) (fun W => (∃ x0 x1 x2 x3 x4 x5 x6 x7 x8 x9 x10 : Value, Blk W g7 29 #[x0, x1, x2, x3, x4, x5, x6, x7, x8, x9, x10])) W) ∧ (L 8 = true → t8 = .pointer (some ⟨g8, 0, none⟩) ∧ X g8 ∧ Held (fun k => X k ∧ k ≠ g8) (fun W => (∃ x0 x1 x2 x3 x4 x5 x6 x7 x8 x9 x10 : Value, Blk W g8 29 #[x0, x1, x2, x3, x4, x5, x6, x7, x8, x9, x10])) W) ∧ (L 9 = true → Held (fun k => X k ∧ k ≠ g7) (fun W => Blk W g7 29 #[.int .u8 c.tag, .int .i64 c.most, .int .i64 c.seg, .int .i64 c.least, .int .i64 c.den, .int .i64 c.leafLow, .int .i64 c.rootLow, .int .i64 c.rootHigh, .int .i64 c.leafHigh, .slice B35 R35.length k35, .int .u64 n]) W) ∧ (L 10 = true → Held (fun k => X k ∧ k ≠ g8) (fun W => Blk W g8 29 #[.int .u8 d.tag, .int .i64 d.most, .int .i64 d.seg, .int .i64 d.least, .int .i64 d.den, .int .i64 d.leafLow, .int .i64 d.rootLow, .int .i64 d.rootHigh, .int .i64 d.leafHigh, .slice B37 R37.length k37, .int .u64 m]) W) ∧ (L 11 = true → t9 = .slice A40 l.length c40) ∧ (L 7 = true → L 8 = true → g7 ≠ g8) ∧ (L 9 = true → L 1 = true) ∧ (L 9 = true → L 7 = true) ∧ (L 10 = true → L 3 = true) ∧ (L 10 = true → L 8 = true) ∧ (L 11 = true → L 6 = true)) ?h0 ?hstep ?hend
    case h0 => exact ⟨(fun _ => False), undef, undef, undef, undef, undef, undef, undef, undef, undef, undef, none, 0, [], none, 0, [], none, none, 0, 0, 0, rfl, (Below.refl _ _).drew, fun k hk => absurd hk id, fun h => absurd h Bool.false_ne_true, fun h => absurd h Bool.false_ne_true, fun h => absurd h Bool.false_ne_true, fun h => absurd h Bool.false_ne_true, fun h => absurd h Bool.false_ne_true, fun h => absurd h Bool.false_ne_true, fun h => absurd h Bool.false_ne_true, fun h => absurd h Bool.false_ne_true, fun h => absurd h Bool.false_ne_true, fun h => absurd h Bool.false_ne_true, fun h => absurd h Bool.false_ne_true, fun h => absurd h Bool.false_ne_true, fun h => absurd h Bool.false_ne_true, fun h => absurd h Bool.false_ne_true, fun h => absurd h Bool.false_ne_true, fun h => absurd h Bool.false_ne_true, fun h => absurd h Bool.false_ne_true, fun h => absurd h Bool.false_ne_true⟩
    case hend =>
      rintro L a W hall ⟨X, t34, t35, t36, t37, t38, t39, t40, t7, t8, t9, B35, k35, R35, B37, k37, R37, A38, A40, c40, g7, g8, rfl, hb, hX, f0, f1, f2, f3, f4, f5, f6, f7, f8, f9, f10, f11, d7_8, im9_1, im9_7, im10_3, im10_8, im11_6⟩
      have z0 := f0 (hall 0 (by decide))
      have z1 := f1 (hall 1 (by decide))
      have z2 := f2 (hall 2 (by decide))
      have z3 := f3 (hall 3 (by decide))
      have z4 := f4 (hall 4 (by decide))
      have z5 := f5 (hall 5 (by decide))
      have z6 := f6 (hall 6 (by decide))
      have z7 := f7 (hall 7 (by decide))
      have z8 := f8 (hall 8 (by decide))
      have z9 := f9 (hall 9 (by decide))
      have z10 := f10 (hall 10 (by decide))
      have z11 := f11 (hall 11 (by decide))
      have e7_8 := d7_8 (hall 7 (by decide)) (hall 8 (by decide))
      clear hall f0 f1 f2 f3 f4 f5 f6 f7 f8 f9 f10 f11 d7_8 im9_1 im9_7 im10_3 im10_8 im11_6
      obtain ⟨rfl, -, -⟩ := z7
      obtain ⟨rfl, -, -⟩ := z8
      obtain rfl := z11
      have hh := And.intro z1.2.now (And.intro z3.2.now (And.intro z6.2.now (And.intro z9.now z10.now)))
      have HH := Lib.hid hh
      have HBZ := Lib.hid hb
      clear z0 z1 z2 z3 z4 z5 z6 z9 z10 hh hb hX e7_8
      go_wp2_with fail
      go_meet
      exact ⟨g7, g8, B35, k35, R35, B37, k37, R37, A40, c40, rfl, rfl, rfl, HH.out, HBZ.out⟩
    case hstep =>
      rintro L a W i o ho hLi hdep ⟨X, t34, t35, t36, t37, t38, t39, t40, t7, t8, t9, B35, k35, R35, B37, k37, R37, A38, A40, c40, g7, g8, rfl, hb, hX, f0, f1, f2, f3, f4, f5, f6, f7, f8, f9, f10, f11, d7_8, im9_1, im9_7, im10_3, im10_8, im11_6⟩
      have F0 := Lib.hid f0
      have F1 := Lib.hid f1
      have F2 := Lib.hid f2
      have F3 := Lib.hid f3
      have F4 := Lib.hid f4
      have F5 := Lib.hid f5
      have F6 := Lib.hid f6
      have F7 := Lib.hid f7
      have F8 := Lib.hid f8
      have F9 := Lib.hid f9
      have F10 := Lib.hid f10
      have F11 := Lib.hid f11
      have D7_8 := Lib.hid d7_8
      have IM9_1 := Lib.hid im9_1
      have IM9_7 := Lib.hid im9_7
      have IM10_3 := Lib.hid im10_3
      have IM10_8 := Lib.hid im10_8
      have IM11_6 := Lib.hid im11_6
      clear f0 f1 f2 f3 f4 f5 f6 f7 f8 f9 f10 f11 d7_8 im9_1 im9_7 im10_3 im10_8 im11_6
      have HLi := Lib.hid hLi
      clear hLi
      match i, ho with
      | 0, ho =>
        obtain rfl := Option.some.inj ho
        clear hdep
        have HB := Lib.hid hb
        have HX := Lib.hid hX
        have bo := (HX55.out).below HB.out (HX55.out).lt
        have q0 : W.cell? ⟨g16, 0, none⟩ = some (.int .u8 c.tag) := bo.cell 0
        have q1 : W.cell? ⟨g16, 1, none⟩ = some (.int .i64 c.most) := bo.cell 1
        have q2 : W.cell? ⟨g16, 2, none⟩ = some (.int .i64 c.seg) := bo.cell 2
        have q3 : W.cell? ⟨g16, 3, none⟩ = some (.int .i64 c.least) := bo.cell 3
        have q4 : W.cell? ⟨g16, 4, none⟩ = some (.int .i64 c.den) := bo.cell 4
        have q5 : W.cell? ⟨g16, 5, none⟩ = some (.int .i64 c.leafLow) := bo.cell 5
        have q6 : W.cell? ⟨g16, 6, none⟩ = some (.int .i64 c.rootLow) := bo.cell 6
        have q7 : W.cell? ⟨g16, 7, none⟩ = some (.int .i64 c.rootHigh) := bo.cell 7
        have q8 : W.cell? ⟨g16, 8, none⟩ = some (.int .i64 c.leafHigh) := bo.cell 8
        have q9 : W.cell? ⟨g16, 9, none⟩ = some (.slice B Rs.length k) := bo.cell 9
        have q10 : W.cell? ⟨g16, 10, none⟩ = some (.int .u64 n) := bo.cell 10
        have lo := bo.lt
        refine wpOp_step rfl (fun K1 hK1 => ?_)
        have hK := Lib.hid hK1
        clear hK1
        go_wp2_with fail
        exact hK.out _ _ ⟨X, _, t35, t36, t37, t38, t39, t40, t7, t8, t9, B35, k35, R35, B37, k37, R37, A38, A40, c40, g7, g8, rfl, HB.out, HX.out, fun _ => rfl, fun h => F1.out (by simpa using h), fun h => F2.out (by simpa using h), fun h => F3.out (by simpa using h), fun h => F4.out (by simpa using h), fun h => F5.out (by simpa using h), fun h => F6.out (by simpa using h), fun h => F7.out (by simpa using h), fun h => F8.out (by simpa using h), fun h => F9.out (by simpa using h), fun h => F10.out (by simpa using h), fun h => F11.out (by simpa using h), fun h1 h2 => D7_8.out (by simpa using h1) (by simpa using h2), fun h => by have := IM9_1.out (by simpa using h); simp [this], fun h => by have := IM9_7.out (by simpa using h); simp [this], fun h => by have := IM10_3.out (by simpa using h); simp [this], fun h => by have := IM10_8.out (by simpa using h); simp [this], fun h => by have := IM11_6.out (by simpa using h); simp [this]⟩
      | 1, ho =>
        obtain rfl := Option.some.inj ho
        have hl0 := hdep ⟨0, .data⟩ (by simp) rfl
        have z0 := F0.out hl0
        obtain rfl := z0
        clear hdep
        have HB := Lib.hid hb
        have HX := Lib.hid hX
        refine wpOp_step rfl (fun K1 hK1 => ?_)
        have hK := Lib.hid hK1
        clear hK1
        go_wp2_with (go_at_call 5; refine (twin27_any B Rs k c n _ ((HY56.out).below HB.out) HSR.out.1 HSR.out.2).mono ?_; rintro e1 W1 ⟨B2, k2, R2, rfl, hl2, ho2, hb1⟩)
        exact hK.out _ _ ⟨X, _, _, t36, t37, t38, t39, t40, t7, t8, t9, B2, k2, R2, B37, k37, R37, A38, A40, c40, g7, g8, rfl, bext HB.out hb1, fun k hk => ⟨(HX.out k hk).1, Nat.lt_of_lt_of_le (HX.out k hk).2 hb1.size⟩, fun h => rfl, fun _ => ⟨rfl, fun w2 hm => ⟨hl2, (ho2.mod hm (fun k hk hx => by have := (HX.out k hx).2; omega)).runsAt⟩⟩, fun h => F2.out (by simpa using h), fun h => ⟨(F3.out (by simpa using h)).1, (F3.out (by simpa using h)).2.ext hb1⟩, fun h => F4.out (by simpa using h), fun h => F5.out (by simpa using h), fun h => ⟨(F6.out (by simpa using h)).1, (F6.out (by simpa using h)).2.ext hb1⟩, fun h => ⟨(F7.out (by simpa using h)).1, (F7.out (by simpa using h)).2.1, (F7.out (by simpa using h)).2.2.ext hb1⟩, fun h => ⟨(F8.out (by simpa using h)).1, (F8.out (by simpa using h)).2.1, (F8.out (by simpa using h)).2.2.ext hb1⟩, fun h => absurd (IM9_1.out (by simpa using h)) (by rw [HLi.out]; exact Bool.false_ne_true), fun h => (F10.out (by simpa using h)).ext hb1, fun h => F11.out (by simpa using h), fun h1 h2 => D7_8.out (by simpa using h1) (by simpa using h2), fun _ => by simp, fun h => by have := IM9_7.out (by simpa using h); simp [this], fun h => by have := IM10_3.out (by simpa using h); simp [this], fun h => by have := IM10_8.out (by simpa using h); simp [this], fun h => by have := IM11_6.out (by simpa using h); simp [this]⟩
      | 2, ho =>
        obtain rfl := Option.some.inj ho
        clear hdep
        have HB := Lib.hid hb
        have HX := Lib.hid hX
        have bo := (HX54.out).below HB.out (HX54.out).lt
        have q0 : W.cell? ⟨g13, 0, none⟩ = some (.int .u8 d.tag) := bo.cell 0
        have q1 : W.cell? ⟨g13, 1, none⟩ = some (.int .i64 d.most) := bo.cell 1
        have q2 : W.cell? ⟨g13, 2, none⟩ = some (.int .i64 d.seg) := bo.cell 2
        have q3 : W.cell? ⟨g13, 3, none⟩ = some (.int .i64 d.least) := bo.cell 3
        have q4 : W.cell? ⟨g13, 4, none⟩ = some (.int .i64 d.den) := bo.cell 4
        have q5 : W.cell? ⟨g13, 5, none⟩ = some (.int .i64 d.leafLow) := bo.cell 5
        have q6 : W.cell? ⟨g13, 6, none⟩ = some (.int .i64 d.rootLow) := bo.cell 6
        have q7 : W.cell? ⟨g13, 7, none⟩ = some (.int .i64 d.rootHigh) := bo.cell 7
        have q8 : W.cell? ⟨g13, 8, none⟩ = some (.int .i64 d.leafHigh) := bo.cell 8
        have q9 : W.cell? ⟨g13, 9, none⟩ = some (.slice D Ts.length q) := bo.cell 9
        have q10 : W.cell? ⟨g13, 10, none⟩ = some (.int .u64 m) := bo.cell 10
        have lo := bo.lt
        refine wpOp_step rfl (fun K1 hK1 => ?_)
        have hK := Lib.hid hK1
        clear hK1
        go_wp2_with fail
        exact hK.out _ _ ⟨X, t34, t35, _, t37, t38, t39, t40, t7, t8, t9, B35, k35, R35, B37, k37, R37, A38, A40, c40, g7, g8, rfl, HB.out, HX.out, fun h => F0.out (by simpa using h), fun h => F1.out (by simpa using h), fun _ => rfl, fun h => F3.out (by simpa using h), fun h => F4.out (by simpa using h), fun h => F5.out (by simpa using h), fun h => F6.out (by simpa using h), fun h => F7.out (by simpa using h), fun h => F8.out (by simpa using h), fun h => F9.out (by simpa using h), fun h => F10.out (by simpa using h), fun h => F11.out (by simpa using h), fun h1 h2 => D7_8.out (by simpa using h1) (by simpa using h2), fun h => by have := IM9_1.out (by simpa using h); simp [this], fun h => by have := IM9_7.out (by simpa using h); simp [this], fun h => by have := IM10_3.out (by simpa using h); simp [this], fun h => by have := IM10_8.out (by simpa using h); simp [this], fun h => by have := IM11_6.out (by simpa using h); simp [this]⟩
      | 3, ho =>
        obtain rfl := Option.some.inj ho
        have hl2 := hdep ⟨2, .data⟩ (by simp) rfl
        have z2 := F2.out hl2
        obtain rfl := z2
        clear hdep
        have HB := Lib.hid hb
        have HX := Lib.hid hX
        refine wpOp_step rfl (fun K1 hK1 => ?_)
        have hK := Lib.hid hK1
        clear hK1
        go_wp2_with (go_at_call 5; refine (twin27_any D Ts q d m _ ((HY57.out).below HB.out) HST.out.1 HST.out.2).mono ?_; rintro e1 W1 ⟨B2, k2, R2, rfl, hl2, ho2, hb1⟩)
        exact hK.out _ _ ⟨X, t34, t35, _, _, t38, t39, t40, t7, t8, t9, B35, k35, R35, B2, k2, R2, A38, A40, c40, g7, g8, rfl, bext HB.out hb1, fun k hk => ⟨(HX.out k hk).1, Nat.lt_of_lt_of_le (HX.out k hk).2 hb1.size⟩, fun h => F0.out (by simpa using h), fun h => ⟨(F1.out (by simpa using h)).1, (F1.out (by simpa using h)).2.ext hb1⟩, fun h => rfl, fun _ => ⟨rfl, fun w2 hm => ⟨hl2, (ho2.mod hm (fun k hk hx => by have := (HX.out k hx).2; omega)).runsAt⟩⟩, fun h => F4.out (by simpa using h), fun h => F5.out (by simpa using h), fun h => ⟨(F6.out (by simpa using h)).1, (F6.out (by simpa using h)).2.ext hb1⟩, fun h => ⟨(F7.out (by simpa using h)).1, (F7.out (by simpa using h)).2.1, (F7.out (by simpa using h)).2.2.ext hb1⟩, fun h => ⟨(F8.out (by simpa using h)).1, (F8.out (by simpa using h)).2.1, (F8.out (by simpa using h)).2.2.ext hb1⟩, fun h => (F9.out (by simpa using h)).ext hb1, fun h => absurd (IM10_3.out (by simpa using h)) (by rw [HLi.out]; exact Bool.false_ne_true), fun h => F11.out (by simpa using h), fun h1 h2 => D7_8.out (by simpa using h1) (by simpa using h2), fun h => by have := IM9_1.out (by simpa using h); simp [this], fun h => by have := IM9_7.out (by simpa using h); simp [this], fun _ => by simp, fun h => by have := IM10_8.out (by simpa using h); simp [this], fun h => by have := IM11_6.out (by simpa using h); simp [this]⟩
      | 4, ho =>
        obtain rfl := Option.some.inj ho
        clear hdep
        have HB := Lib.hid hb
        have HX := Lib.hid hX
        refine wpOp_step rfl (fun K1 hK1 => ?_)
        have hK := Lib.hid hK1
        clear hK1
        go_wp2_with fail
        have hb1 : Below W.heap.size W (W.alloc (.cells #[] 50)) := (Below.refl _ _).alloc (Nat.le_refl _) _
        obtain ⟨W1, hW1⟩ : ∃ W1, W.alloc (.cells #[] 50) = W1 := ⟨_, rfl⟩
        rw [hW1] at hb1
        rw [hW1]
        clear hW1
        exact hK.out _ _ ⟨X, t34, t35, t36, t37, _, t39, t40, t7, t8, t9, B35, k35, R35, B37, k37, R37, (some ⟨W.heap.size, 0, none⟩), A40, c40, g7, g8, rfl, bext HB.out hb1, fun k hk => ⟨(HX.out k hk).1, Nat.lt_of_lt_of_le (HX.out k hk).2 hb1.size⟩, fun h => F0.out (by simpa using h), fun h => ⟨(F1.out (by simpa using h)).1, (F1.out (by simpa using h)).2.ext hb1⟩, fun h => F2.out (by simpa using h), fun h => ⟨(F3.out (by simpa using h)).1, (F3.out (by simpa using h)).2.ext hb1⟩, fun _ => rfl, fun h => F5.out (by simpa using h), fun h => ⟨(F6.out (by simpa using h)).1, (F6.out (by simpa using h)).2.ext hb1⟩, fun h => ⟨(F7.out (by simpa using h)).1, (F7.out (by simpa using h)).2.1, (F7.out (by simpa using h)).2.2.ext hb1⟩, fun h => ⟨(F8.out (by simpa using h)).1, (F8.out (by simpa using h)).2.1, (F8.out (by simpa using h)).2.2.ext hb1⟩, fun h => (F9.out (by simpa using h)).ext hb1, fun h => (F10.out (by simpa using h)).ext hb1, fun h => F11.out (by simpa using h), fun h1 h2 => D7_8.out (by simpa using h1) (by simpa using h2), fun h => by have := IM9_1.out (by simpa using h); simp [this], fun h => by have := IM9_7.out (by simpa using h); simp [this], fun h => by have := IM10_3.out (by simpa using h); simp [this], fun h => by have := IM10_8.out (by simpa using h); simp [this], fun h => by have := IM11_6.out (by simpa using h); simp [this]⟩
      | 5, ho =>
        obtain rfl := Option.some.inj ho
        clear hdep
        have HB := Lib.hid hb
        have HX := Lib.hid hX
        refine wpOp_step rfl (fun K1 hK1 => ?_)
        have hK := Lib.hid hK1
        clear hK1
        go_wp2_with fail
        exact hK.out _ _ ⟨X, t34, t35, t36, t37, t38, _, t40, t7, t8, t9, B35, k35, R35, B37, k37, R37, A38, A40, c40, g7, g8, rfl, HB.out, HX.out, fun h => F0.out (by simpa using h), fun h => F1.out (by simpa using h), fun h => F2.out (by simpa using h), fun h => F3.out (by simpa using h), fun h => F4.out (by simpa using h), fun _ => rfl, fun h => F6.out (by simpa using h), fun h => F7.out (by simpa using h), fun h => F8.out (by simpa using h), fun h => F9.out (by simpa using h), fun h => F10.out (by simpa using h), fun h => F11.out (by simpa using h), fun h1 h2 => D7_8.out (by simpa using h1) (by simpa using h2), fun h => by have := IM9_1.out (by simpa using h); simp [this], fun h => by have := IM9_7.out (by simpa using h); simp [this], fun h => by have := IM10_3.out (by simpa using h); simp [this], fun h => by have := IM10_8.out (by simpa using h); simp [this], fun h => by have := IM11_6.out (by simpa using h); simp [this]⟩
      | 6, ho =>
        obtain rfl := Option.some.inj ho
        have hl4 := hdep ⟨4, .data⟩ (by simp) rfl
        have z4 := F4.out hl4
        obtain rfl := z4
        have hl5 := hdep ⟨5, .data⟩ (by simp) rfl
        have z5 := F5.out hl5
        obtain rfl := z5
        clear hdep
        have HB := Lib.hid hb
        have HX := Lib.hid hX
        refine wpOp_step rfl (fun K1 hK1 => ?_)
        have hK := Lib.hid hK1
        clear hK1
        refine step_append_full W rfl (.tmp 38) (.tmp 39) 30 rfl 50 ti0 _ 2 16 Tryz.underlying30 HTI.out.2.1 HTI.out.2.2.1 HTI.out.2.2.2.1 HTI.out.2.2.2.2 rfl (by omega) A38 0 [] (fun _ => rfl) rfl (.inl rfl) rfl A l.length ca (l.flatMap Pr.cells) rfl ((HY58.out).below HB.out) (flat_length Pr.cells 2 Pr.cells_length l) (by intro u hu; obtain ⟨e, _, he⟩ := List.mem_flatMap.1 hu; simp [Pr.cells] at he; rcases he with rfl | rfl <;> rfl) (by have := HLI.out; unfold maxLen; omega) (by have := HLI.out; omega) ?_
        intro v4 W1 h41 h42 hg4
        obtain ⟨A4, c4, rfl, hh4, hb1⟩ := full_any (X := X) h41 h42 hg4 (fun k hk => (HX.out k hk).2)
        clear h41 h42 hg4
        exact hK.out _ _ ⟨X, t34, t35, t36, t37, _, _, _, t7, t8, t9, B35, k35, R35, B37, k37, R37, A38, A4, c4, g7, g8, rfl, bext HB.out hb1, fun k hk => ⟨(HX.out k hk).1, Nat.lt_of_lt_of_le (HX.out k hk).2 hb1.size⟩, fun h => F0.out (by simpa using h), fun h => ⟨(F1.out (by simpa using h)).1, (F1.out (by simpa using h)).2.ext hb1⟩, fun h => F2.out (by simpa using h), fun h => ⟨(F3.out (by simpa using h)).1, (F3.out (by simpa using h)).2.ext hb1⟩, fun h => rfl, fun h => rfl, fun _ => ⟨rfl, hh4⟩, fun h => ⟨(F7.out (by simpa using h)).1, (F7.out (by simpa using h)).2.1, (F7.out (by simpa using h)).2.2.ext hb1⟩, fun h => ⟨(F8.out (by simpa using h)).1, (F8.out (by simpa using h)).2.1, (F8.out (by simpa using h)).2.2.ext hb1⟩, fun h => (F9.out (by simpa using h)).ext hb1, fun h => (F10.out (by simpa using h)).ext hb1, fun h => absurd (IM11_6.out (by simpa using h)) (by rw [HLi.out]; exact Bool.false_ne_true), fun h1 h2 => D7_8.out (by simpa using h1) (by simpa using h2), fun h => by have := IM9_1.out (by simpa using h); simp [this], fun h => by have := IM9_7.out (by simpa using h); simp [this], fun h => by have := IM10_3.out (by simpa using h); simp [this], fun h => by have := IM10_8.out (by simpa using h); simp [this], fun _ => by simp⟩
      | 7, ho =>
        obtain rfl := Option.some.inj ho
        clear hdep
        have HB := Lib.hid hb
        have HX := Lib.hid hX
        refine wpOp_step rfl (fun K1 hK1 => ?_)
        have hK := Lib.hid hK1
        clear hK1
        go_wp2_with fail
        have hb1 : Below W.heap.size W (W.alloc (.cells #[.int .u8 0, .int .i64 0, .int .i64 0, .int .i64 0, .int .i64 0, .int .i64 0, .int .i64 0, .int .i64 0, .int .i64 0, .slice none 0 0, .int .u64 0] 29)) := (Below.refl _ _).alloc (Nat.le_refl _) _
        exact hK.out _ _ ⟨(fun k => X k ∨ k = W.heap.size), t34, t35, t36, t37, t38, t39, t40, _, t8, t9, B35, k35, R35, B37, k37, R37, A38, A40, c40, W.heap.size, g8, rfl, HB.out.alloc HB.out.size _, fun k hk => hk.elim (fun q => ⟨(HX.out k q).1, Nat.lt_of_lt_of_le (HX.out k q).2 hb1.size⟩) (fun q => by subst q; exact ⟨HB.out.size, by simp⟩), fun h => F0.out (by simpa using h), fun h => ⟨(F1.out (by simpa using h)).1, (F1.out (by simpa using h)).2.join (Mod.of_ext hb1) (fun k hk hx => hx.elim id (fun q => absurd q (by omega)))⟩, fun h => F2.out (by simpa using h), fun h => ⟨(F3.out (by simpa using h)).1, (F3.out (by simpa using h)).2.join (Mod.of_ext hb1) (fun k hk hx => hx.elim id (fun q => absurd q (by omega)))⟩, fun h => F4.out (by simpa using h), fun h => F5.out (by simpa using h), fun h => ⟨(F6.out (by simpa using h)).1, (F6.out (by simpa using h)).2.join (Mod.of_ext hb1) (fun k hk hx => hx.elim id (fun q => absurd q (by omega)))⟩, fun _ => ⟨rfl, .inr rfl, held_mono (held_blk (X := fun k => (X k ∨ k = W.heap.size) ∧ k ≠ W.heap.size) (Blk.new W 29 #[.int .u8 0, .int .i64 0, .int .i64 0, .int .i64 0, .int .i64 0, .int .i64 0, .int .i64 0, .int .i64 0, .int .i64 0, .slice none 0 0, .int .u64 0]) (fun hx => hx.2 rfl)) (fun W2 h2 => ⟨_, _, _, _, _, _, _, _, _, _, _, h2⟩)⟩, fun h => ⟨(F8.out (by simpa using h)).1, .inl (F8.out (by simpa using h)).2.1, (F8.out (by simpa using h)).2.2.join (Mod.of_ext hb1) (fun k hk hx => ⟨hx.1.elim id (fun q => absurd q (by omega)), hx.2⟩)⟩, fun h => absurd (IM9_7.out (by simpa using h)) (by rw [HLi.out]; exact Bool.false_ne_true), fun h => (F10.out (by simpa using h)).join (Mod.of_ext hb1) (fun k hk hx => ⟨hx.1.elim id (fun q => absurd q (by omega)), hx.2⟩), fun h => F11.out (by simpa using h), fun h1 h2 => Nat.ne_of_gt ((HX.out _ (F8.out (by simpa using h2)).2.1).2), fun h => by have := IM9_1.out (by simpa using h); simp [this], fun _ => by simp, fun h => by have := IM10_3.out (by simpa using h); simp [this], fun h => by have := IM10_8.out (by simpa using h); simp [this], fun h => by have := IM11_6.out (by simpa using h); simp [this]⟩
      | 8, ho =>
        obtain rfl := Option.some.inj ho
        clear hdep
        have HB := Lib.hid hb
        have HX := Lib.hid hX
        refine wpOp_step rfl (fun K1 hK1 => ?_)
        have hK := Lib.hid hK1
        clear hK1
        go_wp2_with fail
        have hb1 : Below W.heap.size W (W.alloc (.cells #[.int .u8 0, .int .i64 0, .int .i64 0, .int .i64 0, .int .i64 0, .int .i64 0, .int .i64 0, .int .i64 0, .int .i64 0, .slice none 0 0, .int .u64 0] 29)) := (Below.refl _ _).alloc (Nat.le_refl _) _
        exact hK.out _ _ ⟨(fun k => X k ∨ k = W.heap.size), t34, t35, t36, t37, t38, t39, t40, t7, _, t9, B35, k35, R35, B37, k37, R37, A38, A40, c40, g7, W.heap.size, rfl, HB.out.alloc HB.out.size _, fun k hk => hk.elim (fun q => ⟨(HX.out k q).1, Nat.lt_of_lt_of_le (HX.out k q).2 hb1.size⟩) (fun q => by subst q; exact ⟨HB.out.size, by simp⟩), fun h => F0.out (by simpa using h), fun h => ⟨(F1.out (by simpa using h)).1, (F1.out (by simpa using h)).2.join (Mod.of_ext hb1) (fun k hk hx => hx.elim id (fun q => absurd q (by omega)))⟩, fun h => F2.out (by simpa using h), fun h => ⟨(F3.out (by simpa using h)).1, (F3.out (by simpa using h)).2.join (Mod.of_ext hb1) (fun k hk hx => hx.elim id (fun q => absurd q (by omega)))⟩, fun h => F4.out (by simpa using h), fun h => F5.out (by simpa using h), fun h => ⟨(F6.out (by simpa using h)).1, (F6.out (by simpa using h)).2.join (Mod.of_ext hb1) (fun k hk hx => hx.elim id (fun q => absurd q (by omega)))⟩, fun h => ⟨(F7.out (by simpa using h)).1, .inl (F7.out (by simpa using h)).2.1, (F7.out (by simpa using h)).2.2.join (Mod.of_ext hb1) (fun k hk hx => ⟨hx.1.elim id (fun q => absurd q (by omega)), hx.2⟩)⟩, fun _ => ⟨rfl, .inr rfl, held_mono (held_blk (X := fun k => (X k ∨ k = W.heap.size) ∧ k ≠ W.heap.size) (Blk.new W 29 #[.int .u8 0, .int .i64 0, .int .i64 0, .int .i64 0, .int .i64 0, .int .i64 0, .int .i64 0, .int .i64 0, .int .i64 0, .slice none 0 0, .int .u64 0]) (fun hx => hx.2 rfl)) (fun W2 h2 => ⟨_, _, _, _, _, _, _, _, _, _, _, h2⟩)⟩, fun h => (F9.out (by simpa using h)).join (Mod.of_ext hb1) (fun k hk hx => ⟨hx.1.elim id (fun q => absurd q (by omega)), hx.2⟩), fun h => absurd (IM10_8.out (by simpa using h)) (by rw [HLi.out]; exact Bool.false_ne_true), fun h => F11.out (by simpa using h), fun h1 h2 => Nat.ne_of_lt ((HX.out _ (F7.out (by simpa using h1)).2.1).2), fun h => by have := IM9_1.out (by simpa using h); simp [this], fun h => by have := IM9_7.out (by simpa using h); simp [this], fun h => by have := IM10_3.out (by simpa using h); simp [this], fun _ => by simp, fun h => by have := IM11_6.out (by simpa using h); simp [this]⟩
      | 9, ho =>
        obtain rfl := Option.some.inj ho
        have hl7 := hdep ⟨7, .data⟩ (by simp) rfl
        have z7 := F7.out hl7
        have zz7 := z7.2
        obtain rfl := z7.1
        clear z7
        have z7 := Lib.hid zz7
        clear zz7
        have hl1 := hdep ⟨1, .data⟩ (by simp) rfl
        have z1 := F1.out hl1
        have zz1 := z1.2
        obtain rfl := z1.1
        clear z1
        have z1 := Lib.hid zz1
        clear zz1
        clear hdep
        have HB := Lib.hid hb
        have HX := Lib.hid hX
        refine wpOp_step rfl (fun K1 hK1 => ?_)
        have hK := Lib.hid hK1
        clear hK1
        obtain ⟨hxg, hbx⟩ := z7.out
        obtain ⟨x0, x1, x2, x3, x4, x5, x6, x7, x8, x9, x10, hbk⟩ := hbx.now
        have q0 : W.cell? ⟨g7, 0, none⟩ = some x0 := hbk.cell 0
        have r0 := hbk.frozen 0
        have q1 : W.cell? ⟨g7, 1, none⟩ = some x1 := hbk.cell 1
        have r1 := hbk.frozen 1
        have q2 : W.cell? ⟨g7, 2, none⟩ = some x2 := hbk.cell 2
        have r2 := hbk.frozen 2
        have q3 : W.cell? ⟨g7, 3, none⟩ = some x3 := hbk.cell 3
        have r3 := hbk.frozen 3
        have q4 : W.cell? ⟨g7, 4, none⟩ = some x4 := hbk.cell 4
        have r4 := hbk.frozen 4
        have q5 : W.cell? ⟨g7, 5, none⟩ = some x5 := hbk.cell 5
        have r5 := hbk.frozen 5
        have q6 : W.cell? ⟨g7, 6, none⟩ = some x6 := hbk.cell 6
        have r6 := hbk.frozen 6
        have q7 : W.cell? ⟨g7, 7, none⟩ = some x7 := hbk.cell 7
        have r7 := hbk.frozen 7
        have q8 : W.cell? ⟨g7, 8, none⟩ = some x8 := hbk.cell 8
        have r8 := hbk.frozen 8
        have q9 : W.cell? ⟨g7, 9, none⟩ = some x9 := hbk.cell 9
        have r9 := hbk.frozen 9
        have q10 : W.cell? ⟨g7, 10, none⟩ = some x10 := hbk.cell 10
        have r10 := hbk.frozen 10
        have lg := hbk.lt
        go_wp2_with fail
        have hm1 : ∀ Y : Nat → Prop, Y g7 → Mod Y W (((((((((((W.setCell ⟨g7, 0, none⟩ (.int .u8 c.tag)).setCell ⟨g7, 1, none⟩ (.int .i64 c.most)).setCell ⟨g7, 2, none⟩ (.int .i64 c.seg)).setCell ⟨g7, 3, none⟩ (.int .i64 c.least)).setCell ⟨g7, 4, none⟩ (.int .i64 c.den)).setCell ⟨g7, 5, none⟩ (.int .i64 c.leafLow)).setCell ⟨g7, 6, none⟩ (.int .i64 c.rootLow)).setCell ⟨g7, 7, none⟩ (.int .i64 c.rootHigh)).setCell ⟨g7, 8, none⟩ (.int .i64 c.leafHigh)).setCell ⟨g7, 9, none⟩ (.slice B35 R35.length k35)).setCell ⟨g7, 10, none⟩ (.int .u64 n)) := fun Y hY => ((((((((((((Mod.refl Y W).setCell (p := ⟨g7, 0, none⟩) hY _).setCell (p := ⟨g7, 1, none⟩) hY _).setCell (p := ⟨g7, 2, none⟩) hY _).setCell (p := ⟨g7, 3, none⟩) hY _).setCell (p := ⟨g7, 4, none⟩) hY _).setCell (p := ⟨g7, 5, none⟩) hY _).setCell (p := ⟨g7, 6, none⟩) hY _).setCell (p := ⟨g7, 7, none⟩) hY _).setCell (p := ⟨g7, 8, none⟩) hY _).setCell (p := ⟨g7, 9, none⟩) hY _).setCell (p := ⟨g7, 10, none⟩) hY _)
        have hbn : Blk (((((((((((W.setCell ⟨g7, 0, none⟩ (.int .u8 c.tag)).setCell ⟨g7, 1, none⟩ (.int .i64 c.most)).setCell ⟨g7, 2, none⟩ (.int .i64 c.seg)).setCell ⟨g7, 3, none⟩ (.int .i64 c.least)).setCell ⟨g7, 4, none⟩ (.int .i64 c.den)).setCell ⟨g7, 5, none⟩ (.int .i64 c.leafLow)).setCell ⟨g7, 6, none⟩ (.int .i64 c.rootLow)).setCell ⟨g7, 7, none⟩ (.int .i64 c.rootHigh)).setCell ⟨g7, 8, none⟩ (.int .i64 c.leafHigh)).setCell ⟨g7, 9, none⟩ (.slice B35 R35.length k35)).setCell ⟨g7, 10, none⟩ (.int .u64 n)) g7 29 #[.int .u8 c.tag, .int .i64 c.most, .int .i64 c.seg, .int .i64 c.least, .int .i64 c.den, .int .i64 c.leafLow, .int .i64 c.rootLow, .int .i64 c.rootHigh, .int .i64 c.leafHigh, .slice B35 R35.length k35, .int .u64 n] := by simpa using ((((((((((hbk.set_ 0 (.int .u8 c.tag)).set_ 1 (.int .i64 c.most)).set_ 2 (.int .i64 c.seg)).set_ 3 (.int .i64 c.least)).set_ 4 (.int .i64 c.den)).set_ 5 (.int .i64 c.leafLow)).set_ 6 (.int .i64 c.rootLow)).set_ 7 (.int .i64 c.rootHigh)).set_ 8 (.int .i64 c.leafHigh)).set_ 9 (.slice B35 R35.length k35)).set_ 10 (.int .u64 n)
        have hle : w51.heap.size ≤ g7 := (HX.out _ hxg).1
        have hbl : Below w51.heap.size w51 (((((((((((W.setCell ⟨g7, 0, none⟩ (.int .u8 c.tag)).setCell ⟨g7, 1, none⟩ (.int .i64 c.most)).setCell ⟨g7, 2, none⟩ (.int .i64 c.seg)).setCell ⟨g7, 3, none⟩ (.int .i64 c.least)).setCell ⟨g7, 4, none⟩ (.int .i64 c.den)).setCell ⟨g7, 5, none⟩ (.int .i64 c.leafLow)).setCell ⟨g7, 6, none⟩ (.int .i64 c.rootLow)).setCell ⟨g7, 7, none⟩ (.int .i64 c.rootHigh)).setCell ⟨g7, 8, none⟩ (.int .i64 c.leafHigh)).setCell ⟨g7, 9, none⟩ (.slice B35 R35.length k35)).setCell ⟨g7, 10, none⟩ (.int .u64 n)) := (((((((((((HB.out.setCell (p := ⟨g7, 0, none⟩) hle _).setCell (p := ⟨g7, 1, none⟩) hle _).setCell (p := ⟨g7, 2, none⟩) hle _).setCell (p := ⟨g7, 3, none⟩) hle _).setCell (p := ⟨g7, 4, none⟩) hle _).setCell (p := ⟨g7, 5, none⟩) hle _).setCell (p := ⟨g7, 6, none⟩) hle _).setCell (p := ⟨g7, 7, none⟩) hle _).setCell (p := ⟨g7, 8, none⟩) hle _).setCell (p := ⟨g7, 9, none⟩) hle _).setCell (p := ⟨g7, 10, none⟩) hle _)
        obtain ⟨W1, hW1⟩ : ∃ W1, (((((((((((W.setCell ⟨g7, 0, none⟩ (.int .u8 c.tag)).setCell ⟨g7, 1, none⟩ (.int .i64 c.most)).setCell ⟨g7, 2, none⟩ (.int .i64 c.seg)).setCell ⟨g7, 3, none⟩ (.int .i64 c.least)).setCell ⟨g7, 4, none⟩ (.int .i64 c.den)).setCell ⟨g7, 5, none⟩ (.int .i64 c.leafLow)).setCell ⟨g7, 6, none⟩ (.int .i64 c.rootLow)).setCell ⟨g7, 7, none⟩ (.int .i64 c.rootHigh)).setCell ⟨g7, 8, none⟩ (.int .i64 c.leafHigh)).setCell ⟨g7, 9, none⟩ (.slice B35 R35.length k35)).setCell ⟨g7, 10, none⟩ (.int .u64 n)) = W1 := ⟨_, rfl⟩
        rw [hW1] at hm1 hbn hbl
        rw [hW1]
        clear hW1
        exact hK.out _ _ ⟨X, t34, _, t36, t37, t38, t39, t40, _, t8, t9, B35, k35, R35, B37, k37, R37, A38, A40, c40, g7, g8, rfl, hbl, fun k hk => ⟨(HX.out k hk).1, Nat.lt_of_lt_of_le (HX.out k hk).2 (hm1 X hxg).size⟩, fun h => F0.out (by simpa using h), fun h => ⟨rfl, z1.out.step (hm1 _ hxg)⟩, fun h => F2.out (by simpa using h), fun h => ⟨(F3.out (by simpa using h)).1, (F3.out (by simpa using h)).2.step (hm1 _ hxg)⟩, fun h => F4.out (by simpa using h), fun h => F5.out (by simpa using h), fun h => ⟨(F6.out (by simpa using h)).1, (F6.out (by simpa using h)).2.step (hm1 _ hxg)⟩, fun h => ⟨rfl, z7.out.1, held_mono (held_blk hbn (fun hx => hx.2 rfl)) (fun W2 h2 => ⟨_, _, _, _, _, _, _, _, _, _, _, h2⟩)⟩, fun h => ⟨(F8.out (by simpa using h)).1, (F8.out (by simpa using h)).2.1, (F8.out (by simpa using h)).2.2.step (hm1 _ ⟨hxg, (D7_8.out hl7 (by simpa using h))⟩)⟩, fun _ => held_blk hbn (fun hx => hx.2 rfl), fun h => (F10.out (by simpa using h)).step (hm1 _ ⟨hxg, (D7_8.out hl7 (IM10_8.out (by simpa using h)))⟩), fun h => F11.out (by simpa using h), fun h1 h2 => D7_8.out (by simpa using h1) (by simpa using h2), fun _ => by simp [hl1], fun _ => by simp [hl7], fun h => by have := IM10_3.out (by simpa using h); simp [this], fun h => by have := IM10_8.out (by simpa using h); simp [this], fun h => by have := IM11_6.out (by simpa using h); simp [this]⟩
      | 10, ho =>
        obtain rfl := Option.some.inj ho
        have hl8 := hdep ⟨8, .data⟩ (by simp) rfl
        have z8 := F8.out hl8
        have zz8 := z8.2
        obtain rfl := z8.1
        clear z8
        have z8 := Lib.hid zz8
        clear zz8
        have hl3 := hdep ⟨3, .data⟩ (by simp) rfl
        have z3 := F3.out hl3
        have zz3 := z3.2
        obtain rfl := z3.1
        clear z3
        have z3 := Lib.hid zz3
        clear zz3
        clear hdep
        have HB := Lib.hid hb
        have HX := Lib.hid hX
        refine wpOp_step rfl (fun K1 hK1 => ?_)
        have hK := Lib.hid hK1
        clear hK1
        obtain ⟨hxg, hbx⟩ := z8.out
        obtain ⟨x0, x1, x2, x3, x4, x5, x6, x7, x8, x9, x10, hbk⟩ := hbx.now
        have q0 : W.cell? ⟨g8, 0, none⟩ = some x0 := hbk.cell 0
        have r0 := hbk.frozen 0
        have q1 : W.cell? ⟨g8, 1, none⟩ = some x1 := hbk.cell 1
        have r1 := hbk.frozen 1
        have q2 : W.cell? ⟨g8, 2, none⟩ = some x2 := hbk.cell 2
        have r2 := hbk.frozen 2
        have q3 : W.cell? ⟨g8, 3, none⟩ = some x3 := hbk.cell 3
        have r3 := hbk.frozen 3
        have q4 : W.cell? ⟨g8, 4, none⟩ = some x4 := hbk.cell 4
        have r4 := hbk.frozen 4
        have q5 : W.cell? ⟨g8, 5, none⟩ = some x5 := hbk.cell 5
        have r5 := hbk.frozen 5
        have q6 : W.cell? ⟨g8, 6, none⟩ = some x6 := hbk.cell 6
        have r6 := hbk.frozen 6
        have q7 : W.cell? ⟨g8, 7, none⟩ = some x7 := hbk.cell 7
        have r7 := hbk.frozen 7
        have q8 : W.cell? ⟨g8, 8, none⟩ = some x8 := hbk.cell 8
        have r8 := hbk.frozen 8
        have q9 : W.cell? ⟨g8, 9, none⟩ = some x9 := hbk.cell 9
        have r9 := hbk.frozen 9
        have q10 : W.cell? ⟨g8, 10, none⟩ = some x10 := hbk.cell 10
        have r10 := hbk.frozen 10
        have lg := hbk.lt
        go_wp2_with fail
        have hm1 : ∀ Y : Nat → Prop, Y g8 → Mod Y W (((((((((((W.setCell ⟨g8, 0, none⟩ (.int .u8 d.tag)).setCell ⟨g8, 1, none⟩ (.int .i64 d.most)).setCell ⟨g8, 2, none⟩ (.int .i64 d.seg)).setCell ⟨g8, 3, none⟩ (.int .i64 d.least)).setCell ⟨g8, 4, none⟩ (.int .i64 d.den)).setCell ⟨g8, 5, none⟩ (.int .i64 d.leafLow)).setCell ⟨g8, 6, none⟩ (.int .i64 d.rootLow)).setCell ⟨g8, 7, none⟩ (.int .i64 d.rootHigh)).setCell ⟨g8, 8, none⟩ (.int .i64 d.leafHigh)).setCell ⟨g8, 9, none⟩ (.slice B37 R37.length k37)).setCell ⟨g8, 10, none⟩ (.int .u64 m)) := fun Y hY => ((((((((((((Mod.refl Y W).setCell (p := ⟨g8, 0, none⟩) hY _).setCell (p := ⟨g8, 1, none⟩) hY _).setCell (p := ⟨g8, 2, none⟩) hY _).setCell (p := ⟨g8, 3, none⟩) hY _).setCell (p := ⟨g8, 4, none⟩) hY _).setCell (p := ⟨g8, 5, none⟩) hY _).setCell (p := ⟨g8, 6, none⟩) hY _).setCell (p := ⟨g8, 7, none⟩) hY _).setCell (p := ⟨g8, 8, none⟩) hY _).setCell (p := ⟨g8, 9, none⟩) hY _).setCell (p := ⟨g8, 10, none⟩) hY _)
        have hbn : Blk (((((((((((W.setCell ⟨g8, 0, none⟩ (.int .u8 d.tag)).setCell ⟨g8, 1, none⟩ (.int .i64 d.most)).setCell ⟨g8, 2, none⟩ (.int .i64 d.seg)).setCell ⟨g8, 3, none⟩ (.int .i64 d.least)).setCell ⟨g8, 4, none⟩ (.int .i64 d.den)).setCell ⟨g8, 5, none⟩ (.int .i64 d.leafLow)).setCell ⟨g8, 6, none⟩ (.int .i64 d.rootLow)).setCell ⟨g8, 7, none⟩ (.int .i64 d.rootHigh)).setCell ⟨g8, 8, none⟩ (.int .i64 d.leafHigh)).setCell ⟨g8, 9, none⟩ (.slice B37 R37.length k37)).setCell ⟨g8, 10, none⟩ (.int .u64 m)) g8 29 #[.int .u8 d.tag, .int .i64 d.most, .int .i64 d.seg, .int .i64 d.least, .int .i64 d.den, .int .i64 d.leafLow, .int .i64 d.rootLow, .int .i64 d.rootHigh, .int .i64 d.leafHigh, .slice B37 R37.length k37, .int .u64 m] := by simpa using ((((((((((hbk.set_ 0 (.int .u8 d.tag)).set_ 1 (.int .i64 d.most)).set_ 2 (.int .i64 d.seg)).set_ 3 (.int .i64 d.least)).set_ 4 (.int .i64 d.den)).set_ 5 (.int .i64 d.leafLow)).set_ 6 (.int .i64 d.rootLow)).set_ 7 (.int .i64 d.rootHigh)).set_ 8 (.int .i64 d.leafHigh)).set_ 9 (.slice B37 R37.length k37)).set_ 10 (.int .u64 m)
        have hle : w51.heap.size ≤ g8 := (HX.out _ hxg).1
        have hbl : Below w51.heap.size w51 (((((((((((W.setCell ⟨g8, 0, none⟩ (.int .u8 d.tag)).setCell ⟨g8, 1, none⟩ (.int .i64 d.most)).setCell ⟨g8, 2, none⟩ (.int .i64 d.seg)).setCell ⟨g8, 3, none⟩ (.int .i64 d.least)).setCell ⟨g8, 4, none⟩ (.int .i64 d.den)).setCell ⟨g8, 5, none⟩ (.int .i64 d.leafLow)).setCell ⟨g8, 6, none⟩ (.int .i64 d.rootLow)).setCell ⟨g8, 7, none⟩ (.int .i64 d.rootHigh)).setCell ⟨g8, 8, none⟩ (.int .i64 d.leafHigh)).setCell ⟨g8, 9, none⟩ (.slice B37 R37.length k37)).setCell ⟨g8, 10, none⟩ (.int .u64 m)) := (((((((((((HB.out.setCell (p := ⟨g8, 0, none⟩) hle _).setCell (p := ⟨g8, 1, none⟩) hle _).setCell (p := ⟨g8, 2, none⟩) hle _).setCell (p := ⟨g8, 3, none⟩) hle _).setCell (p := ⟨g8, 4, none⟩) hle _).setCell (p := ⟨g8, 5, none⟩) hle _).setCell (p := ⟨g8, 6, none⟩) hle _).setCell (p := ⟨g8, 7, none⟩) hle _).setCell (p := ⟨g8, 8, none⟩) hle _).setCell (p := ⟨g8, 9, none⟩) hle _).setCell (p := ⟨g8, 10, none⟩) hle _)
        obtain ⟨W1, hW1⟩ : ∃ W1, (((((((((((W.setCell ⟨g8, 0, none⟩ (.int .u8 d.tag)).setCell ⟨g8, 1, none⟩ (.int .i64 d.most)).setCell ⟨g8, 2, none⟩ (.int .i64 d.seg)).setCell ⟨g8, 3, none⟩ (.int .i64 d.least)).setCell ⟨g8, 4, none⟩ (.int .i64 d.den)).setCell ⟨g8, 5, none⟩ (.int .i64 d.leafLow)).setCell ⟨g8, 6, none⟩ (.int .i64 d.rootLow)).setCell ⟨g8, 7, none⟩ (.int .i64 d.rootHigh)).setCell ⟨g8, 8, none⟩ (.int .i64 d.leafHigh)).setCell ⟨g8, 9, none⟩ (.slice B37 R37.length k37)).setCell ⟨g8, 10, none⟩ (.int .u64 m)) = W1 := ⟨_, rfl⟩
        rw [hW1] at hm1 hbn hbl
        rw [hW1]
        clear hW1
        exact hK.out _ _ ⟨X, t34, t35, t36, _, t38, t39, t40, t7, _, t9, B35, k35, R35, B37, k37, R37, A38, A40, c40, g7, g8, rfl, hbl, fun k hk => ⟨(HX.out k hk).1, Nat.lt_of_lt_of_le (HX.out k hk).2 (hm1 X hxg).size⟩, fun h => F0.out (by simpa using h), fun h => ⟨(F1.out (by simpa using h)).1, (F1.out (by simpa using h)).2.step (hm1 _ hxg)⟩, fun h => F2.out (by simpa using h), fun h => ⟨rfl, z3.out.step (hm1 _ hxg)⟩, fun h => F4.out (by simpa using h), fun h => F5.out (by simpa using h), fun h => ⟨(F6.out (by simpa using h)).1, (F6.out (by simpa using h)).2.step (hm1 _ hxg)⟩, fun h => ⟨(F7.out (by simpa using h)).1, (F7.out (by simpa using h)).2.1, (F7.out (by simpa using h)).2.2.step (hm1 _ ⟨hxg, (fun q => (D7_8.out (by simpa using h) hl8) q.symm)⟩)⟩, fun h => ⟨rfl, z8.out.1, held_mono (held_blk hbn (fun hx => hx.2 rfl)) (fun W2 h2 => ⟨_, _, _, _, _, _, _, _, _, _, _, h2⟩)⟩, fun h => (F9.out (by simpa using h)).step (hm1 _ ⟨hxg, (fun q => (D7_8.out (IM9_7.out (by simpa using h)) hl8) q.symm)⟩), fun _ => held_blk hbn (fun hx => hx.2 rfl), fun h => F11.out (by simpa using h), fun h1 h2 => D7_8.out (by simpa using h1) (by simpa using h2), fun h => by have := IM9_1.out (by simpa using h); simp [this], fun h => by have := IM9_7.out (by simpa using h); simp [this], fun _ => by simp [hl3], fun _ => by simp [hl8], fun h => by have := IM11_6.out (by simpa using h); simp [this]⟩
      | 11, ho =>
        obtain rfl := Option.some.inj ho
        have hl6 := hdep ⟨6, .data⟩ (by simp) rfl
        have z6 := F6.out hl6
        have zz6 := z6.2
        obtain rfl := z6.1
        clear z6
        have z6 := Lib.hid zz6
        clear zz6
        clear hdep
        have HB := Lib.hid hb
        have HX := Lib.hid hX
        refine wpOp_step rfl (fun K1 hK1 => ?_)
        have hK := Lib.hid hK1
        clear hK1
        go_wp2_with fail
        exact hK.out _ _ ⟨X, t34, t35, t36, t37, t38, t39, _, t7, t8, _, B35, k35, R35, B37, k37, R37, A38, A40, c40, g7, g8, rfl, HB.out, HX.out, fun h => F0.out (by simpa using h), fun h => F1.out (by simpa using h), fun h => F2.out (by simpa using h), fun h => F3.out (by simpa using h), fun h => F4.out (by simpa using h), fun h => F5.out (by simpa using h), fun h => ⟨rfl, z6.out⟩, fun h => F7.out (by simpa using h), fun h => F8.out (by simpa using h), fun h => F9.out (by simpa using h), fun h => F10.out (by simpa using h), fun _ => rfl, fun h1 h2 => D7_8.out (by simpa using h1) (by simpa using h2), fun h => by have := IM9_1.out (by simpa using h); simp [this], fun h => by have := IM9_7.out (by simpa using h); simp [this], fun h => by have := IM10_3.out (by simpa using h); simp [this], fun h => by have := IM10_8.out (by simpa using h); simp [this], fun _ => by simp [hl6]⟩
  case rest =>
  obtain ⟨g7, g8, B2, k2, R2, D2, q2, T2, A2, ca2, rfl, rfl, rfl, ⟨⟨hl2, ho2⟩, ⟨hm2, hp2⟩, hs2, hx7, hx8⟩, hbz⟩ := hcut
  have HF83 := Lib.hid (bext HF53.out hbz)
  have HX84 := Lib.hid (HX54.out.below hbz HX54.out.lt)
  have HX85 := Lib.hid (HX55.out.below hbz HX55.out.lt)
  have HY86 := Lib.hid (RunsAt.below HY56.out hbz)
  have HY87 := Lib.hid (RunsAt.below HY57.out hbz)
  have HY88 := Lib.hid (HY58.out.below hbz)
  clear HF53 HX54 HX55 HY56 HY57 HY58
  clear hbz
  have HY89 := Lib.hid (hs2)
  have HY90 := Lib.hid (ho2)
  have HY91 := Lib.hid (hp2)
  have HL2 := Lib.hid (hl2.trans HL.out)
  have hn2 : R2.length = Rs.length := by rw [rs_len HL2.out, ← HL.out, lvs_len]
  have HN2 := Lib.hid hn2
  have HS2 := Lib.hid (ls_of (Rs := R2) (T := 600) HL2.out HLL.out)
  rw [hn2] at hx7
  have HM2 := Lib.hid (hm2.trans HK.out)
  have hnt : T2.length = Ts.length := by rw [rs_len HM2.out, ← HK.out, lvs_len]
  rw [hnt] at hx8
  have HNT := Lib.hid hnt
  have HSQ := Lib.hid (ls_of (Rs := T2) (T := 600) HM2.out HKK.out)
  have HX92 := Lib.hid hx7
  have HX93 := Lib.hid hx8
  clear hl2 ho2 hm2 hp2 hs2 hx7 hx8 hn2 hnt
  have KM := HX85
  have KN := HX84
  have KO := HX92
  have KP := HX93
  have KB := HY86
  have KD := HY87
  have KA := HY88
  have KR := HY90
  have KQ := HY91
  have KT := HY89
  have KF := HF83
  have HF0 := Lib.hid (Below.refl wc.heap.size wc)
  have HC2 := Lib.hid (fun W (hW : RunsAt W B2 R2) => HCON.out A2 B2 D2 R2 T2 k2 q2 ca2 W HL2.out HM2.out hW)
  clear HCON
  have HY94 := Lib.hid (HF0.out)
  have HUx := Lib.hid HY94.out.size
  have c95 : wc.cell? ⟨g7, 0, none⟩ = some (.int .u8 c.tag) := HX92.out.cell 0
  have c96 : wc.cell? ⟨g7, 1, none⟩ = some (.int .i64 c.most) := HX92.out.cell 1
  have c97 : wc.cell? ⟨g7, 2, none⟩ = some (.int .i64 c.seg) := HX92.out.cell 2
  have c98 : wc.cell? ⟨g7, 3, none⟩ = some (.int .i64 c.least) := HX92.out.cell 3
  have c99 : wc.cell? ⟨g7, 4, none⟩ = some (.int .i64 c.den) := HX92.out.cell 4
  have c100 : wc.cell? ⟨g7, 5, none⟩ = some (.int .i64 c.leafLow) := HX92.out.cell 5
  have c101 : wc.cell? ⟨g7, 6, none⟩ = some (.int .i64 c.rootLow) := HX92.out.cell 6
  have c102 : wc.cell? ⟨g7, 7, none⟩ = some (.int .i64 c.rootHigh) := HX92.out.cell 7
  have c103 : wc.cell? ⟨g7, 8, none⟩ = some (.int .i64 c.leafHigh) := HX92.out.cell 8
  have c104 : wc.cell? ⟨g7, 9, none⟩ = some (.slice B2 Rs.length k2) := HX92.out.cell 9
  have c105 : wc.cell? ⟨g7, 10, none⟩ = some (.int .u64 n) := HX92.out.cell 10
  have l106 : g7 < wc.heap.size := HX92.out.lt
  go_wp2_with fail
  clear c95 c96 c97 c98 c99 c100 c101 c102 c103 c104 c105 l106
  refine ((HC2.out _ HY90.out).1 HY89.out).mono ?_
  rintro e w107 ⟨Bx, kx, Rx, rfl, hlx, hox, hb108⟩
  have HLx := Lib.hid hlx
  obtain ⟨Mx, hMx⟩ : ∃ N, Rx.length = N := ⟨_, rfl⟩
  rw [hMx]
  have HMx := Lib.hid hMx
  have HSx := Lib.hid (ls_of (Rs := Rx) (T := 100000) hlx HSX.out)
  have HOXx := Lib.hid hox
  clear hlx hox hMx
  have HF109 := Lib.hid (bext HF83.out hb108)
  have HX110 := Lib.hid (HX84.out.below hb108 HX84.out.lt)
  have HX111 := Lib.hid (HX85.out.below hb108 HX85.out.lt)
  have HX112 := Lib.hid (HX92.out.below hb108 HX92.out.lt)
  have HX113 := Lib.hid (HX93.out.below hb108 HX93.out.lt)
  have HY114 := Lib.hid (RunsAt.below HY86.out hb108)
  have HY115 := Lib.hid (RunsAt.below HY87.out hb108)
  have HY116 := Lib.hid (HY88.out.below hb108)
  have HY117 := Lib.hid (HY89.out.below hb108)
  have HY118 := Lib.hid (RunsAt.below HY90.out hb108)
  have HY119 := Lib.hid (RunsAt.below HY91.out hb108)
  have HY120 := Lib.hid (bext HY94.out hb108)
  clear HF83 HX84 HX85 HX92 HX93 HY86 HY87 HY88 HY89 HY90 HY91 HY94
  clear hb108
  have HY121 := Lib.hid (HOXx.out)
  have HY122 := Lib.hid ((Below.refl w107.heap.size w107))
  have hgx := HY122.out.size
  go_upto_region 5 with fail
  obtain ⟨U123, h125⟩ : ∃ U, w107.alloc (.cells #[.int .u8 cx.tag, .int .i64 cx.most, .int .i64 cx.seg, .int .i64 cx.least, .int .i64 cx.den, .int .i64 cx.leafLow, .int .i64 cx.rootLow, .int .i64 cx.rootHigh, .int .i64 cx.leafHigh, .slice Bx Mx kx, .int .u64 Nx] 29) = U := ⟨_, rfl⟩
  have ba126 : Below w107.heap.size w107 U123 := by rw [← h125]; exact (Below.refl _ _).alloc (Nat.le_refl _) _
  have bn127 : Blk U123 w107.heap.size 29 #[.int .u8 cx.tag, .int .i64 cx.most, .int .i64 cx.seg, .int .i64 cx.least, .int .i64 cx.den, .int .i64 cx.leafLow, .int .i64 cx.rootLow, .int .i64 cx.rootHigh, .int .i64 cx.leafHigh, .slice Bx Mx kx, .int .u64 Nx] := by rw [← h125]; exact Blk.new _ _ _
  try rw [h125]
  have HF128 := Lib.hid (bext HF109.out ba126)
  have HX129 := Lib.hid (HX110.out.below ba126 HX110.out.lt)
  have HX130 := Lib.hid (HX111.out.below ba126 HX111.out.lt)
  have HX131 := Lib.hid (HX112.out.below ba126 HX112.out.lt)
  have HX132 := Lib.hid (HX113.out.below ba126 HX113.out.lt)
  have HY133 := Lib.hid (RunsAt.below HY114.out ba126)
  have HY134 := Lib.hid (RunsAt.below HY115.out ba126)
  have HY135 := Lib.hid (HY116.out.below ba126)
  have HY136 := Lib.hid (HY117.out.below ba126)
  have HY137 := Lib.hid (RunsAt.below HY118.out ba126)
  have HY138 := Lib.hid (RunsAt.below HY119.out ba126)
  have HY139 := Lib.hid (bext HY120.out ba126)
  have HY140 := Lib.hid (OwnRs.below HY121.out ba126)
  have HY141 := Lib.hid (bext HY122.out ba126)
  clear HF109 HX110 HX111 HX112 HX113 HY114 HY115 HY116 HY117 HY118 HY119 HY120 HY121 HY122
  obtain ⟨g124, h142⟩ : ∃ g, w107.heap.size = g := ⟨_, rfl⟩
  rw [h142] at bn127
  try rw [h142]
  have HX143 := Lib.hid bn127
  have HGxx := Lib.hid (show w107.heap.size ≤ g124 by rw [← h142]; exact hgx)
  clear hgx
  clear h125 ba126 bn127 h142
  have c144 : U123.cell? ⟨g16, 0, none⟩ = some (.int .u8 c.tag) := HX130.out.cell 0
  have c145 : U123.cell? ⟨g16, 1, none⟩ = some (.int .i64 c.most) := HX130.out.cell 1
  have c146 : U123.cell? ⟨g16, 2, none⟩ = some (.int .i64 c.seg) := HX130.out.cell 2
  have c147 : U123.cell? ⟨g16, 3, none⟩ = some (.int .i64 c.least) := HX130.out.cell 3
  have c148 : U123.cell? ⟨g16, 4, none⟩ = some (.int .i64 c.den) := HX130.out.cell 4
  have c149 : U123.cell? ⟨g16, 5, none⟩ = some (.int .i64 c.leafLow) := HX130.out.cell 5
  have c150 : U123.cell? ⟨g16, 6, none⟩ = some (.int .i64 c.rootLow) := HX130.out.cell 6
  have c151 : U123.cell? ⟨g16, 7, none⟩ = some (.int .i64 c.rootHigh) := HX130.out.cell 7
  have c152 : U123.cell? ⟨g16, 8, none⟩ = some (.int .i64 c.leafHigh) := HX130.out.cell 8
  have c153 : U123.cell? ⟨g16, 9, none⟩ = some (.slice B Rs.length k) := HX130.out.cell 9
  have c154 : U123.cell? ⟨g16, 10, none⟩ = some (.int .u64 n) := HX130.out.cell 10
  have l155 : g16 < U123.heap.size := HX130.out.lt
  go_wp2_with fail
  clear c144 c145 c146 c147 c148 c149 c150 c151 c152 c153 c154 l155
  refine ((HREF.out _ HY133.out).1 HY135.out).mono ?_
  rintro e w156 ⟨By, ky, Ry, rfl, hly, hoy, hb157⟩
  have HLy := Lib.hid hly
  obtain ⟨My, hMy⟩ : ∃ N, Ry.length = N := ⟨_, rfl⟩
  rw [hMy]
  have HMy := Lib.hid hMy
  have HSy := Lib.hid (ls_of (Rs := Ry) (T := 100000) hly HSX.out)
  have HOXy := Lib.hid hoy
  clear hly hoy hMy
  have HF158 := Lib.hid (bext HF128.out hb157)
  have HX159 := Lib.hid (HX129.out.below hb157 HX129.out.lt)
  have HX160 := Lib.hid (HX130.out.below hb157 HX130.out.lt)
  have HX161 := Lib.hid (HX131.out.below hb157 HX131.out.lt)
  have HX162 := Lib.hid (HX132.out.below hb157 HX132.out.lt)
  have HX163 := Lib.hid (HX143.out.below hb157 HX143.out.lt)
  have HY164 := Lib.hid (RunsAt.below HY133.out hb157)
  have HY165 := Lib.hid (RunsAt.below HY134.out hb157)
  have HY166 := Lib.hid (HY135.out.below hb157)
  have HY167 := Lib.hid (HY136.out.below hb157)
  have HY168 := Lib.hid (RunsAt.below HY137.out hb157)
  have HY169 := Lib.hid (RunsAt.below HY138.out hb157)
  have HY170 := Lib.hid (bext HY139.out hb157)
  have HY171 := Lib.hid (OwnRs.below HY140.out hb157)
  have HY172 := Lib.hid (bext HY141.out hb157)
  clear HF128 HX129 HX130 HX131 HX132 HX143 HY133 HY134 HY135 HY136 HY137 HY138 HY139 HY140 HY141
  clear hb157
  have HY173 := Lib.hid (HOXy.out.runsAt)
  clear HOXy
  go_upto_region 6 with fail
  obtain ⟨U174, h176⟩ : ∃ U, w156.alloc (.cells #[.int .u8 cx.tag, .int .i64 cx.most, .int .i64 cx.seg, .int .i64 cx.least, .int .i64 cx.den, .int .i64 cx.leafLow, .int .i64 cx.rootLow, .int .i64 cx.rootHigh, .int .i64 cx.leafHigh, .slice By My ky, .int .u64 Nx] 29) = U := ⟨_, rfl⟩
  have ba177 : Below w156.heap.size w156 U174 := by rw [← h176]; exact (Below.refl _ _).alloc (Nat.le_refl _) _
  have bn178 : Blk U174 w156.heap.size 29 #[.int .u8 cx.tag, .int .i64 cx.most, .int .i64 cx.seg, .int .i64 cx.least, .int .i64 cx.den, .int .i64 cx.leafLow, .int .i64 cx.rootLow, .int .i64 cx.rootHigh, .int .i64 cx.leafHigh, .slice By My ky, .int .u64 Nx] := by rw [← h176]; exact Blk.new _ _ _
  try rw [h176]
  have HF179 := Lib.hid (bext HF158.out ba177)
  have HX180 := Lib.hid (HX159.out.below ba177 HX159.out.lt)
  have HX181 := Lib.hid (HX160.out.below ba177 HX160.out.lt)
  have HX182 := Lib.hid (HX161.out.below ba177 HX161.out.lt)
  have HX183 := Lib.hid (HX162.out.below ba177 HX162.out.lt)
  have HX184 := Lib.hid (HX163.out.below ba177 HX163.out.lt)
  have HY185 := Lib.hid (RunsAt.below HY164.out ba177)
  have HY186 := Lib.hid (RunsAt.below HY165.out ba177)
  have HY187 := Lib.hid (HY166.out.below ba177)
  have HY188 := Lib.hid (HY167.out.below ba177)
  have HY189 := Lib.hid (RunsAt.below HY168.out ba177)
  have HY190 := Lib.hid (RunsAt.below HY169.out ba177)
  have HY191 := Lib.hid (bext HY170.out ba177)
  have HY192 := Lib.hid (OwnRs.below HY171.out ba177)
  have HY193 := Lib.hid (bext HY172.out ba177)
  have HY194 := Lib.hid (RunsAt.below HY173.out ba177)
  clear HF158 HX159 HX160 HX161 HX162 HX163 HY164 HY165 HY166 HY167 HY168 HY169 HY170 HY171 HY172 HY173
  obtain ⟨g175, h195⟩ : ∃ g, w156.heap.size = g := ⟨_, rfl⟩
  rw [h195] at bn178
  try rw [h195]
  have HX196 := Lib.hid bn178
  clear h176 ba177 bn178 h195
  have HAxz := Lib.hid HY193.out.size
  have HUz := Lib.hid HY191.out.size
  have c197 : U174.cell? ⟨g7, 0, none⟩ = some (.int .u8 c.tag) := HX182.out.cell 0
  have c198 : U174.cell? ⟨g7, 1, none⟩ = some (.int .i64 c.most) := HX182.out.cell 1
  have c199 : U174.cell? ⟨g7, 2, none⟩ = some (.int .i64 c.seg) := HX182.out.cell 2
  have c200 : U174.cell? ⟨g7, 3, none⟩ = some (.int .i64 c.least) := HX182.out.cell 3
  have c201 : U174.cell? ⟨g7, 4, none⟩ = some (.int .i64 c.den) := HX182.out.cell 4
  have c202 : U174.cell? ⟨g7, 5, none⟩ = some (.int .i64 c.leafLow) := HX182.out.cell 5
  have c203 : U174.cell? ⟨g7, 6, none⟩ = some (.int .i64 c.rootLow) := HX182.out.cell 6
  have c204 : U174.cell? ⟨g7, 7, none⟩ = some (.int .i64 c.rootHigh) := HX182.out.cell 7
  have c205 : U174.cell? ⟨g7, 8, none⟩ = some (.int .i64 c.leafHigh) := HX182.out.cell 8
  have c206 : U174.cell? ⟨g7, 9, none⟩ = some (.slice B2 Rs.length k2) := HX182.out.cell 9
  have c207 : U174.cell? ⟨g7, 10, none⟩ = some (.int .u64 n) := HX182.out.cell 10
  have l208 : g7 < U174.heap.size := HX182.out.lt
  have c209 : U174.cell? ⟨g8, 0, none⟩ = some (.int .u8 d.tag) := HX183.out.cell 0
  have c210 : U174.cell? ⟨g8, 1, none⟩ = some (.int .i64 d.most) := HX183.out.cell 1
  have c211 : U174.cell? ⟨g8, 2, none⟩ = some (.int .i64 d.seg) := HX183.out.cell 2
  have c212 : U174.cell? ⟨g8, 3, none⟩ = some (.int .i64 d.least) := HX183.out.cell 3
  have c213 : U174.cell? ⟨g8, 4, none⟩ = some (.int .i64 d.den) := HX183.out.cell 4
  have c214 : U174.cell? ⟨g8, 5, none⟩ = some (.int .i64 d.leafLow) := HX183.out.cell 5
  have c215 : U174.cell? ⟨g8, 6, none⟩ = some (.int .i64 d.rootLow) := HX183.out.cell 6
  have c216 : U174.cell? ⟨g8, 7, none⟩ = some (.int .i64 d.rootHigh) := HX183.out.cell 7
  have c217 : U174.cell? ⟨g8, 8, none⟩ = some (.int .i64 d.leafHigh) := HX183.out.cell 8
  have c218 : U174.cell? ⟨g8, 9, none⟩ = some (.slice D2 Ts.length q2) := HX183.out.cell 9
  have c219 : U174.cell? ⟨g8, 10, none⟩ = some (.int .u64 m) := HX183.out.cell 10
  have l220 : g8 < U174.heap.size := HX183.out.lt
  go_wp2_with fail
  clear c197 c198 c199 c200 c201 c202 c203 c204 c205 c206 c207 l208 c209 c210 c211 c212 c213 c214 c215 c216 c217 c218 c219 l220
  refine ((HC2.out _ HY189.out).2.1 HY190.out).mono ?_
  rintro e w221 ⟨Bz, kz, Rz, rfl, hlz, hoz, hb222⟩
  have HLz := Lib.hid hlz
  obtain ⟨Mz, hMz⟩ : ∃ N, Rz.length = N := ⟨_, rfl⟩
  rw [hMz]
  have HMz := Lib.hid hMz
  have HSz := Lib.hid (ls_of (Rs := Rz) (T := 100000) hlz HSZ.out)
  have HOXz := Lib.hid hoz
  clear hlz hoz hMz
  have HF223 := Lib.hid (bext HF179.out hb222)
  have HX224 := Lib.hid (HX180.out.below hb222 HX180.out.lt)
  have HX225 := Lib.hid (HX181.out.below hb222 HX181.out.lt)
  have HX226 := Lib.hid (HX182.out.below hb222 HX182.out.lt)
  have HX227 := Lib.hid (HX183.out.below hb222 HX183.out.lt)
  have HX228 := Lib.hid (HX184.out.below hb222 HX184.out.lt)
  have HX229 := Lib.hid (HX196.out.below hb222 HX196.out.lt)
  have HY230 := Lib.hid (RunsAt.below HY185.out hb222)
  have HY231 := Lib.hid (RunsAt.below HY186.out hb222)
  have HY232 := Lib.hid (HY187.out.below hb222)
  have HY233 := Lib.hid (HY188.out.below hb222)
  have HY234 := Lib.hid (RunsAt.below HY189.out hb222)
  have HY235 := Lib.hid (RunsAt.below HY190.out hb222)
  have HY236 := Lib.hid (bext HY191.out hb222)
  have HY237 := Lib.hid (OwnRs.below HY192.out hb222)
  have HY238 := Lib.hid (bext HY193.out hb222)
  have HY239 := Lib.hid (RunsAt.below HY194.out hb222)
  clear HF179 HX180 HX181 HX182 HX183 HX184 HX196 HY185 HY186 HY187 HY188 HY189 HY190 HY191 HY192 HY193 HY194
  clear hb222
  have HY240 := Lib.hid (HOXz.out)
  have HY241 := Lib.hid ((Below.refl w221.heap.size w221))
  have hgx := HY238.out.size
  have hgz := HY241.out.size
  go_upto_region 7 with fail
  obtain ⟨U242, h244⟩ : ∃ U, w221.alloc (.cells #[.int .u8 cz2.tag, .int .i64 cz2.most, .int .i64 cz2.seg, .int .i64 cz2.least, .int .i64 cz2.den, .int .i64 cz2.leafLow, .int .i64 cz2.rootLow, .int .i64 cz2.rootHigh, .int .i64 cz2.leafHigh, .slice Bz Mz kz, .int .u64 Nz] 29) = U := ⟨_, rfl⟩
  have ba245 : Below w221.heap.size w221 U242 := by rw [← h244]; exact (Below.refl _ _).alloc (Nat.le_refl _) _
  have bn246 : Blk U242 w221.heap.size 29 #[.int .u8 cz2.tag, .int .i64 cz2.most, .int .i64 cz2.seg, .int .i64 cz2.least, .int .i64 cz2.den, .int .i64 cz2.leafLow, .int .i64 cz2.rootLow, .int .i64 cz2.rootHigh, .int .i64 cz2.leafHigh, .slice Bz Mz kz, .int .u64 Nz] := by rw [← h244]; exact Blk.new _ _ _
  try rw [h244]
  have HF247 := Lib.hid (bext HF223.out ba245)
  have HX248 := Lib.hid (HX224.out.below ba245 HX224.out.lt)
  have HX249 := Lib.hid (HX225.out.below ba245 HX225.out.lt)
  have HX250 := Lib.hid (HX226.out.below ba245 HX226.out.lt)
  have HX251 := Lib.hid (HX227.out.below ba245 HX227.out.lt)
  have HX252 := Lib.hid (HX228.out.below ba245 HX228.out.lt)
  have HX253 := Lib.hid (HX229.out.below ba245 HX229.out.lt)
  have HY254 := Lib.hid (RunsAt.below HY230.out ba245)
  have HY255 := Lib.hid (RunsAt.below HY231.out ba245)
  have HY256 := Lib.hid (HY232.out.below ba245)
  have HY257 := Lib.hid (HY233.out.below ba245)
  have HY258 := Lib.hid (RunsAt.below HY234.out ba245)
  have HY259 := Lib.hid (RunsAt.below HY235.out ba245)
  have HY260 := Lib.hid (bext HY236.out ba245)
  have HY261 := Lib.hid (OwnRs.below HY237.out ba245)
  have HY262 := Lib.hid (bext HY238.out ba245)
  have HY263 := Lib.hid (RunsAt.below HY239.out ba245)
  have HY264 := Lib.hid (OwnRs.below HY240.out ba245)
  have HY265 := Lib.hid (bext HY241.out ba245)
  clear HF223 HX224 HX225 HX226 HX227 HX228 HX229 HY230 HY231 HY232 HY233 HY234 HY235 HY236 HY237 HY238 HY239 HY240 HY241
  obtain ⟨g243, h266⟩ : ∃ g, w221.heap.size = g := ⟨_, rfl⟩
  rw [h266] at bn246
  try rw [h266]
  have HX267 := Lib.hid bn246
  have HGxz := Lib.hid (show w107.heap.size ≤ g243 by rw [← h266]; exact hgx)
  clear hgx
  have HGzz := Lib.hid (show w221.heap.size ≤ g243 by rw [← h266]; exact hgz)
  clear hgz
  clear h244 ba245 bn246 h266
  have c268 : U242.cell? ⟨g16, 0, none⟩ = some (.int .u8 c.tag) := HX249.out.cell 0
  have c269 : U242.cell? ⟨g16, 1, none⟩ = some (.int .i64 c.most) := HX249.out.cell 1
  have c270 : U242.cell? ⟨g16, 2, none⟩ = some (.int .i64 c.seg) := HX249.out.cell 2
  have c271 : U242.cell? ⟨g16, 3, none⟩ = some (.int .i64 c.least) := HX249.out.cell 3
  have c272 : U242.cell? ⟨g16, 4, none⟩ = some (.int .i64 c.den) := HX249.out.cell 4
  have c273 : U242.cell? ⟨g16, 5, none⟩ = some (.int .i64 c.leafLow) := HX249.out.cell 5
  have c274 : U242.cell? ⟨g16, 6, none⟩ = some (.int .i64 c.rootLow) := HX249.out.cell 6
  have c275 : U242.cell? ⟨g16, 7, none⟩ = some (.int .i64 c.rootHigh) := HX249.out.cell 7
  have c276 : U242.cell? ⟨g16, 8, none⟩ = some (.int .i64 c.leafHigh) := HX249.out.cell 8
  have c277 : U242.cell? ⟨g16, 9, none⟩ = some (.slice B Rs.length k) := HX249.out.cell 9
  have c278 : U242.cell? ⟨g16, 10, none⟩ = some (.int .u64 n) := HX249.out.cell 10
  have l279 : g16 < U242.heap.size := HX249.out.lt
  have c280 : U242.cell? ⟨g13, 0, none⟩ = some (.int .u8 d.tag) := HX248.out.cell 0
  have c281 : U242.cell? ⟨g13, 1, none⟩ = some (.int .i64 d.most) := HX248.out.cell 1
  have c282 : U242.cell? ⟨g13, 2, none⟩ = some (.int .i64 d.seg) := HX248.out.cell 2
  have c283 : U242.cell? ⟨g13, 3, none⟩ = some (.int .i64 d.least) := HX248.out.cell 3
  have c284 : U242.cell? ⟨g13, 4, none⟩ = some (.int .i64 d.den) := HX248.out.cell 4
  have c285 : U242.cell? ⟨g13, 5, none⟩ = some (.int .i64 d.leafLow) := HX248.out.cell 5
  have c286 : U242.cell? ⟨g13, 6, none⟩ = some (.int .i64 d.rootLow) := HX248.out.cell 6
  have c287 : U242.cell? ⟨g13, 7, none⟩ = some (.int .i64 d.rootHigh) := HX248.out.cell 7
  have c288 : U242.cell? ⟨g13, 8, none⟩ = some (.int .i64 d.leafHigh) := HX248.out.cell 8
  have c289 : U242.cell? ⟨g13, 9, none⟩ = some (.slice D Ts.length q) := HX248.out.cell 9
  have c290 : U242.cell? ⟨g13, 10, none⟩ = some (.int .u64 m) := HX248.out.cell 10
  have l291 : g13 < U242.heap.size := HX248.out.lt
  go_wp2_with fail
  clear c268 c269 c270 c271 c272 c273 c274 c275 c276 c277 c278 l279 c280 c281 c282 c283 c284 c285 c286 c287 c288 c289 c290 l291
  refine ((HREF.out _ HY254.out).2.1 HY255.out).mono ?_
  rintro e w292 ⟨Bv, kv, Rv, rfl, hlv, hov, hb293⟩
  have HLv := Lib.hid hlv
  obtain ⟨Mv, hMv⟩ : ∃ N, Rv.length = N := ⟨_, rfl⟩
  rw [hMv]
  have HMv := Lib.hid hMv
  have HSv := Lib.hid (ls_of (Rs := Rv) (T := 100000) hlv HSZ.out)
  have HOXv := Lib.hid hov
  clear hlv hov hMv
  have HF294 := Lib.hid (bext HF247.out hb293)
  have HX295 := Lib.hid (HX248.out.below hb293 HX248.out.lt)
  have HX296 := Lib.hid (HX249.out.below hb293 HX249.out.lt)
  have HX297 := Lib.hid (HX250.out.below hb293 HX250.out.lt)
  have HX298 := Lib.hid (HX251.out.below hb293 HX251.out.lt)
  have HX299 := Lib.hid (HX252.out.below hb293 HX252.out.lt)
  have HX300 := Lib.hid (HX253.out.below hb293 HX253.out.lt)
  have HX301 := Lib.hid (HX267.out.below hb293 HX267.out.lt)
  have HY302 := Lib.hid (RunsAt.below HY254.out hb293)
  have HY303 := Lib.hid (RunsAt.below HY255.out hb293)
  have HY304 := Lib.hid (HY256.out.below hb293)
  have HY305 := Lib.hid (HY257.out.below hb293)
  have HY306 := Lib.hid (RunsAt.below HY258.out hb293)
  have HY307 := Lib.hid (RunsAt.below HY259.out hb293)
  have HY308 := Lib.hid (bext HY260.out hb293)
  have HY309 := Lib.hid (OwnRs.below HY261.out hb293)
  have HY310 := Lib.hid (bext HY262.out hb293)
  have HY311 := Lib.hid (RunsAt.below HY263.out hb293)
  have HY312 := Lib.hid (OwnRs.below HY264.out hb293)
  have HY313 := Lib.hid (bext HY265.out hb293)
  clear HF247 HX248 HX249 HX250 HX251 HX252 HX253 HX267 HY254 HY255 HY256 HY257 HY258 HY259 HY260 HY261 HY262 HY263 HY264 HY265
  clear hb293
  have HY314 := Lib.hid (HOXv.out.runsAt)
  clear HOXv
  go_upto_region 8 with fail
  obtain ⟨U315, h317⟩ : ∃ U, w292.alloc (.cells #[.int .u8 cz2.tag, .int .i64 cz2.most, .int .i64 cz2.seg, .int .i64 cz2.least, .int .i64 cz2.den, .int .i64 cz2.leafLow, .int .i64 cz2.rootLow, .int .i64 cz2.rootHigh, .int .i64 cz2.leafHigh, .slice Bv Mv kv, .int .u64 Nz] 29) = U := ⟨_, rfl⟩
  have ba318 : Below w292.heap.size w292 U315 := by rw [← h317]; exact (Below.refl _ _).alloc (Nat.le_refl _) _
  have bn319 : Blk U315 w292.heap.size 29 #[.int .u8 cz2.tag, .int .i64 cz2.most, .int .i64 cz2.seg, .int .i64 cz2.least, .int .i64 cz2.den, .int .i64 cz2.leafLow, .int .i64 cz2.rootLow, .int .i64 cz2.rootHigh, .int .i64 cz2.leafHigh, .slice Bv Mv kv, .int .u64 Nz] := by rw [← h317]; exact Blk.new _ _ _
  try rw [h317]
  have HF320 := Lib.hid (bext HF294.out ba318)
  have HX321 := Lib.hid (HX295.out.below ba318 HX295.out.lt)
  have HX322 := Lib.hid (HX296.out.below ba318 HX296.out.lt)
  have HX323 := Lib.hid (HX297.out.below ba318 HX297.out.lt)
  have HX324 := Lib.hid (HX298.out.below ba318 HX298.out.lt)
  have HX325 := Lib.hid (HX299.out.below ba318 HX299.out.lt)
  have HX326 := Lib.hid (HX300.out.below ba318 HX300.out.lt)
  have HX327 := Lib.hid (HX301.out.below ba318 HX301.out.lt)
  have HY328 := Lib.hid (RunsAt.below HY302.out ba318)
  have HY329 := Lib.hid (RunsAt.below HY303.out ba318)
  have HY330 := Lib.hid (HY304.out.below ba318)
  have HY331 := Lib.hid (HY305.out.below ba318)
  have HY332 := Lib.hid (RunsAt.below HY306.out ba318)
  have HY333 := Lib.hid (RunsAt.below HY307.out ba318)
  have HY334 := Lib.hid (bext HY308.out ba318)
  have HY335 := Lib.hid (OwnRs.below HY309.out ba318)
  have HY336 := Lib.hid (bext HY310.out ba318)
  have HY337 := Lib.hid (RunsAt.below HY311.out ba318)
  have HY338 := Lib.hid (OwnRs.below HY312.out ba318)
  have HY339 := Lib.hid (bext HY313.out ba318)
  have HY340 := Lib.hid (RunsAt.below HY314.out ba318)
  clear HF294 HX295 HX296 HX297 HX298 HX299 HX300 HX301 HY302 HY303 HY304 HY305 HY306 HY307 HY308 HY309 HY310 HY311 HY312 HY313 HY314
  obtain ⟨g316, h341⟩ : ∃ g, w292.heap.size = g := ⟨_, rfl⟩
  rw [h341] at bn319
  try rw [h341]
  have HX342 := Lib.hid bn319
  clear h317 ba318 bn319 h341
  have HAxa := Lib.hid HY336.out.size
  have HAza := Lib.hid HY339.out.size
  have HUa := Lib.hid HY334.out.size
  have c343 : U315.cell? ⟨g7, 0, none⟩ = some (.int .u8 c.tag) := HX323.out.cell 0
  have c344 : U315.cell? ⟨g7, 1, none⟩ = some (.int .i64 c.most) := HX323.out.cell 1
  have c345 : U315.cell? ⟨g7, 2, none⟩ = some (.int .i64 c.seg) := HX323.out.cell 2
  have c346 : U315.cell? ⟨g7, 3, none⟩ = some (.int .i64 c.least) := HX323.out.cell 3
  have c347 : U315.cell? ⟨g7, 4, none⟩ = some (.int .i64 c.den) := HX323.out.cell 4
  have c348 : U315.cell? ⟨g7, 5, none⟩ = some (.int .i64 c.leafLow) := HX323.out.cell 5
  have c349 : U315.cell? ⟨g7, 6, none⟩ = some (.int .i64 c.rootLow) := HX323.out.cell 6
  have c350 : U315.cell? ⟨g7, 7, none⟩ = some (.int .i64 c.rootHigh) := HX323.out.cell 7
  have c351 : U315.cell? ⟨g7, 8, none⟩ = some (.int .i64 c.leafHigh) := HX323.out.cell 8
  have c352 : U315.cell? ⟨g7, 9, none⟩ = some (.slice B2 Rs.length k2) := HX323.out.cell 9
  have c353 : U315.cell? ⟨g7, 10, none⟩ = some (.int .u64 n) := HX323.out.cell 10
  have l354 : g7 < U315.heap.size := HX323.out.lt
  go_wp2_with fail
  clear c343 c344 c345 c346 c347 c348 c349 c350 c351 c352 c353 l354
  refine ((HC2.out _ HY332.out).2.2).mono ?_
  rintro e w355 ⟨Ba, ka, Ra, rfl, hla, hoa, hb356⟩
  have HLa := Lib.hid hla
  obtain ⟨Ma, hMa⟩ : ∃ N, Ra.length = N := ⟨_, rfl⟩
  rw [hMa]
  have HMa := Lib.hid hMa
  have HSa := Lib.hid (ls_of (Rs := Ra) (T := 100000) hla HSA.out)
  have HOXa := Lib.hid hoa
  clear hla hoa hMa
  have HF357 := Lib.hid (bext HF320.out hb356)
  have HX358 := Lib.hid (HX321.out.below hb356 HX321.out.lt)
  have HX359 := Lib.hid (HX322.out.below hb356 HX322.out.lt)
  have HX360 := Lib.hid (HX323.out.below hb356 HX323.out.lt)
  have HX361 := Lib.hid (HX324.out.below hb356 HX324.out.lt)
  have HX362 := Lib.hid (HX325.out.below hb356 HX325.out.lt)
  have HX363 := Lib.hid (HX326.out.below hb356 HX326.out.lt)
  have HX364 := Lib.hid (HX327.out.below hb356 HX327.out.lt)
  have HX365 := Lib.hid (HX342.out.below hb356 HX342.out.lt)
  have HY366 := Lib.hid (RunsAt.below HY328.out hb356)
  have HY367 := Lib.hid (RunsAt.below HY329.out hb356)
  have HY368 := Lib.hid (HY330.out.below hb356)
  have HY369 := Lib.hid (HY331.out.below hb356)
  have HY370 := Lib.hid (RunsAt.below HY332.out hb356)
  have HY371 := Lib.hid (RunsAt.below HY333.out hb356)
  have HY372 := Lib.hid (bext HY334.out hb356)
  have HY373 := Lib.hid (OwnRs.below HY335.out hb356)
  have HY374 := Lib.hid (bext HY336.out hb356)
  have HY375 := Lib.hid (RunsAt.below HY337.out hb356)
  have HY376 := Lib.hid (OwnRs.below HY338.out hb356)
  have HY377 := Lib.hid (bext HY339.out hb356)
  have HY378 := Lib.hid (RunsAt.below HY340.out hb356)
  clear HF320 HX321 HX322 HX323 HX324 HX325 HX326 HX327 HX342 HY328 HY329 HY330 HY331 HY332 HY333 HY334 HY335 HY336 HY337 HY338 HY339 HY340
  clear hb356
  have HY379 := Lib.hid (HOXa.out)
  have HY380 := Lib.hid ((Below.refl w355.heap.size w355))
  have hgx := HY374.out.size
  have hgz := HY377.out.size
  have hga := HY380.out.size
  go_upto_region 9 with fail
  obtain ⟨U381, h383⟩ : ∃ U, w355.alloc (.cells #[.int .u8 cca.tag, .int .i64 cca.most, .int .i64 cca.seg, .int .i64 cca.least, .int .i64 cca.den, .int .i64 cca.leafLow, .int .i64 cca.rootLow, .int .i64 cca.rootHigh, .int .i64 cca.leafHigh, .slice Ba Ma ka, .int .u64 Na] 29) = U := ⟨_, rfl⟩
  have ba384 : Below w355.heap.size w355 U381 := by rw [← h383]; exact (Below.refl _ _).alloc (Nat.le_refl _) _
  have bn385 : Blk U381 w355.heap.size 29 #[.int .u8 cca.tag, .int .i64 cca.most, .int .i64 cca.seg, .int .i64 cca.least, .int .i64 cca.den, .int .i64 cca.leafLow, .int .i64 cca.rootLow, .int .i64 cca.rootHigh, .int .i64 cca.leafHigh, .slice Ba Ma ka, .int .u64 Na] := by rw [← h383]; exact Blk.new _ _ _
  try rw [h383]
  have HF386 := Lib.hid (bext HF357.out ba384)
  have HX387 := Lib.hid (HX358.out.below ba384 HX358.out.lt)
  have HX388 := Lib.hid (HX359.out.below ba384 HX359.out.lt)
  have HX389 := Lib.hid (HX360.out.below ba384 HX360.out.lt)
  have HX390 := Lib.hid (HX361.out.below ba384 HX361.out.lt)
  have HX391 := Lib.hid (HX362.out.below ba384 HX362.out.lt)
  have HX392 := Lib.hid (HX363.out.below ba384 HX363.out.lt)
  have HX393 := Lib.hid (HX364.out.below ba384 HX364.out.lt)
  have HX394 := Lib.hid (HX365.out.below ba384 HX365.out.lt)
  have HY395 := Lib.hid (RunsAt.below HY366.out ba384)
  have HY396 := Lib.hid (RunsAt.below HY367.out ba384)
  have HY397 := Lib.hid (HY368.out.below ba384)
  have HY398 := Lib.hid (HY369.out.below ba384)
  have HY399 := Lib.hid (RunsAt.below HY370.out ba384)
  have HY400 := Lib.hid (RunsAt.below HY371.out ba384)
  have HY401 := Lib.hid (bext HY372.out ba384)
  have HY402 := Lib.hid (OwnRs.below HY373.out ba384)
  have HY403 := Lib.hid (bext HY374.out ba384)
  have HY404 := Lib.hid (RunsAt.below HY375.out ba384)
  have HY405 := Lib.hid (OwnRs.below HY376.out ba384)
  have HY406 := Lib.hid (bext HY377.out ba384)
  have HY407 := Lib.hid (RunsAt.below HY378.out ba384)
  have HY408 := Lib.hid (OwnRs.below HY379.out ba384)
  have HY409 := Lib.hid (bext HY380.out ba384)
  clear HF357 HX358 HX359 HX360 HX361 HX362 HX363 HX364 HX365 HY366 HY367 HY368 HY369 HY370 HY371 HY372 HY373 HY374 HY375 HY376 HY377 HY378 HY379 HY380
  obtain ⟨g382, h410⟩ : ∃ g, w355.heap.size = g := ⟨_, rfl⟩
  rw [h410] at bn385
  try rw [h410]
  have HX411 := Lib.hid bn385
  have HGxa := Lib.hid (show w107.heap.size ≤ g382 by rw [← h410]; exact hgx)
  clear hgx
  have HGza := Lib.hid (show w221.heap.size ≤ g382 by rw [← h410]; exact hgz)
  clear hgz
  have HGaa := Lib.hid (show w355.heap.size ≤ g382 by rw [← h410]; exact hga)
  clear hga
  clear h383 ba384 bn385 h410
  have c412 : U381.cell? ⟨g16, 0, none⟩ = some (.int .u8 c.tag) := HX388.out.cell 0
  have c413 : U381.cell? ⟨g16, 1, none⟩ = some (.int .i64 c.most) := HX388.out.cell 1
  have c414 : U381.cell? ⟨g16, 2, none⟩ = some (.int .i64 c.seg) := HX388.out.cell 2
  have c415 : U381.cell? ⟨g16, 3, none⟩ = some (.int .i64 c.least) := HX388.out.cell 3
  have c416 : U381.cell? ⟨g16, 4, none⟩ = some (.int .i64 c.den) := HX388.out.cell 4
  have c417 : U381.cell? ⟨g16, 5, none⟩ = some (.int .i64 c.leafLow) := HX388.out.cell 5
  have c418 : U381.cell? ⟨g16, 6, none⟩ = some (.int .i64 c.rootLow) := HX388.out.cell 6
  have c419 : U381.cell? ⟨g16, 7, none⟩ = some (.int .i64 c.rootHigh) := HX388.out.cell 7
  have c420 : U381.cell? ⟨g16, 8, none⟩ = some (.int .i64 c.leafHigh) := HX388.out.cell 8
  have c421 : U381.cell? ⟨g16, 9, none⟩ = some (.slice B Rs.length k) := HX388.out.cell 9
  have c422 : U381.cell? ⟨g16, 10, none⟩ = some (.int .u64 n) := HX388.out.cell 10
  have l423 : g16 < U381.heap.size := HX388.out.lt
  go_wp2_with fail
  clear c412 c413 c414 c415 c416 c417 c418 c419 c420 c421 c422 l423
  refine ((HREF.out _ HY395.out).2.2).mono ?_
  rintro e w424 ⟨Bb, kb, Rb, rfl, hlb, hob, hb425⟩
  have HLb := Lib.hid hlb
  obtain ⟨Mb, hMb⟩ : ∃ N, Rb.length = N := ⟨_, rfl⟩
  rw [hMb]
  have HMb := Lib.hid hMb
  have HSb := Lib.hid (ls_of (Rs := Rb) (T := 100000) hlb HSA.out)
  have HOXb := Lib.hid hob
  clear hlb hob hMb
  have HF426 := Lib.hid (bext HF386.out hb425)
  have HX427 := Lib.hid (HX387.out.below hb425 HX387.out.lt)
  have HX428 := Lib.hid (HX388.out.below hb425 HX388.out.lt)
  have HX429 := Lib.hid (HX389.out.below hb425 HX389.out.lt)
  have HX430 := Lib.hid (HX390.out.below hb425 HX390.out.lt)
  have HX431 := Lib.hid (HX391.out.below hb425 HX391.out.lt)
  have HX432 := Lib.hid (HX392.out.below hb425 HX392.out.lt)
  have HX433 := Lib.hid (HX393.out.below hb425 HX393.out.lt)
  have HX434 := Lib.hid (HX394.out.below hb425 HX394.out.lt)
  have HX435 := Lib.hid (HX411.out.below hb425 HX411.out.lt)
  have HY436 := Lib.hid (RunsAt.below HY395.out hb425)
  have HY437 := Lib.hid (RunsAt.below HY396.out hb425)
  have HY438 := Lib.hid (HY397.out.below hb425)
  have HY439 := Lib.hid (HY398.out.below hb425)
  have HY440 := Lib.hid (RunsAt.below HY399.out hb425)
  have HY441 := Lib.hid (RunsAt.below HY400.out hb425)
  have HY442 := Lib.hid (bext HY401.out hb425)
  have HY443 := Lib.hid (OwnRs.below HY402.out hb425)
  have HY444 := Lib.hid (bext HY403.out hb425)
  have HY445 := Lib.hid (RunsAt.below HY404.out hb425)
  have HY446 := Lib.hid (OwnRs.below HY405.out hb425)
  have HY447 := Lib.hid (bext HY406.out hb425)
  have HY448 := Lib.hid (RunsAt.below HY407.out hb425)
  have HY449 := Lib.hid (OwnRs.below HY408.out hb425)
  have HY450 := Lib.hid (bext HY409.out hb425)
  clear HF386 HX387 HX388 HX389 HX390 HX391 HX392 HX393 HX394 HX411 HY395 HY396 HY397 HY398 HY399 HY400 HY401 HY402 HY403 HY404 HY405 HY406 HY407 HY408 HY409
  clear hb425
  have HY451 := Lib.hid (HOXb.out.runsAt)
  clear HOXb
  go_upto_region 10 with fail
  obtain ⟨U452, h454⟩ : ∃ U, w424.alloc (.cells #[.int .u8 cca.tag, .int .i64 cca.most, .int .i64 cca.seg, .int .i64 cca.least, .int .i64 cca.den, .int .i64 cca.leafLow, .int .i64 cca.rootLow, .int .i64 cca.rootHigh, .int .i64 cca.leafHigh, .slice Bb Mb kb, .int .u64 Na] 29) = U := ⟨_, rfl⟩
  have ba455 : Below w424.heap.size w424 U452 := by rw [← h454]; exact (Below.refl _ _).alloc (Nat.le_refl _) _
  have bn456 : Blk U452 w424.heap.size 29 #[.int .u8 cca.tag, .int .i64 cca.most, .int .i64 cca.seg, .int .i64 cca.least, .int .i64 cca.den, .int .i64 cca.leafLow, .int .i64 cca.rootLow, .int .i64 cca.rootHigh, .int .i64 cca.leafHigh, .slice Bb Mb kb, .int .u64 Na] := by rw [← h454]; exact Blk.new _ _ _
  try rw [h454]
  have HF457 := Lib.hid (bext HF426.out ba455)
  have HX458 := Lib.hid (HX427.out.below ba455 HX427.out.lt)
  have HX459 := Lib.hid (HX428.out.below ba455 HX428.out.lt)
  have HX460 := Lib.hid (HX429.out.below ba455 HX429.out.lt)
  have HX461 := Lib.hid (HX430.out.below ba455 HX430.out.lt)
  have HX462 := Lib.hid (HX431.out.below ba455 HX431.out.lt)
  have HX463 := Lib.hid (HX432.out.below ba455 HX432.out.lt)
  have HX464 := Lib.hid (HX433.out.below ba455 HX433.out.lt)
  have HX465 := Lib.hid (HX434.out.below ba455 HX434.out.lt)
  have HX466 := Lib.hid (HX435.out.below ba455 HX435.out.lt)
  have HY467 := Lib.hid (RunsAt.below HY436.out ba455)
  have HY468 := Lib.hid (RunsAt.below HY437.out ba455)
  have HY469 := Lib.hid (HY438.out.below ba455)
  have HY470 := Lib.hid (HY439.out.below ba455)
  have HY471 := Lib.hid (RunsAt.below HY440.out ba455)
  have HY472 := Lib.hid (RunsAt.below HY441.out ba455)
  have HY473 := Lib.hid (bext HY442.out ba455)
  have HY474 := Lib.hid (OwnRs.below HY443.out ba455)
  have HY475 := Lib.hid (bext HY444.out ba455)
  have HY476 := Lib.hid (RunsAt.below HY445.out ba455)
  have HY477 := Lib.hid (OwnRs.below HY446.out ba455)
  have HY478 := Lib.hid (bext HY447.out ba455)
  have HY479 := Lib.hid (RunsAt.below HY448.out ba455)
  have HY480 := Lib.hid (OwnRs.below HY449.out ba455)
  have HY481 := Lib.hid (bext HY450.out ba455)
  have HY482 := Lib.hid (RunsAt.below HY451.out ba455)
  clear HF426 HX427 HX428 HX429 HX430 HX431 HX432 HX433 HX434 HX435 HY436 HY437 HY438 HY439 HY440 HY441 HY442 HY443 HY444 HY445 HY446 HY447 HY448 HY449 HY450 HY451
  obtain ⟨g453, h483⟩ : ∃ g, w424.heap.size = g := ⟨_, rfl⟩
  rw [h483] at bn456
  try rw [h483]
  have HX484 := Lib.hid bn456
  clear h454 ba455 bn456 h483
  have c485 : U452.cell? ⟨g124, 0, none⟩ = some (.int .u8 cx.tag) := HX462.out.cell 0
  have c486 : U452.cell? ⟨g124, 1, none⟩ = some (.int .i64 cx.most) := HX462.out.cell 1
  have c487 : U452.cell? ⟨g124, 2, none⟩ = some (.int .i64 cx.seg) := HX462.out.cell 2
  have c488 : U452.cell? ⟨g124, 3, none⟩ = some (.int .i64 cx.least) := HX462.out.cell 3
  have c489 : U452.cell? ⟨g124, 4, none⟩ = some (.int .i64 cx.den) := HX462.out.cell 4
  have c490 : U452.cell? ⟨g124, 5, none⟩ = some (.int .i64 cx.leafLow) := HX462.out.cell 5
  have c491 : U452.cell? ⟨g124, 6, none⟩ = some (.int .i64 cx.rootLow) := HX462.out.cell 6
  have c492 : U452.cell? ⟨g124, 7, none⟩ = some (.int .i64 cx.rootHigh) := HX462.out.cell 7
  have c493 : U452.cell? ⟨g124, 8, none⟩ = some (.int .i64 cx.leafHigh) := HX462.out.cell 8
  have c494 : U452.cell? ⟨g124, 9, none⟩ = some (.slice Bx Mx kx) := HX462.out.cell 9
  have c495 : U452.cell? ⟨g124, 10, none⟩ = some (.int .u64 Nx) := HX462.out.cell 10
  have l496 : g124 < U452.heap.size := HX462.out.lt
  have c497 : U452.cell? ⟨g175, 0, none⟩ = some (.int .u8 cx.tag) := HX463.out.cell 0
  have c498 : U452.cell? ⟨g175, 1, none⟩ = some (.int .i64 cx.most) := HX463.out.cell 1
  have c499 : U452.cell? ⟨g175, 2, none⟩ = some (.int .i64 cx.seg) := HX463.out.cell 2
  have c500 : U452.cell? ⟨g175, 3, none⟩ = some (.int .i64 cx.least) := HX463.out.cell 3
  have c501 : U452.cell? ⟨g175, 4, none⟩ = some (.int .i64 cx.den) := HX463.out.cell 4
  have c502 : U452.cell? ⟨g175, 5, none⟩ = some (.int .i64 cx.leafLow) := HX463.out.cell 5
  have c503 : U452.cell? ⟨g175, 6, none⟩ = some (.int .i64 cx.rootLow) := HX463.out.cell 6
  have c504 : U452.cell? ⟨g175, 7, none⟩ = some (.int .i64 cx.rootHigh) := HX463.out.cell 7
  have c505 : U452.cell? ⟨g175, 8, none⟩ = some (.int .i64 cx.leafHigh) := HX463.out.cell 8
  have c506 : U452.cell? ⟨g175, 9, none⟩ = some (.slice By My ky) := HX463.out.cell 9
  have c507 : U452.cell? ⟨g175, 10, none⟩ = some (.int .u64 Nx) := HX463.out.cell 10
  have l508 : g175 < U452.heap.size := HX463.out.lt
  go_wp2_with fail
  clear c485 c486 c487 c488 c489 c490 c491 c492 c493 c494 c495 l496 c497 c498 c499 c500 c501 c502 c503 c504 c505 c506 c507 l508
  have hsm := same27_any cx cx Bx By Rx Ry Mx My kx ky Nx Nx _ HMx.out HMy.out HY474.out.runsAt HY476.out HSx.out.1 HSx.out.2 HSy.out.2
  rw [HLx.out, HLy.out, sameB_self] at hsm
  have HSMx := Lib.hid hsm
  clear hsm
  refine (HSMx.out).mono ?_
  rintro e w509 ⟨rfl, hb510⟩
  have HF511 := Lib.hid (bext HF457.out hb510)
  have HX512 := Lib.hid (HX458.out.below hb510 HX458.out.lt)
  have HX513 := Lib.hid (HX459.out.below hb510 HX459.out.lt)
  have HX514 := Lib.hid (HX460.out.below hb510 HX460.out.lt)
  have HX515 := Lib.hid (HX461.out.below hb510 HX461.out.lt)
  have HX516 := Lib.hid (HX462.out.below hb510 HX462.out.lt)
  have HX517 := Lib.hid (HX463.out.below hb510 HX463.out.lt)
  have HX518 := Lib.hid (HX464.out.below hb510 HX464.out.lt)
  have HX519 := Lib.hid (HX465.out.below hb510 HX465.out.lt)
  have HX520 := Lib.hid (HX466.out.below hb510 HX466.out.lt)
  have HX521 := Lib.hid (HX484.out.below hb510 HX484.out.lt)
  have HY522 := Lib.hid (RunsAt.below HY467.out hb510)
  have HY523 := Lib.hid (RunsAt.below HY468.out hb510)
  have HY524 := Lib.hid (HY469.out.below hb510)
  have HY525 := Lib.hid (HY470.out.below hb510)
  have HY526 := Lib.hid (RunsAt.below HY471.out hb510)
  have HY527 := Lib.hid (RunsAt.below HY472.out hb510)
  have HY528 := Lib.hid (bext HY473.out hb510)
  have HY529 := Lib.hid (OwnRs.below HY474.out hb510)
  have HY530 := Lib.hid (bext HY475.out hb510)
  have HY531 := Lib.hid (RunsAt.below HY476.out hb510)
  have HY532 := Lib.hid (OwnRs.below HY477.out hb510)
  have HY533 := Lib.hid (bext HY478.out hb510)
  have HY534 := Lib.hid (RunsAt.below HY479.out hb510)
  have HY535 := Lib.hid (OwnRs.below HY480.out hb510)
  have HY536 := Lib.hid (bext HY481.out hb510)
  have HY537 := Lib.hid (RunsAt.below HY482.out hb510)
  clear HF457 HX458 HX459 HX460 HX461 HX462 HX463 HX464 HX465 HX466 HX484 HY467 HY468 HY469 HY470 HY471 HY472 HY473 HY474 HY475 HY476 HY477 HY478 HY479 HY480 HY481 HY482
  clear hb510
  clear HSMx
  have c538 : w509.cell? ⟨g243, 0, none⟩ = some (.int .u8 cz2.tag) := HX518.out.cell 0
  have c539 : w509.cell? ⟨g243, 1, none⟩ = some (.int .i64 cz2.most) := HX518.out.cell 1
  have c540 : w509.cell? ⟨g243, 2, none⟩ = some (.int .i64 cz2.seg) := HX518.out.cell 2
  have c541 : w509.cell? ⟨g243, 3, none⟩ = some (.int .i64 cz2.least) := HX518.out.cell 3
  have c542 : w509.cell? ⟨g243, 4, none⟩ = some (.int .i64 cz2.den) := HX518.out.cell 4
  have c543 : w509.cell? ⟨g243, 5, none⟩ = some (.int .i64 cz2.leafLow) := HX518.out.cell 5
  have c544 : w509.cell? ⟨g243, 6, none⟩ = some (.int .i64 cz2.rootLow) := HX518.out.cell 6
  have c545 : w509.cell? ⟨g243, 7, none⟩ = some (.int .i64 cz2.rootHigh) := HX518.out.cell 7
  have c546 : w509.cell? ⟨g243, 8, none⟩ = some (.int .i64 cz2.leafHigh) := HX518.out.cell 8
  have c547 : w509.cell? ⟨g243, 9, none⟩ = some (.slice Bz Mz kz) := HX518.out.cell 9
  have c548 : w509.cell? ⟨g243, 10, none⟩ = some (.int .u64 Nz) := HX518.out.cell 10
  have l549 : g243 < w509.heap.size := HX518.out.lt
  have c550 : w509.cell? ⟨g316, 0, none⟩ = some (.int .u8 cz2.tag) := HX519.out.cell 0
  have c551 : w509.cell? ⟨g316, 1, none⟩ = some (.int .i64 cz2.most) := HX519.out.cell 1
  have c552 : w509.cell? ⟨g316, 2, none⟩ = some (.int .i64 cz2.seg) := HX519.out.cell 2
  have c553 : w509.cell? ⟨g316, 3, none⟩ = some (.int .i64 cz2.least) := HX519.out.cell 3
  have c554 : w509.cell? ⟨g316, 4, none⟩ = some (.int .i64 cz2.den) := HX519.out.cell 4
  have c555 : w509.cell? ⟨g316, 5, none⟩ = some (.int .i64 cz2.leafLow) := HX519.out.cell 5
  have c556 : w509.cell? ⟨g316, 6, none⟩ = some (.int .i64 cz2.rootLow) := HX519.out.cell 6
  have c557 : w509.cell? ⟨g316, 7, none⟩ = some (.int .i64 cz2.rootHigh) := HX519.out.cell 7
  have c558 : w509.cell? ⟨g316, 8, none⟩ = some (.int .i64 cz2.leafHigh) := HX519.out.cell 8
  have c559 : w509.cell? ⟨g316, 9, none⟩ = some (.slice Bv Mv kv) := HX519.out.cell 9
  have c560 : w509.cell? ⟨g316, 10, none⟩ = some (.int .u64 Nz) := HX519.out.cell 10
  have l561 : g316 < w509.heap.size := HX519.out.lt
  go_wp2_with fail
  clear c538 c539 c540 c541 c542 c543 c544 c545 c546 c547 c548 l549 c550 c551 c552 c553 c554 c555 c556 c557 c558 c559 c560 l561
  have hsm := same27_any cz2 cz2 Bz Bv Rz Rv Mz Mv kz kv Nz Nz _ HMz.out HMv.out HY532.out.runsAt HY534.out HSz.out.1 HSz.out.2 HSv.out.2
  rw [HLz.out, HLv.out, sameB_self] at hsm
  have HSMz := Lib.hid hsm
  clear hsm
  refine (HSMz.out).mono ?_
  rintro e w562 ⟨rfl, hb563⟩
  have HF564 := Lib.hid (bext HF511.out hb563)
  have HX565 := Lib.hid (HX512.out.below hb563 HX512.out.lt)
  have HX566 := Lib.hid (HX513.out.below hb563 HX513.out.lt)
  have HX567 := Lib.hid (HX514.out.below hb563 HX514.out.lt)
  have HX568 := Lib.hid (HX515.out.below hb563 HX515.out.lt)
  have HX569 := Lib.hid (HX516.out.below hb563 HX516.out.lt)
  have HX570 := Lib.hid (HX517.out.below hb563 HX517.out.lt)
  have HX571 := Lib.hid (HX518.out.below hb563 HX518.out.lt)
  have HX572 := Lib.hid (HX519.out.below hb563 HX519.out.lt)
  have HX573 := Lib.hid (HX520.out.below hb563 HX520.out.lt)
  have HX574 := Lib.hid (HX521.out.below hb563 HX521.out.lt)
  have HY575 := Lib.hid (RunsAt.below HY522.out hb563)
  have HY576 := Lib.hid (RunsAt.below HY523.out hb563)
  have HY577 := Lib.hid (HY524.out.below hb563)
  have HY578 := Lib.hid (HY525.out.below hb563)
  have HY579 := Lib.hid (RunsAt.below HY526.out hb563)
  have HY580 := Lib.hid (RunsAt.below HY527.out hb563)
  have HY581 := Lib.hid (bext HY528.out hb563)
  have HY582 := Lib.hid (OwnRs.below HY529.out hb563)
  have HY583 := Lib.hid (bext HY530.out hb563)
  have HY584 := Lib.hid (RunsAt.below HY531.out hb563)
  have HY585 := Lib.hid (OwnRs.below HY532.out hb563)
  have HY586 := Lib.hid (bext HY533.out hb563)
  have HY587 := Lib.hid (RunsAt.below HY534.out hb563)
  have HY588 := Lib.hid (OwnRs.below HY535.out hb563)
  have HY589 := Lib.hid (bext HY536.out hb563)
  have HY590 := Lib.hid (RunsAt.below HY537.out hb563)
  clear HF511 HX512 HX513 HX514 HX515 HX516 HX517 HX518 HX519 HX520 HX521 HY522 HY523 HY524 HY525 HY526 HY527 HY528 HY529 HY530 HY531 HY532 HY533 HY534 HY535 HY536 HY537
  clear hb563
  clear HSMz
  have c591 : w562.cell? ⟨g382, 0, none⟩ = some (.int .u8 cca.tag) := HX573.out.cell 0
  have c592 : w562.cell? ⟨g382, 1, none⟩ = some (.int .i64 cca.most) := HX573.out.cell 1
  have c593 : w562.cell? ⟨g382, 2, none⟩ = some (.int .i64 cca.seg) := HX573.out.cell 2
  have c594 : w562.cell? ⟨g382, 3, none⟩ = some (.int .i64 cca.least) := HX573.out.cell 3
  have c595 : w562.cell? ⟨g382, 4, none⟩ = some (.int .i64 cca.den) := HX573.out.cell 4
  have c596 : w562.cell? ⟨g382, 5, none⟩ = some (.int .i64 cca.leafLow) := HX573.out.cell 5
  have c597 : w562.cell? ⟨g382, 6, none⟩ = some (.int .i64 cca.rootLow) := HX573.out.cell 6
  have c598 : w562.cell? ⟨g382, 7, none⟩ = some (.int .i64 cca.rootHigh) := HX573.out.cell 7
  have c599 : w562.cell? ⟨g382, 8, none⟩ = some (.int .i64 cca.leafHigh) := HX573.out.cell 8
  have c600 : w562.cell? ⟨g382, 9, none⟩ = some (.slice Ba Ma ka) := HX573.out.cell 9
  have c601 : w562.cell? ⟨g382, 10, none⟩ = some (.int .u64 Na) := HX573.out.cell 10
  have l602 : g382 < w562.heap.size := HX573.out.lt
  have c603 : w562.cell? ⟨g453, 0, none⟩ = some (.int .u8 cca.tag) := HX574.out.cell 0
  have c604 : w562.cell? ⟨g453, 1, none⟩ = some (.int .i64 cca.most) := HX574.out.cell 1
  have c605 : w562.cell? ⟨g453, 2, none⟩ = some (.int .i64 cca.seg) := HX574.out.cell 2
  have c606 : w562.cell? ⟨g453, 3, none⟩ = some (.int .i64 cca.least) := HX574.out.cell 3
  have c607 : w562.cell? ⟨g453, 4, none⟩ = some (.int .i64 cca.den) := HX574.out.cell 4
  have c608 : w562.cell? ⟨g453, 5, none⟩ = some (.int .i64 cca.leafLow) := HX574.out.cell 5
  have c609 : w562.cell? ⟨g453, 6, none⟩ = some (.int .i64 cca.rootLow) := HX574.out.cell 6
  have c610 : w562.cell? ⟨g453, 7, none⟩ = some (.int .i64 cca.rootHigh) := HX574.out.cell 7
  have c611 : w562.cell? ⟨g453, 8, none⟩ = some (.int .i64 cca.leafHigh) := HX574.out.cell 8
  have c612 : w562.cell? ⟨g453, 9, none⟩ = some (.slice Bb Mb kb) := HX574.out.cell 9
  have c613 : w562.cell? ⟨g453, 10, none⟩ = some (.int .u64 Na) := HX574.out.cell 10
  have l614 : g453 < w562.heap.size := HX574.out.lt
  go_wp2_with fail
  clear c591 c592 c593 c594 c595 c596 c597 c598 c599 c600 c601 l602 c603 c604 c605 c606 c607 c608 c609 c610 c611 c612 c613 l614
  have hsm := same27_any cca cca Ba Bb Ra Rb Ma Mb ka kb Na Na _ HMa.out HMb.out HY588.out.runsAt HY590.out HSa.out.1 HSa.out.2 HSb.out.2
  rw [HLa.out, HLb.out, sameB_self] at hsm
  have HSMa := Lib.hid hsm
  clear hsm
  refine (HSMa.out).mono ?_
  rintro e w615 ⟨rfl, hb616⟩
  have HF617 := Lib.hid (bext HF564.out hb616)
  have HX618 := Lib.hid (HX565.out.below hb616 HX565.out.lt)
  have HX619 := Lib.hid (HX566.out.below hb616 HX566.out.lt)
  have HX620 := Lib.hid (HX567.out.below hb616 HX567.out.lt)
  have HX621 := Lib.hid (HX568.out.below hb616 HX568.out.lt)
  have HX622 := Lib.hid (HX569.out.below hb616 HX569.out.lt)
  have HX623 := Lib.hid (HX570.out.below hb616 HX570.out.lt)
  have HX624 := Lib.hid (HX571.out.below hb616 HX571.out.lt)
  have HX625 := Lib.hid (HX572.out.below hb616 HX572.out.lt)
  have HX626 := Lib.hid (HX573.out.below hb616 HX573.out.lt)
  have HX627 := Lib.hid (HX574.out.below hb616 HX574.out.lt)
  have HY628 := Lib.hid (RunsAt.below HY575.out hb616)
  have HY629 := Lib.hid (RunsAt.below HY576.out hb616)
  have HY630 := Lib.hid (HY577.out.below hb616)
  have HY631 := Lib.hid (HY578.out.below hb616)
  have HY632 := Lib.hid (RunsAt.below HY579.out hb616)
  have HY633 := Lib.hid (RunsAt.below HY580.out hb616)
  have HY634 := Lib.hid (bext HY581.out hb616)
  have HY635 := Lib.hid (OwnRs.below HY582.out hb616)
  have HY636 := Lib.hid (bext HY583.out hb616)
  have HY637 := Lib.hid (RunsAt.below HY584.out hb616)
  have HY638 := Lib.hid (OwnRs.below HY585.out hb616)
  have HY639 := Lib.hid (bext HY586.out hb616)
  have HY640 := Lib.hid (RunsAt.below HY587.out hb616)
  have HY641 := Lib.hid (OwnRs.below HY588.out hb616)
  have HY642 := Lib.hid (bext HY589.out hb616)
  have HY643 := Lib.hid (RunsAt.below HY590.out hb616)
  clear HF564 HX565 HX566 HX567 HX568 HX569 HX570 HX571 HX572 HX573 HX574 HY575 HY576 HY577 HY578 HY579 HY580 HY581 HY582 HY583 HY584 HY585 HY586 HY587 HY588 HY589 HY590
  clear hb616
  clear HSMa
  have c644 : w615.cell? ⟨g124, 0, none⟩ = some (.int .u8 cx.tag) := HX622.out.cell 0
  have c645 : w615.cell? ⟨g124, 1, none⟩ = some (.int .i64 cx.most) := HX622.out.cell 1
  have c646 : w615.cell? ⟨g124, 2, none⟩ = some (.int .i64 cx.seg) := HX622.out.cell 2
  have c647 : w615.cell? ⟨g124, 3, none⟩ = some (.int .i64 cx.least) := HX622.out.cell 3
  have c648 : w615.cell? ⟨g124, 4, none⟩ = some (.int .i64 cx.den) := HX622.out.cell 4
  have c649 : w615.cell? ⟨g124, 5, none⟩ = some (.int .i64 cx.leafLow) := HX622.out.cell 5
  have c650 : w615.cell? ⟨g124, 6, none⟩ = some (.int .i64 cx.rootLow) := HX622.out.cell 6
  have c651 : w615.cell? ⟨g124, 7, none⟩ = some (.int .i64 cx.rootHigh) := HX622.out.cell 7
  have c652 : w615.cell? ⟨g124, 8, none⟩ = some (.int .i64 cx.leafHigh) := HX622.out.cell 8
  have c653 : w615.cell? ⟨g124, 9, none⟩ = some (.slice Bx Mx kx) := HX622.out.cell 9
  have c654 : w615.cell? ⟨g124, 10, none⟩ = some (.int .u64 Nx) := HX622.out.cell 10
  have l655 : g124 < w615.heap.size := HX622.out.lt
  go_wp2_with fail
  clear c644 c645 c646 c647 c648 c649 c650 c651 c652 c653 c654 l655
  have hsp := spoil27_any cx Bx Rx kx wc.heap.size Nx w107 w615 HOXx.out HY635.out HY636.out.size HSx.out.1 HSx.out.2
  rw [HMx.out] at hsp
  refine hsp.mono ?_
  clear hsp
  rintro e ws1 ⟨⟨vz, rfl⟩, hm1⟩
  have HU1 := Lib.hid (HY634.out.trans (hm1.below (B := wc.heap.size) HY634.out.size (fun q hq => by have h1 := HUx.out; omega)))
  have HOZ1 := Lib.hid (HY638.out.mod hm1 (fun q hq hs => by have h1 := HAxz.out; omega))
  have HOA1 := Lib.hid (HY641.out.mod hm1 (fun q hq hs => by have h1 := HAxa.out; omega))
  have HBZ1 := Lib.hid (HX624.out.mod hm1 (fun hs => by have h1 := HGxz.out; omega))
  have HBA1 := Lib.hid (HX626.out.mod hm1 (fun hs => by have h1 := HGxa.out; omega))
  have HZ1 := Lib.hid (Nat.le_trans HY639.out.size hm1.size)
  have HAA1 := Lib.hid (Nat.le_trans HY642.out.size hm1.size)
  clear hm1
  have qz0 : ws1.cell? ⟨g243, 0, none⟩ = some (.int .u8 cz2.tag) := HBZ1.out.cell 0
  have qz1 : ws1.cell? ⟨g243, 1, none⟩ = some (.int .i64 cz2.most) := HBZ1.out.cell 1
  have qz2 : ws1.cell? ⟨g243, 2, none⟩ = some (.int .i64 cz2.seg) := HBZ1.out.cell 2
  have qz3 : ws1.cell? ⟨g243, 3, none⟩ = some (.int .i64 cz2.least) := HBZ1.out.cell 3
  have qz4 : ws1.cell? ⟨g243, 4, none⟩ = some (.int .i64 cz2.den) := HBZ1.out.cell 4
  have qz5 : ws1.cell? ⟨g243, 5, none⟩ = some (.int .i64 cz2.leafLow) := HBZ1.out.cell 5
  have qz6 : ws1.cell? ⟨g243, 6, none⟩ = some (.int .i64 cz2.rootLow) := HBZ1.out.cell 6
  have qz7 : ws1.cell? ⟨g243, 7, none⟩ = some (.int .i64 cz2.rootHigh) := HBZ1.out.cell 7
  have qz8 : ws1.cell? ⟨g243, 8, none⟩ = some (.int .i64 cz2.leafHigh) := HBZ1.out.cell 8
  have qz9 : ws1.cell? ⟨g243, 9, none⟩ = some (.slice Bz Mz kz) := HBZ1.out.cell 9
  have qz10 : ws1.cell? ⟨g243, 10, none⟩ = some (.int .u64 Nz) := HBZ1.out.cell 10
  have lqz := HBZ1.out.lt
  go_wp2_with fail
  clear qz0 qz1 qz2 qz3 qz4 qz5 qz6 qz7 qz8 qz9 qz10 lqz
  have hsp := spoil27_any cz2 Bz Rz kz U174.heap.size Nz w221 ws1 HOXz.out HOZ1.out HZ1.out HSz.out.1 HSz.out.2
  rw [HMz.out] at hsp
  refine hsp.mono ?_
  clear hsp
  rintro e ws2 ⟨⟨vz, rfl⟩, hm2⟩
  have HU2 := Lib.hid (HU1.out.trans (hm2.below (B := wc.heap.size) HU1.out.size (fun q hq => by have h1 := HUz.out; omega)))
  have HOA2 := Lib.hid (HOA1.out.mod hm2 (fun q hq hs => by have h1 := HAza.out; omega))
  have HBA2 := Lib.hid (HBA1.out.mod hm2 (fun hs => by have h1 := HGza.out; omega))
  have HAA2 := Lib.hid (Nat.le_trans HAA1.out hm2.size)
  clear hm2
  have qa0 : ws2.cell? ⟨g382, 0, none⟩ = some (.int .u8 cca.tag) := HBA2.out.cell 0
  have qa1 : ws2.cell? ⟨g382, 1, none⟩ = some (.int .i64 cca.most) := HBA2.out.cell 1
  have qa2 : ws2.cell? ⟨g382, 2, none⟩ = some (.int .i64 cca.seg) := HBA2.out.cell 2
  have qa3 : ws2.cell? ⟨g382, 3, none⟩ = some (.int .i64 cca.least) := HBA2.out.cell 3
  have qa4 : ws2.cell? ⟨g382, 4, none⟩ = some (.int .i64 cca.den) := HBA2.out.cell 4
  have qa5 : ws2.cell? ⟨g382, 5, none⟩ = some (.int .i64 cca.leafLow) := HBA2.out.cell 5
  have qa6 : ws2.cell? ⟨g382, 6, none⟩ = some (.int .i64 cca.rootLow) := HBA2.out.cell 6
  have qa7 : ws2.cell? ⟨g382, 7, none⟩ = some (.int .i64 cca.rootHigh) := HBA2.out.cell 7
  have qa8 : ws2.cell? ⟨g382, 8, none⟩ = some (.int .i64 cca.leafHigh) := HBA2.out.cell 8
  have qa9 : ws2.cell? ⟨g382, 9, none⟩ = some (.slice Ba Ma ka) := HBA2.out.cell 9
  have qa10 : ws2.cell? ⟨g382, 10, none⟩ = some (.int .u64 Na) := HBA2.out.cell 10
  have lqa := HBA2.out.lt
  go_wp2_with fail
  clear qa0 qa1 qa2 qa3 qa4 qa5 qa6 qa7 qa8 qa9 qa10 lqa
  have hsp := spoil27_any cca Ba Ra ka U315.heap.size Na w355 ws2 HOXa.out HOA2.out HAA2.out HSa.out.1 HSa.out.2
  rw [HMa.out] at hsp
  refine hsp.mono ?_
  clear hsp
  rintro e ws3 ⟨⟨vz, rfl⟩, hm3⟩
  have HU3 := Lib.hid (HU2.out.trans (hm3.below (B := wc.heap.size) HU2.out.size (fun q hq => by have h1 := HUa.out; omega)))
  clear hm3
  have HFF := Lib.hid (bext KF.out HU3.out)
  have KM3 := Lib.hid (KM.out.below HU3.out KM.out.lt)
  have KN3 := Lib.hid (KN.out.below HU3.out KN.out.lt)
  have KO3 := Lib.hid (KO.out.below HU3.out KO.out.lt)
  have KP3 := Lib.hid (KP.out.below HU3.out KP.out.lt)
  have HY756 := Lib.hid (KB.out.below HU3.out)
  have HY757 := Lib.hid (KD.out.below HU3.out)
  have HY758 := Lib.hid (KR.out.below HU3.out)
  have HY759 := Lib.hid (KQ.out.below HU3.out)
  have HY760 := Lib.hid (KA.out.below HU3.out)
  have HY761 := Lib.hid (KT.out.below HU3.out)
  have c762 : ws3.cell? ⟨g7, 0, none⟩ = some (.int .u8 c.tag) := KO3.out.cell 0
  have c763 : ws3.cell? ⟨g7, 1, none⟩ = some (.int .i64 c.most) := KO3.out.cell 1
  have c764 : ws3.cell? ⟨g7, 2, none⟩ = some (.int .i64 c.seg) := KO3.out.cell 2
  have c765 : ws3.cell? ⟨g7, 3, none⟩ = some (.int .i64 c.least) := KO3.out.cell 3
  have c766 : ws3.cell? ⟨g7, 4, none⟩ = some (.int .i64 c.den) := KO3.out.cell 4
  have c767 : ws3.cell? ⟨g7, 5, none⟩ = some (.int .i64 c.leafLow) := KO3.out.cell 5
  have c768 : ws3.cell? ⟨g7, 6, none⟩ = some (.int .i64 c.rootLow) := KO3.out.cell 6
  have c769 : ws3.cell? ⟨g7, 7, none⟩ = some (.int .i64 c.rootHigh) := KO3.out.cell 7
  have c770 : ws3.cell? ⟨g7, 8, none⟩ = some (.int .i64 c.leafHigh) := KO3.out.cell 8
  have c771 : ws3.cell? ⟨g7, 9, none⟩ = some (.slice B2 Rs.length k2) := KO3.out.cell 9
  have c772 : ws3.cell? ⟨g7, 10, none⟩ = some (.int .u64 n) := KO3.out.cell 10
  have l773 : g7 < ws3.heap.size := KO3.out.lt
  have c774 : ws3.cell? ⟨g16, 0, none⟩ = some (.int .u8 c.tag) := KM3.out.cell 0
  have c775 : ws3.cell? ⟨g16, 1, none⟩ = some (.int .i64 c.most) := KM3.out.cell 1
  have c776 : ws3.cell? ⟨g16, 2, none⟩ = some (.int .i64 c.seg) := KM3.out.cell 2
  have c777 : ws3.cell? ⟨g16, 3, none⟩ = some (.int .i64 c.least) := KM3.out.cell 3
  have c778 : ws3.cell? ⟨g16, 4, none⟩ = some (.int .i64 c.den) := KM3.out.cell 4
  have c779 : ws3.cell? ⟨g16, 5, none⟩ = some (.int .i64 c.leafLow) := KM3.out.cell 5
  have c780 : ws3.cell? ⟨g16, 6, none⟩ = some (.int .i64 c.rootLow) := KM3.out.cell 6
  have c781 : ws3.cell? ⟨g16, 7, none⟩ = some (.int .i64 c.rootHigh) := KM3.out.cell 7
  have c782 : ws3.cell? ⟨g16, 8, none⟩ = some (.int .i64 c.leafHigh) := KM3.out.cell 8
  have c783 : ws3.cell? ⟨g16, 9, none⟩ = some (.slice B Rs.length k) := KM3.out.cell 9
  have c784 : ws3.cell? ⟨g16, 10, none⟩ = some (.int .u64 n) := KM3.out.cell 10
  have l785 : g16 < ws3.heap.size := KM3.out.lt
  go_wp2_with fail
  clear c762 c763 c764 c765 c766 c767 c768 c769 c770 c771 c772 l773 c774 c775 c776 c777 c778 c779 c780 c781 c782 c783 c784 l785
  have hsm := same27_any c c B2 B R2 Rs Rs.length Rs.length k2 k n n _ HN2.out rfl HY758.out HY756.out HS2.out.1 HS2.out.2 HSR.out.2
  rw [HL2.out, HL.out, sameB_self] at hsm
  have HSMp := Lib.hid hsm
  clear hsm
  refine (HSMp.out).mono ?_
  rintro e w786 ⟨rfl, hb787⟩
  have HF788 := Lib.hid (bext HFF.out hb787)
  have HX789 := Lib.hid (KM3.out.below hb787 KM3.out.lt)
  have HX790 := Lib.hid (KN3.out.below hb787 KN3.out.lt)
  have HX791 := Lib.hid (KO3.out.below hb787 KO3.out.lt)
  have HX792 := Lib.hid (KP3.out.below hb787 KP3.out.lt)
  have HY793 := Lib.hid (RunsAt.below HY756.out hb787)
  have HY794 := Lib.hid (RunsAt.below HY757.out hb787)
  have HY795 := Lib.hid (RunsAt.below HY758.out hb787)
  have HY796 := Lib.hid (RunsAt.below HY759.out hb787)
  have HY797 := Lib.hid (HY760.out.below hb787)
  have HY798 := Lib.hid (HY761.out.below hb787)
  clear HFF KM3 KN3 KO3 KP3 HY756 HY757 HY758 HY759 HY760 HY761
  clear hb787
  have c799 : w786.cell? ⟨g8, 0, none⟩ = some (.int .u8 d.tag) := HX792.out.cell 0
  have c800 : w786.cell? ⟨g8, 1, none⟩ = some (.int .i64 d.most) := HX792.out.cell 1
  have c801 : w786.cell? ⟨g8, 2, none⟩ = some (.int .i64 d.seg) := HX792.out.cell 2
  have c802 : w786.cell? ⟨g8, 3, none⟩ = some (.int .i64 d.least) := HX792.out.cell 3
  have c803 : w786.cell? ⟨g8, 4, none⟩ = some (.int .i64 d.den) := HX792.out.cell 4
  have c804 : w786.cell? ⟨g8, 5, none⟩ = some (.int .i64 d.leafLow) := HX792.out.cell 5
  have c805 : w786.cell? ⟨g8, 6, none⟩ = some (.int .i64 d.rootLow) := HX792.out.cell 6
  have c806 : w786.cell? ⟨g8, 7, none⟩ = some (.int .i64 d.rootHigh) := HX792.out.cell 7
  have c807 : w786.cell? ⟨g8, 8, none⟩ = some (.int .i64 d.leafHigh) := HX792.out.cell 8
  have c808 : w786.cell? ⟨g8, 9, none⟩ = some (.slice D2 Ts.length q2) := HX792.out.cell 9
  have c809 : w786.cell? ⟨g8, 10, none⟩ = some (.int .u64 m) := HX792.out.cell 10
  have l810 : g8 < w786.heap.size := HX792.out.lt
  have c811 : w786.cell? ⟨g13, 0, none⟩ = some (.int .u8 d.tag) := HX790.out.cell 0
  have c812 : w786.cell? ⟨g13, 1, none⟩ = some (.int .i64 d.most) := HX790.out.cell 1
  have c813 : w786.cell? ⟨g13, 2, none⟩ = some (.int .i64 d.seg) := HX790.out.cell 2
  have c814 : w786.cell? ⟨g13, 3, none⟩ = some (.int .i64 d.least) := HX790.out.cell 3
  have c815 : w786.cell? ⟨g13, 4, none⟩ = some (.int .i64 d.den) := HX790.out.cell 4
  have c816 : w786.cell? ⟨g13, 5, none⟩ = some (.int .i64 d.leafLow) := HX790.out.cell 5
  have c817 : w786.cell? ⟨g13, 6, none⟩ = some (.int .i64 d.rootLow) := HX790.out.cell 6
  have c818 : w786.cell? ⟨g13, 7, none⟩ = some (.int .i64 d.rootHigh) := HX790.out.cell 7
  have c819 : w786.cell? ⟨g13, 8, none⟩ = some (.int .i64 d.leafHigh) := HX790.out.cell 8
  have c820 : w786.cell? ⟨g13, 9, none⟩ = some (.slice D Ts.length q) := HX790.out.cell 9
  have c821 : w786.cell? ⟨g13, 10, none⟩ = some (.int .u64 m) := HX790.out.cell 10
  have l822 : g13 < w786.heap.size := HX790.out.lt
  go_wp2_with fail
  clear c799 c800 c801 c802 c803 c804 c805 c806 c807 c808 c809 l810 c811 c812 c813 c814 c815 c816 c817 c818 c819 c820 c821 l822
  have hsm := same27_any d d D2 D T2 Ts Ts.length Ts.length q2 q m m _ HNT.out rfl HY796.out HY794.out HSQ.out.1 HSQ.out.2 HST.out.2
  rw [HM2.out, HK.out, sameB_self] at hsm
  have HSMq := Lib.hid hsm
  clear hsm
  refine (HSMq.out).mono ?_
  rintro e w823 ⟨rfl, hb824⟩
  have HF825 := Lib.hid (bext HF788.out hb824)
  have HX826 := Lib.hid (HX789.out.below hb824 HX789.out.lt)
  have HX827 := Lib.hid (HX790.out.below hb824 HX790.out.lt)
  have HX828 := Lib.hid (HX791.out.below hb824 HX791.out.lt)
  have HX829 := Lib.hid (HX792.out.below hb824 HX792.out.lt)
  have HY830 := Lib.hid (RunsAt.below HY793.out hb824)
  have HY831 := Lib.hid (RunsAt.below HY794.out hb824)
  have HY832 := Lib.hid (RunsAt.below HY795.out hb824)
  have HY833 := Lib.hid (RunsAt.below HY796.out hb824)
  have HY834 := Lib.hid (HY797.out.below hb824)
  have HY835 := Lib.hid (HY798.out.below hb824)
  clear HF788 HX789 HX790 HX791 HX792 HY793 HY794 HY795 HY796 HY797 HY798
  clear hb824
  go_wp2_with fail
  refine (samePairs_any A2 A l l ca2 ca _ HY835.out HY834.out (by have := HLI.out; omega) (by have := HLI.out; omega)).mono ?_
  rintro e w836 ⟨rfl, hb837⟩
  have HF838 := Lib.hid (bext HF825.out hb837)
  have HX839 := Lib.hid (HX826.out.below hb837 HX826.out.lt)
  have HX840 := Lib.hid (HX827.out.below hb837 HX827.out.lt)
  have HX841 := Lib.hid (HX828.out.below hb837 HX828.out.lt)
  have HX842 := Lib.hid (HX829.out.below hb837 HX829.out.lt)
  have HY843 := Lib.hid (RunsAt.below HY830.out hb837)
  have HY844 := Lib.hid (RunsAt.below HY831.out hb837)
  have HY845 := Lib.hid (RunsAt.below HY832.out hb837)
  have HY846 := Lib.hid (RunsAt.below HY833.out hb837)
  have HY847 := Lib.hid (HY834.out.below hb837)
  have HY848 := Lib.hid (HY835.out.below hb837)
  clear HF825 HX826 HX827 HX828 HX829 HY830 HY831 HY832 HY833 HY834 HY835
  clear hb837
  go_wp2_with fail
  go_ret
  refine ⟨?_, HF838.out⟩
  simp
end Go.Proofs.YtolclahkfmplfaaGreat
