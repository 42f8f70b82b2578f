/- The law KwayTells: for every runs and key it returns true; its arguments stay as they were. -/
import Derived.Test.YtokomclcgegfkaaDoorGv
import Derived.Test.YtokomclcgegfkaaDoorTw
namespace Go.Proofs.YtokomclcgegfkaaDoor
open Go Go.RowKit
set_option maxRecDepth 100000
def eqX (a b : Ent) : Bool := decide (a = b)
theorem eqX_self (a : Ent) : eqX a a = true := decide_eq_true rfl
theorem run_eql_ent (a b : Ent) (w : World) :
    (binOp .eql 29 (.agg #[.int .i64 a.key, .int .i64 a.val, .bool a.dead]) (.agg #[.int .i64 b.key, .int .i64 b.val, .bool b.dead])).run Tryd.prog w = .ok (.bool (eqX a b)) w := by
  have h1 := ent_stood
  have h3 := Tryd.underlying29
  obtain ⟨k, v, d⟩ := a
  obtain ⟨k', v', d'⟩ := b
  simp only [go_sem, h1, h3]
  simp [go_sem, eqX]
  by_cases hk : k = k' <;> by_cases hv : v = v' <;> by_cases hd : d = d' <;> simp [hk, hv, hd]
theorem tab_below' {g : Nat} {w w' : World} (h : TabAt g Lib.deBruijn64tab w) (hb : Below w.heap.size w w') : TabAt g Lib.deBruijn64tab w' := tab_below (tab_lt h) h hb
/-- what stands in memory while keys are written over -/
structure Kw (U : World) (g h : Nat) (A C : Option Addr) (a c m n : Nat) (wr : World) : Prop where
  ba : Blk wr g 24 #[.slice A m a]
  bel : Below U.heap.size U wr
  bc : Blk wr h 24 #[.slice C n c]
  ka : Ki3 wr U.heap.size g A m
  kc : Ki3 wr U.heap.size h C n
section
variable {U wr : World} {g h a c m n : Nat} {A C : Option Addr}
theorem Ki3.other {B h h' : Nat} {A : Option Addr} {n : Nat} {w : World} {v : Value} (hk : Ki3 w B h A n) (hb : Blk w h' 24 #[v]) (hv : ∀ k, v ≠ .int .i64 k) : Ki3 w B h' A n := by
  rcases hk with h0 | ⟨g, t, cs, h1, h2, h3, h4, h5⟩
  · exact .inl h0
  · by_cases hn : n = 0
    · exact .inl hn
    refine .inr ⟨g, t, cs, h1, h2, ?_, h4, h5⟩
    rintro rfl
    obtain ⟨k, hk⟩ := h5 0 (by omega)
    have h6 := (h4.cell (0 * 3)).trans hk
    have h7 := hb.cell 0
    rw [Nat.zero_mul, h7] at h6
    simp at h6
    exact hv k h6
theorem Kw.ne (hK : Kw U g h A C a c m n wr) {gx i : Nat} {k : Int} (_hg : U.heap.size ≤ gx) (hc : wr.cell? ⟨gx, i, none⟩ = some (.int .i64 k)) : gx ≠ h ∧ gx ≠ g := by
  constructor
  · rintro rfl
    have h1 := hK.bc.cell i
    rw [hc] at h1
    cases i with
    | zero => simp at h1
    | succ i => simp at h1
  · rintro rfl
    have h1 := hK.ba.cell i
    rw [hc] at h1
    cases i with
    | zero => simp at h1
    | succ i => simp at h1
theorem Kw.step (hK : Kw U g h A C a c m n wr) {gx : Nat} (hg : U.heap.size ≤ gx) (hn : gx ≠ g ∧ gx ≠ h) (i : Nat) (k : Int) : Kw U g h A C a c m n (wr.setCell ⟨gx, i, none⟩ (.int .i64 k)).drew :=
  ⟨hK.ba.far (p := ⟨gx, i, none⟩) (fun e => hn.1 e.symm) _, (hK.bel.setCell (p := ⟨gx, i, none⟩) hg _).drew, hK.bc.far (p := ⟨gx, i, none⟩) (fun e => hn.2 e.symm) _, hK.ka.set _ _ _, hK.kc.set _ _ _⟩
end
set_option maxHeartbeats 8000000 in
theorem kwayTells_any (B : Option Addr) (Rs : List Rm) (c : Nat) (key : Int) (w : World) (hB : RunsAt w B Rs) (hT : TabAt 1 Lib.deBruijn64tab w) : Calls Tryd.prog 9 #[.slice B Rs.length c, .int .i64 key] w fun r w' => r = .returned (.bool true) ∧ Below w.heap.size w w' := by
  have HB := Lib.hid hB
  have HT := Lib.hid hT
  have hTl := tab_lt hT
  clear hB hT
  go_enter Tryd.func9, Tryd.ntmps9
  go_wp2_with fail
  refine (great25_any B Rs c 300 _ HB.out (by omega)).mono ?_
  rintro e w1' ⟨G, rfl, hG, rfl⟩
  have HG := Lib.hid hG
  clear hG
  cases G
  case true =>
    go_wp2
    go_ret
    exact ⟨rfl, Below.refl _ _⟩
  case false =>
  have hG := HG.out rfl
  have hlen : Rs.length ≤ 300 := by omega
  have hsum : (Rs.map (fun r => r.l.length)).sum ≤ 300 := by omega
  have HRS := Lib.hid (fun r hr => Nat.le_trans (rs_le hsum r hr) (by omega) : ∀ r ∈ Rs, r.l.length ≤ 1000000)
  have HRB := Lib.hid (fun r hr => Nat.le_trans (rs_le hsum r hr) (by omega) : ∀ r ∈ Rs, r.l.length ≤ 4611686018427387903)
  have hsum2 : ((Rs.map Rm.l).map List.length).sum ≤ 300 := by rw [List.map_map]; exact hsum
  obtain ⟨ls, hls⟩ : ∃ ls, Rs.map Rm.l = ls := ⟨_, rfl⟩
  rw [hls] at hsum2
  have HLS := Lib.hid hls
  obtain ⟨M, hM⟩ : ∃ M, mL ls false = M := ⟨_, rfl⟩
  obtain ⟨N, hN⟩ : ∃ N, mL ls true = N := ⟨_, rfl⟩
  obtain ⟨E, hE⟩ : ∃ E, mE ls = E := ⟨_, rfl⟩
  obtain ⟨x, hx⟩ : ∃ x, kfX ls key = x := ⟨_, rfl⟩
  obtain ⟨q, hq⟩ : ∃ q, kfE ls key = q := ⟨_, rfl⟩
  have hMl : M.length ≤ 300 := by rw [← hM]; exact mL_len false hsum2
  have hNl : N.length ≤ 300 := by rw [← hN]; exact mL_len true hsum2
  have HM := Lib.hid hM
  have HN := Lib.hid hN
  have HE := Lib.hid hE
  have HX := Lib.hid hx
  have HQ := Lib.hid hq
  have HSL := Lib.hid hsum2
  clear hG hM hN hE hx hq hsum2 HG hls
  have HF := Lib.hid (Below.refl w.heap.size w)
  have HY1 := Lib.hid (HB.out)
  have HY2 := Lib.hid (HT.out)
  go_wp2_with fail
  refine (twins_any B Rs c _ HY1.out (by omega) HRS.out).mono ?_
  rw [HLS.out]
  rintro e w3 ⟨Ao, co, Ts, rfl, hTs, hRo, hb4⟩
  have HTS := Lib.hid hTs
  have htl : Ts.length ≤ 300 := by have h := congrArg List.length hTs; have h2 := congrArg List.length HLS.out; simp at h h2; omega
  have htsum : (Ts.map (fun r => r.l.length)).sum ≤ 300 := by have h := HSL.out; rw [← hTs, List.map_map] at h; exact h
  have HTB := Lib.hid (fun r hr => Nat.le_trans (rs_le htsum r hr) (by omega) : ∀ r ∈ Ts, r.l.length ≤ 4611686018427387903)
  have HU := Lib.hid (Below.refl w3.heap.size w3)
  clear hTs
  have HF5 := Lib.hid (bext HF.out hb4)
  have HY6 := Lib.hid (RunsAt.below HY1.out hb4)
  have HY7 := Lib.hid (tab_below' HY2.out hb4)
  clear HF HY1 HY2
  clear hb4
  have HY8 := Lib.hid (hRo)
  have HY9 := Lib.hid (HU.out)
  clear hRo HU
  have hsza := HY9.out.size
  have HBU := Lib.hid HY6.out
  have HOU := Lib.hid HY8.out
  have HWU := Lib.hid HF5.out
  go_wp2_with fail
  refine (merge_any Ao Ts co 300 false _ HY8.out (by omega) HTB.out htsum (by omega)).mono ?_
  rw [mrgE_m, mrgL_m, HTS.out, HM.out, HE.out]
  rintro e w10 ⟨A1, c1, rfl, hoa, hb11⟩
  have HF12 := Lib.hid (bext HF5.out hb11)
  have HY13 := Lib.hid (RunsAt.below HY6.out hb11)
  have HY14 := Lib.hid (tab_below' HY7.out hb11)
  have HY15 := Lib.hid (RunsAt.below HY8.out hb11)
  have HY16 := Lib.hid (bext HY9.out hb11)
  clear HF5 HY6 HY7 HY8 HY9
  clear hb11
  have HY17 := Lib.hid (own_sl hoa)
  have HY18 := Lib.hid (own_mono (B' := w3.heap.size) hoa (hsza))
  clear hoa
  go_upto_region 5 with fail
  obtain ⟨U19, h21⟩ : ∃ U, w10.alloc (.cells #[.slice A1 M.length c1] 24) = U := ⟨_, rfl⟩
  have ba22 : Below w10.heap.size w10 U19 := by rw [← h21]; exact (Below.refl _ _).alloc (Nat.le_refl _) _
  have bn23 : Blk U19 w10.heap.size 24 #[.slice A1 M.length c1] := by rw [← h21]; exact Blk.new _ _ _
  try rw [h21]
  have HF24 := Lib.hid (bext HF12.out ba22)
  have HY25 := Lib.hid (RunsAt.below HY13.out ba22)
  have HY26 := Lib.hid (tab_below' HY14.out ba22)
  have HY27 := Lib.hid (RunsAt.below HY15.out ba22)
  have HY28 := Lib.hid (bext HY16.out ba22)
  have HY29 := Lib.hid (HY17.out.below ba22)
  have HY30 := Lib.hid (own_below HY18.out ba22)
  clear HF12 HY13 HY14 HY15 HY16 HY17 HY18
  obtain ⟨g20, h31⟩ : ∃ g, w10.heap.size = g := ⟨_, rfl⟩
  rw [h31] at bn23
  try rw [h31]
  have HX32 := Lib.hid bn23
  clear h21 ba22 bn23 h31
  have HY33 := Lib.hid (Ki3.of_own (B := w3.heap.size) HY30.out (Nat.le_refl _) HX32.out)
  go_wp2_with fail
  refine (refMerge_any B Rs c 300 false _ HY25.out (by omega) HRB.out hsum (by omega)).mono ?_
  rw [mrgE_m, mrgL_m, HLS.out, HM.out, HE.out]
  rintro e w34 ⟨A2, c2, rfl, hob, hb35⟩
  have HF36 := Lib.hid (bext HF24.out hb35)
  have HX37 := Lib.hid (HX32.out.below hb35 HX32.out.lt)
  have HY38 := Lib.hid (RunsAt.below HY25.out hb35)
  have HY39 := Lib.hid (tab_below' HY26.out hb35)
  have HY40 := Lib.hid (RunsAt.below HY27.out hb35)
  have HY41 := Lib.hid (bext HY28.out hb35)
  have HY42 := Lib.hid (HY29.out.below hb35)
  have HY43 := Lib.hid (own_below HY30.out hb35)
  have HY44 := Lib.hid (Ki3.belowS hb35 HY33.out)
  clear HF24 HX32 HY25 HY26 HY27 HY28 HY29 HY30 HY33
  clear hb35
  have HY45 := Lib.hid (own_sl hob)
  clear hob
  go_upto_region 6 with fail
  obtain ⟨U46, h48⟩ : ∃ U, w34.alloc (.cells #[.slice A2 M.length c2] 24) = U := ⟨_, rfl⟩
  have ba49 : Below w34.heap.size w34 U46 := by rw [← h48]; exact (Below.refl _ _).alloc (Nat.le_refl _) _
  have bn50 : Blk U46 w34.heap.size 24 #[.slice A2 M.length c2] := by rw [← h48]; exact Blk.new _ _ _
  try rw [h48]
  have HF51 := Lib.hid (bext HF36.out ba49)
  have HX52 := Lib.hid (HX37.out.below ba49 HX37.out.lt)
  have HY53 := Lib.hid (RunsAt.below HY38.out ba49)
  have HY54 := Lib.hid (tab_below' HY39.out ba49)
  have HY55 := Lib.hid (RunsAt.below HY40.out ba49)
  have HY56 := Lib.hid (bext HY41.out ba49)
  have HY57 := Lib.hid (HY42.out.below ba49)
  have HY58 := Lib.hid (own_below HY43.out ba49)
  have HY59 := Lib.hid (Ki3.belowS ba49 HY44.out)
  have HY60 := Lib.hid (HY45.out.below ba49)
  clear HF36 HX37 HY38 HY39 HY40 HY41 HY42 HY43 HY44 HY45
  obtain ⟨g47, h61⟩ : ∃ g, w34.heap.size = g := ⟨_, rfl⟩
  rw [h61] at bn50
  try rw [h61]
  have HX62 := Lib.hid bn50
  clear h48 ba49 bn50 h61
  have hszc := HY56.out.size
  go_wp2_with fail
  refine (merge_any Ao Ts co 300 true _ HY55.out (by omega) HTB.out htsum (by omega)).mono ?_
  rw [mrgE_m, mrgL_m, HTS.out, HN.out, HE.out]
  rintro e w63 ⟨A3, c3, rfl, hoc, hb64⟩
  have HF65 := Lib.hid (bext HF51.out hb64)
  have HX66 := Lib.hid (HX52.out.below hb64 HX52.out.lt)
  have HX67 := Lib.hid (HX62.out.below hb64 HX62.out.lt)
  have HY68 := Lib.hid (RunsAt.below HY53.out hb64)
  have HY69 := Lib.hid (tab_below' HY54.out hb64)
  have HY70 := Lib.hid (RunsAt.below HY55.out hb64)
  have HY71 := Lib.hid (bext HY56.out hb64)
  have HY72 := Lib.hid (HY57.out.below hb64)
  have HY73 := Lib.hid (own_below HY58.out hb64)
  have HY74 := Lib.hid (Ki3.belowS hb64 HY59.out)
  have HY75 := Lib.hid (HY60.out.below hb64)
  clear HF51 HX52 HX62 HY53 HY54 HY55 HY56 HY57 HY58 HY59 HY60
  clear hb64
  have HY76 := Lib.hid (own_sl hoc)
  have HY77 := Lib.hid (own_mono (B' := w3.heap.size) hoc (hszc))
  clear hoc
  go_upto_region 7 with fail
  obtain ⟨U78, h80⟩ : ∃ U, w63.alloc (.cells #[.slice A3 N.length c3] 24) = U := ⟨_, rfl⟩
  have ba81 : Below w63.heap.size w63 U78 := by rw [← h80]; exact (Below.refl _ _).alloc (Nat.le_refl _) _
  have bn82 : Blk U78 w63.heap.size 24 #[.slice A3 N.length c3] := by rw [← h80]; exact Blk.new _ _ _
  try rw [h80]
  have HF83 := Lib.hid (bext HF65.out ba81)
  have HX84 := Lib.hid (HX66.out.below ba81 HX66.out.lt)
  have HX85 := Lib.hid (HX67.out.below ba81 HX67.out.lt)
  have HY86 := Lib.hid (RunsAt.below HY68.out ba81)
  have HY87 := Lib.hid (tab_below' HY69.out ba81)
  have HY88 := Lib.hid (RunsAt.below HY70.out ba81)
  have HY89 := Lib.hid (bext HY71.out ba81)
  have HY90 := Lib.hid (HY72.out.below ba81)
  have HY91 := Lib.hid (own_below HY73.out ba81)
  have HY92 := Lib.hid (Ki3.belowS ba81 HY74.out)
  have HY93 := Lib.hid (HY75.out.below ba81)
  have HY94 := Lib.hid (HY76.out.below ba81)
  have HY95 := Lib.hid (own_below HY77.out ba81)
  clear HF65 HX66 HX67 HY68 HY69 HY70 HY71 HY72 HY73 HY74 HY75 HY76 HY77
  obtain ⟨g79, h96⟩ : ∃ g, w63.heap.size = g := ⟨_, rfl⟩
  rw [h96] at bn82
  try rw [h96]
  have HX97 := Lib.hid bn82
  clear h80 ba81 bn82 h96
  have HY98 := Lib.hid (Ki3.of_own (B := w3.heap.size) HY95.out (Nat.le_refl _) HX97.out)
  go_wp2_with fail
  refine (refMerge_any B Rs c 300 true _ HY86.out (by omega) HRB.out hsum (by omega)).mono ?_
  rw [mrgE_m, mrgL_m, HLS.out, HN.out, HE.out]
  rintro e w99 ⟨A4, c4, rfl, hod, hb100⟩
  have HF101 := Lib.hid (bext HF83.out hb100)
  have HX102 := Lib.hid (HX84.out.below hb100 HX84.out.lt)
  have HX103 := Lib.hid (HX85.out.below hb100 HX85.out.lt)
  have HX104 := Lib.hid (HX97.out.below hb100 HX97.out.lt)
  have HY105 := Lib.hid (RunsAt.below HY86.out hb100)
  have HY106 := Lib.hid (tab_below' HY87.out hb100)
  have HY107 := Lib.hid (RunsAt.below HY88.out hb100)
  have HY108 := Lib.hid (bext HY89.out hb100)
  have HY109 := Lib.hid (HY90.out.below hb100)
  have HY110 := Lib.hid (own_below HY91.out hb100)
  have HY111 := Lib.hid (Ki3.belowS hb100 HY92.out)
  have HY112 := Lib.hid (HY93.out.below hb100)
  have HY113 := Lib.hid (HY94.out.below hb100)
  have HY114 := Lib.hid (own_below HY95.out hb100)
  have HY115 := Lib.hid (Ki3.belowS hb100 HY98.out)
  clear HF83 HX84 HX85 HX97 HY86 HY87 HY88 HY89 HY90 HY91 HY92 HY93 HY94 HY95 HY98
  clear hb100
  have HY116 := Lib.hid (own_sl hod)
  clear hod
  go_upto_region 8 with fail
  obtain ⟨U117, h119⟩ : ∃ U, w99.alloc (.cells #[.slice A4 N.length c4] 24) = U := ⟨_, rfl⟩
  have ba120 : Below w99.heap.size w99 U117 := by rw [← h119]; exact (Below.refl _ _).alloc (Nat.le_refl _) _
  have bn121 : Blk U117 w99.heap.size 24 #[.slice A4 N.length c4] := by rw [← h119]; exact Blk.new _ _ _
  try rw [h119]
  have HF122 := Lib.hid (bext HF101.out ba120)
  have HX123 := Lib.hid (HX102.out.below ba120 HX102.out.lt)
  have HX124 := Lib.hid (HX103.out.below ba120 HX103.out.lt)
  have HX125 := Lib.hid (HX104.out.below ba120 HX104.out.lt)
  have HY126 := Lib.hid (RunsAt.below HY105.out ba120)
  have HY127 := Lib.hid (tab_below' HY106.out ba120)
  have HY128 := Lib.hid (RunsAt.below HY107.out ba120)
  have HY129 := Lib.hid (bext HY108.out ba120)
  have HY130 := Lib.hid (HY109.out.below ba120)
  have HY131 := Lib.hid (own_below HY110.out ba120)
  have HY132 := Lib.hid (Ki3.belowS ba120 HY111.out)
  have HY133 := Lib.hid (HY112.out.below ba120)
  have HY134 := Lib.hid (HY113.out.below ba120)
  have HY135 := Lib.hid (own_below HY114.out ba120)
  have HY136 := Lib.hid (Ki3.belowS ba120 HY115.out)
  have HY137 := Lib.hid (HY116.out.below ba120)
  clear HF101 HX102 HX103 HX104 HY105 HY106 HY107 HY108 HY109 HY110 HY111 HY112 HY113 HY114 HY115 HY116
  obtain ⟨g118, h138⟩ : ∃ g, w99.heap.size = g := ⟨_, rfl⟩
  rw [h138] at bn121
  try rw [h138]
  have HX139 := Lib.hid bn121
  clear h119 ba120 bn121 h138
  go_wp2_with fail
  refine (kfind_any Ao Ts co key _ HY128.out (by omega) HTB.out HY127.out).mono ?_
  rw [HTS.out, HX.out, HQ.out]
  rintro e w140 ⟨rfl, hb141⟩
  have HF142 := Lib.hid (bext HF122.out hb141)
  have HX143 := Lib.hid (HX123.out.below hb141 HX123.out.lt)
  have HX144 := Lib.hid (HX124.out.below hb141 HX124.out.lt)
  have HX145 := Lib.hid (HX125.out.below hb141 HX125.out.lt)
  have HX146 := Lib.hid (HX139.out.below hb141 HX139.out.lt)
  have HY147 := Lib.hid (RunsAt.below HY126.out hb141)
  have HY148 := Lib.hid (tab_below' HY127.out hb141)
  have HY149 := Lib.hid (RunsAt.below HY128.out hb141)
  have HY150 := Lib.hid (bext HY129.out hb141)
  have HY151 := Lib.hid (HY130.out.below hb141)
  have HY152 := Lib.hid (own_below HY131.out hb141)
  have HY153 := Lib.hid (Ki3.belowS hb141 HY132.out)
  have HY154 := Lib.hid (HY133.out.below hb141)
  have HY155 := Lib.hid (HY134.out.below hb141)
  have HY156 := Lib.hid (own_below HY135.out hb141)
  have HY157 := Lib.hid (Ki3.belowS hb141 HY136.out)
  have HY158 := Lib.hid (HY137.out.below hb141)
  clear HF122 HX123 HX124 HX125 HX139 HY126 HY127 HY128 HY129 HY130 HY131 HY132 HY133 HY134 HY135 HY136 HY137
  clear hb141
  go_upto_region 9 with fail
  obtain ⟨U159, h161⟩ : ∃ U, w140.alloc (.cells #[.int .i64 x.key, .int .i64 x.val, .bool x.dead] 29) = U := ⟨_, rfl⟩
  have ba162 : Below w140.heap.size w140 U159 := by rw [← h161]; exact (Below.refl _ _).alloc (Nat.le_refl _) _
  have bn163 : Blk U159 w140.heap.size 29 #[.int .i64 x.key, .int .i64 x.val, .bool x.dead] := by rw [← h161]; exact Blk.new _ _ _
  try rw [h161]
  have HF164 := Lib.hid (bext HF142.out ba162)
  have HX165 := Lib.hid (HX143.out.below ba162 HX143.out.lt)
  have HX166 := Lib.hid (HX144.out.below ba162 HX144.out.lt)
  have HX167 := Lib.hid (HX145.out.below ba162 HX145.out.lt)
  have HX168 := Lib.hid (HX146.out.below ba162 HX146.out.lt)
  have HY169 := Lib.hid (RunsAt.below HY147.out ba162)
  have HY170 := Lib.hid (tab_below' HY148.out ba162)
  have HY171 := Lib.hid (RunsAt.below HY149.out ba162)
  have HY172 := Lib.hid (bext HY150.out ba162)
  have HY173 := Lib.hid (HY151.out.below ba162)
  have HY174 := Lib.hid (own_below HY152.out ba162)
  have HY175 := Lib.hid (Ki3.belowS ba162 HY153.out)
  have HY176 := Lib.hid (HY154.out.below ba162)
  have HY177 := Lib.hid (HY155.out.below ba162)
  have HY178 := Lib.hid (own_below HY156.out ba162)
  have HY179 := Lib.hid (Ki3.belowS ba162 HY157.out)
  have HY180 := Lib.hid (HY158.out.below ba162)
  clear HF142 HX143 HX144 HX145 HX146 HY147 HY148 HY149 HY150 HY151 HY152 HY153 HY154 HY155 HY156 HY157 HY158
  obtain ⟨g160, h181⟩ : ∃ g, w140.heap.size = g := ⟨_, rfl⟩
  rw [h181] at bn163
  try rw [h181]
  have HX182 := Lib.hid bn163
  clear h161 ba162 bn163 h181
  go_wp2_with fail
  refine (refFind25_any B Rs c key _ HY169.out (by omega) HRB.out).mono ?_
  rw [HLS.out, HX.out, HQ.out]
  rintro e w183 ⟨rfl, hb184⟩
  have HF185 := Lib.hid (bext HF164.out hb184)
  have HX186 := Lib.hid (HX165.out.below hb184 HX165.out.lt)
  have HX187 := Lib.hid (HX166.out.below hb184 HX166.out.lt)
  have HX188 := Lib.hid (HX167.out.below hb184 HX167.out.lt)
  have HX189 := Lib.hid (HX168.out.below hb184 HX168.out.lt)
  have HX190 := Lib.hid (HX182.out.below hb184 HX182.out.lt)
  have HY191 := Lib.hid (RunsAt.below HY169.out hb184)
  have HY192 := Lib.hid (tab_below' HY170.out hb184)
  have HY193 := Lib.hid (RunsAt.below HY171.out hb184)
  have HY194 := Lib.hid (bext HY172.out hb184)
  have HY195 := Lib.hid (HY173.out.below hb184)
  have HY196 := Lib.hid (own_below HY174.out hb184)
  have HY197 := Lib.hid (Ki3.belowS hb184 HY175.out)
  have HY198 := Lib.hid (HY176.out.below hb184)
  have HY199 := Lib.hid (HY177.out.below hb184)
  have HY200 := Lib.hid (own_below HY178.out hb184)
  have HY201 := Lib.hid (Ki3.belowS hb184 HY179.out)
  have HY202 := Lib.hid (HY180.out.below hb184)
  clear HF164 HX165 HX166 HX167 HX168 HX182 HY169 HY170 HY171 HY172 HY173 HY174 HY175 HY176 HY177 HY178 HY179 HY180
  clear hb184
  go_upto_region 10 with fail
  obtain ⟨U203, h205⟩ : ∃ U, w183.alloc (.cells #[.int .i64 x.key, .int .i64 x.val, .bool x.dead] 29) = U := ⟨_, rfl⟩
  have ba206 : Below w183.heap.size w183 U203 := by rw [← h205]; exact (Below.refl _ _).alloc (Nat.le_refl _) _
  have bn207 : Blk U203 w183.heap.size 29 #[.int .i64 x.key, .int .i64 x.val, .bool x.dead] := by rw [← h205]; exact Blk.new _ _ _
  try rw [h205]
  have HF208 := Lib.hid (bext HF185.out ba206)
  have HX209 := Lib.hid (HX186.out.below ba206 HX186.out.lt)
  have HX210 := Lib.hid (HX187.out.below ba206 HX187.out.lt)
  have HX211 := Lib.hid (HX188.out.below ba206 HX188.out.lt)
  have HX212 := Lib.hid (HX189.out.below ba206 HX189.out.lt)
  have HX213 := Lib.hid (HX190.out.below ba206 HX190.out.lt)
  have HY214 := Lib.hid (RunsAt.below HY191.out ba206)
  have HY215 := Lib.hid (tab_below' HY192.out ba206)
  have HY216 := Lib.hid (RunsAt.below HY193.out ba206)
  have HY217 := Lib.hid (bext HY194.out ba206)
  have HY218 := Lib.hid (HY195.out.below ba206)
  have HY219 := Lib.hid (own_below HY196.out ba206)
  have HY220 := Lib.hid (Ki3.belowS ba206 HY197.out)
  have HY221 := Lib.hid (HY198.out.below ba206)
  have HY222 := Lib.hid (HY199.out.below ba206)
  have HY223 := Lib.hid (own_below HY200.out ba206)
  have HY224 := Lib.hid (Ki3.belowS ba206 HY201.out)
  have HY225 := Lib.hid (HY202.out.below ba206)
  clear HF185 HX186 HX187 HX188 HX189 HX190 HY191 HY192 HY193 HY194 HY195 HY196 HY197 HY198 HY199 HY200 HY201 HY202
  obtain ⟨g204, h226⟩ : ∃ g, w183.heap.size = g := ⟨_, rfl⟩
  rw [h226] at bn207
  try rw [h226]
  have HX227 := Lib.hid bn207
  clear h205 ba206 bn207 h226
  have c228 : U203.cell? ⟨g20, 0, none⟩ = some (.slice A1 M.length c1) := HX209.out.cell 0
  have l229 : g20 < U203.heap.size := HX209.out.lt
  have c230 : U203.cell? ⟨g47, 0, none⟩ = some (.slice A2 M.length c2) := HX210.out.cell 0
  have l231 : g47 < U203.heap.size := HX210.out.lt
  go_wp2_with fail
  clear c228 l229 c230 l231
  refine (refSame_any A1 A2 M M c1 c2 _ HY218.out HY221.out (by omega) (by omega)).mono ?_
  rw [decide_eq_true rfl]
  rintro e w232 ⟨rfl, hb233⟩
  have HF234 := Lib.hid (bext HF208.out hb233)
  have HX235 := Lib.hid (HX209.out.below hb233 HX209.out.lt)
  have HX236 := Lib.hid (HX210.out.below hb233 HX210.out.lt)
  have HX237 := Lib.hid (HX211.out.below hb233 HX211.out.lt)
  have HX238 := Lib.hid (HX212.out.below hb233 HX212.out.lt)
  have HX239 := Lib.hid (HX213.out.below hb233 HX213.out.lt)
  have HX240 := Lib.hid (HX227.out.below hb233 HX227.out.lt)
  have HY241 := Lib.hid (RunsAt.below HY214.out hb233)
  have HY242 := Lib.hid (tab_below' HY215.out hb233)
  have HY243 := Lib.hid (RunsAt.below HY216.out hb233)
  have HY244 := Lib.hid (bext HY217.out hb233)
  have HY245 := Lib.hid (HY218.out.below hb233)
  have HY246 := Lib.hid (own_below HY219.out hb233)
  have HY247 := Lib.hid (Ki3.belowS hb233 HY220.out)
  have HY248 := Lib.hid (HY221.out.below hb233)
  have HY249 := Lib.hid (HY222.out.below hb233)
  have HY250 := Lib.hid (own_below HY223.out hb233)
  have HY251 := Lib.hid (Ki3.belowS hb233 HY224.out)
  have HY252 := Lib.hid (HY225.out.below hb233)
  clear HF208 HX209 HX210 HX211 HX212 HX213 HX227 HY214 HY215 HY216 HY217 HY218 HY219 HY220 HY221 HY222 HY223 HY224 HY225
  clear hb233
  have c253 : w232.cell? ⟨g79, 0, none⟩ = some (.slice A3 N.length c3) := HX237.out.cell 0
  have l254 : g79 < w232.heap.size := HX237.out.lt
  have c255 : w232.cell? ⟨g118, 0, none⟩ = some (.slice A4 N.length c4) := HX238.out.cell 0
  have l256 : g118 < w232.heap.size := HX238.out.lt
  go_wp2_with fail
  clear c253 l254 c255 l256
  refine (refSame_any A3 A4 N N c3 c4 _ HY249.out HY252.out (by omega) (by omega)).mono ?_
  rw [decide_eq_true rfl]
  rintro e w257 ⟨rfl, hb258⟩
  have HF259 := Lib.hid (bext HF234.out hb258)
  have HX260 := Lib.hid (HX235.out.below hb258 HX235.out.lt)
  have HX261 := Lib.hid (HX236.out.below hb258 HX236.out.lt)
  have HX262 := Lib.hid (HX237.out.below hb258 HX237.out.lt)
  have HX263 := Lib.hid (HX238.out.below hb258 HX238.out.lt)
  have HX264 := Lib.hid (HX239.out.below hb258 HX239.out.lt)
  have HX265 := Lib.hid (HX240.out.below hb258 HX240.out.lt)
  have HY266 := Lib.hid (RunsAt.below HY241.out hb258)
  have HY267 := Lib.hid (tab_below' HY242.out hb258)
  have HY268 := Lib.hid (RunsAt.below HY243.out hb258)
  have HY269 := Lib.hid (bext HY244.out hb258)
  have HY270 := Lib.hid (HY245.out.below hb258)
  have HY271 := Lib.hid (own_below HY246.out hb258)
  have HY272 := Lib.hid (Ki3.belowS hb258 HY247.out)
  have HY273 := Lib.hid (HY248.out.below hb258)
  have HY274 := Lib.hid (HY249.out.below hb258)
  have HY275 := Lib.hid (own_below HY250.out hb258)
  have HY276 := Lib.hid (Ki3.belowS hb258 HY251.out)
  have HY277 := Lib.hid (HY252.out.below hb258)
  clear HF234 HX235 HX236 HX237 HX238 HX239 HX240 HY241 HY242 HY243 HY244 HY245 HY246 HY247 HY248 HY249 HY250 HY251 HY252
  clear hb258
  have c278 : w257.cell? ⟨g160, 0, none⟩ = some (.int .i64 x.key) := HX264.out.cell 0
  have c279 : w257.cell? ⟨g160, 1, none⟩ = some (.int .i64 x.val) := HX264.out.cell 1
  have c280 : w257.cell? ⟨g160, 2, none⟩ = some (.bool x.dead) := HX264.out.cell 2
  have l281 : g160 < w257.heap.size := HX264.out.lt
  have c282 : w257.cell? ⟨g204, 0, none⟩ = some (.int .i64 x.key) := HX265.out.cell 0
  have c283 : w257.cell? ⟨g204, 1, none⟩ = some (.int .i64 x.val) := HX265.out.cell 1
  have c284 : w257.cell? ⟨g204, 2, none⟩ = some (.bool x.dead) := HX265.out.cell 2
  have l285 : g204 < w257.heap.size := HX265.out.lt
  have hxx := fun w => run_eql_ent x x w
  have hxy := eqX_self x
  go_upto_region 11 with fail
  clear hxx hxy
  clear c278 c279 c280 l281 c282 c283 c284 l285
  have HK := Lib.hid (And.intro HY269.out (And.intro HX260.out (And.intro HX262.out (And.intro HY272.out HY276.out))))
  have HKa := HK
  have HRO := Lib.hid HY268.out
  go_wp2_with fail
  go_loopw [19] (fun i wr => ∃ k : Nat, k ≤ M.length ∧ i = .int .i64 k ∧ Hid (Kw w3 g20 g79 A1 A3 c1 c3 M.length N.length wr)) (fun i _ => M.length - (intOf i).toNat)
  case atStart => exact ⟨0, Nat.zero_le _, rfl, HK.out.2.1, HK.out.1, HK.out.2.2.1, HK.out.2.2.2.1, HK.out.2.2.2.2⟩
  case round =>
    obtain ⟨k, hk, rfl, hK⟩ := hrel
    have c8' : wr.cell? ⟨g20, 0, none⟩ = some (.slice A1 M.length c1) := hK.out.ba.cell 0
    by_cases hlt : k < M.length
    · obtain ⟨gx, kx, rfl, hgx, hne, cc, ff⟩ := hK.out.ka.get hlt
      have i0 : (0 : Int) ≤ (k : Int) := by omega
      have i1 : (k : Int) < (M.length : Int) := by omega
      have hnc := hK.out.ne hgx cc
      go_wp2_with fail
      go_region
      all_goals
        go_wp2
        go_roundw
        case rel => exact ⟨k + 1, by omega, by go_num, hK.out.step hgx ⟨hnc.2, hnc.1⟩ _ _⟩
        case measure => simp [intOf]; omega
    · go_wp2_with fail
      go_loopw [20] (fun i wr2 => ∃ k : Nat, k ≤ N.length ∧ i = .int .i64 k ∧ Hid (Kw w3 g20 g79 A1 A3 c1 c3 M.length N.length wr2)) (fun i _ => N.length - (intOf i).toNat)
      case atStart => exact ⟨0, Nat.zero_le _, rfl, hK.out⟩
      case round =>
        clear hK c8'
        obtain ⟨j, hj, rfl, hK⟩ := hrel
        have c8' : wr.cell? ⟨g79, 0, none⟩ = some (.slice A3 N.length c3) := hK.out.bc.cell 0
        by_cases hlt2 : j < N.length
        · obtain ⟨gx, kx, rfl, hgx, hne, cc, ff⟩ := hK.out.kc.get hlt2
          have i0 : (0 : Int) ≤ (j : Int) := by omega
          have i1 : (j : Int) < (N.length : Int) := by omega
          have hnc := hK.out.ne hgx cc
          go_wp2_with fail
          go_region
          all_goals
            go_wp2
            go_roundw
            case rel => exact ⟨j + 1, by omega, by go_num, hK.out.step hgx ⟨hnc.2, hnc.1⟩ _ _⟩
            case measure => simp [intOf]; omega
        · go_wp2_with fail
          refine (sameAll_yes B Ao Rs Ts Ts.length c co _ rfl (HBU.out.below hK.out.bel) (HOU.out.below hK.out.bel) (by rw [HTS.out, HLS.out]) (by omega) HRS.out).mono ?_
          rintro e w9 ⟨rfl, hb9⟩
          go_wp2
          go_ret
          exact ⟨rfl, bext HWU.out (bext hK.out.bel hb9)⟩
end Go.Proofs.YtokomclcgegfkaaDoor
