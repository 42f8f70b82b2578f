/- Il Rv Iq Rsh Row Args: texts of the claim, in this order. -/
import Derived.Test.YthdcllnmnmemdaaRs16
import Derived.Test.YthdcllnmnmemdaaRs1
import Derived.Test.YthdcllnmnmemdaaRs9
import Derived.Test.YthdcllnmnmemdaaRs7
import Derived.Test.YthdcllnmnmemdaaRs11
import Derived.ProofKit
import Derived.OpenShut
import Derived.JoinedCond
import Derived.Deep.Slices
import Derived.Test.YthdcllnmnmemdaaProg
/- Contract: the chapter's examples of levels (alive of law26). -/
namespace Go.Proofs.Ythdcllnmnmemdaa
open Go Go.RowKit
set_option maxRecDepth 100000
theorem alS1 : letS [] 0 [x5, x7, x6] = ([[x6], [x7, x5]], 5, 0) := by
  rw [letS, if_pos al1E, al1.1, al1.2, letS, if_pos al2E, al2.1, al2.2, letS, if_pos al3E, al3.1, al3.2, letS]
theorem alS2 : letS [[x6], [x7, x5]] 5 [k5] = ([[], [x7, x6]], 10, 0) := by
  rw [letS, if_pos al4E, al4.1, al4.2, letS]
theorem srt1 (a : Ent) (h : chkE [a] = 0) : sortL [a] = [a] := by unfold sortL; rw [if_pos h, in_1]
theorem srt2 (a b : Ent) (h : chkE [b, a] = 0) : sortL [b, a] = [a, b] := by unfold sortL; rw [if_pos h, in_2]
theorem al4M : May [[], [x7, x6]] := by have h := (add_may al4E 5).1; rwa [al4.1] at h
theorem alT1 : standsB [[x6], [x7, x5]] 0 [x6] = true := by
  have h : chkE [x6] = 0 := al3M.chk 0
  unfold standsB
  rw [show lev [[x6], [x7, x5]] 0 = [x6] from rfl, srt1 _ h, decide_eq_true h]
  decide
theorem alT2 : standsB [[x6], [x7, x5]] 1 [x5, x7] = true := by
  have h : chkE [x7, x5] = 0 := al3M.chk 1
  unfold standsB
  rw [show lev [[x6], [x7, x5]] 1 = [x7, x5] from rfl, srt2 _ _ h, decide_eq_true h]
  decide
theorem alT3 : standsB [[], [x7, x6]] 0 [] = true := by
  have h : chkE [] = 0 := al4M.chk 0
  unfold standsB
  rw [show lev [[], [x7, x6]] 0 = [] from rfl, show sortL [] = [] by unfold sortL; rw [if_pos h, in_0], decide_eq_true h]
  decide
theorem alT4 : standsB [[], [x7, x6]] 1 [x6, x7] = true := by
  have h : chkE [x7, x6] = 0 := al4M.chk 1
  unfold standsB
  rw [show lev [[], [x7, x6]] 1 = [x7, x6] from rfl, srt2 _ _ h, decide_eq_true h]
  decide
theorem rs_of {Rs : List Rm} {L : Lv} {T : Nat} (h : lvs Rs = L) (h1 : tot L ≤ T) (h2 : L.length ≤ 17) (h3 : T ≤ 1000000 := by omega) : Rs.length ≤ 1000000 ∧ ∀ r ∈ Rs, r.l.length ≤ 1000000 := by
  refine ⟨by rw [rs_len h]; omega, fun r hr => ?_⟩
  have h5 := le_sum (List.mem_map.2 ⟨r.l, List.mem_map.2 ⟨r, hr, rfl⟩, rfl⟩ : r.l.length ∈ ((lvs Rs).map List.length))
  rw [h] at h5
  unfold tot at h1
  omega
set_option maxHeartbeats 8000000 in
theorem alive26_any (w : World) : Calls Try.prog 14 #[] w fun r w' => r = .returned (.bool true) ∧ Below w.heap.size w w' := by
  go_enter Try.func14, Try.ntmps14
  have HF := Lib.hid (Below.refl w.heap.size w)
  go_upto_region 2 with fail
  obtain ⟨U1, h2⟩ : ∃ U, ((w.alloc (.cells #[.int .i64 5, .int .i64 1, .bool false] 27)).alloc (.cells #[.int .i64 6, .int .i64 2, .bool false] 27)).alloc (.cells #[.int .i64 7, .int .i64 3, .bool false] 27) = U := ⟨_, rfl⟩
  have ba3 : Below w.heap.size w U1 := by rw [← h2]; exact (((Below.refl _ _).alloc (by first | (simp; done) | (simp; omega)) _).alloc (by first | (simp; done) | (simp; omega)) _).alloc (by first | (simp; done) | (simp; omega)) _
  have bn4 : Blk U1 (w.heap.size) 27 #[.int .i64 5, .int .i64 1, .bool false] := by
    rw [← h2]
    have hq := (Blk.new w 27 #[.int .i64 5, .int .i64 1, .bool false])
    exact ((hq.alloc _).alloc _)
  have bn5 : Blk U1 (w.heap.size + 1) 27 #[.int .i64 6, .int .i64 2, .bool false] := by
    rw [← h2]
    have hq := (Blk.new (w.alloc (.cells #[.int .i64 5, .int .i64 1, .bool false] 27)) 27 #[.int .i64 6, .int .i64 2, .bool false])
    simp only [World.size_alloc] at hq
    exact (hq.alloc _)
  have bn6 : Blk U1 (w.heap.size + 1 + 1) 27 #[.int .i64 7, .int .i64 3, .bool false] := by
    rw [← h2]
    have hq := (Blk.new ((w.alloc (.cells #[.int .i64 5, .int .i64 1, .bool false] 27)).alloc (.cells #[.int .i64 6, .int .i64 2, .bool false] 27)) 27 #[.int .i64 7, .int .i64 3, .bool false])
    simp only [World.size_alloc] at hq
    exact hq
  try rw [h2]
  have HF7 := Lib.hid (bext HF.out ba3)
  clear HF
  obtain ⟨g8, h9⟩ : ∃ g, (w.heap.size + 1 + 1) = g := ⟨_, rfl⟩
  rw [h9] at bn6
  try rw [h9]
  have HX10 := Lib.hid bn6
  clear bn6 h9
  obtain ⟨g11, h12⟩ : ∃ g, (w.heap.size + 1) = g := ⟨_, rfl⟩
  rw [h12] at bn5
  try rw [h12]
  have HX13 := Lib.hid bn5
  clear bn5 h12
  obtain ⟨g14, h15⟩ : ∃ g, (w.heap.size) = g := ⟨_, rfl⟩
  rw [h15] at bn4
  try rw [h15]
  have HX16 := Lib.hid bn4
  clear bn4 h15
  clear h2 ba3
  have c17 : U1.cell? ⟨g14, 0, none⟩ = some (.int .i64 5) := HX16.out.cell 0
  have c18 : U1.cell? ⟨g14, 1, none⟩ = some (.int .i64 1) := HX16.out.cell 1
  have c19 : U1.cell? ⟨g14, 2, none⟩ = some (.bool false) := HX16.out.cell 2
  have l20 : g14 < U1.heap.size := HX16.out.lt
  have c21 : U1.cell? ⟨g8, 0, none⟩ = some (.int .i64 7) := HX10.out.cell 0
  have c22 : U1.cell? ⟨g8, 1, none⟩ = some (.int .i64 3) := HX10.out.cell 1
  have c23 : U1.cell? ⟨g8, 2, none⟩ = some (.bool false) := HX10.out.cell 2
  have l24 : g8 < U1.heap.size := HX10.out.lt
  have c25 : U1.cell? ⟨g11, 0, none⟩ = some (.int .i64 6) := HX13.out.cell 0
  have c26 : U1.cell? ⟨g11, 1, none⟩ = some (.int .i64 2) := HX13.out.cell 1
  have c27 : U1.cell? ⟨g11, 2, none⟩ = some (.bool false) := HX13.out.cell 2
  have l28 : g11 < U1.heap.size := HX13.out.lt
  go_wp2_with fail
  clear c17 c18 c19 l20 c21 c22 c23 l24 c25 c26 c27 l28
  obtain ⟨U29, h30⟩ : ∃ U, U1.alloc (.cells #[.int .i64 5, .int .i64 1, .bool false, .int .i64 7, .int .i64 3, .bool false, .int .i64 6, .int .i64 2, .bool false] 27) = U := ⟨_, rfl⟩
  have ba31 : Below U1.heap.size U1 U29 := by rw [← h30]; exact (Below.refl _ _).alloc (Nat.le_refl _) _
  have sl32 : Sl U29 (some ⟨U1.heap.size, 0, none⟩) ([x5, x7, x6].flatMap Ent.cells) := by rw [← h30]; exact sl_new1 _ _ _
  try rw [h30]
  have HF35 := Lib.hid (bext HF7.out ba31)
  have HX36 := Lib.hid (HX10.out.below ba31 HX10.out.lt)
  have HX37 := Lib.hid (HX13.out.below ba31 HX13.out.lt)
  have HX38 := Lib.hid (HX16.out.below ba31 HX16.out.lt)
  clear HF7 HX10 HX13 HX16
  obtain ⟨g33, h34⟩ : ∃ g, U1.heap.size = g := ⟨_, rfl⟩
  rw [h34] at sl32
  try rw [h34]
  have HY39 := Lib.hid (sl32)
  clear h30 ba31 sl32 h34
  refine (let_any none (some ⟨g33, 0, none⟩) [] 0 3 0 [x5, x7, x6] _ (OwnRs.nil _ 0).runsAt (by decide) (by decide) HY39.out (by decide)).mono ?_
  rintro e w40 ⟨Ba, ca, Ra, hra, hla, hoa, hb41⟩
  have heqa : letS (lvs []) 0 [x5, x7, x6] = ([[x6], [x7, x5]], 5, 0) := alS1
  rw [heqa] at hra hla
  obtain rfl := hra
  dsimp only at hla
  have hna : Ra.length = 2 := by rw [rs_len hla]; rfl
  rw [hna]
  have KNa := Lib.hid hna
  have KLa := Lib.hid hla
  have KSa := Lib.hid (rs_of (T := 10) hla (by decide) (by decide))
  clear hna hla heqa
  have HF42 := Lib.hid (bext HF35.out hb41)
  have HX43 := Lib.hid (HX36.out.below hb41 HX36.out.lt)
  have HX44 := Lib.hid (HX37.out.below hb41 HX37.out.lt)
  have HX45 := Lib.hid (HX38.out.below hb41 HX38.out.lt)
  have HY46 := Lib.hid (HY39.out.below hb41)
  clear HF35 HX36 HX37 HX38 HY39
  clear hb41
  have HY47 := Lib.hid (hoa)
  clear hoa
  go_upto_region 3 with fail
  obtain ⟨U48, h50⟩ : ∃ U, w40.alloc (.cells #[.slice Ba 2 ca, .int .u64 5] 25) = U := ⟨_, rfl⟩
  have ba51 : Below w40.heap.size w40 U48 := by rw [← h50]; exact (Below.refl _ _).alloc (Nat.le_refl _) _
  have bn52 : Blk U48 w40.heap.size 25 #[.slice Ba 2 ca, .int .u64 5] := by rw [← h50]; exact Blk.new _ _ _
  try rw [h50]
  have HF53 := Lib.hid (bext HF42.out ba51)
  have HX54 := Lib.hid (HX43.out.below ba51 HX43.out.lt)
  have HX55 := Lib.hid (HX44.out.below ba51 HX44.out.lt)
  have HX56 := Lib.hid (HX45.out.below ba51 HX45.out.lt)
  have HY57 := Lib.hid (HY46.out.below ba51)
  have HY58 := Lib.hid (RunsAt.below HY47.out ba51)
  clear HF42 HX43 HX44 HX45 HY46 HY47
  obtain ⟨g49, h59⟩ : ∃ g, w40.heap.size = g := ⟨_, rfl⟩
  rw [h59] at bn52
  try rw [h59]
  have HX60 := Lib.hid bn52
  clear h50 ba51 bn52 h59
  have c61 : U48.cell? ⟨g49, 0, none⟩ = some (.slice Ba 2 ca) := HX60.out.cell 0
  have c62 : U48.cell? ⟨g49, 1, none⟩ = some (.int .u64 5) := HX60.out.cell 1
  have l63 : g49 < U48.heap.size := HX60.out.lt
  go_wp2_with fail
  clear c61 c62 l63
  obtain ⟨U64, h65⟩ : ∃ U, U48.alloc (.cells #[.int .i64 5, .int .i64 0, .bool true] 27) = U := ⟨_, rfl⟩
  have ba66 : Below U48.heap.size U48 U64 := by rw [← h65]; exact (Below.refl _ _).alloc (Nat.le_refl _) _
  have sl67 : Sl U64 (some ⟨U48.heap.size, 0, none⟩) ([k5].flatMap Ent.cells) := by rw [← h65]; exact sl_new1 _ _ _
  try rw [h65]
  have HF70 := Lib.hid (bext HF53.out ba66)
  have HX71 := Lib.hid (HX54.out.below ba66 HX54.out.lt)
  have HX72 := Lib.hid (HX55.out.below ba66 HX55.out.lt)
  have HX73 := Lib.hid (HX56.out.below ba66 HX56.out.lt)
  have HX74 := Lib.hid (HX60.out.below ba66 HX60.out.lt)
  have HY75 := Lib.hid (HY57.out.below ba66)
  have HY76 := Lib.hid (RunsAt.below HY58.out ba66)
  clear HF53 HX54 HX55 HX56 HX60 HY57 HY58
  obtain ⟨g68, h69⟩ : ∃ g, U48.heap.size = g := ⟨_, rfl⟩
  rw [h69] at sl67
  try rw [h69]
  have HY77 := Lib.hid (sl67)
  clear h65 ba66 sl67 h69
  have hlet := fun W hB hA => let_any Ba (some ⟨g68, 0, none⟩) Ra ca 1 5 [k5] W hB (by rw [KLa.out]; decide) KSa.out.1 hA (by decide)
  rw [KNa.out, KLa.out, alS2] at hlet
  have HLET := Lib.hid hlet
  clear hlet
  refine (HLET.out _ HY76.out HY77.out).mono ?_
  rintro e w78 ⟨Bb, cb, Rb, hrb, hlb, hob, hb79⟩
  obtain rfl := hrb
  dsimp only at hlb
  have hnb : Rb.length = 2 := by rw [rs_len hlb]; rfl
  rw [hnb]
  have KNb := Lib.hid hnb
  have KLb := Lib.hid hlb
  have KSb := Lib.hid (rs_of (T := 10) hlb (by decide) (by decide))
  clear hnb hlb
  have HF80 := Lib.hid (bext HF70.out hb79)
  have HX81 := Lib.hid (HX71.out.below hb79 HX71.out.lt)
  have HX82 := Lib.hid (HX72.out.below hb79 HX72.out.lt)
  have HX83 := Lib.hid (HX73.out.below hb79 HX73.out.lt)
  have HX84 := Lib.hid (HX74.out.below hb79 HX74.out.lt)
  have HY85 := Lib.hid (HY77.out.below hb79)
  have HY86 := Lib.hid (RunsAt.below HY76.out hb79)
  clear HF70 HX71 HX72 HX73 HX74 HY77 HY76
  clear hb79
  have HY87 := Lib.hid (hob)
  clear hob
  go_upto_region 4 with fail
  obtain ⟨U88, h90⟩ : ∃ U, w78.alloc (.cells #[.slice Bb 2 cb, .int .u64 10] 25) = U := ⟨_, rfl⟩
  have ba91 : Below w78.heap.size w78 U88 := by rw [← h90]; exact (Below.refl _ _).alloc (Nat.le_refl _) _
  have bn92 : Blk U88 w78.heap.size 25 #[.slice Bb 2 cb, .int .u64 10] := by rw [← h90]; exact Blk.new _ _ _
  try rw [h90]
  have HF93 := Lib.hid (bext HF80.out ba91)
  have HX94 := Lib.hid (HX81.out.below ba91 HX81.out.lt)
  have HX95 := Lib.hid (HX82.out.below ba91 HX82.out.lt)
  have HX96 := Lib.hid (HX83.out.below ba91 HX83.out.lt)
  have HX97 := Lib.hid (HX84.out.below ba91 HX84.out.lt)
  have HY98 := Lib.hid (HY85.out.below ba91)
  have HY99 := Lib.hid (RunsAt.below HY86.out ba91)
  have HY100 := Lib.hid (RunsAt.below HY87.out ba91)
  clear HF80 HX81 HX82 HX83 HX84 HY85 HY86 HY87
  obtain ⟨g89, h101⟩ : ∃ g, w78.heap.size = g := ⟨_, rfl⟩
  rw [h101] at bn92
  try rw [h101]
  have HX102 := Lib.hid bn92
  clear h90 ba91 bn92 h101
  have c103 : U88.cell? ⟨g49, 0, none⟩ = some (.slice Ba 2 ca) := HX97.out.cell 0
  have c104 : U88.cell? ⟨g49, 1, none⟩ = some (.int .u64 5) := HX97.out.cell 1
  have l105 : g49 < U88.heap.size := HX97.out.lt
  have c106 : U88.cell? ⟨g11, 0, none⟩ = some (.int .i64 6) := HX95.out.cell 0
  have c107 : U88.cell? ⟨g11, 1, none⟩ = some (.int .i64 2) := HX95.out.cell 1
  have c108 : U88.cell? ⟨g11, 2, none⟩ = some (.bool false) := HX95.out.cell 2
  have l109 : g11 < U88.heap.size := HX95.out.lt
  go_wp2_with fail
  clear c103 c104 l105 c106 c107 c108 l109
  obtain ⟨U110, h111⟩ : ∃ U, U88.alloc (.cells #[.int .i64 6, .int .i64 2, .bool false] 27) = U := ⟨_, rfl⟩
  have ba112 : Below U88.heap.size U88 U110 := by rw [← h111]; exact (Below.refl _ _).alloc (Nat.le_refl _) _
  have sl113 : Sl U110 (some ⟨U88.heap.size, 0, none⟩) ([x6].flatMap Ent.cells) := by rw [← h111]; exact sl_new1 _ _ _
  try rw [h111]
  have HF116 := Lib.hid (bext HF93.out ba112)
  have HX117 := Lib.hid (HX94.out.below ba112 HX94.out.lt)
  have HX118 := Lib.hid (HX95.out.below ba112 HX95.out.lt)
  have HX119 := Lib.hid (HX96.out.below ba112 HX96.out.lt)
  have HX120 := Lib.hid (HX97.out.below ba112 HX97.out.lt)
  have HX121 := Lib.hid (HX102.out.below ba112 HX102.out.lt)
  have HY122 := Lib.hid (HY98.out.below ba112)
  have HY123 := Lib.hid (RunsAt.below HY99.out ba112)
  have HY124 := Lib.hid (RunsAt.below HY100.out ba112)
  clear HF93 HX94 HX95 HX96 HX97 HX102 HY98 HY99 HY100
  obtain ⟨g114, h115⟩ : ∃ g, U88.heap.size = g := ⟨_, rfl⟩
  rw [h115] at sl113
  try rw [h115]
  have HY125 := Lib.hid (sl113)
  clear h111 ba112 sl113 h115
  have hst := fun W hB hA => stands_any Ba (some ⟨g114, 0, none⟩) Ra ca 1 0 5 [x6] W hB KSa.out.1 KSa.out.2 hA (by decide) (by decide)
  rw [KNa.out, KLa.out, alT1] at hst
  have HST := Lib.hid hst
  clear hst
  refine (HST.out _ HY123.out HY125.out).mono ?_
  rintro e w126 ⟨rfl, hb127⟩
  have HF128 := Lib.hid (bext HF116.out hb127)
  have HX129 := Lib.hid (HX117.out.below hb127 HX117.out.lt)
  have HX130 := Lib.hid (HX118.out.below hb127 HX118.out.lt)
  have HX131 := Lib.hid (HX119.out.below hb127 HX119.out.lt)
  have HX132 := Lib.hid (HX120.out.below hb127 HX120.out.lt)
  have HX133 := Lib.hid (HX121.out.below hb127 HX121.out.lt)
  have HY134 := Lib.hid (HY125.out.below hb127)
  have HY135 := Lib.hid (RunsAt.below HY123.out hb127)
  have HY136 := Lib.hid (RunsAt.below HY124.out hb127)
  clear HF116 HX117 HX118 HX119 HX120 HX121 HY125 HY123 HY124
  clear hb127
  clear HST
  have c137 : w126.cell? ⟨g49, 0, none⟩ = some (.slice Ba 2 ca) := HX132.out.cell 0
  have c138 : w126.cell? ⟨g49, 1, none⟩ = some (.int .u64 5) := HX132.out.cell 1
  have l139 : g49 < w126.heap.size := HX132.out.lt
  have c140 : w126.cell? ⟨g14, 0, none⟩ = some (.int .i64 5) := HX131.out.cell 0
  have c141 : w126.cell? ⟨g14, 1, none⟩ = some (.int .i64 1) := HX131.out.cell 1
  have c142 : w126.cell? ⟨g14, 2, none⟩ = some (.bool false) := HX131.out.cell 2
  have l143 : g14 < w126.heap.size := HX131.out.lt
  have c144 : w126.cell? ⟨g8, 0, none⟩ = some (.int .i64 7) := HX129.out.cell 0
  have c145 : w126.cell? ⟨g8, 1, none⟩ = some (.int .i64 3) := HX129.out.cell 1
  have c146 : w126.cell? ⟨g8, 2, none⟩ = some (.bool false) := HX129.out.cell 2
  have l147 : g8 < w126.heap.size := HX129.out.lt
  go_wp2_with fail
  clear c137 c138 l139 c140 c141 c142 l143 c144 c145 c146 l147
  obtain ⟨U148, h149⟩ : ∃ U, w126.alloc (.cells #[.int .i64 5, .int .i64 1, .bool false, .int .i64 7, .int .i64 3, .bool false] 27) = U := ⟨_, rfl⟩
  have ba150 : Below w126.heap.size w126 U148 := by rw [← h149]; exact (Below.refl _ _).alloc (Nat.le_refl _) _
  have sl151 : Sl U148 (some ⟨w126.heap.size, 0, none⟩) ([x5, x7].flatMap Ent.cells) := by rw [← h149]; exact sl_new1 _ _ _
  try rw [h149]
  have HF154 := Lib.hid (bext HF128.out ba150)
  have HX155 := Lib.hid (HX129.out.below ba150 HX129.out.lt)
  have HX156 := Lib.hid (HX130.out.below ba150 HX130.out.lt)
  have HX157 := Lib.hid (HX131.out.below ba150 HX131.out.lt)
  have HX158 := Lib.hid (HX132.out.below ba150 HX132.out.lt)
  have HX159 := Lib.hid (HX133.out.below ba150 HX133.out.lt)
  have HY160 := Lib.hid (HY134.out.below ba150)
  have HY161 := Lib.hid (RunsAt.below HY135.out ba150)
  have HY162 := Lib.hid (RunsAt.below HY136.out ba150)
  clear HF128 HX129 HX130 HX131 HX132 HX133 HY134 HY135 HY136
  obtain ⟨g152, h153⟩ : ∃ g, w126.heap.size = g := ⟨_, rfl⟩
  rw [h153] at sl151
  try rw [h153]
  have HY163 := Lib.hid (sl151)
  clear h149 ba150 sl151 h153
  have hst := fun W hB hA => stands_any Ba (some ⟨g152, 0, none⟩) Ra ca 2 1 5 [x5, x7] W hB KSa.out.1 KSa.out.2 hA (by decide) (by decide)
  rw [KNa.out, KLa.out, alT2] at hst
  have HST := Lib.hid hst
  clear hst
  refine (HST.out _ HY161.out HY163.out).mono ?_
  rintro e w164 ⟨rfl, hb165⟩
  have HF166 := Lib.hid (bext HF154.out hb165)
  have HX167 := Lib.hid (HX155.out.below hb165 HX155.out.lt)
  have HX168 := Lib.hid (HX156.out.below hb165 HX156.out.lt)
  have HX169 := Lib.hid (HX157.out.below hb165 HX157.out.lt)
  have HX170 := Lib.hid (HX158.out.below hb165 HX158.out.lt)
  have HX171 := Lib.hid (HX159.out.below hb165 HX159.out.lt)
  have HY172 := Lib.hid (HY163.out.below hb165)
  have HY173 := Lib.hid (RunsAt.below HY161.out hb165)
  have HY174 := Lib.hid (RunsAt.below HY162.out hb165)
  clear HF154 HX155 HX156 HX157 HX158 HX159 HY163 HY161 HY162
  clear hb165
  clear HST
  have hst := fun W hB hA => stands_any Bb none Rb cb 0 0 10 [] W hB KSb.out.1 KSb.out.2 hA (by decide) (by decide)
  rw [KNb.out, KLb.out, alT3] at hst
  have HST := Lib.hid hst
  clear hst
  have c175 : w164.cell? ⟨g49, 0, none⟩ = some (.slice Ba 2 ca) := HX170.out.cell 0
  have c176 : w164.cell? ⟨g49, 1, none⟩ = some (.int .u64 5) := HX170.out.cell 1
  have l177 : g49 < w164.heap.size := HX170.out.lt
  have c178 : w164.cell? ⟨g89, 0, none⟩ = some (.slice Bb 2 cb) := HX171.out.cell 0
  have c179 : w164.cell? ⟨g89, 1, none⟩ = some (.int .u64 10) := HX171.out.cell 1
  have l180 : g89 < w164.heap.size := HX171.out.lt
  go_wp2_with fail
  clear c175 c176 l177 c178 c179 l180
  refine (HST.out _ HY174.out (.inl rfl)).mono ?_
  rintro e w181 ⟨rfl, hb182⟩
  have HF183 := Lib.hid (bext HF166.out hb182)
  have HX184 := Lib.hid (HX167.out.below hb182 HX167.out.lt)
  have HX185 := Lib.hid (HX168.out.below hb182 HX168.out.lt)
  have HX186 := Lib.hid (HX169.out.below hb182 HX169.out.lt)
  have HX187 := Lib.hid (HX170.out.below hb182 HX170.out.lt)
  have HX188 := Lib.hid (HX171.out.below hb182 HX171.out.lt)
  have HY189 := Lib.hid (HY172.out.below hb182)
  have HY190 := Lib.hid (RunsAt.below HY173.out hb182)
  have HY191 := Lib.hid (RunsAt.below HY174.out hb182)
  clear HF166 HX167 HX168 HX169 HX170 HX171 HY172 HY173 HY174
  clear hb182
  clear HST
  have c192 : w181.cell? ⟨g89, 0, none⟩ = some (.slice Bb 2 cb) := HX188.out.cell 0
  have c193 : w181.cell? ⟨g89, 1, none⟩ = some (.int .u64 10) := HX188.out.cell 1
  have l194 : g89 < w181.heap.size := HX188.out.lt
  have c195 : w181.cell? ⟨g11, 0, none⟩ = some (.int .i64 6) := HX185.out.cell 0
  have c196 : w181.cell? ⟨g11, 1, none⟩ = some (.int .i64 2) := HX185.out.cell 1
  have c197 : w181.cell? ⟨g11, 2, none⟩ = some (.bool false) := HX185.out.cell 2
  have l198 : g11 < w181.heap.size := HX185.out.lt
  have c199 : w181.cell? ⟨g8, 0, none⟩ = some (.int .i64 7) := HX184.out.cell 0
  have c200 : w181.cell? ⟨g8, 1, none⟩ = some (.int .i64 3) := HX184.out.cell 1
  have c201 : w181.cell? ⟨g8, 2, none⟩ = some (.bool false) := HX184.out.cell 2
  have l202 : g8 < w181.heap.size := HX184.out.lt
  go_wp2_with fail
  clear c192 c193 l194 c195 c196 c197 l198 c199 c200 c201 l202
  obtain ⟨U203, h204⟩ : ∃ U, w181.alloc (.cells #[.int .i64 6, .int .i64 2, .bool false, .int .i64 7, .int .i64 3, .bool false] 27) = U := ⟨_, rfl⟩
  have ba205 : Below w181.heap.size w181 U203 := by rw [← h204]; exact (Below.refl _ _).alloc (Nat.le_refl _) _
  have sl206 : Sl U203 (some ⟨w181.heap.size, 0, none⟩) ([x6, x7].flatMap Ent.cells) := by rw [← h204]; exact sl_new1 _ _ _
  try rw [h204]
  have HF209 := Lib.hid (bext HF183.out ba205)
  have HX210 := Lib.hid (HX184.out.below ba205 HX184.out.lt)
  have HX211 := Lib.hid (HX185.out.below ba205 HX185.out.lt)
  have HX212 := Lib.hid (HX186.out.below ba205 HX186.out.lt)
  have HX213 := Lib.hid (HX187.out.below ba205 HX187.out.lt)
  have HX214 := Lib.hid (HX188.out.below ba205 HX188.out.lt)
  have HY215 := Lib.hid (HY189.out.below ba205)
  have HY216 := Lib.hid (RunsAt.below HY190.out ba205)
  have HY217 := Lib.hid (RunsAt.below HY191.out ba205)
  clear HF183 HX184 HX185 HX186 HX187 HX188 HY189 HY190 HY191
  obtain ⟨g207, h208⟩ : ∃ g, w181.heap.size = g := ⟨_, rfl⟩
  rw [h208] at sl206
  try rw [h208]
  have HY218 := Lib.hid (sl206)
  clear h204 ba205 sl206 h208
  have hst := fun W hB hA => stands_any Bb (some ⟨g207, 0, none⟩) Rb cb 2 1 10 [x6, x7] W hB KSb.out.1 KSb.out.2 hA (by decide) (by decide)
  rw [KNb.out, KLb.out, alT4] at hst
  have HST := Lib.hid hst
  clear hst
  refine (HST.out _ HY217.out HY218.out).mono ?_
  rintro e w219 ⟨rfl, hb220⟩
  have HF221 := Lib.hid (bext HF209.out hb220)
  have HX222 := Lib.hid (HX210.out.below hb220 HX210.out.lt)
  have HX223 := Lib.hid (HX211.out.below hb220 HX211.out.lt)
  have HX224 := Lib.hid (HX212.out.below hb220 HX212.out.lt)
  have HX225 := Lib.hid (HX213.out.below hb220 HX213.out.lt)
  have HX226 := Lib.hid (HX214.out.below hb220 HX214.out.lt)
  have HY227 := Lib.hid (HY218.out.below hb220)
  have HY228 := Lib.hid (RunsAt.below HY216.out hb220)
  have HY229 := Lib.hid (RunsAt.below HY217.out hb220)
  clear HF209 HX210 HX211 HX212 HX213 HX214 HY218 HY216 HY217
  clear hb220
  clear HST
  have c230 : w219.cell? ⟨g89, 0, none⟩ = some (.slice Bb 2 cb) := HX226.out.cell 0
  have c231 : w219.cell? ⟨g89, 1, none⟩ = some (.int .u64 10) := HX226.out.cell 1
  have l232 : g89 < w219.heap.size := HX226.out.lt
  go_wp2_with fail
  go_ret
  refine ⟨?_, HF221.out⟩
  rfl
end Go.Proofs.Ythdcllnmnmemdaa

/- The plain law behind RunWhole: what Get, Pairs, Next and Last answer together. -/
namespace Go.Proofs.Ythdcllnmnmemdaa
open Go Go.RowKit
set_option maxRecDepth 100000

theorem ris_le {m : List Ent} (h : RisE m) {i j : Nat} (hij : i ≤ j) (hj : j < m.length) : (m[i]'(by omega)).key ≤ (m[j]'hj).key := by
  by_cases he : i = j
  · subst he; exact Int.le_refl _
  · exact Int.le_of_lt (List.pairwise_iff_getElem.1 h i j (by omega) hj (by omega))
theorem nx_yes {l : List Ent} {key : Int} (h : chkE l = 0) (hB : belK (inL l) key < (inL l).length) : nxE l key = 0 ∧ nxX l key = (inL l)[belK (inL l) key]'hB := by
  have hl := inL_length l
  rw [← hl] at *
  unfold nxE nxX
  rw [if_pos h, if_pos h, ← bel_in, if_neg (by rw [← inL_length l]; omega), List.getD_eq_getElem?_getD, List.getElem?_eq_getElem hB]
  exact ⟨rfl, rfl⟩
theorem nx_no {l : List Ent} {key : Int} (h : chkE l = 0) (hB : ¬ belK (inL l) key < (inL l).length) : nxE l key = 6 ∧ nxX l key = zeroE := by
  have hB2 := belK_le (inL l) key
  unfold nxE nxX
  rw [if_pos h, if_pos h, ← bel_in, if_pos (by rw [← inL_length l]; omega), List.getD_eq_getElem?_getD, List.getElem?_eq_none (by omega)]
  exact ⟨rfl, rfl⟩
theorem ls_yes {l : List Ent} {key : Int} (h : chkE l = 0) (hB : 0 < belK (inL l) key) : lsE l key = 0 ∧ lsX l key = (inL l)[belK (inL l) key - 1]'(by have := belK_le (inL l) key; omega) := by
  have hB2 := belK_le (inL l) key
  unfold lsE lsX inAt
  rw [if_pos h, if_pos h, ← bel_in, if_neg (by omega), if_neg (by omega), List.getD_eq_getElem?_getD, List.getElem?_eq_getElem (by omega)]
  exact ⟨rfl, rfl⟩
theorem ls_no {l : List Ent} {key : Int} (h : chkE l = 0) (hB : ¬ 0 < belK (inL l) key) : lsE l key = 6 := by
  unfold lsE
  rw [if_pos h, ← bel_in, if_pos (by omega)]
theorem gt_in {l : List Ent} (h : chkE l = 0) (key : Int) : gtE l key = (if (look (inL l) key).isSome then 0 else 6) ∧ gtX l key = (look (inL l) key).getD zeroE := by
  unfold gtE gtX
  rw [if_pos h, if_pos h, look_in h]
  exact ⟨rfl, rfl⟩
/-- an entry's rank says whether its key is below -/
theorem in_rank {l : List Ent} (h : chkE l = 0) (key : Int) {i : Nat} (hi : i < l.length) : ∃ (j : Nat) (hj : j < (inL l).length), (inL l)[j]'hj = l[i]'hi ∧ ((l[i]'hi).key < key ↔ j < belK (inL l) key) := by
  have hm : l[i]'hi ∈ inL l := (inL_perm l).mem_iff.2 (List.getElem_mem hi)
  obtain ⟨j, hj, he⟩ := List.getElem_of_mem hm
  exact ⟨j, hj, he, by rw [← he]; exact ris_count key (chk_ris h) j hj⟩
theorem mem_plain {m : List Ent} {k v : Int} : (⟨k, v⟩ : Pr) ∈ plainE m ↔ (⟨k, v, false⟩ : Ent) ∈ m := by
  unfold plainE liveE
  rw [List.mem_map]
  constructor
  · rintro ⟨⟨k', v', d'⟩, he, hq⟩
    obtain ⟨h1, h2⟩ := List.mem_filter.1 he
    injection hq with h3 h4
    subst h3 h4
    cases d'
    · exact h1
    · simp at h2
  · intro hq
    exact ⟨_, List.mem_filter.2 ⟨hq, rfl⟩, rfl⟩
structure WholeOk (l : List Ent) (key : Int) : Prop where
  lo : ∀ i (h : i < l.length), key ≤ (l[i]'h).key → nxE l key = 0 ∧ (nxX l key).key ≤ (l[i]'h).key
  hi : ∀ i (h : i < l.length), (l[i]'h).key < key → lsE l key = 0 ∧ (l[i]'h).key ≤ (lsX l key).key
  met : decide ((⟨key, (gtX l key).val⟩ : Pr) ∈ prL l) = (decide (gtE l key = 0) && !(gtX l key).dead)
  there : decide (gtE l key = 0) = (decide (nxE l key = 0) && decide ((nxX l key).key = key))
  same : gtE l key = 0 → gtX l key = nxX l key
  last : lsE l key = 0 → (lsX l key).key < key
theorem whole {l : List Ent} (h : chkE l = 0) (key : Int) : WholeOk l key := by
  have hr := chk_ris h
  have hBl := belK_le (inL l) key
  have hiff : ((⟨key, (gtX l key).val⟩ : Pr) ∈ prL l) ↔ (gtE l key = 0 ∧ (gtX l key).dead = false) := by
    obtain ⟨h1, h2⟩ := gt_in h key
    rw [h1, h2]
    unfold prL
    rw [if_pos h, mem_plain]
    cases ho : look (inL l) key with
    | none =>
      have hn := look_isNone ho
      exact ⟨fun hm => absurd rfl (hn _ hm), fun hm => by simp at hm⟩
    | some e =>
      obtain ⟨hk, hm⟩ := look_key ho
      obtain ⟨k, v, d⟩ := e
      obtain rfl : k = key := hk
      refine ⟨fun hx => ⟨rfl, ?_⟩, fun hx => ?_⟩
      · have := look_mem hr hx
        rw [show (⟨k, ((some ⟨k, v, d⟩).getD zeroE : Ent).val, false⟩ : Ent).key = k from rfl, ho] at this
        simp at this
        exact this
      · have : d = false := hx.2
        subst this
        exact hm
  have hmet : decide ((⟨key, (gtX l key).val⟩ : Pr) ∈ prL l) = (decide (gtE l key = 0) && !(gtX l key).dead) := by
    rw [Bool.eq_iff_iff]
    simp [hiff]
  refine ⟨fun i hi hk => ?_, fun i hi hk => ?_, hmet, ?_, fun hg => ?_, fun hg => ?_⟩
  · obtain ⟨j, hj, he, hi2⟩ := in_rank h key hi
    have hB : belK (inL l) key ≤ j := by
      by_cases hx : j < belK (inL l) key
      · have := hi2.2 hx; omega
      · omega
    obtain ⟨h1, h2⟩ := nx_yes (key := key) h (by omega)
    exact ⟨h1, by rw [h2, ← he]; exact ris_le hr hB hj⟩
  · obtain ⟨j, hj, he, hi2⟩ := in_rank h key hi
    have hB := hi2.1 hk
    obtain ⟨h1, h2⟩ := ls_yes (key := key) h (by omega)
    exact ⟨h1, by rw [h2, ← he]; exact ris_le hr (by omega) (by omega)⟩
  · obtain ⟨h1, _⟩ := gt_in h key
    rw [h1]
    cases ho : look (inL l) key with
    | none =>
      have hn := look_isNone ho
      by_cases hB : belK (inL l) key < (inL l).length
      · obtain ⟨h3, h4⟩ := nx_yes (key := key) h hB
        rw [h3, h4, decide_eq_false (hn _ (List.getElem_mem hB))]
        rfl
      · rw [(nx_no (key := key) h hB).1]; rfl
    | some e =>
      obtain ⟨hk, hm⟩ := look_key ho
      obtain ⟨j, hj, he⟩ := List.getElem_of_mem hm
      have h5 := ris_count key hr j hj
      rw [he, hk] at h5
      have h6 : belK (inL l) key ≤ j := by
        by_cases hx : j < belK (inL l) key
        · have := h5.2 hx; omega
        · omega
      have hB : belK (inL l) key < (inL l).length := by omega
      obtain ⟨h3, h4⟩ := nx_yes (key := key) h hB
      have h7 := ris_le hr h6 hj
      have h8 := ris_count key hr _ hB
      rw [he, hk] at h7
      have h9 : ((inL l)[belK (inL l) key]'hB).key = key := by omega
      rw [h3, h4, decide_eq_true h9]
      rfl
  · obtain ⟨h1, h2⟩ := gt_in h key
    rw [h1] at hg
    rw [h2]
    cases ho : look (inL l) key with
    | none => rw [ho] at hg; simp at hg
    | some e =>
      obtain ⟨hk, hm⟩ := look_key ho
      obtain ⟨j, hj, he⟩ := List.getElem_of_mem hm
      have h5 := ris_count key hr j hj
      rw [he, hk] at h5
      have h6 : belK (inL l) key ≤ j := by
        by_cases hx : j < belK (inL l) key
        · have := h5.2 hx; omega
        · omega
      have hB : belK (inL l) key < (inL l).length := by omega
      obtain ⟨h3, h4⟩ := nx_yes (key := key) h hB
      rw [h4]
      have h8 := ris_count key hr _ hB
      have hjB : belK (inL l) key = j := by
        by_cases hx : belK (inL l) key = j
        · exact hx
        · have := List.pairwise_iff_getElem.1 hr (belK (inL l) key) j hB hj (by omega)
          rw [he, hk] at this
          omega
      show e = _
      rw [← he]
      congr 1
      exact hjB.symm
  · by_cases hB : 0 < belK (inL l) key
    · obtain ⟨h3, h4⟩ := ls_yes (key := key) h hB
      rw [h4]
      exact (ris_count key hr _ _).2 (by omega)
    · rw [ls_no h hB] at hg; cases hg
theorem ls_bad {l : List Ent} {key : Int} (h : ¬ chkE l = 0) : gtE l key = chkE l ∧ prL l = [] := by
  unfold gtE prL
  rw [if_neg h, if_neg h]
  exact ⟨rfl, rfl⟩
end Go.Proofs.Ythdcllnmnmemdaa

/- Plain facts: what levels have of a key; pairs of levels; behind an entry was let in. No program in sight. -/
namespace Go.Proofs.Ythdcllnmnmemdaa
open Go
def gxR (rs : Lv) (key : Int) : Ent := if chkR rs = 0 then (newest rs key).getD zeroE else zeroE
def geR (rs : Lv) (key : Int) : Int := if chkR rs = 0 then (if (newest rs key).isSome then 0 else 6) else chkR rs
theorem gR_kf {rs : Lv} (key : Int) (h : chkR rs = 0) : kfX rs key = gxR rs key ∧ kfE rs key = geR rs key := by
  have h1 := (chkR_zero.1 h).chkAll
  unfold kfX kfE gxR geR
  rw [if_pos h1, if_pos h1, if_pos h, if_pos h]
  exact ⟨rfl, rfl⟩
theorem gR_bad {rs : Lv} (key : Int) (h : ¬ chkR rs = 0) : gxR rs key = zeroE ∧ geR rs key = chkR rs := by
  unfold gxR geR
  rw [if_neg h, if_neg h]
  exact ⟨rfl, rfl⟩
/-- is a key live? -/
def isB (rs : Lv) (key : Int) : Bool := decide (geR rs key = 0) && !(gxR rs key).dead
theorem lv_is {rs : Lv} (h : chkR rs = 0) (key : Int) : lvO (newest rs key) = if isB rs key = true then some (gxR rs key) else none := by
  unfold isB geR gxR lvO
  rw [if_pos h, if_pos h]
  cases newest rs key with
  | none => simp
  | some e => cases hd : e.dead <;> simp [hd]
theorem lv_some {o : Option Ent} {y : Ent} (h : lvO o = some y) : o = some y ∧ y.dead = false := by
  cases o with
  | none => exact absurd h (by simp [lvO])
  | some e =>
    unfold lvO at h
    cases hd : e.dead with
    | true => simp [hd] at h
    | false =>
      have : e = y := by simpa [hd] using h
      exact ⟨by rw [this], by rw [← this]; exact hd⟩
structure AddsOk (rs : Lv) (n : Int) (y : Ent) (key : Int) : Prop where
  may : chkR (addL rs n y) = 0
  had : y.dead = false → geR (addL rs n y) y.key = 0 ∧ gxR (addL rs n y) y.key = y
  went : y.dead = true → geR (addL rs n y) y.key = 0 → (gxR (addL rs n y) y.key).dead = true
  alike : key ≠ y.key → isB rs key = isB (addL rs n y) key
  same : key ≠ y.key → isB rs key = true → gxR rs key = gxR (addL rs n y) key
theorem adds_ok {rs : Lv} {y : Ent} (h : addE rs y = 0) (n key : Int) : AddsOk rs n y key := by
  obtain ⟨h1, _, h3⟩ := add_may h n
  have h0 : chkR rs = 0 := chkR_zero.2 (addE_zero.1 h).1
  have hc : chkR (addL rs n y) = 0 := chkR_zero.2 h1
  have hk := h3 y.key
  rw [if_pos rfl] at hk
  have hq : key ≠ y.key → (if isB (addL rs n y) key = true then some (gxR (addL rs n y) key) else none) = if isB rs key = true then some (gxR rs key) else none := fun hne => by
    have := h3 key
    rw [if_neg (fun e => hne e.symm), lv_is hc, lv_is h0] at this
    exact this
  refine ⟨hc, fun hd => ?_, fun hd hg => ?_, fun hne => ?_, fun hne hi => ?_⟩
  · have h5 : lvO (some y) = some y := by unfold lvO; simp [hd]
    rw [h5] at hk
    have h6 := (lv_some hk).1
    unfold geR gxR
    rw [if_pos hc, if_pos hc, h6]
    exact ⟨rfl, rfl⟩
  · have h5 : lvO (some y) = none := by unfold lvO; simp [hd]
    rw [h5, lv_is hc] at hk
    by_cases hb : isB (addL rs n y) y.key = true
    · rw [if_pos hb] at hk; cases hk
    · unfold isB at hb
      simpa [hg] using hb
  · have := hq hne
    cases ha : isB (addL rs n y) key <;> cases hb : isB rs key <;> simp [ha, hb] at this ⊢
  · have h7 := hq hne
    rw [if_pos hi] at h7
    by_cases ha : isB (addL rs n y) key = true
    · rw [if_pos ha] at h7
      exact (Option.some.inj h7).symm
    · rw [if_neg ha] at h7; cases h7
theorem allL_ris {rs : Lv} (h : May rs) : RisE (allL rs) := live_ris (all_ris fun x hx => by
  obtain ⟨l, hl, rfl⟩ := List.mem_map.1 hx
  obtain ⟨j, _, e⟩ := lev_of_mem hl
  rw [← e]
  exact chk_ris (h.chk j))
theorem prR_mem {rs : Lv} (h : chkR rs = 0) (key : Int) : decide ((⟨key, (gxR rs key).val⟩ : Pr) ∈ prR rs) = isB rs key := by
  have hM := chkR_zero.1 h
  have hl := allL_look hM.mE key
  rw [lv_is h] at hl
  unfold prR
  rw [if_pos h]
  rw [Bool.eq_iff_iff, decide_eq_true_iff]
  constructor
  · intro hm
    obtain ⟨e, he, hp⟩ := List.mem_map.1 hm
    have he2 := (List.mem_filter.1 he).1
    have hkey : e.key = key := congrArg Pr.key hp
    have h5 := look_mem (allL_ris hM) he2
    rw [hkey, hl] at h5
    by_cases hb : isB rs key = true
    · exact hb
    · rw [if_neg hb] at h5; cases h5
  · intro hb
    rw [if_pos hb] at hl
    obtain ⟨h5, h6⟩ := look_key hl
    have hd : (gxR rs key).dead = false := by
      unfold isB at hb
      simp at hb
      exact hb.2
    exact List.mem_map.2 ⟨gxR rs key, List.mem_filter.2 ⟨h6, by rw [hd]; rfl⟩, by rw [h5]⟩
theorem prR_bad {rs : Lv} (h : ¬ chkR rs = 0) : prR rs = [] := by unfold prR; rw [if_neg h]
theorem plain_alive' (l : List Pr) : plainE (l.map aliveE) = l := by
  unfold plainE liveE
  rw [List.filter_eq_self.2 (fun e he => by obtain ⟨p, _, rfl⟩ := List.mem_map.1 he; rfl), List.map_map]
  exact List.map_id'' (fun _ => rfl) l
theorem of_pairs {rs : Lv} {l : List Pr} (h : ofEr rs l = 0) : chkR (ofLr rs l) = 0 ∧ prR (ofLr rs l) = l := by
  have hb : buildE (l.map aliveE) = 0 := by
    unfold ofEr at h
    split at h
    · rename_i h2; exact absurd h h2
    · exact h
  have hc := build_chk hb
  have hd : deadE (laid (l.map aliveE)) = false := by
    unfold deadE
    rw [List.any_eq_false]
    intro e he
    obtain ⟨p, _, rfl⟩ := List.mem_map.1 (laid_mem he)
    simp [aliveE]
  have hm := alone_may hc hd
  have hz : chkR (standL [] (laid (l.map aliveE))) = 0 := chkR_zero.2 hm
  unfold ofLr
  rw [if_pos h]
  refine ⟨hz, ?_⟩
  unfold prR
  rw [if_pos hz, alone_all hc hd, in_laid, plain_alive']
theorem of_err {rs : Lv} {l : List Pr} (h : ¬ chkR rs = 0) : ofEr rs l = chkR rs := by unfold ofEr; rw [if_pos h]
end Go.Proofs.Ythdcllnmnmemdaa

/- The law RungsShort: for every levels and entry it returns true; its arguments stay as they were. -/
namespace Go.Proofs.Ythdcllnmnmemdaa
open Go Go.RowKit
set_option maxRecDepth 100000
theorem short_cond {rs : Lv} (h : May rs) {i : Nat} (hi : i < rs.length) : ¬ 16 < (i : Int) ∧ ¬ ((2 ^ i : Nat) : Int) < ((lev rs i).length : Int) ∧ (((lev rs i).length : Int) ≤ 0 ∨ (i : Int) ≤ 0 ∨ ¬ 2 * ((lev rs i).length : Int) ≤ ((2 ^ i : Nat) : Int)) := by
  obtain ⟨h1, h2, h3⟩ := short_level h hi
  refine ⟨by omega, by omega, ?_⟩
  rcases h3 with h3 | h3 | h3
  · exact .inl (by omega)
  · exact .inr (.inl (by omega))
  · exact .inr (.inr (by omega))
theorem pow_wrap {k Z : Nat} (h : k ≤ 16) (hz : 2 ^ k = Z) : IntKind.i64.wrap ((2 : Int) ^ k) = (Z : Int) := by
  have h1 : 2 ^ k ≤ 2 ^ 16 := Nat.pow_le_pow_right (by omega) h
  have h2 : ((2 : Int) ^ k) = (Z : Int) := by rw [← hz]; simp
  rw [h2]
  exact IntWalk.i64_in _ (by omega)
set_option maxHeartbeats 8000000 in
theorem rungsShort_any (B : Option Addr) (Rs : List Rm) (c : Nat) (n : Int) (y : Ent) (w : World) (hB : RunsAt w B Rs) :
    Calls Try.prog 4 #[.agg #[.slice B Rs.length c, .int .u64 n], .agg #[.int .i64 y.key, .int .i64 y.val, .bool y.dead]] w fun r w' => r = .returned (.bool true) ∧ Below w.heap.size w w' := by
  have HB0 := Lib.hid hB
  clear hB
  go_enter Try.func4, Try.ntmps4
  have HF := Lib.hid (Below.refl w.heap.size w)
  have HY1 := Lib.hid (HB0.out)
  go_upto_region 1 with fail
  obtain ⟨U2, h3⟩ : ∃ U, (w.alloc (.cells #[.slice B Rs.length c, .int .u64 n] 25)).alloc (.cells #[.int .i64 y.key, .int .i64 y.val, .bool y.dead] 27) = U := ⟨_, rfl⟩
  have ba4 : Below w.heap.size w U2 := by rw [← h3]; exact ((Below.refl _ _).alloc (by first | (simp; done) | (simp; omega)) _).alloc (by first | (simp; done) | (simp; omega)) _
  have bn5 : Blk U2 (w.heap.size) 25 #[.slice B Rs.length c, .int .u64 n] := by
    rw [← h3]
    have hq := (Blk.new w 25 #[.slice B Rs.length c, .int .u64 n])
    exact (hq.alloc _)
  have bn6 : Blk U2 (w.heap.size + 1) 27 #[.int .i64 y.key, .int .i64 y.val, .bool y.dead] := by
    rw [← h3]
    have hq := (Blk.new (w.alloc (.cells #[.slice B Rs.length c, .int .u64 n] 25)) 27 #[.int .i64 y.key, .int .i64 y.val, .bool y.dead])
    simp only [World.size_alloc] at hq
    exact hq
  try rw [h3]
  have HF7 := Lib.hid (bext HF.out ba4)
  have HY8 := Lib.hid (RunsAt.below HY1.out ba4)
  clear HF HY1
  obtain ⟨g9, h10⟩ : ∃ g, (w.heap.size + 1) = g := ⟨_, rfl⟩
  rw [h10] at bn6
  try rw [h10]
  have HX11 := Lib.hid bn6
  clear bn6 h10
  obtain ⟨g12, h13⟩ : ∃ g, (w.heap.size) = g := ⟨_, rfl⟩
  rw [h13] at bn5
  try rw [h13]
  have HX14 := Lib.hid bn5
  clear bn5 h13
  clear h3 ba4
  go_wp2_with fail
  refine (alive26_any _).mono ?_
  rintro e w15 ⟨rfl, hb16⟩
  have HF17 := Lib.hid (bext HF7.out hb16)
  have HX18 := Lib.hid (HX11.out.below hb16 HX11.out.lt)
  have HX19 := Lib.hid (HX14.out.below hb16 HX14.out.lt)
  have HY20 := Lib.hid (RunsAt.below HY8.out hb16)
  clear HF7 HX11 HX14 HY8
  clear hb16
  have c21 : w15.cell? ⟨g12, 0, none⟩ = some (.slice B Rs.length c) := HX19.out.cell 0
  have c22 : w15.cell? ⟨g12, 1, none⟩ = some (.int .u64 n) := HX19.out.cell 1
  have l23 : g12 < w15.heap.size := HX19.out.lt
  go_wp2_with fail
  clear c21 c22 l23
  refine (great26_any B Rs c 300 n _ HY20.out (by omega)).mono ?_
  rintro e w24 ⟨G, rfl, hG, hb25⟩
  have HF26 := Lib.hid (bext HF17.out hb25)
  have HX27 := Lib.hid (HX18.out.below hb25 HX18.out.lt)
  have HX28 := Lib.hid (HX19.out.below hb25 HX19.out.lt)
  have HY29 := Lib.hid (RunsAt.below HY20.out hb25)
  clear HF17 HX18 HX19 HY20
  clear hb25
  cases G with
  | true =>
    clear hG
    go_wp2
    go_ret
    exact ⟨rfl, HF26.out⟩
  | false =>
  have hG2 := hG rfl
  clear hG
  have hT3 : tot (lvs Rs) ≤ 300 := by omega
  have hR3 : Rs.length ≤ 300 := by omega
  clear hG2
  obtain ⟨LA, hLA⟩ : ∃ L, addL (lvs Rs) n y = L := ⟨_, rfl⟩
  obtain ⟨NA, hNA⟩ : ∃ L, addN (lvs Rs) n y = L := ⟨_, rfl⟩
  obtain ⟨EA, hEA⟩ : ∃ L, addE (lvs Rs) y = L := ⟨_, rfl⟩
  have hmay : EA = 0 → May LA ∧ tot LA ≤ 2 * (allL LA).length + 2 := fun h => by
    have h1 := add_may (hEA.trans h) n
    rw [hLA] at h1
    exact ⟨h1.1, h1.2.1⟩
  have HMAY := Lib.hid hmay
  have hno : EA ≠ 0 → LA = [] := fun h => by rw [← hLA]; unfold addL; rw [if_neg (by rw [hEA]; exact h)]
  have HNO := Lib.hid hno
  have HADD := Lib.hid (show ∀ W, RunsAt W B Rs → Calls Try.prog 7 #[.agg #[.slice B Rs.length c, .int .u64 n], .agg #[.int .i64 y.key, .int .i64 y.val, .bool y.dead]] W (GivesRgE LA NA EA W) from fun W hW => by
    have h8 := addR_any B Rs c n y W hW (by omega) (by omega)
    rw [hLA, hNA, hEA] at h8
    exact h8)
  clear hLA hNA hEA hmay hno hT3 hR3
  have c30 : w24.cell? ⟨g12, 0, none⟩ = some (.slice B Rs.length c) := HX28.out.cell 0
  have c31 : w24.cell? ⟨g12, 1, none⟩ = some (.int .u64 n) := HX28.out.cell 1
  have l32 : g12 < w24.heap.size := HX28.out.lt
  have c33 : w24.cell? ⟨g9, 0, none⟩ = some (.int .i64 y.key) := HX27.out.cell 0
  have c34 : w24.cell? ⟨g9, 1, none⟩ = some (.int .i64 y.val) := HX27.out.cell 1
  have c35 : w24.cell? ⟨g9, 2, none⟩ = some (.bool y.dead) := HX27.out.cell 2
  have l36 : g9 < w24.heap.size := HX27.out.lt
  go_wp2_with fail
  clear c30 c31 l32 c33 c34 c35 l36
  refine (HADD.out _ HY29.out).mono ?_
  rintro e w37 ⟨Ba, ca, Ra, rfl, hla, hoa, hb38⟩
  have HOA := Lib.hid hoa.runsAt
  have HLA := Lib.hid hla
  obtain ⟨Na, hNa⟩ : ∃ N, Ra.length = N := ⟨_, rfl⟩
  rw [hNa]
  have HNA := Lib.hid hNa
  clear hla hoa hNa
  have HF39 := Lib.hid (bext HF26.out hb38)
  have HX40 := Lib.hid (HX27.out.below hb38 HX27.out.lt)
  have HX41 := Lib.hid (HX28.out.below hb38 HX28.out.lt)
  have HY42 := Lib.hid (RunsAt.below HY29.out hb38)
  clear HF26 HX27 HX28 HY29
  clear hb38
  have HY43 := Lib.hid (HOA.out)
  go_upto_region 5 with fail
  obtain ⟨U44, h46⟩ : ∃ U, w37.alloc (.cells #[.slice Ba Na ca, .int .u64 NA] 25) = U := ⟨_, rfl⟩
  have ba47 : Below w37.heap.size w37 U44 := by rw [← h46]; exact (Below.refl _ _).alloc (Nat.le_refl _) _
  have bn48 : Blk U44 w37.heap.size 25 #[.slice Ba Na ca, .int .u64 NA] := by rw [← h46]; exact Blk.new _ _ _
  try rw [h46]
  have HF49 := Lib.hid (bext HF39.out ba47)
  have HX50 := Lib.hid (HX40.out.below ba47 HX40.out.lt)
  have HX51 := Lib.hid (HX41.out.below ba47 HX41.out.lt)
  have HY52 := Lib.hid (RunsAt.below HY42.out ba47)
  have HY53 := Lib.hid (RunsAt.below HY43.out ba47)
  clear HF39 HX40 HX41 HY42 HY43
  obtain ⟨g45, h54⟩ : ∃ g, w37.heap.size = g := ⟨_, rfl⟩
  rw [h54] at bn48
  try rw [h54]
  have HX55 := Lib.hid bn48
  clear h46 ba47 bn48 h54
  by_cases hE0 : EA = 0
  case neg =>
    have h1 : (EA != 0) = true := by simpa using hE0
    clear hE0
    go_wp2
    go_ret
    exact ⟨rfl, HF49.out⟩
  case pos =>
  subst hE0
  obtain ⟨hM, hfew⟩ := HMAY.out rfl
  have hck : chkR LA = 0 := chkR_zero.2 hM
  have hpl := prR_len hck
  obtain ⟨T, hT⟩ : ∃ T, tot LA = T := ⟨_, rfl⟩
  obtain ⟨P, hP⟩ : ∃ P, (prR LA).length = P := ⟨_, rfl⟩
  have hT6 : T ≤ 65536 := by rw [← hT]; exact hM.size
  rw [← hpl, hP, hT] at hfew
  have hPT : P ≤ T := by rw [← hP, hpl, ← hT]; exact allL_le
  have hN17 : Na ≤ 17 := by rw [← HNA.out, rs_len HLA.out]; exact hM.len
  have hnone : T = 0 → Na = 0 := fun h => by rw [← HNA.out, rs_len HLA.out]; exact short_none hM (hT.trans h)
  have hlen : T ≠ 0 → Na ≤ up T + 1 := fun h => by
    have h5 := short_len hM (by rw [hT]; exact h)
    rw [hT, ← rs_len HLA.out, HNA.out] at h5
    exact h5
  have HLEN := Lib.hid hlen
  have HNONE := Lib.hid hnone
  have HM := Lib.hid hM
  have hcnt : ∀ W, RunsAt W Ba Ra → Calls Try.prog 15 #[.agg #[.slice Ba Na ca, .int .u64 NA]] W (fun r w' => r = .returned (.tuple #[.int .i64 (T : Int), .int .i64 (P : Nat), .int .i64 0]) ∧ Below W.heap.size W w') := fun W hW => by
    have h8 := countR_any Ba Ra ca NA W hW (by rw [HLA.out, hT]; omega) (by rw [HNA.out]; omega)
    rw [HLA.out, hck, hT, hP, if_pos rfl, HNA.out] at h8
    exact h8
  have HCNT := Lib.hid hcnt
  clear hcnt hck hpl hT hP hM hlen hnone
  have c56 : U44.cell? ⟨g45, 0, none⟩ = some (.slice Ba Na ca) := HX55.out.cell 0
  have c57 : U44.cell? ⟨g45, 1, none⟩ = some (.int .u64 NA) := HX55.out.cell 1
  have l58 : g45 < U44.heap.size := HX55.out.lt
  go_wp2_with fail
  clear c56 c57 l58
  refine (HCNT.out _ HY53.out).mono ?_
  rintro e w59 ⟨rfl, hb60⟩
  have HF61 := Lib.hid (bext HF49.out hb60)
  have HX62 := Lib.hid (HX50.out.below hb60 HX50.out.lt)
  have HX63 := Lib.hid (HX51.out.below hb60 HX51.out.lt)
  have HX64 := Lib.hid (HX55.out.below hb60 HX55.out.lt)
  have HY65 := Lib.hid (RunsAt.below HY52.out hb60)
  have HY66 := Lib.hid (RunsAt.below HY53.out hb60)
  clear HF49 HX50 HX51 HX55 HY52 HY53
  clear hb60
  have hw1 : IntKind.i64.wrap (2 * (P : Int)) = 2 * (P : Int) := IntWalk.i64_in _ (by omega)
  have hw2 : IntKind.i64.wrap (2 * (P : Int) + 2) = 2 * (P : Int) + 2 := IntWalk.i64_in _ (by omega)
  have hc1 : ¬ (2 * (P : Int) + 2 < (T : Int)) := by omega
  by_cases hT0 : T = 0
  case pos =>
    subst hT0
    have hz := HNONE.out rfl
    subst hz
    have c67 : w59.cell? ⟨g45, 0, none⟩ = some (.slice Ba 0 ca) := HX64.out.cell 0
    have c68 : w59.cell? ⟨g45, 1, none⟩ = some (.int .u64 NA) := HX64.out.cell 1
    have l69 : g45 < w59.heap.size := HX64.out.lt
    go_wp2
    go_ret
    exact ⟨rfl, HF61.out⟩
  case neg =>
  have hT1 : ¬ (T : Int) = 0 := by omega
  clear HNONE
  go_wp2_with fail
  refine (up_any T _ (by omega) hT6).mono ?_
  obtain ⟨U, hU⟩ : ∃ U, up T = U := ⟨_, rfl⟩
  have hLU := HLEN.out hT0
  rw [hU] at hLU ⊢
  have hU16 : U ≤ 16 := by rw [← hU]; exact up_16 hT6
  rintro e wq ⟨rfl, hwq⟩
  rw [hwq]
  clear hwq
  clear hU hw1 hw2 hc1 hT1 hT0
  go_wp2_with fail
  go_loopw [13] (fun i wr => ∃ k : Nat, k ≤ Na ∧ i = .int .i64 k ∧ Below w59.heap.size w59 wr) (fun i _ => Na - (intOf i).toNat)
  case atStart => exact ⟨0, Nat.zero_le _, rfl, Below.refl _ _⟩
  case round =>
    obtain ⟨k, hk, rfl, hb⟩ := hrel
    have hbn := HX64.out.below hb HX64.out.lt
    have cn0 : wr.cell? ⟨g45, 0, none⟩ = some (.slice Ba Na ca) := hbn.cell 0
    clear hbn
    by_cases hlt : k < Na
    case pos =>
      have hltr : k < Ra.length := by rw [HNA.out]; exact hlt
      obtain ⟨b, off, rfl, hbl, cp⟩ := HY66.out.sl.oneB hb k hltr
      have hlv : lev LA k = (Ra[k]'hltr).l := by rw [← HLA.out]; exact lvs_lev hltr
      obtain ⟨q1, q2, q3⟩ := short_cond HM.out (i := k) (by rw [← rs_len HLA.out]; exact hltr)
      have q4 := tot_lev LA k
      have q5 := HM.out.size
      rw [hlv] at q2 q3 q4
      obtain ⟨r, hr⟩ : ∃ r, Ra[k]'hltr = r := ⟨_, rfl⟩
      rw [hr] at cp q2 q3 q4
      obtain ⟨l, Al, cl⟩ := r
      have cp1 : wr.cell? ⟨b, off + k, none⟩ = some (.slice Al l.length cl) := cp
      dsimp only at q2 q3 q4
      obtain ⟨Z, hZ⟩ : ∃ Z : Nat, 2 ^ k = Z := ⟨_, rfl⟩
      have hsh := pow_wrap (k := k) (by omega) hZ
      rw [hZ] at q2 q3
      have hw3 : IntKind.i64.wrap (2 * (l.length : Int)) = 2 * (l.length : Int) := IntWalk.i64_in _ (by omega)
      have i0 : (0 : Int) ≤ (k : Int) := by omega
      have i1 : (k : Int) < (Na : Int) := by omega
      have HB := Lib.hid hb
      have h16 : k ≤ 16 := by omega
      clear cp hr hlv q4 q5 hZ hb
      rcases q3 with q3 | q3 | q3
      · have q6 : ¬ (0 : Int) < (l.length : Int) := by omega
        clear q3
        go_wp2_with fail
        go_roundw
        case rel => exact ⟨k + 1, by omega, by go_num, HB.out⟩
        case measure => simp [intOf]; omega
      · by_cases q7 : (0 : Int) < (l.length : Int)
        · have q6 : ¬ (0 : Int) < (k : Int) := by omega
          clear q3
          go_wp2_with fail
          go_roundw
          case rel => exact ⟨k + 1, by omega, by go_num, HB.out⟩
          case measure => simp [intOf]; omega
        · clear q3
          go_wp2_with fail
          go_roundw
          case rel => exact ⟨k + 1, by omega, by go_num, HB.out⟩
          case measure => simp [intOf]; omega
      · by_cases q7 : (0 : Int) < (l.length : Int)
        · by_cases q8 : (0 : Int) < (k : Int)
          all_goals
            go_wp2_with fail
            go_roundw
            case rel => exact ⟨k + 1, by omega, by go_num, HB.out⟩
            case measure => simp [intOf]; omega
        · omega
    case neg =>
      have hw4 : IntKind.i64.wrap ((U : Int) + 1) = (U : Int) + 1 := IntWalk.i64_in _ (by omega)
      have q9 : (Na : Int) ≤ (U : Int) + 1 := by omega
      go_wp2_with fail
      go_ret
      refine ⟨?_, bext HF61.out hb⟩
      rfl
end Go.Proofs.Ythdcllnmnmemdaa

/- Reading a law's arguments as data, and the last step of a law's row: it returned true and nothing that was there has turned. No program in sight. -/
namespace Go.Proofs.Ythdcllnmnmemdaa
open Go Go.ChangeShapes Go.WideShapes Go.ChangeAt Go.RowKit Go.Deep

section
variable {H : Type} {enc : TypeId × Value → H} {P : Program}

theorem trodAll_stays (hl : laidOutB P = true) {W W' : World} {sp : Nat → Bool} : ∀ {ts : List TypeId} {vs : List Value} {ds : List (DataW H)} {ps : List MemPlace},
    (∀ t ∈ ts, P.readableRec t = true ∧ t < P.types.size) → DataW.TrodAll enc P W 0 (fun _ => true) true ts vs ds ps → (∀ p ∈ ps, W.sameAt W' p) → (∀ p ∈ ps, sp p.block = true) →
    DataW.TrodAll enc P W' 0 sp true ts vs ds ps := by
  intro ts
  induction ts with
  | nil =>
    intro vs ds ps _ h _ _
    obtain ⟨rfl, rfl, rfl⟩ := trodAll_nil h
    exact trodAll_mk0
  | cons t ts ih =>
    intro vs ds ps hr h hs hsp
    obtain ⟨v, vs', d, ds', p, q, rfl, rfl, rfl, h0, h1⟩ := trodAll_cons h
    exact ⟨p, q, WideElems.Trod_stays hl (hr t (by simp)).1 (hr t (by simp)).2 h0 (fun x hx => hs x (by simp [hx])) (fun x hx => hsp x (by simp [hx])),
      ih (fun t' ht' => hr t' (by simp [ht'])) h1 (fun x hx => hs x (by simp [hx])) (fun x hx => hsp x (by simp [hx])), rfl⟩

/-- a law's row, its last step -/
theorem law_post {f : Func} {s : ChangeSpec} {W W' : World} {args : Array Value} {ds : List (DataW H)} {before : List MemPlace} {tb : TypeId}
    (hl : laidOutB P = true) (hr : ∀ t ∈ f.params.toList, P.readableRec t = true ∧ t < P.types.size) (hv : s.vars = [])
    (hW : DataW.Whole enc P f.params.toList s.vars false W args.toList ds [] before)
    (hres : (s.fn H (ds ++ [])).results = [.lit (.bool true)]) (harg : (s.fn H (ds ++ [])).args = ds) (hvr : (s.fn H (ds ++ [])).vars = [])
    (hrt : f.resultTypes = #[tb]) (hbt : P.underlying tb = some .bool) (hb : Below W.heap.size W W') :
    s.post enc P f false true false false W args (.bool true) W' := by
  have hlt := hW.lt
  have hW0 := hW
  obtain ⟨p, q, hA, hV, rfl, _, _⟩ := hW
  rw [hv] at hV
  obtain ⟨_, rfl⟩ := trodVars_none hV
  refine ⟨ds, [], p ++ [], [], p, [], hW0, ?_, ?_, ?_, World.keptBut_mono (fun x hx => ⟨hx, ?_⟩) (hb.frame (· ∈ p ++ [])), fun h => by cases h⟩
  · rw [hres, hrt]
    exact trodAll_cons_mk (shut_bool hbt _) trodAll_mk0
  · rw [harg]
    refine trodAll_stays hl hr hA (fun x hx => hb.same (hlt x (by simp [hx]))) (fun x hx => ?_)
    have := hlt x (by simp [hx])
    simpa using this
  · rw [hv, hvr]; rfl
  · rw [List.append_nil] at hx; exact .inr (.inl hx)

theorem addr_flat {w : World} {a : Addr} {v : Value} (h : w.cell? a = some v) : a = ⟨a.block, a.off, none⟩ := by
  obtain ⟨b, o, s⟩ := a
  cases s with
  | none => rfl
  | some s =>
    unfold World.cell? at h
    split at h <;> simp at h

/-- a slice's reading, where each element's cells are those of some datum x of which R holds -/
theorem read_slice {α : Type} {w : World} {t e : TypeId} {s fuel : Nat} {v : Value} {x : DataW H × List MemPlace} (f : α → List Value) (R : α → Prop) (hf : ∀ x, (f x).length = s) (hs : 0 < s)
    (ht : P.underlying t = some (.slice e)) (hc : P.cellsOf e = s)
    (hdec : ∀ fuel cs y, DataW.trod enc P w 0 (fun _ => true) true fuel e cs = some y → ∃ x, cs = f x ∧ R x)
    (hv : ∃ a len cap, v = .slice a len cap) (h : DataW.trod enc P w 0 (fun _ => true) true fuel t v.cells.toList = some x) :
    ∃ (A : Option Addr) (l : List α) (c : Nat), v = .slice A l.length c ∧ l.length ≤ c ∧ c ≤ maxLen ∧ Sl w A (l.flatMap f) ∧ ∀ x ∈ l, R x := by
  obtain ⟨a0, len0, cap0, rfl⟩ := hv
  rcases open_slice ht h with ⟨hcs, _⟩ | ⟨a, len, cap, m, n, D, Pl, hcs, -, hlc, hcm, hm, -, hi⟩
  · simp only [Value.cells] at hcs
    injection hcs with hcs _
    rw [hcs]
    exact ⟨none, [], 0, rfl, Nat.le_refl _, Nat.zero_le _, .inl rfl, by simp⟩
  · simp only [Value.cells] at hcs
    injection hcs with hcs _
    rw [hcs]
    have hlm : len ≤ m := by rw [hm]; simp; exact hlc
    have hx : ∀ i, i < len → ∃ x, (∀ j, j < s → w.cell? (a.add (i * s + j)) = (f x)[j]?) ∧ R x := fun i hil => by
      obtain ⟨cs', h1, h2⟩ := hi i (by omega)
      obtain ⟨x, rfl, hR⟩ := hdec _ _ _ h2
      rw [hc] at h1
      obtain ⟨_, _, h3⟩ := World.cells?_some h1
      refine ⟨x, fun j hj => ?_, hR⟩
      rw [← h3 j hj, Go.Deep.add_add]
    have hl : ∃ l : List α, l.length = len ∧ ∀ i (hil : i < l.length), (∀ j, j < s → w.cell? (a.add (i * s + j)) = (f (l[i]'hil))[j]?) ∧ R (l[i]'hil) := by
      clear hi hlm hcs hm hlc hcm h
      induction len with
      | zero => exact ⟨[], rfl, fun i hil => by simp at hil⟩
      | succ len ih =>
        obtain ⟨l, hl, hg⟩ := ih fun i hi => hx i (by omega)
        obtain ⟨y, hy⟩ := hx len (by omega)
        refine ⟨l ++ [y], by simp [hl], fun i hil => ?_⟩
        by_cases e : i < l.length
        · rw [List.getElem_append_left e]; exact hg i e
        · have : i = len := by simp at hil; omega
          subst this
          rw [List.getElem_append_right (by omega)]
          simpa [hl] using hy
    obtain ⟨l, rfl, hg⟩ := hl
    refine ⟨some a, l, cap, rfl, hlc, hcm, ?_, fun x hx => ?_⟩
    · by_cases h0 : l.length = 0
      · left; rw [List.eq_nil_of_length_eq_zero h0]; rfl
      · right
        have hc0 := (hg 0 (by omega)).1 0 hs
        have hf0 : (f (l[0]'(by omega)))[0]? = some ((f (l[0]'(by omega)))[0]'(by rw [hf]; exact hs)) := List.getElem?_eq_getElem _
        rw [hf0] at hc0
        have ha0 : a.add (0 * s + 0) = a := by simp [Addr.add]
        rw [ha0] at hc0
        have ha := addr_flat hc0
        refine ⟨a.block, a.off, by rw [← ha], World.block_lt_of_cell? w a hc0, fun j u hu => ?_⟩
        have hjl : j < l.length * s := by
          have := (List.getElem?_eq_some_iff.1 hu).1
          rwa [flat_length f s hf] at this
        have hi : j / s < l.length := Nat.div_lt_of_lt_mul (by rw [Nat.mul_comm]; exact hjl)
        have hjs : j % s < s := Nat.mod_lt _ hs
        have hj : j / s * s + j % s = j := by rw [Nat.mul_comm]; exact Nat.div_add_mod j s
        have hc1 := (hg (j / s) hi).1 (j % s) hjs
        rw [hj] at hc1
        have hfl := flat_get f s hf l (j / s) (j % s) hi hjs
        rw [hj, hu] at hfl
        rw [← hfl] at hc1
        rw [ha, Addr.add_lit] at hc1
        exact hc1
    · obtain ⟨i, hi, rfl⟩ := List.getElem_of_mem hx
      exact (hg i hi).2

theorem dec_ent {w : World} {e ti tb : TypeId} (he : P.underlying e = some (.struct #[⟨ "Key", ti, 0, false, "", "", 0⟩, ⟨ "Val", ti, 1, false, "", "", 8⟩, ⟨ "Dead", tb, 2, false, "", "", 16⟩]))
    (hi : P.underlying ti = some (.int .i64)) (hb : P.underlying tb = some .bool) (hc : P.cellsOf e = 3) (hci : P.cellsOf ti = 1) (hcb : P.cellsOf tb = 1)
    (fuel : Nat) (cs : List Value) (y : DataW H × List MemPlace) (h : DataW.trod enc P w 0 (fun _ => true) true fuel e cs = some y) : ∃ x : Ent, cs = x.cells ∧ True := by
  obtain ⟨xs, n, _, _, hlen, hxl, hf⟩ := DataW.trod_struct he h
  rw [hc] at hlen
  match cs, hlen with
  | [c0, c1, c2], _ =>
    match xs, hxl with
    | [x0, x1, x2], _ =>
      have h0 := hf 0 ⟨ "Key", ti, 0, false, "", "", 0⟩ rfl
      have h1 := hf 1 ⟨ "Val", ti, 1, false, "", "", 8⟩ rfl
      have h2 := hf 2 ⟨ "Dead", tb, 2, false, "", "", 16⟩ rfl
      dsimp only at h0 h1 h2
      rw [hci] at h0 h1
      rw [hcb] at h2
      obtain ⟨k, e0, _⟩ := DataW.trod_int hi h0
      obtain ⟨v, e1, _⟩ := DataW.trod_int hi h1
      obtain ⟨d, e2, _⟩ := DataW.trod_bool hb h2
      simp at e0 e1 e2
      subst e0 e1 e2
      exact ⟨⟨k, v, d⟩, rfl, trivial⟩

theorem dec_pr {w : World} {e ti : TypeId} (he : P.underlying e = some (.struct #[⟨ "Key", ti, 0, false, "", "", 0⟩, ⟨ "Val", ti, 1, false, "", "", 8⟩]))
    (hi : P.underlying ti = some (.int .i64)) (hc : P.cellsOf e = 2) (hci : P.cellsOf ti = 1)
    (fuel : Nat) (cs : List Value) (y : DataW H × List MemPlace) (h : DataW.trod enc P w 0 (fun _ => true) true fuel e cs = some y) : ∃ x : Pr, cs = x.cells ∧ True := by
  obtain ⟨xs, n, _, _, hlen, hxl, hf⟩ := DataW.trod_struct he h
  rw [hc] at hlen
  match cs, hlen with
  | [c0, c1], _ =>
    match xs, hxl with
    | [x0, x1], _ =>
      have h0 := hf 0 ⟨ "Key", ti, 0, false, "", "", 0⟩ rfl
      have h1 := hf 1 ⟨ "Val", ti, 1, false, "", "", 8⟩ rfl
      dsimp only at h0 h1
      rw [hci] at h0 h1
      obtain ⟨k, e0, _⟩ := DataW.trod_int hi h0
      obtain ⟨v, e1, _⟩ := DataW.trod_int hi h1
      simp at e0 e1
      subst e0 e1
      exact ⟨⟨k, v⟩, rfl, trivial⟩
end
end Go.Proofs.Ythdcllnmnmemdaa

/- The arguments of this seat's laws, read as data. -/
namespace Go.Proofs.Ythdcllnmnmemdaa
open Go Go.ChangeShapes Go.WideShapes Go.ChangeAt Go.RowKit
set_option maxRecDepth 100000

theorem own : ownKnob Try.prog.godebug = none := by kernel_rfl
theorem laidOut : laidOutB Try.prog = true := by kernel_rfl

theorem read_ents {H : Type} {enc : TypeId × Value → H} {w : World} {base : Nat} {v : Value} {d : DataW H} {p : List MemPlace} (hok : Value.okWide Try.prog w .any base 47 v)
    (h : DataW.Trod enc Try.prog w 0 (fun _ => true) true 47 v d p) : ∃ (A : Option Addr) (l : List Ent) (c : Nat), v = .slice A l.length c ∧ l.length ≤ c ∧ c ≤ maxLen ∧ Sl w A (l.flatMap Ent.cells) := by
  obtain ⟨fuel, hf⟩ := h
  obtain ⟨A, l, c, h1, h2, h3, h4, _⟩ := read_slice Ent.cells (fun _ => True) Ent.cells_length (by omega) Try.underlying47 (by kernel_rfl)
    (fun fuel cs y h => dec_ent Try.underlying27 Try.underlying2 Try.underlying4 (by kernel_rfl) (by kernel_rfl) (by kernel_rfl) fuel cs y h) (okWide_slice Try.underlying47 hok) hf
  exact ⟨A, l, c, h1, h2, h3, h4⟩

theorem read_prs {H : Type} {enc : TypeId × Value → H} {w : World} {base : Nat} {v : Value} {d : DataW H} {p : List MemPlace} (hok : Value.okWide Try.prog w .any base 28 v)
    (h : DataW.Trod enc Try.prog w 0 (fun _ => true) true 28 v d p) : ∃ (A : Option Addr) (l : List Pr) (c : Nat), v = .slice A l.length c ∧ l.length ≤ c ∧ c ≤ maxLen ∧ Sl w A (l.flatMap Pr.cells) := by
  obtain ⟨fuel, hf⟩ := h
  obtain ⟨A, l, c, h1, h2, h3, h4, _⟩ := read_slice Pr.cells (fun _ => True) Pr.cells_length (by omega) Try.underlying28 (by kernel_rfl)
    (fun fuel cs y h => dec_pr Try.underlying68 Try.underlying2 (by kernel_rfl) (by kernel_rfl) fuel cs y h) (okWide_slice Try.underlying28 hok) hf
  exact ⟨A, l, c, h1, h2, h3, h4⟩

theorem read_ent {H : Type} {enc : TypeId × Value → H} {w : World} {base : Nat} {v : Value} {d : DataW H} {p : List MemPlace} (hok : Value.okWide Try.prog w .any base 27 v)
    (h : DataW.Trod enc Try.prog w 0 (fun _ => true) true 27 v d p) : ∃ x : Ent, v = .agg #[.int .i64 x.key, .int .i64 x.val, .bool x.dead] := by
  obtain ⟨cs, rfl, _⟩ := okWide_struct Try.underlying27 hok
  obtain ⟨fuel, hf⟩ := h
  obtain ⟨x, hx, _⟩ := dec_ent Try.underlying27 Try.underlying2 Try.underlying4 (by kernel_rfl) (by kernel_rfl) (by kernel_rfl) fuel _ _ hf
  refine ⟨x, ?_⟩
  obtain ⟨l⟩ := cs
  simp only [Value.cells] at hx
  simp only [Value.agg.injEq]
  rw [show l = x.cells from hx]
  rfl
end Go.Proofs.Ythdcllnmnmemdaa
