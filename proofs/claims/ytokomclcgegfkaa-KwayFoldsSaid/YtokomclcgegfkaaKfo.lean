/- The law KwayFolds: for every runs it returns true; its arguments stay as they were. -/
import Derived.Test.YtokomclcgegfkaaKsz
namespace Go.Proofs.Ytokomclcgegfkaa
open Go Go.RowKit
set_option maxRecDepth 100000

/-! ### plain -/
theorem all_cons {r : List Ent} {rs : List (List Ent)} (hr : RisE r) (hrs : ∀ q ∈ rs, RisE q) : allE (r :: rs) = bothE r (allE rs) := by
  have h1 : ∀ q ∈ r :: rs, RisE q := by
    intro q hq
    rcases List.mem_cons.1 hq with rfl | hq
    · exact hr
    · exact hrs q hq
  have h2 := all_ris hrs
  refine look_ext (all_ris h1) (bothE_ris hr h2) fun k => ?_
  have h3 : look (allE (r :: rs)) k = newest (r :: rs) k := by have := (fold_law (r :: rs) RisE.nil h1).2 k; unfold allE; rw [this]; simp [look]
  have h4 : look (allE rs) k = newest rs k := by have := (fold_law rs RisE.nil hrs).2 k; unfold allE; rw [this]; simp [look]
  rw [h3, bothE_look hr h2, h4, newest_cons]
theorem chkAll_sub {rs qs : List (List Ent)} (h : chkAllE rs = 0) (hs : ∀ q ∈ qs, q ∈ rs) : chkAllE qs = 0 := chkAll_zero fun q hq => chkAll_ok h q (hs q hq)
theorem sum_take {rs : List (List Ent)} {T : Nat} (k : Nat) (h : (rs.map List.length).sum ≤ T) : ((rs.take k).map List.length).sum ≤ T ∧ ((rs.drop k).map List.length).sum ≤ T := by
  have h2 : ((rs.take k).map List.length).sum + ((rs.drop k).map List.length).sum = (rs.map List.length).sum := by
    rw [← List.sum_append, ← List.map_append, List.take_append_drop]
  omega
theorem len_le {rs : List (List Ent)} {T : Nat} (h : (rs.map List.length).sum ≤ T) {r : List Ent} (hr : r ∈ rs) : r.length ≤ T := Nat.le_trans (le_sum (List.mem_map.2 ⟨r, hr, rfl⟩)) h
theorem mL_nil : mL [] false = [] := by unfold mL; rw [if_pos (mE_of rfl (by simp))]; rfl
section
variable {ls : List (List Ent)} (h : chkAllE ls = 0) (hT : (ls.map List.length).sum ≤ 300)
include h hT
theorem mE_take (k : Nat) : mE (ls.take k) = 0 := mE_of (chkAll_sub h fun q hq => List.mem_of_mem_take hq) (by have := (sum_take k hT).1; omega)
theorem mE_drop (k : Nat) : mE (ls.drop k) = 0 := mE_of (chkAll_sub h fun q hq => List.mem_of_mem_drop hq) (by have := (sum_take k hT).2; omega)
theorem fold_x {k : Nat} (hk : k < ls.length) : mE [mL (ls.take k) false, ls[k]] = 0 ∧ mL [mL (ls.take k) false, ls[k]] false = mL (ls.take (k + 1)) false := by
  have h0 := mE_take h hT k
  have hc := chkAll_ok h _ (List.getElem_mem hk)
  have hl1 := mL_len false (sum_take k hT).1
  have hl2 := len_le hT (List.getElem_mem hk)
  have e : mE [mL (ls.take k) false, ls[k]] = 0 := mE_of (chkAll_zero fun q hq => by
    simp at hq
    rcases hq with rfl | rfl
    · exact mL_chk false h0
    · exact hc) (by simp; omega)
  refine ⟨e, ?_⟩
  rw [mL_is false e, mL_is false (mE_take h hT (k + 1))]
  show laid (allE [inL (mL (ls.take k) false), inL ls[k]]) = laid (allE ((ls.take (k + 1)).map inL))
  rw [mL_in false h0, all_two, List.take_succ_eq_append_getElem hk, List.map_append]
  unfold allE
  rw [List.foldl_append]
  rfl
theorem fold_y {j : Nat} (hj : j < ls.length) : mE [ls[j], mL (ls.drop (j + 1)) false] = 0 ∧ mL [ls[j], mL (ls.drop (j + 1)) false] false = mL (ls.drop j) false := by
  have h0 := mE_drop h hT (j + 1)
  have hc := chkAll_ok h _ (List.getElem_mem hj)
  have hl1 := mL_len false (sum_take (j + 1) hT).2
  have hl2 := len_le hT (List.getElem_mem hj)
  have e : mE [ls[j], mL (ls.drop (j + 1)) false] = 0 := mE_of (chkAll_zero fun q hq => by
    simp at hq
    rcases hq with rfl | rfl
    · exact hc
    · exact mL_chk false h0) (by simp at hl1 ⊢; omega)
  refine ⟨e, ?_⟩
  rw [mL_is false e, mL_is false (mE_drop h hT j)]
  show laid (allE [inL ls[j], inL (mL (ls.drop (j + 1)) false)]) = laid (allE ((ls.drop j).map inL))
  rw [mL_in false h0, all_two, List.drop_eq_getElem_cons hj, List.map_cons, all_cons (chk_ris hc)]
  · rfl
  · intro q hq
    obtain ⟨r, hr, rfl⟩ := List.mem_map.1 hq
    exact chk_ris (chkAll_ok h r (List.mem_of_mem_drop hr))
theorem fold_b : mE [mL ls false, []] = 0 ∧ mL [mL ls false, []] true = mL ls true := by
  have h0 : mE ls = 0 := mE_of h (by omega)
  have hl1 := mL_len false hT
  have hn : inL ([] : List Ent) = [] := List.eq_nil_of_length_eq_zero (by rw [inL_length]; rfl)
  have e : mE [mL ls false, []] = 0 := mE_of (chkAll_zero fun q hq => by
    simp at hq
    rcases hq with rfl | rfl
    · exact mL_chk false h0
    · unfold chkE; rw [hn]; decide) (by simp; omega)
  refine ⟨e, ?_⟩
  rw [mL_is true e, mL_is true h0]
  show laid (liveE (allE [inL (mL ls false), inL []])) = laid (liveE (allE (ls.map inL)))
  rw [mL_in false h0, all_two, hn, bothE_nil_right]
  rfl
end

/-! ### all but one block is as it was -/
abbrev MX (g : Nat) (w W : World) : Prop := (∀ b o, b < w.heap.size → b ≠ g → W.cell? ⟨b, o, none⟩ = w.cell? ⟨b, o, none⟩) ∧ w.heap.size ≤ W.heap.size ∧ Mod (fun b => b = g) w W
section
variable {w W W' : World} {g : Nat}
theorem MX.of (h : Mod (fun b => b = g) w W) : MX g w W := ⟨fun b o hb hne => h.cell (p := ⟨b, o, none⟩) hb hne, h.size, h⟩
theorem MX.init : MX g w w.drew := MX.of (Mod.refl _ w).drew
theorem MX.init0 : MX g w w := MX.of (Mod.refl _ w)
theorem MX.below (hb : Below W.heap.size W W') (h : MX g w W) : MX g w W' := MX.of (h.2.2.ext hb)
theorem MX.set {i : Nat} (v : Value) (h : MX g w W) : MX g w (W.setCell ⟨g, i, none⟩ v) := MX.of (h.2.2.setCell (p := ⟨g, i, none⟩) rfl v)
end

/-- what stands in memory while runs are folded -/
structure Kf (W2 : World) (g6 g7 S : Nat) (X Y : List Ent) (Ax : Option Addr) (cx : Nat) (Ay : Option Addr) (cy : Nat) (wr : World) : Prop where
  bel : Below W2.heap.size W2 wr
  bx : Blk wr g6 24 #[.slice Ax X.length cx]
  ay : Blk wr g7 24 #[.slice Ay Y.length cy]
  ox : wr.ownsRow S 32 3 (.slice Ax X.length cx) X.length (X.flatMap Ent.cells)
  oy : wr.ownsRow S 32 3 (.slice Ay Y.length cy) Y.length (Y.flatMap Ent.cells)
  lx : X.length ≤ cx ∧ cx ≤ maxLen
  ly : Y.length ≤ cy ∧ cy ≤ maxLen
  size : S ≤ wr.heap.size
theorem own_form2 {w : World} {B n c s : Nat} {e : TypeId} {A : Option Addr} {xs : List Value} (h : w.ownsRow B e s (.slice A n c) n xs) : n ≤ c ∧ c ≤ maxLen := by
  obtain ⟨A', c', h4, h5, h6⟩ := own_form h
  obtain ⟨rfl, rfl⟩ : A = A' ∧ c = c' := by simpa using h4
  exact ⟨h5, h6⟩
section
variable {W2 wr v : World} {g6 g7 S B c : Nat} {X Y Z : List Ent} {Ax Ay A : Option Addr} {cx cy : Nat}
theorem Kf.stepX (h : Kf W2 g6 g7 S X Y Ax cx Ay cy wr) (h6 : W2.heap.size ≤ g6) (h6S : g6 < S) (hne : g6 ≠ g7) (hb : Below wr.heap.size wr v) (hB : wr.heap.size ≤ B) (ho : v.ownsRow B 32 3 (.slice A Z.length c) Z.length (Z.flatMap Ent.cells)) :
    Kf W2 g6 g7 S Z Y A c Ay cy (v.setCell ⟨g6, 0, none⟩ (.slice A Z.length c)) := by
  have hsz := h.size
  have ho2 := own_mono (B' := S) ho (by omega)
  have hy2 := own_below h.oy hb
  refine ⟨(bext h.bel hb).setCell (p := ⟨g6, 0, none⟩) h6 _, (h.bx.below hb h.bx.lt).set_ 0 _, (h.ay.below hb h.ay.lt).far (p := ⟨g6, 0, none⟩) (fun e => hne e.symm) _, own_far ho2 (fun e => ?_) _, own_far hy2 (fun e => ?_) _, own_form2 ho, h.ly, by have := hb.size; simp [World.setCell]; omega⟩
  · have := (ho2.lt _ e).1; dsimp only at this; omega
  · have := (hy2.lt _ e).1; dsimp only at this; omega
theorem Kf.stepY (h : Kf W2 g6 g7 S X Y Ax cx Ay cy wr) (h7 : W2.heap.size ≤ g7) (h7S : g7 < S) (hne : g6 ≠ g7) (hb : Below wr.heap.size wr v) (hB : wr.heap.size ≤ B) (ho : v.ownsRow B 32 3 (.slice A Z.length c) Z.length (Z.flatMap Ent.cells)) :
    Kf W2 g6 g7 S X Z Ax cx A c (v.setCell ⟨g7, 0, none⟩ (.slice A Z.length c)) := by
  have hsz := h.size
  have ho2 := own_mono (B' := S) ho (by omega)
  have hx2 := own_below h.ox hb
  refine ⟨(bext h.bel hb).setCell (p := ⟨g7, 0, none⟩) h7 _, (h.bx.below hb h.bx.lt).far (p := ⟨g7, 0, none⟩) hne _, (h.ay.below hb h.ay.lt).set_ 0 _, own_far hx2 (fun e => ?_) _, own_far ho2 (fun e => ?_) _, h.lx, own_form2 ho, by have := hb.size; simp [World.setCell]; omega⟩
  · have := (hx2.lt _ e).1; dsimp only at this; omega
  · have := (ho2.lt _ e).1; dsimp only at this; omega
end

set_option maxHeartbeats 8000000 in
theorem kwayFolds_any (B : Option Addr) (Rs : List Rm) (c : Nat) (w : World) (hB : RunsAt w B Rs) :
    Calls Try.prog 6 #[.slice B Rs.length c] w fun r w' => r = .returned (.bool true) ∧ Below w.heap.size w w' := by
  have HB := Lib.hid hB
  clear hB
  go_enter Try.func6, Try.ntmps6
  go_wp2_with fail
  refine (alive25_any _).mono ?_
  rintro e w1 ⟨rfl, hb1⟩
  have HB1 := Lib.hid hb1
  clear hb1
  go_wp2_with fail
  refine (great25_any B Rs c 300 _ (HB.out.below HB1.out) (by omega)).mono ?_
  rintro e w1' ⟨G, rfl, hG, rfl⟩
  have HG := Lib.hid hG
  clear hG
  cases G
  case true =>
    go_wp2
    go_ret
    exact ⟨rfl, HB1.out⟩
  case false =>
  have hG := HG.out rfl
  have hlen : Rs.length ≤ 300 := by omega
  have hsum : (Rs.map (fun r => r.l.length)).sum ≤ 300 := by omega
  have HRS := Lib.hid (fun r hr => Nat.le_trans (rs_le hsum r hr) (by omega) : ∀ r ∈ Rs, r.l.length ≤ 4611686018427387903)
  have hsum2 : ((Rs.map Rm.l).map List.length).sum ≤ 300 := by rw [List.map_map]; exact hsum
  have HSUM := Lib.hid hsum2
  obtain ⟨ls, hls⟩ : ∃ ls, Rs.map Rm.l = ls := ⟨_, rfl⟩
  rw [hls] at HSUM
  have hlsn : ls.length = Rs.length := by rw [← hls]; simp
  have HLS := Lib.hid hls
  have HLN := Lib.hid hlsn
  obtain ⟨M, hM⟩ : ∃ M, mL ls false = M := ⟨_, rfl⟩
  obtain ⟨E, hE⟩ : ∃ E, mE ls = E := ⟨_, rfl⟩
  have hMl : M.length ≤ 300 := by rw [← hM, ← hls]; exact mL_len false hsum2
  have HM := Lib.hid hM
  have HE := Lib.hid hE
  clear hG hM hE hsum2 HG hls hlsn
  go_wp2_with fail
  refine (merge_any B Rs c 300 false _ (HB.out.below HB1.out) (by omega) HRS.out hsum (by omega)).mono ?_
  rw [mrgE_m, mrgL_m, HLS.out, HM.out, HE.out]
  rintro e w2 ⟨A1, c1, rfl, ho1, hb2⟩
  have HO1 := Lib.hid ho1
  have HB2 := Lib.hid (bext HB1.out hb2)
  clear ho1 hb2
  go_upto_region 5 with fail
  obtain ⟨W2, hW2⟩ : ∃ W, w2.alloc (.cells #[.slice A1 M.length c1] 24) = W := ⟨_, rfl⟩
  have ba : Below w2.heap.size w2 W2 := by rw [← hW2]; exact (Below.refl _ _).alloc (Nat.le_refl _) _
  have bX : Blk W2 w2.heap.size 24 #[.slice A1 M.length c1] := by rw [← hW2]; exact Blk.new _ _ _
  try rw [hW2]
  obtain ⟨g4, hg4⟩ : ∃ g4, w2.heap.size = g4 := ⟨_, rfl⟩
  rw [hg4] at bX
  try rw [hg4]
  have HO1 := Lib.hid (own_below HO1.out ba)
  have HB2 := Lib.hid (bext HB2.out ba)
  have HX := Lib.hid bX
  have cX : W2.cell? ⟨g4, 0, none⟩ = some (.slice A1 M.length c1) := bX.cell 0
  have lX := bX.lt
  clear hW2 ba bX hg4
  by_cases h0 : E = 0
  case neg =>
    have h1 : (E != 0) = true := by simpa using h0
    have hM0 : M = [] := by rw [← HM.out]; unfold mL; rw [HE.out, if_neg h0]
    subst hM0
    have h2 : ((([] : List Ent).length : Int) == 0) = true := rfl
    have cX0 : W2.cell? ⟨g4, 0, none⟩ = some (.slice A1 0 c1) := cX
    clear h0 cX
    go_wp2
    go_ret
    exact ⟨rfl, HB2.out⟩
  case pos =>
  subst h0
  have hC := mE_chk HE.out
  have HC := Lib.hid hC
  clear hC
  go_upto_region 8 with fail
  obtain ⟨W3, hW3⟩ : ∃ W, (W2.alloc (.cells #[.slice none 0 0] 24)).alloc (.cells #[.slice none 0 0] 24) = W := ⟨_, rfl⟩
  have hb3 : Below W2.heap.size W2 W3 := by rw [← hW3]; exact ((Below.refl _ _).alloc (Nat.le_refl _) _).alloc (by simp) _
  have b6 : Blk W3 W2.heap.size 24 #[.slice none 0 0] := by rw [← hW3]; exact (Blk.new _ _ _).alloc _
  have b7 : Blk W3 (W2.heap.size + 1) 24 #[.slice none 0 0] := by
    rw [← hW3]
    have := Blk.new (W2.alloc (.cells #[.slice none 0 0] 24)) 24 #[.slice none 0 0]
    rwa [World.size_alloc] at this
  have hs3 : W3.heap.size = W2.heap.size + 2 := by rw [← hW3]; simp
  have hK0 : Kf W2 W2.heap.size (W2.heap.size + 1) W3.heap.size [] [] none 0 none 0 W3 := ⟨hb3, b6, b7, World.ownsRow_nil _ _ _ _, World.ownsRow_nil _ _ _ _, ⟨Nat.le_refl _, Nat.zero_le _⟩, ⟨Nat.le_refl _, Nat.zero_le _⟩, Nat.le_refl _⟩
  try rw [hW3]
  obtain ⟨g6, hg6⟩ : ∃ g6, W2.heap.size = g6 := ⟨_, rfl⟩
  obtain ⟨g7, hg7⟩ : ∃ g7, g6 + 1 = g7 := ⟨_, rfl⟩
  obtain ⟨S, hS⟩ : ∃ S, W3.heap.size = S := ⟨_, rfl⟩
  rw [hS] at hK0 hs3
  have hl4 : g4 < g6 := by rw [← hg6]; exact lX
  have i6 : g6 < S := by omega
  have i7 : g7 < S := by omega
  have ine : g6 ≠ g7 := by omega
  have j6 : W2.heap.size ≤ g6 := by omega
  have j7 : W2.heap.size ≤ g7 := by omega
  rw [hg6, hg7] at hK0
  try rw [hg6]
  try rw [hg7]
  have HK0 := Lib.hid hK0
  clear hW3 hb3 b6 b7 hs3 hK0 hg6 hg7 hS cX
  go_wp2_with fail
  go_loopw [10] (fun i wr => ∃ (k : Nat) (Ax : Option Addr) (cx : Nat) (Ay : Option Addr) (cy : Nat), k ≤ Rs.length ∧ i = .int .i64 k ∧ Hid (Kf W2 g6 g7 S (mL (ls.take k) false) (mL (ls.drop (Rs.length - k)) false) Ax cx Ay cy wr)) (fun i _ => Rs.length - (intOf i).toNat)
  case atStart =>
    refine ⟨0, none, 0, none, 0, Nat.zero_le _, rfl, ?_⟩
    rw [List.take_zero, Nat.sub_zero, List.drop_eq_nil_of_le (by rw [HLN.out]; exact Nat.le_refl _), mL_nil]
    exact HK0.out
  case round =>
    obtain ⟨k, Ax, cx, Ay, cy, hk, rfl, hK⟩ := hrel
    have HX := Lib.hid (HX.out.below hK.out.bel lX)
    have HBR := Lib.hid (bext HB2.out hK.out.bel)
    by_cases hlt : k < Rs.length
    · have hkl : k < ls.length := by rw [HLN.out]; exact hlt
      have hjl : Rs.length - 1 - k < ls.length := by rw [HLN.out]; omega
      obtain ⟨j, hj⟩ : ∃ j, j = Rs.length - 1 - k := ⟨_, rfl⟩
      have hjR : j < Rs.length := by omega
      have hjk : Rs.length - k = j + 1 := by omega
      have hjk2 : Rs.length - (k + 1) = j := by omega
      have hjl2 : j < ls.length := by rw [hj]; exact hjl
      obtain ⟨x1, x2⟩ := fold_x HC.out HSUM.out hkl
      obtain ⟨y1, y2⟩ := fold_y HC.out HSUM.out hjl2
      have hgx : ls[k]'hkl = (Rs[k]'hlt).l := by have := HLS.out; subst this; simp
      have hgy : ls[j]'hjl2 = (Rs[j]'hjR).l := by have := HLS.out; subst this; simp
      rw [hgx] at x1 x2
      rw [hgy] at y1 y2
      rw [hjk] at hK
      have hX300 := mL_len false (sum_take k HSUM.out).1
      have hY300 := mL_len false (sum_take (j + 1) HSUM.out).2
      have hl1 := rs_le hsum _ (List.getElem_mem hlt)
      have hl2 := rs_le hsum _ (List.getElem_mem hjR)
      have hokx := (HB.out.ok _ (List.getElem_mem hlt)).below HBR.out
      have hoky := (HB.out.ok _ (List.getElem_mem hjR)).below HBR.out
      obtain ⟨b, off, rfl, hbl, cp⟩ := HB.out.sl.oneB HBR.out k hlt
      obtain ⟨b', off', hbb, hbl', cq⟩ := HB.out.sl.oneB HBR.out j hjR
      obtain ⟨rfl, rfl⟩ : b = b' ∧ off = off' := by simpa using hbb
      obtain ⟨rx, hrx⟩ : ∃ r, Rs[k]'hlt = r := ⟨_, rfl⟩
      obtain ⟨ry, hry⟩ : ∃ r, Rs[j]'hjR = r := ⟨_, rfl⟩
      have HJR := Lib.hid hjR
      have HRY : Hid (Rs[j]'hjR = ry) := hry
      rw [hrx] at x1 x2 hl1 hokx cp
      rw [hry] at y1 y2 hl2 hoky cq
      obtain ⟨lx, A, cl⟩ := rx
      obtain ⟨ly, A', cl'⟩ := ry
      obtain ⟨X, hX⟩ : ∃ X, mL (ls.take k) false = X := ⟨_, rfl⟩
      obtain ⟨Y, hY⟩ : ∃ Y, mL (ls.drop (j + 1)) false = Y := ⟨_, rfl⟩
      obtain ⟨X', hX'⟩ : ∃ X, mL (ls.take (k + 1)) false = X := ⟨_, rfl⟩
      obtain ⟨Y', hY'⟩ : ∃ Y, mL (ls.drop j) false = Y := ⟨_, rfl⟩
      rw [hX, hX'] at x2
      rw [hX] at x1 hX300 hK
      rw [hY, hY'] at y2
      rw [hY] at y1 hY300 hK
      dsimp only at x1 x2 y1 y2 hl1 hl2
      have cp1 : wr.cell? ⟨b, off + k, none⟩ = some (.slice A lx.length cl) := cp
      have cq1 : wr.cell? ⟨b, off + j, none⟩ = some (.slice A' ly.length cl') := cq
      have HX' := Lib.hid hX'
      have HY' := Lib.hid hY'
      have HJ2 := Lib.hid hjk2
      obtain ⟨q, hq⟩ : ∃ q, q = Rs.length - 1 := ⟨_, rfl⟩
      have hqk : q - k = j := by omega
      have hkq : k ≤ q := by omega
      have hw1 : IntKind.i64.wrap ((Rs.length : Int) - 1) = (q : Int) := (IntWalk.i64_in _ (by omega)).trans (by omega)
      have hw2 : IntKind.i64.wrap ((q : Int) - (k : Int)) = (j : Int) := (IntWalk.i64_in _ (by omega)).trans (by omega)
      have hw3 : (Rs.length : Int) - 1 = (q : Int) := by omega
      have hw4 : (q : Int) - (k : Int) = (j : Int) := by omega
      have hw5 : IntKind.i64.wrap ((Rs.length - 1 : Nat) : Int) = (q : Int) := (IntWalk.i64_in _ (by omega)).trans (by omega)
      have hw7 : IntKind.i64.wrap (q : Int) = (q : Int) := IntWalk.i64_in _ (by omega)
      have hw6 : IntKind.i64.wrap (j : Int) = (j : Int) := IntWalk.i64_in _ (by omega)
      have HW12 := Lib.hid (And.intro hw1 (And.intro hw2 (And.intro hw3 (And.intro hw4 (And.intro hw5 (And.intro hw6 hw7))))))
      clear hw1 hw2 hw3 hw4 hw5 hw6 hw7 hq hqk
      have htx : ∀ W, Below wr.heap.size wr W → Calls Try.prog 18 #[.agg #[.slice Ax X.length cx], .agg #[.slice A lx.length cl], .bool false] W (GivesRun 32 X' 0 W) := by
        intro W hW
        have h8 := two_any Ax A X lx cx cl false W ((own_sl hK.out.ox).below hW) (hokx.sl.below hW) hK.out.lx.1 hokx.lc hK.out.lx.2 hokx.c (by omega)
        rw [mrgE_m, mrgL_m] at h8
        have h9 : ([⟨X, Ax, cx⟩, ⟨lx, A, cl⟩] : List Rm).map Rm.l = [X, lx] := rfl
        rw [h9, x1, x2] at h8
        exact h8
      have HTX := Lib.hid htx
      have HY1 := Lib.hid y1
      have HY2 := Lib.hid y2
      have HOKY := Lib.hid hoky
      have c6 : wr.cell? ⟨g6, 0, none⟩ = some (.slice Ax X.length cx) := hK.out.bx.cell 0
      have f6 : wr.frozen? ⟨g6, 0, none⟩ = false := hK.out.bx.frozen 0
      have l6 : g6 < wr.heap.size := hK.out.bx.lt
      have hki : (0 : Int) ≤ (k : Int) := by omega
      have hki2 : (k : Int) < (Rs.length : Int) := by omega
      have nb6 : b ≠ g6 := by have := HB2.out.size; omega
      have nb7 : b ≠ g7 := by have := HB2.out.size; omega
      have lb : b < wr.heap.size := Nat.lt_of_lt_of_le hbl HBR.out.size
      clear x1 x2 y1 y2 hX hY hX' hY' hrx hry hgx hgy cp cq htx hokx hoky hj hjk hjk2 hkl hjl hjl2 hbb hbl'
      go_upto_region 12 with fail
      go_cut [8] from 44 to 51 (fun v wx => v = .int .i64 0 ∧ ∃ A2 c2, Hid (Kf W2 g6 g7 S X' Y A2 c2 Ay cy wx) ∧ Mod (fun b => b = g6) wr wx)
      case first =>
        go_region_with ((go_at_call 18; refine (HTX.out _ (by first | exact (Below.refl _ _).drew | exact Below.refl _ _)).mono ?_; intro e21 v21 h21; obtain ⟨A21, c21, B21, hB21, rfl, f21, hv21⟩ := h21.form; have F21 := Lib.hid f21; clear f21 h21; have c6' : v21.cell? ⟨g6, 0, none⟩ = some (.slice Ax X.length cx) := ((bcell hv21).1 g6 0 l6).trans c6; have f6' : v21.frozen? ⟨g6, 0, none⟩ = false := ((bcell hv21).2 g6 0 l6).trans f6))
        all_goals
          go_wp2_with fail
          go_meet
          have hvx : Below wr.heap.size wr v21 := bext ((Below.refl _ _).drew) hv21
          exact ⟨by simp, A21, c21, hK.out.stepX j6 i6 ine hvx (Nat.le_of_eq hB21.out.symm) F21.out.1, Mod.setCell (S := fun b => b = g6) (p := ⟨g6, 0, none⟩) (Mod.of_ext hvx) rfl _⟩
      case rest =>
        obtain ⟨rfl, A2, c2, hK2, hm⟩ := hcut
        have cq2 : wc.cell? ⟨b, off + j, none⟩ = some (.slice A' ly.length cl') := (hm.cell (p := ⟨b, off + j, none⟩) lb nb6).trans cq1
        have hsy : Sl wc A' (ly.flatMap Ent.cells) := (HB.out.ok _ (List.getElem_mem HJR.out)).sl.below (bext HB2.out hK2.out.bel) |> fun h => by rw [HRY.out] at h; exact h
        have htx : ∀ W, Below wc.heap.size wc W → Calls Try.prog 18 #[.agg #[.slice A' ly.length cl'], .agg #[.slice Ay Y.length cy], .bool false] W (GivesRun 32 Y' 0 W) := by
          intro W hW
          have h8 := two_any A' Ay ly Y cl' cy false W (hsy.below hW) ((own_sl hK2.out.oy).below hW) HOKY.out.lc hK2.out.ly.1 HOKY.out.c hK2.out.ly.2 (by omega)
          rw [mrgE_m, mrgL_m] at h8
          have h9 : ([⟨ly, A', cl'⟩, ⟨Y, Ay, cy⟩] : List Rm).map Rm.l = [ly, Y] := rfl
          rw [h9, HY1.out, HY2.out] at h8
          exact h8
        have HTY := Lib.hid htx
        have c7 : wc.cell? ⟨g7, 0, none⟩ = some (.slice Ay Y.length cy) := hK2.out.ay.cell 0
        have f7 : wc.frozen? ⟨g7, 0, none⟩ = false := hK2.out.ay.frozen 0
        have l7 : g7 < wc.heap.size := hK2.out.ay.lt
        have hji : (0 : Int) ≤ (j : Int) := by omega
        have hji2 : (j : Int) < (Rs.length : Int) := by have := HJR.out; omega
        clear cq1 cp1 c6 f6 l6 hm htx hsy
        go_upto_region 15 with fail
        obtain ⟨hw1, hw2, hw3, hw4, hw5, hw6, hw7⟩ := HW12.out
        go_cut [9] from 55 to 66 (fun v wx => v = .int .i64 0 ∧ ∃ A3 c3, Hid (Kf W2 g6 g7 S X' Y' A2 c2 A3 c3 wx))
        case first =>
          go_region_with ((go_at_call 18; refine (HTY.out _ (by first | exact (Below.refl _ _).drew | exact Below.refl _ _)).mono ?_; intro e21 v21 h21; obtain ⟨A21, c21, B21, hB21, rfl, f21, hv21⟩ := h21.form; have F21 := Lib.hid f21; clear f21 h21; have c7' : v21.cell? ⟨g7, 0, none⟩ = some (.slice Ay Y.length cy) := ((bcell hv21).1 g7 0 l7).trans c7; have f7' : v21.frozen? ⟨g7, 0, none⟩ = false := ((bcell hv21).2 g7 0 l7).trans f7))
          all_goals
            go_wp2_with fail
            go_meet
            have hvx : Below wc.heap.size wc v21 := bext ((Below.refl _ _).drew) hv21
            exact ⟨by simp, A21, c21, hK2.out.stepY j7 i7 ine hvx (Nat.le_of_eq hB21.out.symm) F21.out.1⟩
        case rest =>
          obtain ⟨rfl, A3, c3, hK3⟩ := hcut
          clear hw1 hw2 hw3 hw4 hw5 hw6 hw7 cq2 c7 f7 l7
          go_wp2
          go_roundw
          case rel => exact ⟨k + 1, A2, c2, A3, c3, by omega, by go_num, by rw [HJ2.out, HX'.out, HY'.out]; exact hK3.out⟩
          case measure => simp [intOf]; omega
    · have hkn : k = Rs.length := by omega
      have hXM : mL (ls.take k) false = M := by rw [hkn, ← HLN.out, List.take_of_length_le (Nat.le_refl _)]; exact HM.out
      have hYM : mL (ls.drop (Rs.length - k)) false = M := by rw [hkn, Nat.sub_self, List.drop_zero]; exact HM.out
      rw [hXM, hYM] at hK
      obtain ⟨N, hN⟩ : ∃ N, mL ls true = N := ⟨_, rfl⟩
      have hNl : N.length ≤ 300 := by rw [← hN]; exact mL_len true HSUM.out
      obtain ⟨b1, b2⟩ := fold_b HC.out HSUM.out
      rw [HM.out] at b1 b2
      rw [hN] at b2
      have HN := Lib.hid hN
      have hEt : mE ls = 0 := HE.out
      have HEt := Lib.hid hEt
      have htx : ∀ W, Below wr.heap.size wr W → Calls Try.prog 18 #[.agg #[.slice Ax M.length cx], .agg #[.slice none 0 0], .bool true] W (GivesRun 32 N 0 W) := by
        intro W hW
        have h8 := two_any Ax none M [] cx 0 true W ((own_sl hK.out.ox).below hW) (.inl rfl) hK.out.lx.1 (Nat.le_refl _) hK.out.lx.2 (Nat.zero_le _) (by simp; omega)
        rw [mrgE_m, mrgL_m] at h8
        have h9 : ([⟨M, Ax, cx⟩, ⟨[], none, 0⟩] : List Rm).map Rm.l = [M, []] := rfl
        rw [h9, b1, b2] at h8
        exact h8
      have HTB := Lib.hid htx
      have c6 : wr.cell? ⟨g6, 0, none⟩ = some (.slice Ax M.length cx) := hK.out.bx.cell 0
      have c7 : wr.cell? ⟨g7, 0, none⟩ = some (.slice Ay M.length cy) := hK.out.ay.cell 0
      have c4 : wr.cell? ⟨g4, 0, none⟩ = some (.slice A1 M.length c1) := HX.out.cell 0
      have l6 : g6 < wr.heap.size := hK.out.bx.lt
      have l7 : g7 < wr.heap.size := hK.out.ay.lt
      have l4 : g4 < wr.heap.size := HX.out.lt
      have HSX := Lib.hid (own_sl hK.out.ox)
      have HSY := Lib.hid (own_sl hK.out.oy)
      have HS1 := Lib.hid ((own_sl HO1.out).below hK.out.bel)
      clear hkn hXM hYM hN b1 b2 hEt htx hK
      go_wp2_with fail
      refine (HTB.out _ (Below.refl _ _)).mono ?_
      rintro e w5 ⟨A5, c5, rfl, ho5, hb5⟩
      have HS5 := Lib.hid (own_sl ho5)
      obtain ⟨hc5, hz5, hs5⟩ := wfacts hb5
      have m6 := hs5 _ l6
      have m7 := hs5 _ l7
      have m4 := hs5 _ l4
      have ba5 : Below w5.heap.size w5 (w5.alloc (.cells #[.slice A5 N.length c5] 24)) := (Below.refl _ _).alloc (Nat.le_refl _) _
      have HB5 := Lib.hid (bext hb5 ba5)
      have HBA5 := Lib.hid ba5
      clear ho5 hb5 ba5
      go_wp2_with fail
      refine (merge_any B Rs c 300 true _ (HB.out.below (bext HBR.out HB5.out)) (by omega) HRS.out hsum (by omega)).mono ?_
      rw [mrgE_m, mrgL_m, HLS.out, HN.out, HEt.out]
      rintro e w6 ⟨A6, c6', rfl, ho6, hb6⟩
      have HS6 := Lib.hid (own_sl ho6)
      obtain ⟨hc6, hz6, hs6⟩ := wfacts hb6
      have n6 := hs6 g6 (by simp; omega)
      have n7 := hs6 g7 (by simp; omega)
      have n4 := hs6 g4 (by simp; omega)
      have n5 := hs6 w5.heap.size (by simp)
      have ba6 : Below w6.heap.size w6 (w6.alloc (.cells #[.slice A6 N.length c6'] 24)) := (Below.refl _ _).alloc (Nat.le_refl _) _
      have HB6 := Lib.hid (bext HB5.out (bext hb6 ba6))
      have HBA6 := Lib.hid ba6
      have HS5 := Lib.hid ((HS5.out.below HBA5.out).below (bext hb6 ba6))
      clear ho6 hb6 ba6
      go_wp2_with fail
      refine (boundSame_any Ax A1 M M cx c1 _ (HSX.out.below HB6.out) (HS1.out.below HB6.out) (by omega) (by omega)).mono ?_
      rw [decide_eq_true rfl]
      rintro e w7 ⟨rfl, hb7⟩
      obtain ⟨hc7, hz7, hs7⟩ := wfacts hb7
      have HB7 := Lib.hid (bext HB6.out hb7)
      have o7 := hs7 g7 (by simp; omega)
      have o4 := hs7 g4 (by simp; omega)
      have o5 := hs7 w5.heap.size (by simp; omega)
      have o6 := hs7 w6.heap.size (by simp)
      have HS5 := Lib.hid (HS5.out.below hb7)
      have HS6 := Lib.hid ((HS6.out.below HBA6.out).below hb7)
      clear hb7
      go_wp2_with fail
      refine (boundSame_any Ay A1 M M cy c1 _ (HSY.out.below HB7.out) (HS1.out.below HB7.out) (by omega) (by omega)).mono ?_
      rw [decide_eq_true rfl]
      rintro e w8 ⟨rfl, hb8⟩
      obtain ⟨hc8, hz8, hs8⟩ := wfacts hb8
      have HB8 := Lib.hid (bext HB7.out hb8)
      have HS5 := Lib.hid (HS5.out.below hb8)
      have HS6 := Lib.hid (HS6.out.below hb8)
      clear hb8
      go_wp2_with fail
      refine (boundSame_any A5 A6 N N c5 c6' _ HS5.out HS6.out (by omega) (by omega)).mono ?_
      rw [decide_eq_true rfl]
      rintro e w9 ⟨rfl, hb9⟩
      have HB9 := Lib.hid (bext HB8.out hb9)
      clear hb9
      go_wp2_with fail
      go_ret
      exact ⟨rfl, bext HBR.out HB9.out⟩
end Go.Proofs.Ytokomclcgegfkaa
