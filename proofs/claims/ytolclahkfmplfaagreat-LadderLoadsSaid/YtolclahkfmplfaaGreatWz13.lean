/- G8 Hi Gc Hd Ho Iq Gv Ia Ic: texts of the claim, in this order. -/
import Derived.Test.YtolclahkfmplfaaGreatWz11
import Derived.Deep.LoopGhost
import Derived.Test.YtolclahkfmplfaaGreatWz12
import Derived.Test.YtolclahkfmplfaaGreatWz2
import Derived.Test.YtolclahkfmplfaaGreatWz7
import Derived.Maps.OwnOps
import Derived.Test.YtolclahkfmplfaaGreatWz9
import Derived.Test.YtolclahkfmplfaaGreatWz1
/- Contract: runs at their levels (rungs.of). -/
namespace Go.Proofs.YtolclahkfmplfaaGreat
open Go Go.RowKit
set_option maxRecDepth 100000
theorem of_succ {rs : Lv} {k : Nat} (h : k < rs.length) : ofL (rs.take (k + 1)) = standL (ofL (rs.take k)) (lev rs k) := by
  rw [List.take_succ_eq_append_getElem h, of_snoc, lev_lt h]
theorem of_grow {w : World} {B0 g4 g5 n d3 : Nat} {A3 : Option Addr} {Ts3 : List Rm} {c4 c5 : Array Value} {v5 : Value} {w5 : World} (o : Obj) (hr : RowAt w B0 A3 d3 Ts3) (b4 : Blk w g4 27 c4) (b5 : Blk w g5 27 c5)
    (ho : w5.ownsRow B0 58 1 v5 n (Ts3.map Rm.v ++ [.slice none 0 0])) (hg : (w.alloc o).grownBy w5 (Value.slice A3 Ts3.length d3).ownBlock) :
    ∃ A5 d5, v5 = .slice A5 n d5 ∧ Blk w5 g4 27 c4 ∧ Blk w5 g5 27 c5 ∧ (∀ i, w5.cell? ⟨g5, i, none⟩ = c5[i]?) ∧ (∀ i, w5.frozen? ⟨g5, i, none⟩ = false) := by
  obtain ⟨A5, d5, h1, _, _⟩ := own_form ho
  have e5 := (b5.alloc o).grown hg (own_typ (hr.alloc o) (b5.alloc o) (by decide))
  exact ⟨A5, d5, h1, (b4.alloc o).grown hg (own_typ (hr.alloc o) (b4.alloc o) (by decide)), e5, fun i => e5.cell i, fun i => e5.frozen i⟩
set_option maxHeartbeats 4000000 in
theorem of_any (n : Int) (B : Option Addr) (Rs : List Rm) (c : Nat) (w : World) (hB : RunsAt w B Rs) (hl : Rs.length ≤ 1000000) (hrs : ∀ r ∈ Rs, r.l.length ≤ 65536) :
    Calls Tryz.prog 54 #[.int .u64 n, .slice B Rs.length c] w fun r w' => ∃ A d Ts, r = .returned (.agg #[.slice A Ts.length d, .int .u64 n]) ∧ lvs Ts = ofL (lvs Rs) ∧ RowAt w' w.heap.size A d Ts ∧ (∀ t ∈ Ts, t = ⟨[], none, 0⟩ ∨ t ∈ Rs) ∧ Below w.heap.size w w' := by
  obtain ⟨te0, hI⟩ := info_parts run_info1
  have HI := Lib.hid hI
  have HB := Lib.hid hB
  have HHR := Lib.hid hrs
  clear hI hB hrs
  obtain ⟨W0, hW0⟩ : ∃ W0, (w.alloc (.cells #[.slice none 0 0, .int .u64 0] 27)).alloc (.cells #[.slice none 0 0, .int .u64 n] 27) = W0 := ⟨_, rfl⟩
  have hb0 : Below w.heap.size w W0 := by rw [← hW0]; exact ((Below.refl _ _).alloc (Nat.le_refl _) _).alloc (by simp) _
  have b40 : Blk W0 w.heap.size 27 #[.slice none 0 0, .int .u64 0] := by rw [← hW0]; exact (Blk.new _ _ _).alloc _
  have b50 : Blk W0 (w.heap.size + 1) 27 #[.slice none 0 0, .int .u64 n] := by
    rw [← hW0]
    have := Blk.new (w.alloc (.cells #[.slice none 0 0, .int .u64 0] 27)) 27 #[.slice none 0 0, .int .u64 n]
    rwa [World.size_alloc] at this
  go_enter Tryz.func54, Tryz.ntmps54
  go_wp2
  try rw [hW0]
  clear hW0
  go_loopw [13] (fun i wr => ∃ (k : Nat) (Ts : List Rm) (A : Option Addr) (d : Nat), k ≤ Rs.length ∧ i = .int .i64 k ∧ Below w.heap.size w wr ∧ Blk wr w.heap.size 27 #[.slice none 0 0, .int .u64 0] ∧ Blk wr (w.heap.size + 1) 27 #[.slice A Ts.length d, .int .u64 n] ∧
      RowAt wr w.heap.size A d Ts ∧ Ts.length ≤ 17 ∧ Hid (lvs Ts = ofL ((lvs Rs).take k) ∧ ∀ t ∈ Ts, t = ⟨[], none, 0⟩ ∨ t ∈ Rs)) (fun i _ => Rs.length - (intOf i).toNat)
  case atStart => exact ⟨0, [], none, 0, Nat.zero_le _, rfl, hb0, b40, b50, World.ownsRow_nil _ _ _ _, by simp, rfl, by simp⟩
  case round =>
    obtain ⟨k, Ts, A, d, hk, rfl, hb, b4, b5, hrow, h17, hH⟩ := hrel
    obtain ⟨wq, rfl⟩ : ∃ wq, wq = wr := ⟨_, rfl⟩
    have hbs := hb.size
    have c50 : wq.cell? ⟨w.heap.size + 1, 0, none⟩ = some (.slice A Ts.length d) := b5.cell 0
    have c51 : wq.cell? ⟨w.heap.size + 1, 1, none⟩ = some (.int .u64 n) := b5.cell 1
    by_cases hlt : k < Rs.length
    · obtain ⟨b, off, rfl, hbl, cp⟩ := HB.out.sl.oneB hb k hlt
      have hlt2 : k < (lvs Rs).length := by rw [lvs_len]; exact hlt
      have hlv := lvs_lev hlt
      have hmem := List.getElem_mem hlt
      have hrl := HHR.out _ hmem
      have hof := of_succ hlt2
      obtain ⟨r, hr⟩ : ∃ r, Rs[k]'hlt = r := ⟨_, rfl⟩
      rw [hr] at cp hrl hlv hmem
      rw [hlv] at hof
      obtain ⟨l, Ar, cl⟩ := r
      have cp1 : wq.cell? ⟨b, off + k, none⟩ = some (.slice Ar l.length cl) := cp
      dsimp only at hrl hof
      have hki : (0 : Int) ≤ (k : Int) := by omega
      have hki2 : (k : Int) < (Rs.length : Int) := by omega
      have HOF := Lib.hid hof
      have HROW := Lib.hid hrow
      have HM := Lib.hid hmem
      obtain ⟨W1, hW1⟩ : ∃ W1, wq.alloc (.cells #[.slice Ar l.length cl] 58) = W1 := ⟨_, rfl⟩
      have hb1 : Below wq.heap.size wq W1 := by rw [← hW1]; exact (Below.refl _ _).alloc (Nat.le_refl _) _
      have hs1 : W1.heap.size = wq.heap.size + 1 := by rw [← hW1]; simp
      have b71 : Blk W1 wq.heap.size 58 #[.slice Ar l.length cl] := by rw [← hW1]; exact Blk.new _ _ _
      have b41 := b4.below hb1 b4.lt
      have b51 := b5.below hb1 b5.lt
      have HROW1 := Lib.hid (own_below hrow hb1)
      have HW1 := Lib.hid hW1
      clear cp hr hlv hof hrow hmem hlt2 hW1
      by_cases h0 : l.length = 0
      · have hnil : l = [] := List.eq_nil_of_length_eq_zero h0
        subst hnil
        clear h0
        go_wp2
        have e1 : wq.alloc (.cells #[.slice Ar 0 cl] 58) = W1 := HW1.out
        rw [e1]
        clear e1
        go_roundw
        case rel =>
          refine ⟨k + 1, Ts, A, d, by omega, by go_num, bext hb hb1, b41, b51, HROW1.out, h17, ?_, hH.out.2⟩
          rw [HOF.out, stand_nil]; exact hH.out.1
        case measure => simp [intOf]; omega
      · have hpos : ¬ ((l.length : Int) = 0) := by omega
        have hne2 : ¬ l = [] := by intro h; apply h0; rw [h]; rfl
        have HL0 : Hid (0 < l.length) := by show 0 < l.length; omega
        have HL6 := Lib.hid hrl
        obtain ⟨U, hU⟩ : ∃ U, up l.length = U := ⟨_, rfl⟩
        have hU16 : U ≤ 16 := by rw [← hU]; exact up_16 hrl
        have HU := Lib.hid hU
        clear hU
        go_wp2_with fail
        rw [HW1.out]
        refine (level_any Ar l.length cl _ HL0.out HL6.out).mono ?_
        rw [HU.out]
        rintro e w2 ⟨rfl, hb2⟩
        have hb02 : Below w.heap.size w w2 := bext hb (bext hb1 hb2)
        have b72 := b71.below hb2 b71.lt
        have b42 := b41.below hb2 b41.lt
        have b52 := b51.below hb2 b51.lt
        have HROW2 := Lib.hid (own_below HROW1.out hb2)
        have hs2 := hb2.size
        have hne7 : ∀ q, A = some q → q.block ≠ wq.heap.size := by
          intro q hq
          have h1 := (HROW.out.lt q.block (by rw [hq]; simp [Value.ownBlock])).2
          omega
        clear c50 c51
        go_wp2_with fail
        go_loopg [] (U + 1 - Ts.length) (fun gk w3 => ∃ (Ts3 : List Rm) (A3 : Option Addr) (d3 : Nat), Below w.heap.size w w3 ∧ Blk w3 w.heap.size 27 #[.slice none 0 0, .int .u64 0] ∧ Blk w3 (w.heap.size + 1) 27 #[.slice A3 Ts3.length d3, .int .u64 n] ∧ Blk w3 wq.heap.size 58 #[.slice Ar l.length cl] ∧
          RowAt w3 w.heap.size A3 d3 Ts3 ∧ Ts3.length ≤ 17 ∧ wq.heap.size + 1 ≤ w3.heap.size ∧ Hid ((∀ q, A3 = some q → q.block ≠ wq.heap.size) ∧ lvs Ts3 = padTo (lvs Ts) Ts3.length ∧ Ts.length ≤ Ts3.length ∧ Ts3.length ≤ max Ts.length (U + 1) ∧ (∀ t ∈ Ts3, t = ⟨[], none, 0⟩ ∨ t ∈ Rs) ∧ gk = U + 1 - Ts3.length))
        case atStart => exact ⟨Ts, A, d, hb02, b42, b52, b72, HROW2.out, h17, by omega, hne7, by rw [pad_same _ (by rw [lvs_len]; exact Nat.le_refl _)], Nat.le_refl _, by omega, hH.out.2, rfl⟩
        case round =>
          obtain ⟨Ts3, A3, d3, hb3, b43, b53, b73, hrow3, h173, hs3, hH3⟩ := hrel
          have c53 : wr.cell? ⟨w.heap.size + 1, 0, none⟩ = some (.slice A3 Ts3.length d3) := b53.cell 0
          have c54 : wr.cell? ⟨w.heap.size + 1, 1, none⟩ = some (.int .u64 n) := b53.cell 1
          have f53 : wr.frozen? ⟨w.heap.size + 1, 0, none⟩ = false := b53.frozen 0
          have lt5 := b53.lt
          by_cases hle : Ts3.length ≤ U
          · have g1 : (Ts3.length : Int) ≤ (U : Int) := by omega
            have HROW3 := Lib.hid hrow3
            clear hrow3
            go_wp2_with (at_builtin; refine wpList_append_at _ rfl (.tmp 29) (.tmp 31) _ rfl w.heap.size 58 te0 _ 1 24 Tryz.underlying24 HI.out.1 HI.out.2.1 HI.out.2.2.1 HI.out.2.2.2 rfl (by omega) (.slice A3 Ts3.length d3) Ts3.length _ rfl (HROW3.out.alloc _) wr.heap.size 1 _ [.slice none 0 0] rfl (by intro j u hu; rw [(Blk.new wr 58 #[.slice none 0 0]).cell j]; simpa using hu) rfl (by simp [Value.oneCell']) (by unfold maxLen; omega) (by omega) (by simp; omega) ?_; intro v5 w5 hown5 hg5 hblk5; obtain ⟨A5, d5, hv5, b45, b55, cc55, ff55⟩ := of_grow _ HROW3.out b43 b53 hown5 hg5; subst hv5; have c55 : w5.cell? ⟨w.heap.size + 1, 0, none⟩ = some (.slice A3 Ts3.length d3) := cc55 0; have c56 : w5.cell? ⟨w.heap.size + 1, 1, none⟩ = some (.int .u64 n) := cc55 1; have f55 : w5.frozen? ⟨w.heap.size + 1, 0, none⟩ = false := ff55 0; clear cc55 ff55; have HO5 := Lib.hid hown5; have HG5 := Lib.hid hg5; have HK5 := Lib.hid hblk5; clear hown5 hg5 hblk5)
            go_roundg (U + 1 - (Ts3.length + 1))
            case measure => have := hH3.out.2.2.2.2.2; omega
            case rel =>
              have hsz : (wr.alloc (.cells #[.slice none 0 0] 58)).heap.size = wr.heap.size + 1 := by simp
              have b75 := (b73.alloc (.cells #[.slice none 0 0] 58)).grown HG5.out (by
                intro h
                cases A3 with
                | none => simp [Value.ownBlock] at h
                | some q => exact hH3.out.1 q rfl (by simpa [Value.ownBlock] using h))
              have hb5 : Below w.heap.size w w5 := (hb3.alloc (by have := hb3.size; omega) _).grown HG5.out (by have := hb3.size; simp; omega) (fun q hq => (HROW3.out.lt q hq).1)
              refine ⟨Ts3 ++ [⟨[], none, 0⟩], A5, d5, hb5.setCell (p := ⟨w.heap.size + 1, 0, none⟩) (Nat.le_succ _) _, b45.far (p := ⟨w.heap.size + 1, 0, none⟩) (by simp) _, ?_, b75.far (p := ⟨w.heap.size + 1, 0, none⟩) (by show _ ≠ w.heap.size + 1; exact (blk_ne b75 b55 (by decide))) _, ?_, ?_, ?_, ?_⟩
              · have := b55.set_ 0 (.slice A5 (Ts3.length + 1) d5)
                rw [List.length_append]
                exact this
              · have := own_setT b55 HO5.out (by decide) 0 (.slice A5 (Ts3.length + 1) d5)
                unfold RowAt
                rw [List.length_append, List.map_append]
                exact this
              · rw [List.length_append]; simp; omega
              · have := HG5.out.size; simp at this ⊢; omega
              · refine ⟨?_, ?_, ?_, ?_, ?_, ?_⟩
                · intro q hq
                  subst hq
                  rcases HK5.out with h1 | h1
                  · cases A3 with
                    | none => simp [Value.ownBlock] at h1
                    | some q3 => have := hH3.out.1 q3 rfl; simp [Value.ownBlock] at h1; omega
                  · simp [Value.ownBlock] at h1; omega
                · rw [lvs_append, hH3.out.2.1, List.length_append]
                  exact (pad_step (lvs Ts) (by rw [lvs_len]; exact hH3.out.2.2.1)).symm
                · rw [List.length_append]; have := hH3.out.2.2.1; omega
                · rw [List.length_append]; simp; omega
                · intro t ht
                  rcases List.mem_append.1 ht with h1 | h1
                  · exact hH3.out.2.2.2.2.1 t h1
                  · left; simpa using h1
                · rw [List.length_append]; rfl
          · have hU3 : U < Ts3.length := by omega
            obtain ⟨gT, cur, rfl, hgT, bT, hcs, hcell⟩ := RowAt.at hrow3 (by omega)
            have cT := hcell U hU3
            have fT := bT.frozen U
            have g1 : ¬ (Ts3.length : Int) ≤ (U : Int) := by omega
            have g2 : (0 : Int) ≤ (U : Int) := by omega
            have g3 : (U : Int) < (Ts3.length : Int) := by omega
            have c73 : wr.cell? ⟨wq.heap.size, 0, none⟩ = some (.slice Ar l.length cl) := b73.cell 0
            have ltT := bT.lt
            have HROW3 := Lib.hid hrow3
            have HU3 := Lib.hid hU3
            have HNE2 := Lib.hid hne2
            clear hcell hrow3 hne2
            go_wp2
            go_roundw
            case rel =>
              have hne5 := blk_ne bT b53 (by decide)
              have hne4 := blk_ne bT b43 (by decide)
              refine ⟨k + 1, Ts3.set U ⟨l, Ar, cl⟩, some ⟨gT, 0, none⟩, d3, by omega, by go_num, hb3.setCell (p := ⟨gT, U, none⟩) hgT _, b43.far (p := ⟨gT, U, none⟩) hne4.symm _, ?_, RowAt.set HROW3.out HU3.out ⟨l, Ar, cl⟩, by rw [List.length_set]; exact h173, ?_, ?_⟩
              · rw [List.length_set]; exact b53.far (p := ⟨gT, U, none⟩) hne5.symm _
              · have hp : padTo (lvs Ts) Ts3.length = padTo (lvs Ts) (U + 1) := by
                  have h1 := hH3.out.2.2.1
                  have h2 := hH3.out.2.2.2.1
                  by_cases h3 : Ts.length ≤ U
                  · rw [show Ts3.length = U + 1 by omega]
                  · rw [pad_same _ (by rw [lvs_len]; omega), pad_same _ (by rw [lvs_len]; omega)]
                rw [lvs_set, hH3.out.2.1, hp, HOF.out, ← hH.out.1]
                unfold standL
                rw [if_neg HNE2.out, HU.out]
              · intro t ht
                rcases List.mem_or_eq_of_mem_set ht with h1 | h1
                · exact hH3.out.2.2.2.2.1 t h1
                · right; rw [h1]; exact HM.out
            case measure => simp [intOf]; omega
    · have hkn : k = Rs.length := by omega
      have HF : Hid (lvs Ts = ofL (lvs Rs)) := by
        have h := hH.out.1
        rw [List.take_of_length_le (by rw [lvs_len]; omega)] at h
        exact h
      have HROW := Lib.hid hrow
      clear hrow hkn
      have f40 := b4.frozen 0
      have f41 := b4.frozen 1
      have c40 : wq.cell? ⟨w.heap.size, 0, none⟩ = some (.slice none 0 0) := b4.cell 0
      have c41 : wq.cell? ⟨w.heap.size, 1, none⟩ = some (.int .u64 0) := b4.cell 1
      go_wp2
      have hb6 := ((b4.set_ 0 (.slice A Ts.length d)).set_ 1 (.int .u64 n))
      have e0 : ((wq.setCell ⟨w.heap.size, 0, none⟩ (.slice A Ts.length d)).setCell ⟨w.heap.size, 1, none⟩ (.int .u64 n)).cell? ⟨w.heap.size, 0, none⟩ = some (.slice A Ts.length d) := hb6.cell 0
      have e1 : ((wq.setCell ⟨w.heap.size, 0, none⟩ (.slice A Ts.length d)).setCell ⟨w.heap.size, 1, none⟩ (.int .u64 n)).cell? ⟨w.heap.size, 1, none⟩ = some (.int .u64 n) := hb6.cell 1
      refine bodyPost_ret (v := .agg #[.slice A Ts.length d, .int .u64 n]) (by simp [results, Tryz.results54, go_sem, e0, e1]) rfl ?_
      refine ⟨A, d, Ts, rfl, HF.out, own_setT (b4.set_ 0 (.slice A Ts.length d)) (own_setT b4 HROW.out (by decide) 0 _) (by decide) 1 _, hH.out.2, (hb.setCell (p := ⟨w.heap.size, 0, none⟩) (Nat.le_refl _) _).setCell (p := ⟨w.heap.size, 1, none⟩) (Nat.le_refl _) _⟩
end Go.Proofs.YtolclahkfmplfaaGreat

/- Contract: an entry is let in (rungs.in). -/
namespace Go.Proofs.YtolclahkfmplfaaGreat
open Go Go.RowKit Go.Maps
set_option maxRecDepth 100000
theorem top_cnt {rs : Lv} (h : Top rs) : cnt rs = 0 ↔ rs = [] := by
  constructor
  · intro h0
    rcases h with h1 | h1
    · exact h1
    · exact absurd (cnt_zero h0 _) h1
  · rintro rfl; rfl
end Go.Proofs.YtolclahkfmplfaaGreat

/- Contract: which levels may be (rungs.Check). -/
namespace Go.Proofs.YtolclahkfmplfaaGreat
open Go Go.RowKit
set_option maxRecDepth 100000
set_option maxHeartbeats 16000000 in
theorem checkR_any (B : Option Addr) (Rs : List Rm) (c : Nat) (n : Int) (w : World) (hB : RunsAt w B Rs) (hT : tot (lvs Rs) ≤ 1000000) (hl : Rs.length ≤ 1000000) :
    Calls Tryz.prog 53 #[.agg #[.slice B Rs.length c, .int .u64 n]] w fun r w' => r = .returned (.int .i64 (chkR (lvs Rs))) ∧ Below w.heap.size w w' := by
  have hb0 : Below w.heap.size w (w.alloc (.cells #[.slice B Rs.length c, .int .u64 n] 27)) := (Below.refl _ _).alloc (Nat.le_refl _) _
  by_cases hend : endOk (lvs Rs) = true
  · have hEnd := Lib.hid hend
    have hl17 : Rs.length ≤ 17 := by
      unfold endOk at hend
      simp at hend
      exact hend.1
    go_enter Tryz.func53, Tryz.ntmps53
    go_upto_region 2 with fail
    go_cut [29] from 13 to 29 (fun v wx => v = .bool false ∧ wx = w.alloc (.cells #[.slice B Rs.length c, .int .u64 n] 27))
    case first =>
      have g1 : ¬ (17 : Int) < (Rs.length : Int) := by omega
      by_cases h0 : Rs.length = 0
      · have g2 : ¬ (0 : Int) < (Rs.length : Int) := by omega
        clear hend h0
        go_wp2
        go_meet
        exact ⟨by simp, rfl⟩
      · have g2 : (0 : Int) < (Rs.length : Int) := by omega
        obtain ⟨j, hj⟩ : ∃ j, Rs.length = j + 1 := ⟨Rs.length - 1, by omega⟩
        obtain ⟨b, off, rfl, hbl, cp⟩ := hB.sl.oneB hb0 j (by omega)
        have hne : (Rs[j]'(by omega)).l ≠ [] := by
          unfold endOk at hend
          rw [lvs_len, hj] at hend
          simp at hend
          have h2 := hend.2
          rw [lvs_lev (by omega)] at h2
          exact h2
        obtain ⟨r, hr⟩ : ∃ r, Rs[j]'(by omega) = r := ⟨_, rfl⟩
        rw [hr] at cp hne
        obtain ⟨l, A, cl⟩ := r
        have cp1 : (w.alloc (.cells #[.slice (some ⟨b, off, none⟩) Rs.length c, .int .u64 n] 27)).cell? ⟨b, off + j, none⟩ = some (.slice A l.length cl) := cp
        have hl0 : 0 < l.length := List.length_pos_iff.2 hne
        have hne2 : ¬ l = [] := hne
        have g4 : IntKind.i64.wrap ((Rs.length : Int) - 1) = (j : Int) := (IntWalk.i64_in _ (by omega)).trans (by omega)
        have g5 : (0 : Int) ≤ (j : Int) := by omega
        have g6 : (j : Int) < (Rs.length : Int) := by omega
        clear cp hr hne hj hend h0
        go_wp2
        go_meet
        exact ⟨by simp [hne2], rfl⟩
    case rest =>
    obtain ⟨rfl, rfl⟩ := hcut
    have HB := Lib.hid hB
    clear hB hend
    go_wp2
    go_loopw [4, 33] (fun a i wr => ∃ k m : Nat, k ≤ Rs.length ∧ i = .int .i64 k ∧ a = .int .i64 m ∧ Below w.heap.size w wr ∧ m ≤ 1000000 ∧ Hid (m = tot ((lvs Rs).take k)) ∧ Hid (allOk (lvs Rs) k = true)) (fun _ i _ => Rs.length - (intOf i).toNat)
    case atStart => exact ⟨0, 0, Nat.zero_le _, rfl, rfl, hb0, by omega, rfl, by show _ = _; unfold allOk; simp⟩
    case round =>
      obtain ⟨k, m, hk, rfl, rfl, hb, hm, hd, hA⟩ := hrel
      by_cases hlt : k < Rs.length
      · obtain ⟨b, off, rfl, hbl, cp⟩ := HB.out.sl.oneB hb k hlt
        have hok := (HB.out.ok _ (List.getElem_mem hlt)).below hb
        have hs := tot_take_succ (rs := lvs Rs) (k := k) (by simpa using hlt)
        have ha := allOk_succ (lvs Rs) k
        have hbad := chkR_bad (rs := lvs Rs) (k := k) (by simpa using hlt)
        rw [lvs_lev hlt, lvs_len] at ha hbad
        rw [lvs_lev hlt] at hs
        have hle := tot_take_le (lvs Rs) (k + 1)
        obtain ⟨r, hr⟩ : ∃ r, Rs[k]'hlt = r := ⟨_, rfl⟩
        rw [hr] at cp hs hok ha hbad
        obtain ⟨l, A, cl⟩ := r
        have cp1 : wr.cell? ⟨b, off + k, none⟩ = some (.slice A l.length cl) := cp
        dsimp only at hs ha hbad
        have hki : (0 : Int) ≤ (k : Int) := by omega
        have hki2 : (k : Int) < (Rs.length : Int) := by omega
        have hsum : m + l.length ≤ 1000000 := by have := hd.out; omega
        have hw : IntKind.i64.wrap ((m : Int) + (l.length : Int)) = ((m + l.length : Nat) : Int) := (IntWalk.i64_in _ (by omega)).trans (by omega)
        have hw2 : IntKind.i64.wrap ((Rs.length : Int) - 1) = ((Rs.length - 1 : Nat) : Int) := (IntWalk.i64_in _ (by omega)).trans (by omega)
        obtain ⟨E, hE⟩ : ∃ E, chkE l = E := ⟨_, rfl⟩
        obtain ⟨N, hN⟩ : ∃ N, lvN l = N := ⟨_, rfl⟩
        have hNl : N ≤ l.length := by
          rw [← hN]; unfold lvN
          split
          · exact live_le l
          · exact Nat.zero_le _
        have hOK : okLv Rs.length k l = (decide (E = 0) && (decide (l = []) || decide (up l.length = k)) && (decide (k + 1 ≠ Rs.length) || !deadE l)) := by unfold okLv; rw [hE]
        have hDead : E = 0 → (N = l.length ↔ deadE l = false) := by rw [← hE, ← hN]; exact live_dead
        have hE16 : E = 0 → l.length ≤ 65536 := by rw [← hE]; exact fun h => (chk_ok h).2.2
        have HOKS := Lib.hid hok.sl
        have HS := Lib.hid hs
        have HA := Lib.hid ha
        have HBAD := Lib.hid hbad
        have HE := Lib.hid hE
        have HN := Lib.hid hN
        have HD := Lib.hid hDead
        have HE16 := Lib.hid hE16
        have hbs := hb.size
        have hll : l.length ≤ 4611686018427387903 := by omega
        have hbX : Below wr.heap.size wr (wr.alloc (.cells #[.slice A l.length cl] 58)) := (Below.refl _ _).alloc (Nat.le_refl _) _
        have hnb : wr.heap.size < (wr.alloc (.cells #[.slice A l.length cl] 58)).heap.size := by simp
        have bX := Blk.new wr 58 #[.slice A l.length cl]
        clear cp hr hs hle hok ha hbad hE hN hDead hE16
        obtain ⟨U, hU⟩ : ∃ U, up l.length = U := ⟨_, rfl⟩
        rw [hU] at hOK
        have HU := Lib.hid hU
        have HOK := Lib.hid hOK
        clear hU hOK
        obtain ⟨J, hJ⟩ : ∃ J : Nat, Rs.length - 1 = J := ⟨_, rfl⟩
        rw [hJ] at hw2
        by_cases hE0 : E = 0
        · have hl6 := HE16.out hE0
          have HL6 := Lib.hid hl6
          clear hl6
          by_cases hl0' : l.length = 0
          · have hnil : l = [] := List.eq_nil_of_length_eq_zero hl0'
            have hNN : N = l.length := by omega
            have hl00 : ¬ (0 : Int) < (l.length : Int) := by omega
            clear hl0'
            have hK : okLv Rs.length k l = true := by rw [HOK.out]; rw [hE0, hnil]; simp [deadE]
            have HK := Lib.hid hK
            clear hK
            clear hnil
            subst hE0
            subst hNN
            by_cases hkn : k = J
            · subst hkn
              go_wp2_with fail
              refine (live_any A l cl _ (HOKS.out.below hbX) hll).mono ?_
              unfold GivesII
              rw [HE.out, HN.out]
              rintro e w1 ⟨rfl, hb1⟩
              have hb2 := bext hbX hb1
              have c1 : w1.cell? ⟨wr.heap.size, 0, none⟩ = some (.slice A l.length cl) := (bX.below hb1 bX.lt).cell 0
              go_wp2
              go_roundw
              case rel => exact ⟨k + 1, m + l.length, by omega, by go_num, by go_num, bext hb hb2, hsum, by show _ = _; rw [HS.out, hd.out], by show _ = _; rw [HA.out, hA.out, HK.out]; rfl⟩
              case measure => simp [intOf]; omega
              
            · go_wp2_with fail
              refine (live_any A l cl _ (HOKS.out.below hbX) hll).mono ?_
              unfold GivesII
              rw [HE.out, HN.out]
              rintro e w1 ⟨rfl, hb1⟩
              have hb2 := bext hbX hb1
              have c1 : w1.cell? ⟨wr.heap.size, 0, none⟩ = some (.slice A l.length cl) := (bX.below hb1 bX.lt).cell 0
              go_wp2
              go_roundw
              case rel => exact ⟨k + 1, m + l.length, by omega, by go_num, by go_num, bext hb hb2, hsum, by show _ = _; rw [HS.out, hd.out], by show _ = _; rw [HA.out, hA.out, HK.out]; rfl⟩
              case measure => simp [intOf]; omega
              
          · have hl0 : 0 < l.length := by omega
            have hne : ¬ l = [] := List.length_pos_iff.1 hl0
            have HL0 := Lib.hid hl0
            clear hl0 hl0'
            by_cases hu : U = k
            · by_cases hkn : k = J
              · by_cases hNN : N = l.length
                · have hK : okLv Rs.length k l = true := by rw [HOK.out]; rw [hE0, (HD.out hE0).1 hNN]; simp [hu]
                  have HK := Lib.hid hK
                  clear hK
                  subst hkn
                  subst hu
                  subst hNN
                  subst hE0
                  go_wp2_with fail
                  refine (live_any A l cl _ (HOKS.out.below hbX) hll).mono ?_
                  unfold GivesII
                  rw [HE.out, HN.out]
                  rintro e w1 ⟨rfl, hb1⟩
                  have hb2 := bext hbX hb1
                  have c1 : w1.cell? ⟨wr.heap.size, 0, none⟩ = some (.slice A l.length cl) := (bX.below hb1 bX.lt).cell 0
                  go_wp2_with fail
                  refine (level_any A l.length cl _ HL0.out HL6.out).mono ?_
                  rw [HU.out]
                  rintro e w2 ⟨rfl, hb3⟩
                  have hb4 := bext hb2 hb3
                  go_wp2
                  go_roundw
                  case rel => exact ⟨U + 1, m + l.length, by omega, by go_num, by go_num, bext hb hb4, hsum, by show _ = _; rw [HS.out, hd.out], by show _ = _; rw [HA.out, hA.out, HK.out]; rfl⟩
                  case measure => simp [intOf]; omega
                  
                · have hdd : deadE l = true := by
                    cases hx : deadE l with
                    | true => rfl
                    | false => exact absurd ((HD.out hE0).2 hx) hNN
                  have hK : okLv Rs.length k l = false := by rw [HOK.out]; rw [hdd]; simp; omega
                  have HK := Lib.hid hK
                  clear hK
                  clear hdd
                  subst hkn
                  subst hu
                  subst hE0
                  go_wp2_with fail
                  refine (live_any A l cl _ (HOKS.out.below hbX) hll).mono ?_
                  unfold GivesII
                  rw [HE.out, HN.out]
                  rintro e w1 ⟨rfl, hb1⟩
                  have hb2 := bext hbX hb1
                  have c1 : w1.cell? ⟨wr.heap.size, 0, none⟩ = some (.slice A l.length cl) := (bX.below hb1 bX.lt).cell 0
                  go_wp2_with fail
                  refine (level_any A l.length cl _ HL0.out HL6.out).mono ?_
                  rw [HU.out]
                  rintro e w2 ⟨rfl, hb3⟩
                  have hb4 := bext hb2 hb3
                  go_wp2
                  go_ret
                  exact ⟨ret_int (HBAD.out HK.out).symm, bext hb hb4⟩
                  
              · have hK : okLv Rs.length k l = true := by rw [HOK.out]; rw [hE0]; simp [hu]; omega
                have HK := Lib.hid hK
                clear hK
                subst hu
                subst hE0
                go_wp2_with fail
                refine (live_any A l cl _ (HOKS.out.below hbX) hll).mono ?_
                unfold GivesII
                rw [HE.out, HN.out]
                rintro e w1 ⟨rfl, hb1⟩
                have hb2 := bext hbX hb1
                have c1 : w1.cell? ⟨wr.heap.size, 0, none⟩ = some (.slice A l.length cl) := (bX.below hb1 bX.lt).cell 0
                go_wp2_with fail
                refine (level_any A l.length cl _ HL0.out HL6.out).mono ?_
                rw [HU.out]
                rintro e w2 ⟨rfl, hb3⟩
                have hb4 := bext hb2 hb3
                go_wp2
                go_roundw
                case rel => exact ⟨U + 1, m + l.length, by omega, by go_num, by go_num, bext hb hb4, hsum, by show _ = _; rw [HS.out, hd.out], by show _ = _; rw [HA.out, hA.out, HK.out]; rfl⟩
                case measure => simp [intOf]; omega
                
            · have hK : okLv Rs.length k l = false := by rw [HOK.out]; rw [hE0]; simp [hu, hne]
              have HK := Lib.hid hK
              clear hK
              subst hE0
              go_wp2_with fail
              refine (live_any A l cl _ (HOKS.out.below hbX) hll).mono ?_
              unfold GivesII
              rw [HE.out, HN.out]
              rintro e w1 ⟨rfl, hb1⟩
              have hb2 := bext hbX hb1
              have c1 : w1.cell? ⟨wr.heap.size, 0, none⟩ = some (.slice A l.length cl) := (bX.below hb1 bX.lt).cell 0
              go_wp2_with fail
              refine (level_any A l.length cl _ HL0.out HL6.out).mono ?_
              rw [HU.out]
              rintro e w2 ⟨rfl, hb3⟩
              have hb4 := bext hb2 hb3
              go_wp2
              go_ret
              exact ⟨ret_int (HBAD.out HK.out).symm, bext hb hb4⟩
              
        · have hK : okLv Rs.length k l = false := by rw [HOK.out]; simp [hE0]
          have HK := Lib.hid hK
          clear hK
          go_wp2_with fail
          refine (live_any A l cl _ (HOKS.out.below hbX) hll).mono ?_
          unfold GivesII
          rw [HE.out, HN.out]
          rintro e w1 ⟨rfl, hb1⟩
          have hb2 := bext hbX hb1
          have c1 : w1.cell? ⟨wr.heap.size, 0, none⟩ = some (.slice A l.length cl) := (bX.below hb1 bX.lt).cell 0
          go_wp2
          go_ret
          exact ⟨ret_int (HBAD.out HK.out).symm, bext hb hb2⟩
          
      · have hkn : k = Rs.length := by omega
        have hf : m = tot (lvs Rs) := by rw [hd.out, List.take_of_length_le (by simp; omega)]
        have hall : allOk (lvs Rs) (lvs Rs).length = true := by rw [lvs_len, ← hkn]; exact hA.out
        have hfin := chkR_all hEnd.out hall
        rw [← hf] at hfin
        have HF := Lib.hid hfin
        clear hfin hall hf hkn
        by_cases hbig : 65536 < m
        · have g1 : (65536 : Int) < (m : Int) := by omega
          go_wp2
          go_ret
          exact ⟨ret_int (by rw [HF.out, if_pos hbig]), hb⟩
        · have g1 : ¬ (65536 : Int) < (m : Int) := by omega
          go_wp2
          go_ret
          exact ⟨ret_int (by rw [HF.out, if_neg hbig]), hb⟩
  · have hE8 : chkR (lvs Rs) = 8 := chkR_end (by simpa using hend)
    have HE8 := Lib.hid hE8
    clear hE8
    by_cases h17 : 17 < Rs.length
    · have g1 : (17 : Int) < (Rs.length : Int) := by omega
      clear hend
      go_enter Tryz.func53, Tryz.ntmps53
      go_wp2
      go_ret
      exact ⟨ret_int HE8.out.symm, hb0⟩
    · have g1 : ¬ (17 : Int) < (Rs.length : Int) := by omega
      have h0 : Rs.length ≠ 0 := by
        intro h0
        apply hend
        unfold endOk
        rw [lvs_len, h0]; rfl
      have g2 : (0 : Int) < (Rs.length : Int) := by omega
      obtain ⟨j, hj⟩ : ∃ j, Rs.length = j + 1 := ⟨Rs.length - 1, by omega⟩
      obtain ⟨b, off, rfl, hbl, cp⟩ := hB.sl.oneB hb0 j (by omega)
      have hne : (Rs[j]'(by omega)).l = [] := by
        refine Classical.byContradiction fun hx => hend ?_
        unfold endOk
        rw [lvs_len, hj, Nat.add_sub_cancel, lvs_lev (by omega)]
        simp [hx]
        omega
      obtain ⟨r, hr⟩ : ∃ r, Rs[j]'(by omega) = r := ⟨_, rfl⟩
      rw [hr] at cp hne
      obtain ⟨l, A, cl⟩ := r
      have hnl : l = [] := hne
      subst hnl
      have cp1 : (w.alloc (.cells #[.slice (some ⟨b, off, none⟩) Rs.length c, .int .u64 n] 27)).cell? ⟨b, off + j, none⟩ = some (.slice A 0 cl) := cp
      have g4 : IntKind.i64.wrap ((Rs.length : Int) - 1) = (j : Int) := (IntWalk.i64_in _ (by omega)).trans (by omega)
      have g5 : (0 : Int) ≤ (j : Int) := by omega
      have g6 : (j : Int) < (Rs.length : Int) := by omega
      clear cp hr hne hj hend
      go_enter Tryz.func53, Tryz.ntmps53
      go_wp2
      go_ret
      exact ⟨ret_int HE8.out.symm, hb0⟩
end Go.Proofs.YtolclahkfmplfaaGreat

/- Contracts: rungs.Add, rungs.Of. -/
namespace Go.Proofs.YtolclahkfmplfaaGreat
open Go Go.RowKit
set_option maxRecDepth 100000
theorem add_no {rs : Lv} {n : Int} {y : Ent} {e : Int} (h : addE rs y = e) (he : e ≠ 0) : addN rs n y = 0 ∧ addE rs y = e ∧ addL rs n y = [] := by
  unfold addN addL
  rw [if_neg (by rw [h]; exact he), if_neg (by rw [h]; exact he)]
  exact ⟨rfl, h, rfl⟩
theorem buildE_one (y : Ent) : buildE [y] = if badEnt y = true then 8 else 0 := by
  unfold buildE
  rw [if_neg (by simp)]
  by_cases h : badEnt y = true
  · rw [if_pos (by simp [h]), if_pos h]
  · rw [if_neg (by simp [h]), if_neg h, if_pos (by simp [rises])]
theorem chkR_cases (rs : Lv) : chkR rs = 0 ∨ chkR rs = 8 := by unfold chkR; split <;> simp
end Go.Proofs.YtolclahkfmplfaaGreat

/- Contracts: rungs.Of; the reference's Of, Add, Same. -/
namespace Go.Proofs.YtolclahkfmplfaaGreat
open Go Go.RowKit
set_option maxRecDepth 100000
def ofEr (rs : Lv) (l : List Pr) : Int := if chkR rs ≠ 0 then chkR rs else buildE (l.map aliveE)
def ofLr (rs : Lv) (l : List Pr) : Lv := if ofEr rs l = 0 then standL [] (laid (l.map aliveE)) else []
def ofNr (rs : Lv) (n : Int) (l : List Pr) : Int := if ofEr rs l = 0 then IntKind.u64.wrap (n + l.length) else 0
theorem of_no {rs : Lv} {n : Int} {l : List Pr} {e : Int} (h : ofEr rs l = e) (he : e ≠ 0) : ofNr rs n l = 0 ∧ ofEr rs l = e ∧ ofLr rs l = [] := by
  unfold ofNr ofLr
  rw [if_neg (by rw [h]; exact he), if_neg (by rw [h]; exact he)]
  exact ⟨rfl, h, rfl⟩
theorem chkR_may (rs : Lv) : chkR rs = if mayB rs = true then 0 else 8 := rfl
set_option maxHeartbeats 8000000 in
theorem ofR_any (B A : Option Addr) (Rs : List Rm) (l : List Pr) (c ca : Nat) (n : Int) (w : World) (hB : RunsAt w B Rs) (hT : tot (lvs Rs) ≤ 1000000) (hl : Rs.length ≤ 1000000) (hA : Sl w A (l.flatMap Pr.cells)) (hl6 : l.length ≤ 65536) :
    Calls Tryz.prog 34 #[.agg #[.slice B Rs.length c, .int .u64 n], .slice A l.length ca] w (GivesRgE (ofLr (lvs Rs) l) (ofNr (lvs Rs) n l) (ofEr (lvs Rs) l) w) := by
  obtain ⟨W0, hW0⟩ : ∃ W0, (w.alloc (.cells #[.slice B Rs.length c, .int .u64 n] 27)).alloc (.cells #[.slice none 0 0, .int .u64 0] 27) = W0 := ⟨_, rfl⟩
  have hb0 : Below w.heap.size w W0 := by rw [← hW0]; exact ((Below.refl _ _).alloc (Nat.le_refl _) _).alloc (by simp) _
  have hs0 : W0.heap.size = w.heap.size + 2 := by rw [← hW0]; simp
  have b20 : Blk W0 w.heap.size 27 #[.slice B Rs.length c, .int .u64 n] := by rw [← hW0]; exact (Blk.new _ _ _).alloc _
  have b40 : Blk W0 (w.heap.size + 1) 27 #[.slice none 0 0, .int .u64 0] := by
    rw [← hW0]
    have := Blk.new (w.alloc (.cells #[.slice B Rs.length c, .int .u64 n] 27)) 27 #[.slice none 0 0, .int .u64 0]
    rwa [World.size_alloc] at this
  have HW0 := Lib.hid hW0
  have HS0 := Lib.hid hs0
  have HB := Lib.hid (hB.below hb0)
  have HA := Lib.hid (hA.below hb0)
  clear hW0 hB hA hs0
  go_enter Tryz.func34, Tryz.ntmps34
  go_wp2_with fail
  rw [HW0.out]
  refine (checkR_any B Rs c n _ HB.out hT hl).mono ?_
  rintro e w1 ⟨rfl, hb1⟩
  have hb01 := bext hb0 hb1
  have b21 := b20.below hb1 b20.lt
  have b41 := b40.below hb1 b40.lt
  obtain ⟨E, hE⟩ : ∃ E, chkR (lvs Rs) = E := ⟨_, rfl⟩
  rw [hE]
  by_cases hE0 : E = 0
  case neg =>
    have hadd : ofEr (lvs Rs) l = E := by unfold ofEr; rw [if_pos (by rw [hE]; exact hE0), hE]
    have HADD := Lib.hid (of_no (n := n) hadd hE0)
    have c40 : w1.cell? ⟨w.heap.size + 1, 0, none⟩ = some (.slice none 0 0) := b41.cell 0
    have c41 : w1.cell? ⟨w.heap.size + 1, 1, none⟩ = some (.int .u64 0) := b41.cell 1
    have f40 := b41.frozen 0
    have f41 := b41.frozen 1
    have l4 := b41.lt
    clear hadd hE
    go_wp2
    have hbz := box2 b41 (.slice none 0 0) (.int .u64 0)
    have z0 : ((w1.setCell ⟨w.heap.size + 1, 0, none⟩ (.slice none 0 0)).setCell ⟨w.heap.size + 1, 1, none⟩ (.int .u64 0)).cell? ⟨w.heap.size + 1, 0, none⟩ = some (.slice none 0 0) := hbz.cell 0
    have z1 : ((w1.setCell ⟨w.heap.size + 1, 0, none⟩ (.slice none 0 0)).setCell ⟨w.heap.size + 1, 1, none⟩ (.int .u64 0)).cell? ⟨w.heap.size + 1, 1, none⟩ = some (.int .u64 0) := hbz.cell 1
    refine bodyPost_ret (v := .tuple #[.agg #[.slice none 0 0, .int .u64 0], .int .i64 E]) (by simp [results, Tryz.results34, go_sem, z0, z1]) rfl ?_
    exact ⟨none, 0, [], by rw [HADD.out.1, HADD.out.2.1]; rfl, by rw [HADD.out.2.2]; rfl, OwnRs.nil _ _, below2 hb01 (by omega) _ _⟩
  case pos =>
  have HE := Lib.hid hE
  have HE0 := Lib.hid hE0
  subst hE0
  clear hE
  go_wp2_with fail
  refine (runOf_any A l ca _ (HA.out.below hb1) (by omega)).mono ?_
  rintro e w2 ⟨A2, c2, rfl, ho2, hb2⟩
  have hb02 := bext hb01 hb2
  have b22 := b21.below hb2 b21.lt
  have b42 := b41.below hb2 b41.lt
  have hs2 := hb2.size
  have hs1 := hb01.size
  obtain ⟨E2, hE2⟩ : ∃ E2, buildE (l.map aliveE) = E2 := ⟨_, rfl⟩
  obtain ⟨LB, hLB⟩ : ∃ LB, buildL (l.map aliveE) = LB := ⟨_, rfl⟩
  rw [hLB] at ho2 ⊢
  rw [hE2]
  have HO2 := Lib.hid (own_mono (B' := w.heap.size) ho2 (by omega))
  have hLBn : LB.length ≤ 65536 := by rw [← hLB]; have := buildL_le (l.map aliveE); rw [List.length_map] at this; omega
  obtain ⟨M, hM⟩ : ∃ M, LB.length = M := ⟨_, rfl⟩
  rw [hM] at HO2 hLBn ⊢
  have HMM := Lib.hid hM
  have HLB := Lib.hid hLB
  clear ho2 hM hLB
  obtain ⟨W3, hW3⟩ : ∃ W3, w2.alloc (.cells #[.slice A2 M c2] 58) = W3 := ⟨_, rfl⟩
  have hb3 : Below w2.heap.size w2 W3 := by rw [← hW3]; exact (Below.refl _ _).alloc (Nat.le_refl _) _
  have b73 : Blk W3 w2.heap.size 58 #[.slice A2 M c2] := by rw [← hW3]; exact Blk.new _ _ _
  have b23 := b22.below hb3 b22.lt
  have b43 := b42.below hb3 b42.lt
  have hb03 := bext hb02 hb3
  have HO3 := Lib.hid (own_below HO2.out hb3)
  have HW3 := Lib.hid hW3
  clear hW3
  go_upto_region 5 with fail
  rw [HW3.out]
  by_cases hE20 : E2 = 0
  case neg =>
    have hadd : ofEr (lvs Rs) l = E2 := by unfold ofEr; rw [if_neg (by rw [HE.out]; simp), hE2]
    have HADD := Lib.hid (of_no (n := n) hadd hE20)
    have c40 : W3.cell? ⟨w.heap.size + 1, 0, none⟩ = some (.slice none 0 0) := b43.cell 0
    have c41 : W3.cell? ⟨w.heap.size + 1, 1, none⟩ = some (.int .u64 0) := b43.cell 1
    have f40 := b43.frozen 0
    have f41 := b43.frozen 1
    have l4 := b43.lt
    clear hadd hE2
    go_wp2
    have hbz := box2 b43 (.slice none 0 0) (.int .u64 0)
    have z0 : ((W3.setCell ⟨w.heap.size + 1, 0, none⟩ (.slice none 0 0)).setCell ⟨w.heap.size + 1, 1, none⟩ (.int .u64 0)).cell? ⟨w.heap.size + 1, 0, none⟩ = some (.slice none 0 0) := hbz.cell 0
    have z1 : ((W3.setCell ⟨w.heap.size + 1, 0, none⟩ (.slice none 0 0)).setCell ⟨w.heap.size + 1, 1, none⟩ (.int .u64 0)).cell? ⟨w.heap.size + 1, 1, none⟩ = some (.int .u64 0) := hbz.cell 1
    refine bodyPost_ret (v := .tuple #[.agg #[.slice none 0 0, .int .u64 0], .int .i64 E2]) (by simp [results, Tryz.results34, go_sem, z0, z1]) rfl ?_
    exact ⟨none, 0, [], by rw [HADD.out.1, HADD.out.2.1]; rfl, by rw [HADD.out.2.2]; rfl, OwnRs.nil _ _, below2 hb03 (by omega) _ _⟩
  case pos =>
  have hof0 : ofEr (lvs Rs) l = 0 := by unfold ofEr; rw [if_neg (by rw [HE.out]; simp), hE2, hE20]
  have hLBe : LB = laid (l.map aliveE) := by rw [← HLB.out]; unfold buildL; rw [if_pos (by rw [hE2, hE20])]
  have HOF0 := Lib.hid hof0
  have HLBE := Lib.hid hLBe
  subst hE20
  clear hE2 hof0 hLBe
  have c21 : W3.cell? ⟨w.heap.size, 1, none⟩ = some (.int .u64 n) := b23.cell 1
  have c70 : W3.cell? ⟨w2.heap.size, 0, none⟩ = some (.slice A2 M c2) := b73.cell 0
  have hcv : IntKind.u64.wrap (l.length : Int) = (l.length : Int) := IntWalk.u64_in _ (by omega)
  have l73 := b73.lt
  go_wp2_with fail
  obtain ⟨W4, hW4⟩ : ∃ W4, W3.alloc (.cells #[.slice A2 M c2] 58) = W4 := ⟨_, rfl⟩
  rw [hW4]
  have hb34 : Below W3.heap.size W3 W4 := by rw [← hW4]; exact (Below.refl _ _).alloc (Nat.le_refl _) _
  have hs3 := hb03.size
  have bS : Blk W4 W3.heap.size 58 #[.slice A2 M c2] := by rw [← hW4]; exact Blk.new _ _ _
  have b44 := b43.below hb34 b43.lt
  have hO1 : OwnRs W4 w.heap.size (some ⟨W3.heap.size, 0, none⟩) 1 [⟨LB, A2, c2⟩] := by
    refine ⟨⟨rfl, .inr ⟨W3.heap.size, 1, _, rfl, by omega, bS, Nat.le_refl _, by unfold maxLen; omega, rfl, ?_⟩⟩, ?_⟩
    · simp [Rm.v, HMM.out]
    · intro r hr
      obtain rfl : r = ⟨LB, A2, c2⟩ := by simpa using hr
      show W4.ownsRow _ _ _ (.slice A2 LB.length c2) LB.length _
      rw [HMM.out]
      exact own_below HO3.out hb34
  have hof := of_any (IntKind.u64.wrap (n + l.length)) (some ⟨W3.heap.size, 0, none⟩) [⟨LB, A2, c2⟩] 1 W4 hO1.runsAt (by simp) (by
    intro r hr
    obtain rfl : r = ⟨LB, A2, c2⟩ := by simpa using hr
    show LB.length ≤ 65536
    rw [HMM.out]; exact hLBn)
  have HO1 := Lib.hid hO1
  have hs4 := hb34.size
  clear hO1 hW4
  refine hof.mono ?_
  clear hof
  rintro e w5 ⟨A5, d5, Ts, rfl, ht1, ht2, ht3, hb5⟩
  have b45 := b44.below hb5 b44.lt
  have HOX := Lib.hid (OwnRs.sub (HO1.out.below hb5) (own_mono ht2 (by omega)) ht3 : OwnRs w5 w.heap.size A5 d5 Ts)
  have HT1 := Lib.hid ht1
  have HB5 := Lib.hid (bext (bext hb03 hb34) hb5)
  have c40 : w5.cell? ⟨w.heap.size + 1, 0, none⟩ = some (.slice none 0 0) := b45.cell 0
  have c41 : w5.cell? ⟨w.heap.size + 1, 1, none⟩ = some (.int .u64 0) := b45.cell 1
  have f40 := b45.frozen 0
  have f41 := b45.frozen 1
  have l4 := b45.lt
  clear ht1 ht2 ht3 hb5 c21 c70 hcv
  go_wp2
  have hbx := box2 b45 (.slice A5 Ts.length d5) (.int .u64 (IntKind.u64.wrap (n + l.length)))
  have e0 : ((w5.setCell ⟨w.heap.size + 1, 0, none⟩ (.slice A5 Ts.length d5)).setCell ⟨w.heap.size + 1, 1, none⟩ (.int .u64 (IntKind.u64.wrap (n + l.length)))).cell? ⟨w.heap.size + 1, 0, none⟩ = some (.slice A5 Ts.length d5) := hbx.cell 0
  have e1 : ((w5.setCell ⟨w.heap.size + 1, 0, none⟩ (.slice A5 Ts.length d5)).setCell ⟨w.heap.size + 1, 1, none⟩ (.int .u64 (IntKind.u64.wrap (n + l.length)))).cell? ⟨w.heap.size + 1, 1, none⟩ = some (.int .u64 (IntKind.u64.wrap (n + l.length))) := hbx.cell 1
  refine bodyPost_ret (v := .tuple #[.agg #[.slice A5 Ts.length d5, .int .u64 (IntKind.u64.wrap (n + l.length))], .int .i64 0]) (by simp [results, Tryz.results34, go_sem, e0, e1]) rfl ?_
  have hN : ofNr (lvs Rs) n l = IntKind.u64.wrap (n + l.length) := by unfold ofNr; rw [if_pos HOF0.out]
  have hL : ofLr (lvs Rs) l = lvs Ts := by
    unfold ofLr
    rw [if_pos HOF0.out, HT1.out, ← HLBE.out]
    rfl
  exact ⟨A5, d5, Ts, by rw [hN, HOF0.out], hL.symm, HOX.out.set2 b45 (by decide) (by decide) _ _, below2 HB5.out (by omega) _ _⟩
set_option maxHeartbeats 1000000 in
theorem same26_yes (B D : Option Addr) (Rs Ts : List Rm) (nr nt c d : Nat) (n : Int) (w : World) (hnr : Rs.length = nr) (hnt : Ts.length = nt) (hB : RunsAt w B Rs) (hD : RunsAt w D Ts) (he : lvs Ts = lvs Rs) (hl : Rs.length ≤ 1000000) (hrs : ∀ r ∈ Rs, r.l.length ≤ 1000000) :
    Calls Tryz.prog 28 #[.agg #[.slice D nt d, .int .u64 n], .agg #[.slice B nr c, .int .u64 n]] w fun r w' => r = .returned (.bool true) ∧ Below w.heap.size w w' := by
  have hb0 : Below w.heap.size w ((w.alloc (.cells #[.slice D nt d, .int .u64 n] 27)).alloc (.cells #[.slice B nr c, .int .u64 n] 27)) := ((Below.refl _ _).alloc (Nat.le_refl _) _).alloc (by simp) _
  have hsa := fun W (hW : Below w.heap.size w W) => sameAll_yes B D Rs Ts nt c d W hnt (hB.below hW) (hD.below hW) he hl hrs
  rw [hnr] at hsa
  have HSA := Lib.hid hsa
  clear hsa hB hD he hrs
  go_enter Tryz.func28, Tryz.ntmps28
  go_wp2_with fail
  refine (HSA.out _ hb0).mono ?_
  rintro e w1 ⟨rfl, hb1⟩
  go_wp2
  go_ret
  exact ⟨rfl, bext hb0 hb1⟩
end Go.Proofs.YtolclahkfmplfaaGreat

/- Plain facts: what levels have of a key; pairs of levels; behind an entry was let in. No program in sight. -/
namespace Go.Proofs.YtolclahkfmplfaaGreat
open Go
def gxR (rs : Lv) (key : Int) : Ent := if chkR rs = 0 then (newest rs key).getD zeroE else zeroE
def geR (rs : Lv) (key : Int) : Int := if chkR rs = 0 then (if (newest rs key).isSome then 0 else 6) else chkR rs
theorem gR_kf {rs : Lv} (key : Int) (h : chkR rs = 0) : kfX rs key = gxR rs key ∧ kfE rs key = geR rs key := by
  have h1 := (chkR_zero.1 h).chkAll
  unfold kfX kfE gxR geR
  rw [if_pos h1, if_pos h1, if_pos h, if_pos h]
  exact ⟨rfl, rfl⟩
theorem gR_bad {rs : Lv} (key : Int) (h : ¬ chkR rs = 0) : gxR rs key = zeroE ∧ geR rs key = chkR rs := by
  unfold gxR geR
  rw [if_neg h, if_neg h]
  exact ⟨rfl, rfl⟩
/-- is a key live? -/
def isB (rs : Lv) (key : Int) : Bool := decide (geR rs key = 0) && !(gxR rs key).dead
theorem lv_is {rs : Lv} (h : chkR rs = 0) (key : Int) : lvO (newest rs key) = if isB rs key = true then some (gxR rs key) else none := by
  unfold isB geR gxR lvO
  rw [if_pos h, if_pos h]
  cases newest rs key with
  | none => simp
  | some e => cases hd : e.dead <;> simp [hd]
theorem lv_some {o : Option Ent} {y : Ent} (h : lvO o = some y) : o = some y ∧ y.dead = false := by
  cases o with
  | none => exact absurd h (by simp [lvO])
  | some e =>
    unfold lvO at h
    cases hd : e.dead with
    | true => simp [hd] at h
    | false =>
      have : e = y := by simpa [hd] using h
      exact ⟨by rw [this], by rw [← this]; exact hd⟩
structure AddsOk (rs : Lv) (n : Int) (y : Ent) (key : Int) : Prop where
  may : chkR (addL rs n y) = 0
  had : y.dead = false → geR (addL rs n y) y.key = 0 ∧ gxR (addL rs n y) y.key = y
  went : y.dead = true → geR (addL rs n y) y.key = 0 → (gxR (addL rs n y) y.key).dead = true
  alike : key ≠ y.key → isB rs key = isB (addL rs n y) key
  same : key ≠ y.key → isB rs key = true → gxR rs key = gxR (addL rs n y) key
theorem adds_ok {rs : Lv} {y : Ent} (h : addE rs y = 0) (n key : Int) : AddsOk rs n y key := by
  obtain ⟨h1, _, h3⟩ := add_may h n
  have h0 : chkR rs = 0 := chkR_zero.2 (addE_zero.1 h).1
  have hc : chkR (addL rs n y) = 0 := chkR_zero.2 h1
  have hk := h3 y.key
  rw [if_pos rfl] at hk
  have hq : key ≠ y.key → (if isB (addL rs n y) key = true then some (gxR (addL rs n y) key) else none) = if isB rs key = true then some (gxR rs key) else none := fun hne => by
    have := h3 key
    rw [if_neg (fun e => hne e.symm), lv_is hc, lv_is h0] at this
    exact this
  refine ⟨hc, fun hd => ?_, fun hd hg => ?_, fun hne => ?_, fun hne hi => ?_⟩
  · have h5 : lvO (some y) = some y := by unfold lvO; simp [hd]
    rw [h5] at hk
    have h6 := (lv_some hk).1
    unfold geR gxR
    rw [if_pos hc, if_pos hc, h6]
    exact ⟨rfl, rfl⟩
  · have h5 : lvO (some y) = none := by unfold lvO; simp [hd]
    rw [h5, lv_is hc] at hk
    by_cases hb : isB (addL rs n y) y.key = true
    · rw [if_pos hb] at hk; cases hk
    · unfold isB at hb
      simpa [hg] using hb
  · have := hq hne
    cases ha : isB (addL rs n y) key <;> cases hb : isB rs key <;> simp [ha, hb] at this ⊢
  · have h7 := hq hne
    rw [if_pos hi] at h7
    by_cases ha : isB (addL rs n y) key = true
    · rw [if_pos ha] at h7
      exact (Option.some.inj h7).symm
    · rw [if_neg ha] at h7; cases h7
theorem allL_ris {rs : Lv} (h : May rs) : RisE (allL rs) := live_ris (all_ris fun x hx => by
  obtain ⟨l, hl, rfl⟩ := List.mem_map.1 hx
  obtain ⟨j, _, e⟩ := lev_of_mem hl
  rw [← e]
  exact chk_ris (h.chk j))
theorem prR_mem {rs : Lv} (h : chkR rs = 0) (key : Int) : decide ((⟨key, (gxR rs key).val⟩ : Pr) ∈ prR rs) = isB rs key := by
  have hM := chkR_zero.1 h
  have hl := allL_look hM.mE key
  rw [lv_is h] at hl
  unfold prR
  rw [if_pos h]
  rw [Bool.eq_iff_iff, decide_eq_true_iff]
  constructor
  · intro hm
    obtain ⟨e, he, hp⟩ := List.mem_map.1 hm
    have he2 := (List.mem_filter.1 he).1
    have hkey : e.key = key := congrArg Pr.key hp
    have h5 := look_mem (allL_ris hM) he2
    rw [hkey, hl] at h5
    by_cases hb : isB rs key = true
    · exact hb
    · rw [if_neg hb] at h5; cases h5
  · intro hb
    rw [if_pos hb] at hl
    obtain ⟨h5, h6⟩ := look_key hl
    have hd : (gxR rs key).dead = false := by
      unfold isB at hb
      simp at hb
      exact hb.2
    exact List.mem_map.2 ⟨gxR rs key, List.mem_filter.2 ⟨h6, by rw [hd]; rfl⟩, by rw [h5]⟩
theorem prR_bad {rs : Lv} (h : ¬ chkR rs = 0) : prR rs = [] := by unfold prR; rw [if_neg h]
theorem plain_alive' (l : List Pr) : plainE (l.map aliveE) = l := by
  unfold plainE liveE
  rw [List.filter_eq_self.2 (fun e he => by obtain ⟨p, _, rfl⟩ := List.mem_map.1 he; rfl), List.map_map]
  exact List.map_id'' (fun _ => rfl) l
theorem of_pairs {rs : Lv} {l : List Pr} (h : ofEr rs l = 0) : chkR (ofLr rs l) = 0 ∧ prR (ofLr rs l) = l := by
  have hb : buildE (l.map aliveE) = 0 := by
    unfold ofEr at h
    split at h
    · rename_i h2; exact absurd h h2
    · exact h
  have hc := build_chk hb
  have hd : deadE (laid (l.map aliveE)) = false := by
    unfold deadE
    rw [List.any_eq_false]
    intro e he
    obtain ⟨p, _, rfl⟩ := List.mem_map.1 (laid_mem he)
    simp [aliveE]
  have hm := alone_may hc hd
  have hz : chkR (standL [] (laid (l.map aliveE))) = 0 := chkR_zero.2 hm
  unfold ofLr
  rw [if_pos h]
  refine ⟨hz, ?_⟩
  unfold prR
  rw [if_pos hz, alone_all hc hd, in_laid, plain_alive']
theorem of_err {rs : Lv} {l : List Pr} (h : ¬ chkR rs = 0) : ofEr rs l = chkR rs := by unfold ofEr; rw [if_pos h]
end Go.Proofs.YtolclahkfmplfaaGreat

/- Contract: kway.Find. -/
namespace Go.Proofs.YtolclahkfmplfaaGreat
open Go Go.RowKit
set_option maxRecDepth 100000

def isE (o : Option Ent) : Int := if o.isSome then 0 else 6
theorem isE_none : isE none = 6 := rfl
theorem isE_some (x : Ent) : isE (some x) = 0 := rfl
/-- what stands in memory while runs are looked through -/
structure Fst (w : World) (o : Option Ent) (wr : World) : Prop where
  bel : Below w.heap.size w wr
  br : Blk wr w.heap.size 68 #[.int .i64 0, .int .i64 0, .bool false]
  bf : Blk wr (w.heap.size + 1) 68 #[.int .i64 (o.getD zeroE).key, .int .i64 (o.getD zeroE).val, .bool (o.getD zeroE).dead]

end Go.Proofs.YtolclahkfmplfaaGreat

/- Contracts: rungs.Pairs, rungs.Count. -/
namespace Go.Proofs.YtolclahkfmplfaaGreat
open Go Go.RowKit
set_option maxRecDepth 100000
theorem rm_le {Rs : List Rm} (h : May (lvs Rs)) : (∀ r ∈ Rs, r.l.length ≤ 65536) ∧ Rs.length ≤ 17 ∧ (Rs.map (fun r => r.l.length)).sum ≤ 65536 := by
  have h1 := h.size
  have h2 := h.len
  rw [lvs_len] at h2
  have h3 : (Rs.map (fun r => r.l.length)).sum = tot (lvs Rs) := by unfold tot lvs; rw [List.map_map]; rfl
  refine ⟨fun r hr => ?_, h2, by omega⟩
  have h4 := le_sum (List.mem_map.2 ⟨r, hr, rfl⟩ : r.l.length ∈ Rs.map (fun r => r.l.length))
  omega
set_option maxHeartbeats 8000000 in
theorem pairsR_any (B : Option Addr) (Rs : List Rm) (c : Nat) (n : Int) (w : World) (hB : RunsAt w B Rs) (hT : tot (lvs Rs) ≤ 1000000) (hl : Rs.length ≤ 1000000) :
    Calls Tryz.prog 40 #[.agg #[.slice B Rs.length c, .int .u64 n]] w (GivesPrs (prR (lvs Rs)) (chkR (lvs Rs)) w) := by
  obtain ⟨W0, hW0⟩ : ∃ W0, w.alloc (.cells #[.slice B Rs.length c, .int .u64 n] 27) = W0 := ⟨_, rfl⟩
  have hb0 : Below w.heap.size w W0 := by rw [← hW0]; exact (Below.refl _ _).alloc (Nat.le_refl _) _
  have b20 : Blk W0 w.heap.size 27 #[.slice B Rs.length c, .int .u64 n] := by rw [← hW0]; exact Blk.new _ _ _
  have HW0 := Lib.hid hW0
  have HB := Lib.hid (hB.below hb0)
  clear hW0 hB
  have hck := fun W (hW : Below W0.heap.size W0 W) => checkR_any B Rs c n W (HB.out.below hW) hT hl
  obtain ⟨E, hE⟩ : ∃ E, chkR (lvs Rs) = E := ⟨_, rfl⟩
  obtain ⟨P, hP⟩ : ∃ P, prR (lvs Rs) = P := ⟨_, rfl⟩
  have hp0 : E ≠ 0 → P = [] := fun h => by rw [← hP]; unfold prR; rw [if_neg (by rw [hE]; exact h)]
  rw [hE] at hck
  rw [hE, hP]
  have HCK := Lib.hid hck
  have HE := Lib.hid hE
  have HP := Lib.hid hP
  clear hck hE hP
  go_enter Tryz.func40, Tryz.ntmps40
  go_wp2_with fail
  rw [HW0.out]
  refine (HCK.out _ (Below.refl _ _)).mono ?_
  rintro e w1 ⟨rfl, hb1⟩
  have hb01 := bext hb0 hb1
  have b21 := b20.below hb1 b20.lt
  have HB1 := Lib.hid (HB.out.below hb1)
  by_cases hE0 : E = 0
  case neg =>
    have hp := hp0 hE0
    subst hp
    have h1 : (E != 0) = true := by simpa using hE0
    clear hE0 hp0
    go_wp2
    refine bodyPost_ret (v := .tuple #[.slice none 0 0, .int .i64 E]) (by simp [results, Tryz.results40, go_sem]) rfl ?_
    exact ⟨none, 0, rfl, World.ownsRow_nil _ _ _ _, hb01⟩
  case pos =>
  subst hE0
  clear hp0
  obtain ⟨hp1, hp2⟩ := prR_mL HE.out
  have hM := chkR_zero.1 HE.out
  have hq := rm_le hM
  have hmE := hM.mE
  obtain ⟨M, hMM⟩ : ∃ M, mL (lvs Rs) true = M := ⟨_, rfl⟩
  rw [HP.out] at hp1
  rw [hMM] at hp1 hp2
  have hml : M.length ≤ 65536 := by rw [← hMM]; exact mL_len true (by have := hM.size; unfold tot at this; exact this)
  have HQ := Lib.hid hq
  have HP1 := Lib.hid hp1
  have HP2 := Lib.hid hp2
  have hmg : ∀ W, Below w1.heap.size w1 W → Calls Tryz.prog 42 #[.slice B Rs.length c, .bool true] W (GivesRun 68 M 0 W) := by
    intro W hW
    have h8 := merge_any B Rs c 65536 true W (HB1.out.below hW) (by have := hq.2.1; omega) (fun r hr => Nat.le_trans (hq.1 r hr) (by omega)) hq.2.2 (by omega)
    rw [mrgL_m, mrgE_m] at h8
    have h9 : Rs.map Rm.l = lvs Rs := rfl
    rw [h9, hMM, hmE] at h8
    exact h8
  have HMG := Lib.hid hmg
  have c20 : w1.cell? ⟨w.heap.size, 0, none⟩ = some (.slice B Rs.length c) := b21.cell 0
  clear hp1 hp2 hM hq hmE hMM hmg
  go_wp2_with fail
  refine (HMG.out _ (Below.refl _ _)).mono ?_
  rintro e w2 ⟨A1, c1, rfl, ho1, hb2⟩
  have HO1 := Lib.hid (own_sl ho1)
  have HB02 := Lib.hid (bext hb01 hb2)
  clear ho1 c20
  go_upto_region 4 with fail
  obtain ⟨W3, hW3⟩ : ∃ W3, w2.alloc (.cells #[.slice A1 M.length c1] 58) = W3 := ⟨_, rfl⟩
  have hb3 : Below w2.heap.size w2 W3 := by rw [← hW3]; exact (Below.refl _ _).alloc (Nat.le_refl _) _
  have b3 : Blk W3 w2.heap.size 58 #[.slice A1 M.length c1] := by rw [← hW3]; exact Blk.new _ _ _
  try rw [hW3]
  have HB03 := Lib.hid (bext HB02.out hb3)
  have HO3 := Lib.hid (HO1.out.below hb3)
  have c30 : W3.cell? ⟨w2.heap.size, 0, none⟩ = some (.slice A1 M.length c1) := b3.cell 0
  clear hW3 hb3
  go_wp2_with fail
  refine (pairs_any A1 M c1 _ HO3.out (by omega)).mono ?_
  rw [HP1.out, HP2.out]
  rintro e w3 ⟨A2, c2, rfl, ho2, hb3⟩
  have HO := Lib.hid (own_mono ho2 HB03.out.size)
  clear ho2 c30
  go_wp2
  refine bodyPost_ret (v := .tuple #[.slice A2 P.length c2, .int .i64 0]) (by simp [results, Tryz.results40, go_sem]) rfl ?_
  exact ⟨A2, c2, rfl, HO.out, bext HB03.out hb3⟩
set_option maxHeartbeats 8000000 in
theorem countR_any (B : Option Addr) (Rs : List Rm) (c : Nat) (n : Int) (w : World) (hB : RunsAt w B Rs) (hT : tot (lvs Rs) ≤ 1000000) (hl : Rs.length ≤ 1000000) :
    Calls Tryz.prog 32 #[.agg #[.slice B Rs.length c, .int .u64 n]] w fun r w' => r = .returned (.tuple #[.int .i64 (if chkR (lvs Rs) = 0 then (tot (lvs Rs) : Int) else 0), .int .i64 ((prR (lvs Rs)).length : Nat), .int .i64 (chkR (lvs Rs))]) ∧ Below w.heap.size w w' := by
  obtain ⟨W0, hW0⟩ : ∃ W0, w.alloc (.cells #[.slice B Rs.length c, .int .u64 n] 27) = W0 := ⟨_, rfl⟩
  have hb0 : Below w.heap.size w W0 := by rw [← hW0]; exact (Below.refl _ _).alloc (Nat.le_refl _) _
  have b20 : Blk W0 w.heap.size 27 #[.slice B Rs.length c, .int .u64 n] := by rw [← hW0]; exact Blk.new _ _ _
  have HW0 := Lib.hid hW0
  have HB := Lib.hid (hB.below hb0)
  clear hW0 hB
  have hck := fun W (hW : Below W0.heap.size W0 W) => pairsR_any B Rs c n W (HB.out.below hW) hT hl
  have hen := fun W (hW : Below W0.heap.size W0 W) => entries_any B Rs c n W (HB.out.below hW) hT hl
  obtain ⟨E, hE⟩ : ∃ E, chkR (lvs Rs) = E := ⟨_, rfl⟩
  obtain ⟨P, hP⟩ : ∃ P, prR (lvs Rs) = P := ⟨_, rfl⟩
  obtain ⟨T, hTT⟩ : ∃ T, tot (lvs Rs) = T := ⟨_, rfl⟩
  have hp0 : E ≠ 0 → P = [] := fun h => by rw [← hP]; unfold prR; rw [if_neg (by rw [hE]; exact h)]
  rw [hE, hP] at hck
  rw [hTT] at hen hT
  rw [hE, hP, hTT]
  have HCK := Lib.hid hck
  have HEN := Lib.hid hen
  have hPE : E = 0 → P.length ≤ T := fun h => by
    rw [← hP, ← hTT, prR_len (by rw [hE]; exact h)]
    exact allL_le
  have HPE := Lib.hid hPE
  clear hck hen hE hP hTT hPE
  obtain ⟨V, hV⟩ : ∃ V : Int, (if E = 0 then (T : Int) else 0) = V := ⟨_, rfl⟩
  rw [hV]
  go_enter Tryz.func32, Tryz.ntmps32
  go_wp2_with fail
  rw [HW0.out]
  refine (HCK.out _ (Below.refl _ _)).mono ?_
  rintro e w1 ⟨A1, c1, rfl, ho1, hb1⟩
  have b21 := b20.below hb1 b20.lt
  have hb01 := bext hb0 hb1
  clear ho1
  by_cases hE0 : E = 0
  case neg =>
    have hp := hp0 hE0
    subst hp
    rw [if_neg hE0] at hV
    subst hV
    have h1 : (E != 0) = true := by simpa using hE0
    clear hp0
    go_wp2
    refine bodyPost_ret (v := .tuple #[.int .i64 0, .int .i64 0, .int .i64 E]) (by simp [results, Tryz.results32, go_sem]) rfl ?_
    exact ⟨by first | rfl | simp, hb01⟩
  case pos =>
  subst hE0
  clear hp0
  rw [if_pos rfl] at hV
  subst hV
  have c20 : w1.cell? ⟨w.heap.size, 0, none⟩ = some (.slice B Rs.length c) := b21.cell 0
  have c21 : w1.cell? ⟨w.heap.size, 1, none⟩ = some (.int .u64 n) := b21.cell 1
  go_wp2_with fail
  refine (HEN.out _ hb1).mono ?_
  rintro e w2 ⟨rfl, hb2⟩
  go_wp2
  refine bodyPost_ret (v := .tuple #[.int .i64 (T : Int), .int .i64 (P.length : Int), .int .i64 0]) (by simp [results, Tryz.results32, go_sem]) rfl ?_
  exact ⟨rfl, bext hb01 hb2⟩
end Go.Proofs.YtolclahkfmplfaaGreat

/- Contracts: rungs.Get; the reference's Check, Pairs, Count, Get of levels. -/
namespace Go.Proofs.YtolclahkfmplfaaGreat
open Go Go.RowKit
set_option maxRecDepth 100000
theorem rm_le' {Rs : List Rm} (h : chkR (lvs Rs) = 0) : Rs.length ≤ 4611686018427387903 ∧ ∀ r ∈ Rs, r.l.length ≤ 4611686018427387903 := by
  have h1 := rm_le (chkR_zero.1 h)
  exact ⟨by omega, fun r hr => by have := h1.1 r hr; omega⟩
theorem plain_all {Rs : List Rm} : plainE (allE (inS Rs)) = plainE (allL (lvs Rs)) := by
  unfold plainE allL
  rw [live_live, inS_of]
end Go.Proofs.YtolclahkfmplfaaGreat
