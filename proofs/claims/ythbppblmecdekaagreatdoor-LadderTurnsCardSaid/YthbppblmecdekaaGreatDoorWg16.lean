/- G7 G8: texts of the claim, in this order. -/
import Derived.Test.YthbppblmecdekaaGreatDoorWg12
import Derived.Maps.OwnOps
import Derived.Test.YthbppblmecdekaaGreatDoorWg13
import Derived.Deep.LoopGhost
/- Contract: which levels hold a run, as a map (rungs.held). -/
namespace Go.Proofs.YthbppblmecdekaaGreatDoor
open Go Go.RowKit Go.Maps
set_option maxRecDepth 100000
theorem held_keyed : Keyed Tryz.prog 3 := int_keyed Tryz.underlying3
theorem zero_int (w : World) : (zeroValue 3).run Tryz.prog w = .ok (.int .i64 0) w := by kernel_rfl
theorem wf_nat {k : Nat} (h : k ≤ 1000000000) : (Lit.int .i64 (k : Int)).wf = true := by
  show (decide ((-9223372036854775808 : Int) ≤ (k : Int)) && decide ((k : Int) ≤ 9223372036854775807)) = true
  simp; omega
theorem own_below_map {w w' : World} {b n : Nat} {D : DataW Unit} (h1 : w.ownsMap Tryz.prog 3 (plainElem (H := Unit) Tryz.prog 3) b n D) (hb : Below w.heap.size w w') : w'.ownsMap Tryz.prog 3 (plainElem (H := Unit) Tryz.prog 3) b n D := by
  have hl := h1.lt
  obtain ⟨es, clock, h3, h4⟩ := h1
  exact ⟨es, clock, (hb.block b hl).trans h3, h4⟩
set_option maxHeartbeats 2000000 in
theorem heldM_any (B : Option Addr) (Rs : List Rm) (c : Nat) (w : World) (hB : RunsAt w B Rs) (hl : Rs.length ≤ 1000000) (hrs : ∀ r ∈ Rs, r.l.length ≤ 1000000) :
    Calls Tryz.prog 134 #[.slice B Rs.length c] w fun r w' => ∃ b, r = .returned (.map (some b)) ∧ w.heap.size ≤ b ∧ HeldAt w' b (lvs Rs) ∧ Below w.heap.size w w' := by
  have hmm := @run_makeMap Tryz.prog
  have HB := Lib.hid hB
  have HHR := Lib.hid hrs
  clear hB hrs
  go_enter Tryz.func134, Tryz.ntmps134
  go_wp2
  go_loopw [9] (fun i wr => ∃ (k : Nat) (D : DataW Unit), k ≤ Rs.length ∧ i = .int .i64 k ∧ Below w.heap.size w wr ∧ wr.ownsMap Tryz.prog 3 (plainElem (H := Unit) Tryz.prog 3) w.heap.size k D ∧
      Hid (Tidy D ∧ (∀ j : Nat, D.atKey (.int .i64 j) (.lit (.int .i64 0)) = .lit (.int .i64 (lev ((lvs Rs).take k) j).length)) ∧ (∀ j : Nat, Maps.has D (.int .i64 j) = decide (lev ((lvs Rs).take k) j ≠ [])) ∧ Maps.size D = cnt ((lvs Rs).take k)))
    (fun i _ => Rs.length - (intOf i).toNat)
  case atStart =>
    refine ⟨0, .map [], Nat.zero_le _, rfl, (Below.refl _ _).alloc (Nat.le_refl _) _, World.ownsMap_made _ _ _ _, tidy_empty, fun j => ?_, fun j => ?_, rfl⟩
    · rw [List.take_zero, lev_nil]; rfl
    · rw [List.take_zero, lev_nil]; rfl
  case round =>
    obtain ⟨k, D, hk, rfl, hb, hown, hd⟩ := hrel
    have hbs := hb.size
    by_cases hlt : k < Rs.length
    · obtain ⟨b, off, rfl, hbl, cp⟩ := HB.out.sl.oneB hb k hlt
      have hlt2 : k < (lvs Rs).length := by rw [lvs_len]; exact hlt
      have hlv := lvs_lev hlt
      have hrl := HHR.out _ (List.getElem_mem hlt)
      obtain ⟨r, hr⟩ : ∃ r, Rs[k]'hlt = r := ⟨_, rfl⟩
      rw [hr] at cp hrl hlv
      obtain ⟨l, A, cl⟩ := r
      have cp1 : wr.cell? ⟨b, off + k, none⟩ = some (.slice A l.length cl) := cp
      dsimp only at hrl hlv
      have hki : (0 : Int) ≤ (k : Int) := by omega
      have hki2 : (k : Int) < (Rs.length : Int) := by omega
      have HL := Lib.hid hlv
      have HO := Lib.hid hown
      have HLT := Lib.hid hlt2
      clear cp hr hlv hown hlt2
      by_cases h0 : l.length = 0
      · have hnil : l = [] := List.eq_nil_of_length_eq_zero h0
        subst hnil
        clear h0
        go_wp2
        go_roundw
        case rel =>
          have he : lev (lvs Rs) k = [] := HL.out
          have hs := held_skip HLT.out he
          refine ⟨k + 1, D, by omega, by go_num, hb.alloc hbs _, (HO.out.alloc _).mono (by omega), hd.out.1, fun j => ?_, fun j => ?_, ?_⟩
          · rw [hs.1]; exact hd.out.2.1 j
          · rw [hs.1]; exact hd.out.2.2.1 j
          · rw [hs.2]; exact hd.out.2.2.2
        case measure => simp [intOf]; omega
      · have hpos : (0 : Int) < (l.length : Int) := by omega
        have hne2 : ¬ l = [] := by intro h; apply h0; rw [h]; rfl
        have hkey : keyOf Tryz.prog 3 (.int .i64 (k : Int)) = some (.int .i64 (k : Int)) := keyOf_int_mk Tryz.underlying3 (wf_nat (by omega))
        have HW := Lib.hid (wf_nat (k := l.length) (by omega))
        go_wp2_with (first
          | (at_mapUpdate; refine wpList_mapUpdate_own _ rfl _ _ _ 168 rfl 3 3 held_keyed Tryz.underlying168 _ w.heap.size k D rfl (HO.out.alloc _) (by unfold maxLen; omega) _ _ _ rfl rfl hkey _ [] (plainElem_int Tryz.underlying3 HW.out) ?_; intro w1 hown1 hgrow1; have HO1 := Lib.hid hown1; clear hown1)
          | go_in)
        go_roundw
        case rel =>
          have he : lev (lvs Rs) k ≠ [] := by rw [HL.out]; exact hne2
          have hp := held_put HLT.out he hd.out.1 hd.out.2.1 hd.out.2.2.1 hd.out.2.2.2
          rw [HL.out] at hp
          exact ⟨k + 1, _, by omega, by go_num, (hb.alloc hbs _).grown hgrow1 (by simp; omega) (fun q hq => by cases hq; exact Nat.le_refl _), HO1.out, hp⟩
        case measure => simp [intOf]; omega
    · have hkn : k = Rs.length := by omega
      have HO := Lib.hid hown
      clear hown
      have hfin : HeldAt wr w.heap.size (lvs Rs) := by
        have hd2 := hd.out
        rw [List.take_of_length_le (by rw [lvs_len]; omega)] at hd2
        exact ⟨k, D, HO.out, by omega, hd2⟩
      have HF := Lib.hid hfin
      clear hkn hfin
      go_wp2
      go_ret
      exact ⟨_, rfl, Nat.le_refl _, HF.out, hb⟩
end Go.Proofs.YthbppblmecdekaaGreatDoor

/- Contract: runs at their levels (rungs.of). -/
namespace Go.Proofs.YthbppblmecdekaaGreatDoor
open Go Go.RowKit
set_option maxRecDepth 100000
theorem of_succ {rs : Lv} {k : Nat} (h : k < rs.length) : ofL (rs.take (k + 1)) = standL (ofL (rs.take k)) (lev rs k) := by
  rw [List.take_succ_eq_append_getElem h, of_snoc, lev_lt h]
theorem of_grow {w : World} {B0 g4 g5 n d3 : Nat} {A3 : Option Addr} {Ts3 : List Rm} {c4 c5 : Array Value} {v5 : Value} {w5 : World} (o : Obj) (hr : RowAt w B0 A3 d3 Ts3) (b4 : Blk w g4 27 c4) (b5 : Blk w g5 27 c5)
    (ho : w5.ownsRow B0 74 1 v5 n (Ts3.map Rm.v ++ [.slice none 0 0])) (hg : (w.alloc o).grownBy w5 (Value.slice A3 Ts3.length d3).ownBlock) :
    ∃ A5 d5, v5 = .slice A5 n d5 ∧ Blk w5 g4 27 c4 ∧ Blk w5 g5 27 c5 ∧ (∀ i, w5.cell? ⟨g5, i, none⟩ = c5[i]?) ∧ (∀ i, w5.frozen? ⟨g5, i, none⟩ = false) := by
  obtain ⟨A5, d5, h1, _, _⟩ := own_form ho
  have e5 := (b5.alloc o).grown hg (own_typ (hr.alloc o) (b5.alloc o) (by decide))
  exact ⟨A5, d5, h1, (b4.alloc o).grown hg (own_typ (hr.alloc o) (b4.alloc o) (by decide)), e5, fun i => e5.cell i, fun i => e5.frozen i⟩
set_option maxHeartbeats 4000000 in
theorem of_any (n : Int) (B : Option Addr) (Rs : List Rm) (c : Nat) (w : World) (hB : RunsAt w B Rs) (hl : Rs.length ≤ 1000000) (hrs : ∀ r ∈ Rs, r.l.length ≤ 65536) :
    Calls Tryz.prog 100 #[.int .u64 n, .slice B Rs.length c] w fun r w' => ∃ A d Ts, r = .returned (.agg #[.slice A Ts.length d, .int .u64 n]) ∧ lvs Ts = ofL (lvs Rs) ∧ RowAt w' w.heap.size A d Ts ∧ (∀ t ∈ Ts, t = ⟨[], none, 0⟩ ∨ t ∈ Rs) ∧ Below w.heap.size w w' := by
  obtain ⟨te0, hI⟩ := info_parts run_info1
  have HI := Lib.hid hI
  have HB := Lib.hid hB
  have HHR := Lib.hid hrs
  clear hI hB hrs
  obtain ⟨W0, hW0⟩ : ∃ W0, (w.alloc (.cells #[.slice none 0 0, .int .u64 0] 27)).alloc (.cells #[.slice none 0 0, .int .u64 n] 27) = W0 := ⟨_, rfl⟩
  have hb0 : Below w.heap.size w W0 := by rw [← hW0]; exact ((Below.refl _ _).alloc (Nat.le_refl _) _).alloc (by simp) _
  have b40 : Blk W0 w.heap.size 27 #[.slice none 0 0, .int .u64 0] := by rw [← hW0]; exact (Blk.new _ _ _).alloc _
  have b50 : Blk W0 (w.heap.size + 1) 27 #[.slice none 0 0, .int .u64 n] := by
    rw [← hW0]
    have := Blk.new (w.alloc (.cells #[.slice none 0 0, .int .u64 0] 27)) 27 #[.slice none 0 0, .int .u64 n]
    rwa [World.size_alloc] at this
  go_enter Tryz.func100, Tryz.ntmps100
  go_wp2
  try rw [hW0]
  clear hW0
  go_loopw [13] (fun i wr => ∃ (k : Nat) (Ts : List Rm) (A : Option Addr) (d : Nat), k ≤ Rs.length ∧ i = .int .i64 k ∧ Below w.heap.size w wr ∧ Blk wr w.heap.size 27 #[.slice none 0 0, .int .u64 0] ∧ Blk wr (w.heap.size + 1) 27 #[.slice A Ts.length d, .int .u64 n] ∧
      RowAt wr w.heap.size A d Ts ∧ Ts.length ≤ 17 ∧ Hid (lvs Ts = ofL ((lvs Rs).take k) ∧ ∀ t ∈ Ts, t = ⟨[], none, 0⟩ ∨ t ∈ Rs)) (fun i _ => Rs.length - (intOf i).toNat)
  case atStart => exact ⟨0, [], none, 0, Nat.zero_le _, rfl, hb0, b40, b50, World.ownsRow_nil _ _ _ _, by simp, rfl, by simp⟩
  case round =>
    obtain ⟨k, Ts, A, d, hk, rfl, hb, b4, b5, hrow, h17, hH⟩ := hrel
    obtain ⟨wq, rfl⟩ : ∃ wq, wq = wr := ⟨_, rfl⟩
    have hbs := hb.size
    have c50 : wq.cell? ⟨w.heap.size + 1, 0, none⟩ = some (.slice A Ts.length d) := b5.cell 0
    have c51 : wq.cell? ⟨w.heap.size + 1, 1, none⟩ = some (.int .u64 n) := b5.cell 1
    by_cases hlt : k < Rs.length
    · obtain ⟨b, off, rfl, hbl, cp⟩ := HB.out.sl.oneB hb k hlt
      have hlt2 : k < (lvs Rs).length := by rw [lvs_len]; exact hlt
      have hlv := lvs_lev hlt
      have hmem := List.getElem_mem hlt
      have hrl := HHR.out _ hmem
      have hof := of_succ hlt2
      obtain ⟨r, hr⟩ : ∃ r, Rs[k]'hlt = r := ⟨_, rfl⟩
      rw [hr] at cp hrl hlv hmem
      rw [hlv] at hof
      obtain ⟨l, Ar, cl⟩ := r
      have cp1 : wq.cell? ⟨b, off + k, none⟩ = some (.slice Ar l.length cl) := cp
      dsimp only at hrl hof
      have hki : (0 : Int) ≤ (k : Int) := by omega
      have hki2 : (k : Int) < (Rs.length : Int) := by omega
      have HOF := Lib.hid hof
      have HROW := Lib.hid hrow
      have HM := Lib.hid hmem
      obtain ⟨W1, hW1⟩ : ∃ W1, wq.alloc (.cells #[.slice Ar l.length cl] 74) = W1 := ⟨_, rfl⟩
      have hb1 : Below wq.heap.size wq W1 := by rw [← hW1]; exact (Below.refl _ _).alloc (Nat.le_refl _) _
      have hs1 : W1.heap.size = wq.heap.size + 1 := by rw [← hW1]; simp
      have b71 : Blk W1 wq.heap.size 74 #[.slice Ar l.length cl] := by rw [← hW1]; exact Blk.new _ _ _
      have b41 := b4.below hb1 b4.lt
      have b51 := b5.below hb1 b5.lt
      have HROW1 := Lib.hid (own_below hrow hb1)
      have HW1 := Lib.hid hW1
      clear cp hr hlv hof hrow hmem hlt2 hW1
      by_cases h0 : l.length = 0
      · have hnil : l = [] := List.eq_nil_of_length_eq_zero h0
        subst hnil
        clear h0
        go_wp2
        have e1 : wq.alloc (.cells #[.slice Ar 0 cl] 74) = W1 := HW1.out
        rw [e1]
        clear e1
        go_roundw
        case rel =>
          refine ⟨k + 1, Ts, A, d, by omega, by go_num, bext hb hb1, b41, b51, HROW1.out, h17, ?_, hH.out.2⟩
          rw [HOF.out, stand_nil]; exact hH.out.1
        case measure => simp [intOf]; omega
      · have hpos : ¬ ((l.length : Int) = 0) := by omega
        have hne2 : ¬ l = [] := by intro h; apply h0; rw [h]; rfl
        have HL0 : Hid (0 < l.length) := by show 0 < l.length; omega
        have HL6 := Lib.hid hrl
        obtain ⟨U, hU⟩ : ∃ U, up l.length = U := ⟨_, rfl⟩
        have hU16 : U ≤ 16 := by rw [← hU]; exact up_16 hrl
        have HU := Lib.hid hU
        clear hU
        go_wp2_with fail
        rw [HW1.out]
        refine (level_any Ar l.length cl _ HL0.out HL6.out).mono ?_
        rw [HU.out]
        rintro e w2 ⟨rfl, hb2⟩
        have hb02 : Below w.heap.size w w2 := bext hb (bext hb1 hb2)
        have b72 := b71.below hb2 b71.lt
        have b42 := b41.below hb2 b41.lt
        have b52 := b51.below hb2 b51.lt
        have HROW2 := Lib.hid (own_below HROW1.out hb2)
        have hs2 := hb2.size
        have hne7 : ∀ q, A = some q → q.block ≠ wq.heap.size := by
          intro q hq
          have h1 := (HROW.out.lt q.block (by rw [hq]; simp [Value.ownBlock])).2
          omega
        clear c50 c51
        go_wp2_with fail
        go_loopg [] (U + 1 - Ts.length) (fun gk w3 => ∃ (Ts3 : List Rm) (A3 : Option Addr) (d3 : Nat), Below w.heap.size w w3 ∧ Blk w3 w.heap.size 27 #[.slice none 0 0, .int .u64 0] ∧ Blk w3 (w.heap.size + 1) 27 #[.slice A3 Ts3.length d3, .int .u64 n] ∧ Blk w3 wq.heap.size 74 #[.slice Ar l.length cl] ∧
          RowAt w3 w.heap.size A3 d3 Ts3 ∧ Ts3.length ≤ 17 ∧ wq.heap.size + 1 ≤ w3.heap.size ∧ Hid ((∀ q, A3 = some q → q.block ≠ wq.heap.size) ∧ lvs Ts3 = padTo (lvs Ts) Ts3.length ∧ Ts.length ≤ Ts3.length ∧ Ts3.length ≤ max Ts.length (U + 1) ∧ (∀ t ∈ Ts3, t = ⟨[], none, 0⟩ ∨ t ∈ Rs) ∧ gk = U + 1 - Ts3.length))
        case atStart => exact ⟨Ts, A, d, hb02, b42, b52, b72, HROW2.out, h17, by omega, hne7, by rw [pad_same _ (by rw [lvs_len]; exact Nat.le_refl _)], Nat.le_refl _, by omega, hH.out.2, rfl⟩
        case round =>
          obtain ⟨Ts3, A3, d3, hb3, b43, b53, b73, hrow3, h173, hs3, hH3⟩ := hrel
          have c53 : wr.cell? ⟨w.heap.size + 1, 0, none⟩ = some (.slice A3 Ts3.length d3) := b53.cell 0
          have c54 : wr.cell? ⟨w.heap.size + 1, 1, none⟩ = some (.int .u64 n) := b53.cell 1
          have f53 : wr.frozen? ⟨w.heap.size + 1, 0, none⟩ = false := b53.frozen 0
          have lt5 := b53.lt
          by_cases hle : Ts3.length ≤ U
          · have g1 : (Ts3.length : Int) ≤ (U : Int) := by omega
            have HROW3 := Lib.hid hrow3
            clear hrow3
            go_wp2_with (at_builtin; refine wpList_append_at _ rfl (.tmp 29) (.tmp 31) _ rfl w.heap.size 74 te0 _ 1 24 Tryz.underlying24 HI.out.1 HI.out.2.1 HI.out.2.2.1 HI.out.2.2.2 rfl (by omega) (.slice A3 Ts3.length d3) Ts3.length _ rfl (HROW3.out.alloc _) wr.heap.size 1 _ [.slice none 0 0] rfl (by intro j u hu; rw [(Blk.new wr 74 #[.slice none 0 0]).cell j]; simpa using hu) rfl (by simp [Value.oneCell']) (by unfold maxLen; omega) (by omega) (by simp; omega) ?_; intro v5 w5 hown5 hg5 hblk5; obtain ⟨A5, d5, hv5, b45, b55, cc55, ff55⟩ := of_grow _ HROW3.out b43 b53 hown5 hg5; subst hv5; have c55 : w5.cell? ⟨w.heap.size + 1, 0, none⟩ = some (.slice A3 Ts3.length d3) := cc55 0; have c56 : w5.cell? ⟨w.heap.size + 1, 1, none⟩ = some (.int .u64 n) := cc55 1; have f55 : w5.frozen? ⟨w.heap.size + 1, 0, none⟩ = false := ff55 0; clear cc55 ff55; have HO5 := Lib.hid hown5; have HG5 := Lib.hid hg5; have HK5 := Lib.hid hblk5; clear hown5 hg5 hblk5)
            go_roundg (U + 1 - (Ts3.length + 1))
            case measure => have := hH3.out.2.2.2.2.2; omega
            case rel =>
              have hsz : (wr.alloc (.cells #[.slice none 0 0] 74)).heap.size = wr.heap.size + 1 := by simp
              have b75 := (b73.alloc (.cells #[.slice none 0 0] 74)).grown HG5.out (by
                intro h
                cases A3 with
                | none => simp [Value.ownBlock] at h
                | some q => exact hH3.out.1 q rfl (by simpa [Value.ownBlock] using h))
              have hb5 : Below w.heap.size w w5 := (hb3.alloc (by have := hb3.size; omega) _).grown HG5.out (by have := hb3.size; simp; omega) (fun q hq => (HROW3.out.lt q hq).1)
              refine ⟨Ts3 ++ [⟨[], none, 0⟩], A5, d5, hb5.setCell (p := ⟨w.heap.size + 1, 0, none⟩) (Nat.le_succ _) _, b45.far (p := ⟨w.heap.size + 1, 0, none⟩) (by simp) _, ?_, b75.far (p := ⟨w.heap.size + 1, 0, none⟩) (by show _ ≠ w.heap.size + 1; exact (blk_ne b75 b55 (by decide))) _, ?_, ?_, ?_, ?_⟩
              · have := b55.set_ 0 (.slice A5 (Ts3.length + 1) d5)
                rw [List.length_append]
                exact this
              · have := own_setT b55 HO5.out (by decide) 0 (.slice A5 (Ts3.length + 1) d5)
                unfold RowAt
                rw [List.length_append, List.map_append]
                exact this
              · rw [List.length_append]; simp; omega
              · have := HG5.out.size; simp at this ⊢; omega
              · refine ⟨?_, ?_, ?_, ?_, ?_, ?_⟩
                · intro q hq
                  subst hq
                  rcases HK5.out with h1 | h1
                  · cases A3 with
                    | none => simp [Value.ownBlock] at h1
                    | some q3 => have := hH3.out.1 q3 rfl; simp [Value.ownBlock] at h1; omega
                  · simp [Value.ownBlock] at h1; omega
                · rw [lvs_append, hH3.out.2.1, List.length_append]
                  exact (pad_step (lvs Ts) (by rw [lvs_len]; exact hH3.out.2.2.1)).symm
                · rw [List.length_append]; have := hH3.out.2.2.1; omega
                · rw [List.length_append]; simp; omega
                · intro t ht
                  rcases List.mem_append.1 ht with h1 | h1
                  · exact hH3.out.2.2.2.2.1 t h1
                  · left; simpa using h1
                · rw [List.length_append]; rfl
          · have hU3 : U < Ts3.length := by omega
            obtain ⟨gT, cur, rfl, hgT, bT, hcs, hcell⟩ := RowAt.at hrow3 (by omega)
            have cT := hcell U hU3
            have fT := bT.frozen U
            have g1 : ¬ (Ts3.length : Int) ≤ (U : Int) := by omega
            have g2 : (0 : Int) ≤ (U : Int) := by omega
            have g3 : (U : Int) < (Ts3.length : Int) := by omega
            have c73 : wr.cell? ⟨wq.heap.size, 0, none⟩ = some (.slice Ar l.length cl) := b73.cell 0
            have ltT := bT.lt
            have HROW3 := Lib.hid hrow3
            have HU3 := Lib.hid hU3
            have HNE2 := Lib.hid hne2
            clear hcell hrow3 hne2
            go_wp2
            go_roundw
            case rel =>
              have hne5 := blk_ne bT b53 (by decide)
              have hne4 := blk_ne bT b43 (by decide)
              refine ⟨k + 1, Ts3.set U ⟨l, Ar, cl⟩, some ⟨gT, 0, none⟩, d3, by omega, by go_num, hb3.setCell (p := ⟨gT, U, none⟩) hgT _, b43.far (p := ⟨gT, U, none⟩) hne4.symm _, ?_, RowAt.set HROW3.out HU3.out ⟨l, Ar, cl⟩, by rw [List.length_set]; exact h173, ?_, ?_⟩
              · rw [List.length_set]; exact b53.far (p := ⟨gT, U, none⟩) hne5.symm _
              · have hp : padTo (lvs Ts) Ts3.length = padTo (lvs Ts) (U + 1) := by
                  have h1 := hH3.out.2.2.1
                  have h2 := hH3.out.2.2.2.1
                  by_cases h3 : Ts.length ≤ U
                  · rw [show Ts3.length = U + 1 by omega]
                  · rw [pad_same _ (by rw [lvs_len]; omega), pad_same _ (by rw [lvs_len]; omega)]
                rw [lvs_set, hH3.out.2.1, hp, HOF.out, ← hH.out.1]
                unfold standL
                rw [if_neg HNE2.out, HU.out]
              · intro t ht
                rcases List.mem_or_eq_of_mem_set ht with h1 | h1
                · exact hH3.out.2.2.2.2.1 t h1
                · right; rw [h1]; exact HM.out
            case measure => simp [intOf]; omega
    · have hkn : k = Rs.length := by omega
      have HF : Hid (lvs Ts = ofL (lvs Rs)) := by
        have h := hH.out.1
        rw [List.take_of_length_le (by rw [lvs_len]; omega)] at h
        exact h
      have HROW := Lib.hid hrow
      clear hrow hkn
      have f40 := b4.frozen 0
      have f41 := b4.frozen 1
      have c40 : wq.cell? ⟨w.heap.size, 0, none⟩ = some (.slice none 0 0) := b4.cell 0
      have c41 : wq.cell? ⟨w.heap.size, 1, none⟩ = some (.int .u64 0) := b4.cell 1
      go_wp2
      have hb6 := ((b4.set_ 0 (.slice A Ts.length d)).set_ 1 (.int .u64 n))
      have e0 : ((wq.setCell ⟨w.heap.size, 0, none⟩ (.slice A Ts.length d)).setCell ⟨w.heap.size, 1, none⟩ (.int .u64 n)).cell? ⟨w.heap.size, 0, none⟩ = some (.slice A Ts.length d) := hb6.cell 0
      have e1 : ((wq.setCell ⟨w.heap.size, 0, none⟩ (.slice A Ts.length d)).setCell ⟨w.heap.size, 1, none⟩ (.int .u64 n)).cell? ⟨w.heap.size, 1, none⟩ = some (.int .u64 n) := hb6.cell 1
      refine bodyPost_ret (v := .agg #[.slice A Ts.length d, .int .u64 n]) (by simp [results, Tryz.results100, go_sem, e0, e1]) rfl ?_
      refine ⟨A, d, Ts, rfl, HF.out, own_setT (b4.set_ 0 (.slice A Ts.length d)) (own_setT b4 HROW.out (by decide) 0 _) (by decide) 1 _, hH.out.2, (hb.setCell (p := ⟨w.heap.size, 0, none⟩) (Nat.le_refl _) _).setCell (p := ⟨w.heap.size, 1, none⟩) (Nat.le_refl _) _⟩
end Go.Proofs.YthbppblmecdekaaGreatDoor
