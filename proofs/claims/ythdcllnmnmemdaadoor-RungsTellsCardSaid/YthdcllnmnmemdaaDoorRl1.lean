/- The law RungsTells: for every two levels and key it returns true; its arguments stay as they were. As a card: math/bits' tables read as their initialisers lay them; no further condition. -/
import Derived.Test.YthdcllnmnmemdaaDoorWb15
import Derived.Test.YthdcllnmnmemdaaDoorWb6
import Derived.Test.YthdcllnmnmemdaaDoorWb3
import Derived.Test.YthdcllnmnmemdaaDoorWb16
import Derived.Test.YthdcllnmnmemdaaDoorWb13
import Derived.Deep.CutRange
import Derived.Deep.RegionHeld3
import Derived.Test.YthdcllnmnmemdaaDoorWb17
/- Contracts: rungs.Same; the reference's Same of levels, in general. -/
namespace Go.Proofs.YthdcllnmnmemdaaDoor
open Go Go.RowKit
set_option maxRecDepth 100000
def Pre (Rs Ts : List Rm) (k : Nat) : Prop := ∀ j (h1 : j < Rs.length) (h2 : j < Ts.length), j < k → (Rs[j]'h1).l = (Ts[j]'h2).l
theorem pre_up {Rs Ts : List Rm} {k : Nat} (h : Pre Rs Ts k) (h1 : k < Rs.length) (h2 : k < Ts.length) (he : (Rs[k]'h1).l = (Ts[k]'h2).l) : Pre Rs Ts (k + 1) := fun j h3 h4 h5 => by
  by_cases e : j = k
  · subst e; exact he
  · exact h j h3 h4 (by omega)
theorem lvs_at {Rs : List Rm} {j : Nat} (h : j < Rs.length) : (lvs Rs)[j]? = some (Rs[j]'h).l := by
  unfold lvs
  rw [List.getElem?_map, List.getElem?_eq_getElem h]
  rfl
theorem pre_no {Rs Ts : List Rm} {k : Nat} (h1 : k < Rs.length) (h2 : k < Ts.length) (he : (Rs[k]'h1).l ≠ (Ts[k]'h2).l) : decide (lvs Rs = lvs Ts) = false := by
  refine decide_eq_false fun h => he ?_
  have h3 := lvs_at h1
  rw [h, lvs_at h2] at h3
  exact (Option.some.inj h3).symm
theorem pre_end {Rs Ts : List Rm} {k : Nat} (h : Pre Rs Ts k) (h1 : Rs.length = Ts.length) (h2 : ¬ k < Rs.length) : decide (lvs Rs = lvs Ts) = true := by
  refine decide_eq_true (List.ext_getElem? fun j => ?_)
  by_cases hj : j < Rs.length
  · rw [lvs_at hj, lvs_at (h1 ▸ hj), h j hj (h1 ▸ hj) (by omega)]
  · rw [List.getElem?_eq_none (by rw [lvs_len]; omega), List.getElem?_eq_none (by rw [lvs_len]; omega)]
theorem len_no {Rs Ts : List Rm} (h : ¬ Rs.length = Ts.length) : decide (lvs Rs = lvs Ts) = false := decide_eq_false fun h2 => h (by have := congrArg List.length h2; rwa [lvs_len, lvs_len] at this)
set_option maxHeartbeats 4000000 in
theorem eqFunc_any (B D : Option Addr) (Rs Ts : List Rm) (c d : Nat) (w : World) (hB : RunsAt w B Rs) (hD : RunsAt w D Ts) (hl : Rs.length ≤ 1000000) (hrs : ∀ r ∈ Rs, r.l.length ≤ 1000000) (hts : ∀ r ∈ Ts, r.l.length ≤ 1000000) :
    Calls Tryd.prog 56 #[.slice B Rs.length c, .slice D Ts.length d, .func (.func 57) #[] #[]] w fun r w' => r = .returned (.bool (decide (lvs Rs = lvs Ts))) ∧ Below w.heap.size w w' := by
  have HB := Lib.hid hB
  have HD := Lib.hid hD
  have HHR := Lib.hid hrs
  have HHT := Lib.hid hts
  clear hB hD hrs hts
  by_cases hlen : Rs.length = Ts.length
  case neg =>
    rw [len_no hlen]
    have g1 : ((Rs.length : Int) != (Ts.length : Int)) = true := by simpa using (show ¬ (Rs.length : Int) = (Ts.length : Int) by omega)
    clear hlen
    go_enter Tryd.func56, Tryd.ntmps56
    go_wp2
    go_ret
    exact ⟨rfl, Below.refl _ _⟩
  case pos =>
  obtain ⟨Q, hQ⟩ : ∃ Q, decide (lvs Rs = lvs Ts) = Q := ⟨_, rfl⟩
  rw [hQ]
  have HQ := Lib.hid hQ
  have HLEN := Lib.hid hlen
  have g1 : ((Rs.length : Int) != (Ts.length : Int)) = false := by simpa using (show (Rs.length : Int) = (Ts.length : Int) by omega)
  have HP0 : Hid (Pre Rs Ts 0) := fun j _ _ h => by omega
  have hl2 : Ts.length ≤ 1000000 := by omega
  clear hQ hlen
  go_enter Tryd.func56, Tryd.ntmps56
  go_wp2
  go_loopw [17] (fun i wr => ∃ k : Nat, k ≤ Rs.length ∧ i = .int .i64 k ∧ Below w.heap.size w wr ∧ Hid (Pre Rs Ts k)) (fun i _ => Rs.length - (intOf i).toNat)
  case atStart => exact ⟨0, Nat.zero_le _, rfl, Below.refl _ _, HP0.out⟩
  case round =>
    obtain ⟨k, hk, rfl, hb, hpre⟩ := hrel
    by_cases hlt : k < Rs.length
    · have hlt2 : k < Ts.length := by rw [← HLEN.out]; exact hlt
      obtain ⟨b, off, rfl, hbl, cp⟩ := HB.out.sl.oneB hb k hlt
      obtain ⟨b2, off2, rfl, hbl2, cq⟩ := HD.out.sl.oneB hb k hlt2
      have hok := (HB.out.ok _ (List.getElem_mem hlt)).below hb
      have hok2 := (HD.out.ok _ (List.getElem_mem hlt2)).below hb
      have hrl := HHR.out _ (List.getElem_mem hlt)
      have hrl2 := HHT.out _ (List.getElem_mem hlt2)
      have hup := Lib.hid (fun h => pre_up hpre.out hlt hlt2 h)
      have hno := Lib.hid (fun h => pre_no hlt hlt2 h)
      obtain ⟨r, hr⟩ : ∃ r, Rs[k]'hlt = r := ⟨_, rfl⟩
      obtain ⟨s, hs⟩ : ∃ s, Ts[k]'hlt2 = s := ⟨_, rfl⟩
      rw [hr] at cp hok hrl hup hno
      rw [hs] at cq hok2 hrl2 hup hno
      obtain ⟨l, A, cl⟩ := r
      obtain ⟨m, A2, cm⟩ := s
      have cp1 : wr.cell? ⟨b, off + k, none⟩ = some (.slice A l.length cl) := cp
      have cq1 : wr.cell? ⟨b2, off2 + k, none⟩ = some (.slice A2 m.length cm) := cq
      dsimp only at hrl hrl2 hup hno
      have hki : (0 : Int) ≤ (k : Int) := by omega
      have hki2 : (k : Int) < (Rs.length : Int) := by omega
      have hki3 : (k : Int) < (Ts.length : Int) := by omega
      obtain ⟨V, hV⟩ : ∃ V, decide (l = m) = V := ⟨_, rfl⟩
      have lb1 : b < wr.heap.size := Nat.lt_of_lt_of_le hbl hb.size
      have lb2 : b2 < wr.heap.size := Nat.lt_of_lt_of_le hbl2 hb.size
      have HV := Lib.hid hV
      have hsm : ∀ W, Below wr.heap.size wr W → Calls Tryd.prog 57 #[.agg #[.slice A l.length cl], .agg #[.slice A2 m.length cm]] W (fun r w' => r = .returned (.bool V) ∧ Below W.heap.size W w') := by
        intro W hW
        have h8 := boundSame_any A A2 l m cl cm W (hok.sl.below hW) (hok2.sl.below hW) (by omega) (by omega)
        rw [hV] at h8
        exact h8
      have HSM := Lib.hid hsm
      have HBB : Hid (Below wr.heap.size wr ((wr.alloc (.cells #[.slice A l.length cl] 61)).alloc (.cells #[.slice A2 m.length cm] 61))) := ((Below.refl _ _).alloc (Nat.le_refl _) _).alloc (by simp) _
      clear cp cq hr hs hok hok2 hV hsm hbl hbl2
      go_wp2_with fail
      refine (HSM.out _ HBB.out).mono ?_
      rintro e w2 ⟨rfl, hb2⟩
      have hb3 := bext hb (bext HBB.out hb2)
      cases V with
      | true =>
        go_wp2
        go_roundw
        case rel => exact ⟨k + 1, by omega, by go_num, hb3, hup.out (of_decide_eq_true HV.out)⟩
        case measure => simp [intOf]; omega
      | false =>
        have HF : Hid (Q = false) := by show _ = _; rw [← HQ.out]; exact hno.out (of_decide_eq_false HV.out)
        go_wp2
        go_ret
        exact ⟨by rw [HF.out]; rfl, hb3⟩
    · have HF : Hid (Q = true) := by show _ = _; rw [← HQ.out]; exact pre_end hpre.out HLEN.out hlt
      go_wp2
      go_ret
      exact ⟨by rw [HF.out]; rfl, hb⟩
theorem sameR_any (B D : Option Addr) (Rs Ts : List Rm) (nr nt c d : Nat) (n m : Int) (w : World) (hnr : Rs.length = nr) (hnt : Ts.length = nt) (hB : RunsAt w B Rs) (hD : RunsAt w D Ts) (hl : Rs.length ≤ 1000000) (hrs : ∀ r ∈ Rs, r.l.length ≤ 1000000) (hts : ∀ r ∈ Ts, r.l.length ≤ 1000000) :
    Calls Tryd.prog 23 #[.agg #[.slice B nr c, .int .u64 n], .agg #[.slice D nt d, .int .u64 m]] w fun r w' => r = .returned (.bool (decide (n = m) && decide (lvs Rs = lvs Ts))) ∧ Below w.heap.size w w' := by
  have hb0 : Below w.heap.size w ((w.alloc (.cells #[.slice B nr c, .int .u64 n] 25)).alloc (.cells #[.slice D nt d, .int .u64 m] 25)) := ((Below.refl _ _).alloc (Nat.le_refl _) _).alloc (by simp) _
  have hsa := fun W (hW : Below w.heap.size w W) => eqFunc_any B D Rs Ts c d W (hB.below hW) (hD.below hW) hl hrs hts
  rw [hnr, hnt] at hsa
  obtain ⟨Q, hQ⟩ : ∃ Q, decide (lvs Rs = lvs Ts) = Q := ⟨_, rfl⟩
  rw [hQ] at hsa ⊢
  have HSA := Lib.hid hsa
  clear hsa hB hD hrs hts hQ
  by_cases hnm : n = m
  · subst hnm
    rw [decide_eq_true rfl, Bool.true_and]
    go_enter Tryd.func23, Tryd.ntmps23
    go_wp2_with fail
    refine (HSA.out _ hb0).mono ?_
    rintro e w1 ⟨rfl, hb1⟩
    go_wp2
    go_ret
    exact ⟨rfl, bext hb0 hb1⟩
  · have g1 : (n == m) = false := by simpa using hnm
    rw [decide_eq_false hnm, Bool.false_and]
    clear hnm
    go_enter Tryd.func23, Tryd.ntmps23
    go_wp2_with fail
    go_ret
    exact ⟨rfl, hb0⟩
set_option maxHeartbeats 4000000 in
theorem sameAllB_any (B D : Option Addr) (Rs Ts : List Rm) (c d : Nat) (w : World) (hB : RunsAt w B Rs) (hD : RunsAt w D Ts) (hl : Rs.length ≤ 1000000) (hrs : ∀ r ∈ Rs, r.l.length ≤ 1000000) (hts : ∀ r ∈ Ts, r.l.length ≤ 1000000) :
    Calls Tryd.prog 58 #[.slice B Rs.length c, .slice D Ts.length d] w fun r w' => r = .returned (.bool (decide (lvs Rs = lvs Ts))) ∧ Below w.heap.size w w' := by
  have HB := Lib.hid hB
  have HD := Lib.hid hD
  have HHR := Lib.hid hrs
  have HHT := Lib.hid hts
  clear hB hD hrs hts
  by_cases hlen : Rs.length = Ts.length
  case neg =>
    rw [len_no hlen]
    have g1 : ((Rs.length : Int) != (Ts.length : Int)) = true := by simpa using (show ¬ (Rs.length : Int) = (Ts.length : Int) by omega)
    clear hlen
    go_enter Tryd.func58, Tryd.ntmps58
    go_wp2
    go_ret
    exact ⟨rfl, Below.refl _ _⟩
  case pos =>
  obtain ⟨Q, hQ⟩ : ∃ Q, decide (lvs Rs = lvs Ts) = Q := ⟨_, rfl⟩
  rw [hQ]
  have HQ := Lib.hid hQ
  have HLEN := Lib.hid hlen
  have g1 : ((Rs.length : Int) != (Ts.length : Int)) = false := by simpa using (show (Rs.length : Int) = (Ts.length : Int) by omega)
  have HP0 : Hid (Pre Rs Ts 0) := fun j _ _ h => by omega
  have hl2 : Ts.length ≤ 1000000 := by omega
  clear hQ hlen
  go_enter Tryd.func58, Tryd.ntmps58
  go_wp2
  go_loopw [5] (fun i wr => ∃ k : Nat, k ≤ Rs.length ∧ i = .int .i64 k ∧ Below w.heap.size w wr ∧ Hid (Pre Rs Ts k)) (fun i _ => Rs.length - (intOf i).toNat)
  case atStart => exact ⟨0, Nat.zero_le _, rfl, Below.refl _ _, HP0.out⟩
  case round =>
    obtain ⟨k, hk, rfl, hb, hpre⟩ := hrel
    by_cases hlt : k < Rs.length
    · have hlt2 : k < Ts.length := by rw [← HLEN.out]; exact hlt
      obtain ⟨b, off, rfl, hbl, cp⟩ := HB.out.sl.oneB hb k hlt
      obtain ⟨b2, off2, rfl, hbl2, cq⟩ := HD.out.sl.oneB hb k hlt2
      have hok := (HB.out.ok _ (List.getElem_mem hlt)).below hb
      have hok2 := (HD.out.ok _ (List.getElem_mem hlt2)).below hb
      have hrl := HHR.out _ (List.getElem_mem hlt)
      have hrl2 := HHT.out _ (List.getElem_mem hlt2)
      have hup := Lib.hid (fun h => pre_up hpre.out hlt hlt2 h)
      have hno := Lib.hid (fun h => pre_no hlt hlt2 h)
      obtain ⟨r, hr⟩ : ∃ r, Rs[k]'hlt = r := ⟨_, rfl⟩
      obtain ⟨s, hs⟩ : ∃ s, Ts[k]'hlt2 = s := ⟨_, rfl⟩
      rw [hr] at cp hok hrl hup hno
      rw [hs] at cq hok2 hrl2 hup hno
      obtain ⟨l, A, cl⟩ := r
      obtain ⟨m, A2, cm⟩ := s
      have cp1 : wr.cell? ⟨b, off + k, none⟩ = some (.slice A l.length cl) := cp
      have cq1 : wr.cell? ⟨b2, off2 + k, none⟩ = some (.slice A2 m.length cm) := cq
      dsimp only at hrl hrl2 hup hno
      have hki : (0 : Int) ≤ (k : Int) := by omega
      have hki2 : (k : Int) < (Rs.length : Int) := by omega
      have hki3 : (k : Int) < (Ts.length : Int) := by omega
      obtain ⟨V, hV⟩ : ∃ V, decide (l = m) = V := ⟨_, rfl⟩
      have lb1 : b < wr.heap.size := Nat.lt_of_lt_of_le hbl hb.size
      have lb2 : b2 < wr.heap.size := Nat.lt_of_lt_of_le hbl2 hb.size
      have HV := Lib.hid hV
      have hsm : ∀ W, Below wr.heap.size wr W → Calls Tryd.prog 95 #[.agg #[.slice A l.length cl], .agg #[.slice A2 m.length cm]] W (fun r w' => r = .returned (.bool V) ∧ Below W.heap.size W w') := by
        intro W hW
        have h8 := refSame_any A A2 l m cl cm W (hok.sl.below hW) (hok2.sl.below hW) (by omega) (by omega)
        rw [hV] at h8
        exact h8
      have HSM := Lib.hid hsm
      clear cp cq hr hs hok hok2 hV hsm hbl hbl2
      go_upto_region 6 with fail
      go_cut [26] from 17 to 26 (fun v wx => v = .bool (!V) ∧ Below wr.heap.size wr wx)
      case first =>
        go_region_held3 (fun w' => (∀ bq jq, bq < wr.heap.size → w'.cell? ⟨bq, jq, none⟩ = wr.cell? ⟨bq, jq, none⟩) ∧ (∀ bq jq, bq < wr.heap.size → w'.frozen? ⟨bq, jq, none⟩ = wr.frozen? ⟨bq, jq, none⟩) ∧ wr.heap.size ≤ w'.heap.size ∧ Below wr.heap.size wr w') ((with_reducible first | exact SB.init | exact SB.init0 | exact SB.below (by assumption) (by assumption) | assumption))
          (first
            | (go_at_call 95; refine (HSM.out _ (SB.bel (by assumption))).mono ?_; rintro e22 v22 ⟨rfl, hv22⟩; have hl22 := SB.le hv22 (by assumption); obtain ⟨hc22, hz22, hs22⟩ := wfacts hv22)
            | fail "no arm")
        all_goals
          go_wp2_with fail
          go_meet
          exact ⟨by simp, SB.bel (by assumption)⟩
      case rest =>
        obtain ⟨rfl, hb2⟩ := hcut
        have hb3 := bext hb hb2
        clear cp1 cq1
        cases V with
        | true =>
          go_wp2
          go_roundw
          case rel => exact ⟨k + 1, by omega, by go_num, hb3, hup.out (of_decide_eq_true HV.out)⟩
          case measure => simp [intOf]; omega
        | false =>
          have HF : Hid (Q = false) := by show _ = _; rw [← HQ.out]; exact hno.out (of_decide_eq_false HV.out)
          go_wp2
          go_ret
          exact ⟨by rw [HF.out]; rfl, hb3⟩
    · have HF : Hid (Q = true) := by show _ = _; rw [← HQ.out]; exact pre_end hpre.out HLEN.out hlt
      go_wp2
      go_ret
      exact ⟨by rw [HF.out]; rfl, hb⟩
theorem same26_any (B D : Option Addr) (Rs Ts : List Rm) (nr nt c d : Nat) (n m : Int) (w : World) (hnr : Rs.length = nr) (hnt : Ts.length = nt) (hB : RunsAt w B Rs) (hD : RunsAt w D Ts) (hl : Rs.length ≤ 1000000) (hrs : ∀ r ∈ Rs, r.l.length ≤ 1000000) (hts : ∀ r ∈ Ts, r.l.length ≤ 1000000) :
    Calls Tryd.prog 24 #[.agg #[.slice B nr c, .int .u64 n], .agg #[.slice D nt d, .int .u64 m]] w fun r w' => r = .returned (.bool (decide (n = m) && decide (lvs Rs = lvs Ts))) ∧ Below w.heap.size w w' := by
  have hb0 : Below w.heap.size w ((w.alloc (.cells #[.slice B nr c, .int .u64 n] 25)).alloc (.cells #[.slice D nt d, .int .u64 m] 25)) := ((Below.refl _ _).alloc (Nat.le_refl _) _).alloc (by simp) _
  have hsa := fun W (hW : Below w.heap.size w W) => sameAllB_any B D Rs Ts c d W (hB.below hW) (hD.below hW) hl hrs hts
  rw [hnr, hnt] at hsa
  obtain ⟨Q, hQ⟩ : ∃ Q, decide (lvs Rs = lvs Ts) = Q := ⟨_, rfl⟩
  rw [hQ] at hsa ⊢
  have HSA := Lib.hid hsa
  clear hsa hB hD hrs hts hQ
  by_cases hnm : n = m
  · subst hnm
    rw [decide_eq_true rfl, Bool.true_and]
    go_enter Tryd.func24, Tryd.ntmps24
    go_wp2_with fail
    refine (HSA.out _ hb0).mono ?_
    rintro e w1 ⟨rfl, hb1⟩
    go_wp2
    go_ret
    exact ⟨rfl, bext hb0 hb1⟩
  · have g1 : (n == m) = false := by simpa using hnm
    rw [decide_eq_false hnm, Bool.false_and]
    clear hnm
    go_enter Tryd.func24, Tryd.ntmps24
    go_wp2_with fail
    go_ret
    exact ⟨rfl, hb0⟩
end Go.Proofs.YthdcllnmnmemdaaDoor

/- The law RungsTells: for every two levels and key it returns true; its arguments stay as they were. -/
namespace Go.Proofs.YthdcllnmnmemdaaDoor
open Go Go.RowKit
set_option maxRecDepth 100000
theorem ls_of {Rs : List Rm} {L : Lv} {T : Nat} (h : lvs Rs = L) (h1 : L.length + tot L ≤ T) (h3 : T ≤ 1000000 := by omega) : Rs.length ≤ 1000000 ∧ ∀ r ∈ Rs, r.l.length ≤ 1000000 := by
  refine ⟨by rw [rs_len h]; omega, fun r hr => ?_⟩
  have h5 := le_sum (List.mem_map.2 ⟨r.l, List.mem_map.2 ⟨r, hr, rfl⟩, rfl⟩ : r.l.length ∈ ((lvs Rs).map List.length))
  rw [h] at h5
  unfold tot at h1
  omega
set_option maxHeartbeats 16000000 in
theorem rungsTells_any (B D : Option Addr) (Rs Ts : List Rm) (c d : Nat) (n m : Int) (key : Int) (w : World) (hB : RunsAt w B Rs) (hD : RunsAt w D Ts) (hTb : TabAt 1 Lib.deBruijn64tab w) :
    Calls Tryd.prog 4 #[.agg #[.slice B Rs.length c, .int .u64 n], .agg #[.slice D Ts.length d, .int .u64 m], .int .i64 key] w fun r w' => r = .returned (.bool true) ∧ Below w.heap.size w w' := by
  have HB0 := Lib.hid hB
  have HD0 := Lib.hid hD
  have HT0 := Lib.hid hTb
  clear hB hD hTb
  go_enter Tryd.func4, Tryd.ntmps4
  have HF := Lib.hid (Below.refl w.heap.size w)
  have HY1 := Lib.hid (HB0.out)
  have HY2 := Lib.hid (HD0.out)
  have HY3 := Lib.hid (HT0.out)
  go_upto_region 1 with fail
  obtain ⟨U4, h5⟩ : ∃ U, (w.alloc (.cells #[.slice B Rs.length c, .int .u64 n] 25)).alloc (.cells #[.slice D Ts.length d, .int .u64 m] 25) = U := ⟨_, rfl⟩
  have ba6 : Below w.heap.size w U4 := by rw [← h5]; exact ((Below.refl _ _).alloc (by first | (simp; done) | (simp; omega)) _).alloc (by first | (simp; done) | (simp; omega)) _
  have bn7 : Blk U4 (w.heap.size) 25 #[.slice B Rs.length c, .int .u64 n] := by
    rw [← h5]
    have hq := (Blk.new w 25 #[.slice B Rs.length c, .int .u64 n])
    exact (hq.alloc _)
  have bn8 : Blk U4 (w.heap.size + 1) 25 #[.slice D Ts.length d, .int .u64 m] := by
    rw [← h5]
    have hq := (Blk.new (w.alloc (.cells #[.slice B Rs.length c, .int .u64 n] 25)) 25 #[.slice D Ts.length d, .int .u64 m])
    simp only [World.size_alloc] at hq
    exact hq
  try rw [h5]
  have HF9 := Lib.hid (bext HF.out ba6)
  have HY10 := Lib.hid (RunsAt.below HY1.out ba6)
  have HY11 := Lib.hid (RunsAt.below HY2.out ba6)
  have HY12 := Lib.hid (tab_below' HY3.out ba6)
  clear HF HY1 HY2 HY3
  obtain ⟨g13, h14⟩ : ∃ g, (w.heap.size + 1) = g := ⟨_, rfl⟩
  rw [h14] at bn8
  try rw [h14]
  have HX15 := Lib.hid bn8
  clear bn8 h14
  obtain ⟨g16, h17⟩ : ∃ g, (w.heap.size) = g := ⟨_, rfl⟩
  rw [h17] at bn7
  try rw [h17]
  have HX18 := Lib.hid bn7
  clear bn7 h17
  clear h5 ba6
  have c19 : U4.cell? ⟨g16, 0, none⟩ = some (.slice B Rs.length c) := HX18.out.cell 0
  have c20 : U4.cell? ⟨g16, 1, none⟩ = some (.int .u64 n) := HX18.out.cell 1
  have l21 : g16 < U4.heap.size := HX18.out.lt
  go_wp2_with fail
  clear c19 c20 l21
  refine (great26_any B Rs c 300 n _ HY10.out (by omega)).mono ?_
  rintro e w22 ⟨G, rfl, hG, hb23⟩
  have HF24 := Lib.hid (bext HF9.out hb23)
  have HX25 := Lib.hid (HX15.out.below hb23 HX15.out.lt)
  have HX26 := Lib.hid (HX18.out.below hb23 HX18.out.lt)
  have HY27 := Lib.hid (RunsAt.below HY10.out hb23)
  have HY28 := Lib.hid (RunsAt.below HY11.out hb23)
  have HY29 := Lib.hid (tab_below' HY12.out hb23)
  clear HF9 HX15 HX18 HY10 HY11 HY12
  clear hb23
  cases G with
  | true =>
    clear hG
    go_wp2
    go_ret
    exact ⟨rfl, HF24.out⟩
  | false =>
  have hG2 := hG rfl
  clear hG
  have c30 : w22.cell? ⟨g13, 0, none⟩ = some (.slice D Ts.length d) := HX25.out.cell 0
  have c31 : w22.cell? ⟨g13, 1, none⟩ = some (.int .u64 m) := HX25.out.cell 1
  have l32 : g13 < w22.heap.size := HX25.out.lt
  go_wp2_with fail
  clear c30 c31 l32
  refine (great26_any D Ts d 300 m _ HY28.out (by omega)).mono ?_
  rintro e w33 ⟨G, rfl, hG, hb34⟩
  have HF35 := Lib.hid (bext HF24.out hb34)
  have HX36 := Lib.hid (HX25.out.below hb34 HX25.out.lt)
  have HX37 := Lib.hid (HX26.out.below hb34 HX26.out.lt)
  have HY38 := Lib.hid (RunsAt.below HY27.out hb34)
  have HY39 := Lib.hid (RunsAt.below HY28.out hb34)
  have HY40 := Lib.hid (tab_below' HY29.out hb34)
  clear HF24 HX25 HX26 HY27 HY28 HY29
  clear hb34
  cases G with
  | true =>
    clear hG
    go_wp2
    go_ret
    exact ⟨rfl, HF35.out⟩
  | false =>
  have hG3 := hG rfl
  clear hG
  have hT3 : tot (lvs Rs) ≤ 300 := by omega
  have hR3 : Rs.length ≤ 300 := by omega
  have HSR := Lib.hid (ls_of (Rs := Rs) (T := 300) rfl (by rw [lvs_len]; omega))
  have HST := Lib.hid (ls_of (Rs := Ts) (T := 300) rfl (by rw [lvs_len]; omega))
  clear hG2 hG3
  obtain ⟨L, hL⟩ : ∃ L, lvs Rs = L := ⟨_, rfl⟩
  obtain ⟨E, hE⟩ : ∃ x, chkR L = x := ⟨_, rfl⟩
  obtain ⟨P, hP⟩ : ∃ x, prR L = x := ⟨_, rfl⟩
  obtain ⟨V, hV⟩ : ∃ V : Int, (if chkR L = 0 then (tot L : Int) else 0) = V := ⟨_, rfl⟩
  obtain ⟨x1, hx1⟩ : ∃ x, gxR L key = x := ⟨_, rfl⟩
  obtain ⟨e1, he1⟩ : ∃ x, geR L key = x := ⟨_, rfl⟩
  obtain ⟨Q, hQ⟩ : ∃ x, (decide (n = m) && decide (L = lvs Ts)) = x := ⟨_, rfl⟩
  have HPL := Lib.hid (show P.length ≤ 300 from by
    rw [← hP]
    by_cases h : chkR L = 0
    · rw [prR_len h]; rw [← hL] at h ⊢; exact Nat.le_trans allL_le hT3
    · rw [prR_bad h]; simp)
  have hT4 : tot L ≤ 300 := by rw [← hL]; exact hT3
  have HCON := Lib.hid (show ∀ (A : Option Addr) (Qs : List Rm) (a : Nat) (W : World), lvs Qs = L → RunsAt W A Qs →
      Calls Tryd.prog 17 #[.agg #[.slice A Rs.length a, .int .u64 n]] W (GivesPrs P E W) ∧
      Calls Tryd.prog 19 #[.agg #[.slice A Rs.length a, .int .u64 n]] W (fun r w' => r = .returned (.tuple #[.int .i64 V, .int .i64 (P.length : Nat), .int .i64 E]) ∧ Below W.heap.size W w') ∧
      (TabAt 1 Lib.deBruijn64tab W → Calls Tryd.prog 13 #[.agg #[.slice A Rs.length a, .int .u64 n], .int .i64 key] W (GivesX x1 e1 W)) ∧
      Calls Tryd.prog 14 #[.agg #[.slice A Rs.length a, .int .u64 n]] W (fun r w' => r = .returned (.int .i64 E) ∧ Below W.heap.size W w') ∧
      (∀ Z, RunsAt Z D Ts → RunsAt Z A Qs → Calls Tryd.prog 23 #[.agg #[.slice A Rs.length a, .int .u64 n], .agg #[.slice D Ts.length d, .int .u64 m]] Z (fun r w' => r = .returned (.bool Q) ∧ Below Z.heap.size Z w')) ∧
      (∀ Z, RunsAt Z B Rs → RunsAt Z A Qs → Calls Tryd.prog 23 #[.agg #[.slice A Rs.length a, .int .u64 n], .agg #[.slice B Rs.length c, .int .u64 n]] Z (fun r w' => r = .returned (.bool true) ∧ Below Z.heap.size Z w')) from by
    intro A Qs a W hq hW
    have hn : Qs.length = Rs.length := by rw [rs_len hq, ← hL, lvs_len]
    have hs := ls_of (Rs := Qs) (T := 600) hq (by rw [← hL, lvs_len, hL]; omega)
    have k1 := pairsR_any A Qs a n W hW (by rw [hq]; omega) hs.1
    have k2 := countR_any A Qs a n W hW (by rw [hq]; omega) hs.1
    have k3 := fun h => getR_any A Qs a n key W hW (by rw [hq]; omega) hs.1 h
    have k4 := checkR_any A Qs a n W hW (by rw [hq]; omega) hs.1
    have k5 := fun Z (hz : RunsAt Z D Ts) (hz2 : RunsAt Z A Qs) => sameR_any A D Qs Ts Rs.length Ts.length a d n m Z hn rfl hz2 hz hs.1 hs.2 HST.out.2
    have k6 := fun Z (hz : RunsAt Z B Rs) (hz2 : RunsAt Z A Qs) => sameR_any A B Qs Rs Rs.length Rs.length a c n n Z hn rfl hz2 hz hs.1 hs.2 HSR.out.2
    rw [hq, hn, hP, hE] at k1
    rw [hq, hn, hV, hP, hE] at k2
    rw [hq, hn, hx1, he1] at k3
    rw [hq, hn, hE] at k4
    rw [hq, hQ] at k5
    rw [hq, hL, decide_eq_true rfl, decide_eq_true rfl] at k6
    exact ⟨k1, k2, k3, k4, k5, k6⟩)
  have HREF := Lib.hid (show ∀ W, RunsAt W B Rs →
      Calls Tryd.prog 18 #[.agg #[.slice B Rs.length c, .int .u64 n]] W (GivesPrs P E W) ∧
      Calls Tryd.prog 20 #[.agg #[.slice B Rs.length c, .int .u64 n]] W (fun r w' => r = .returned (.tuple #[.int .i64 V, .int .i64 (P.length : Nat), .int .i64 E]) ∧ Below W.heap.size W w') ∧
      Calls Tryd.prog 21 #[.agg #[.slice B Rs.length c, .int .u64 n], .int .i64 key] W (GivesX x1 e1 W) ∧
      Calls Tryd.prog 22 #[.agg #[.slice B Rs.length c, .int .u64 n]] W (fun r w' => r = .returned (.int .i64 E) ∧ Below W.heap.size W w') ∧
      (∀ Z, RunsAt Z D Ts → RunsAt Z B Rs → Calls Tryd.prog 24 #[.agg #[.slice B Rs.length c, .int .u64 n], .agg #[.slice D Ts.length d, .int .u64 m]] Z (fun r w' => r = .returned (.bool Q) ∧ Below Z.heap.size Z w')) from by
    intro W hW
    have k1 := pairs26_any B Rs c n W hW (by omega) HSR.out.1
    have k2 := count26_any B Rs c n W hW (by omega) HSR.out.1 V (by show _ = _; rw [hL]; exact hV)
    have k3 := get26_any B Rs c n key W hW (by omega) HSR.out.1
    have k4 := check26_any B Rs c n W hW (by omega) HSR.out.1
    have k5 := fun Z (hz : RunsAt Z D Ts) (hz2 : RunsAt Z B Rs) => same26_any B D Rs Ts Rs.length Ts.length c d n m Z rfl rfl hz2 hz HSR.out.1 HSR.out.2 HST.out.2
    rw [hL, hP, hE] at k1
    rw [hL, hP, hE] at k2
    rw [hL, hx1, he1] at k3
    rw [hL, hE] at k4
    rw [hL, hQ] at k5
    exact ⟨k1, k2, k3, k4, k5⟩)
  have HL := Lib.hid hL
  clear hL hE hP hV hx1 he1 hQ hT3 hT4
  have c41 : w33.cell? ⟨g16, 0, none⟩ = some (.slice B Rs.length c) := HX37.out.cell 0
  have c42 : w33.cell? ⟨g16, 1, none⟩ = some (.int .u64 n) := HX37.out.cell 1
  have l43 : g16 < w33.heap.size := HX37.out.lt
  go_wp2_with fail
  clear c41 c42 l43
  refine (twin26_any B Rs c n _ HY38.out HSR.out.1 HSR.out.2).mono ?_
  rintro e w44 ⟨B2, c2, R2, rfl, hl2, ho2, hb45⟩
  have HL2 := Lib.hid (hl2.trans HL.out)
  have hn2 : R2.length = Rs.length := by rw [rs_len hl2, lvs_len]
  rw [hn2]
  have HN2 := Lib.hid hn2
  have HS2 := Lib.hid (show R2.length ≤ 1000000 ∧ ∀ r ∈ R2, r.l.length ≤ 1000000 by
    refine ⟨by omega, fun r hr => ?_⟩
    obtain ⟨q, hq, hq2⟩ := List.mem_map.1 (show r.l ∈ lvs Rs by rw [← hl2]; exact List.mem_map.2 ⟨r, hr, rfl⟩)
    have := HSR.out.2 q hq
    rw [hq2] at this
    exact this)
  have HO2 := Lib.hid ho2.runsAt
  clear hl2 ho2 hn2
  have HF46 := Lib.hid (bext HF35.out hb45)
  have HX47 := Lib.hid (HX36.out.below hb45 HX36.out.lt)
  have HX48 := Lib.hid (HX37.out.below hb45 HX37.out.lt)
  have HY49 := Lib.hid (RunsAt.below HY38.out hb45)
  have HY50 := Lib.hid (RunsAt.below HY39.out hb45)
  have HY51 := Lib.hid (tab_below' HY40.out hb45)
  clear HF35 HX36 HX37 HY38 HY39 HY40
  clear hb45
  have HY52 := Lib.hid (HO2.out)
  go_upto_region 4 with fail
  obtain ⟨U53, h55⟩ : ∃ U, w44.alloc (.cells #[.slice B2 Rs.length c2, .int .u64 n] 25) = U := ⟨_, rfl⟩
  have ba56 : Below w44.heap.size w44 U53 := by rw [← h55]; exact (Below.refl _ _).alloc (Nat.le_refl _) _
  have bn57 : Blk U53 w44.heap.size 25 #[.slice B2 Rs.length c2, .int .u64 n] := by rw [← h55]; exact Blk.new _ _ _
  try rw [h55]
  have HF58 := Lib.hid (bext HF46.out ba56)
  have HX59 := Lib.hid (HX47.out.below ba56 HX47.out.lt)
  have HX60 := Lib.hid (HX48.out.below ba56 HX48.out.lt)
  have HY61 := Lib.hid (RunsAt.below HY49.out ba56)
  have HY62 := Lib.hid (RunsAt.below HY50.out ba56)
  have HY63 := Lib.hid (tab_below' HY51.out ba56)
  have HY64 := Lib.hid (RunsAt.below HY52.out ba56)
  clear HF46 HX47 HX48 HY49 HY50 HY51 HY52
  obtain ⟨g54, h65⟩ : ∃ g, w44.heap.size = g := ⟨_, rfl⟩
  rw [h65] at bn57
  try rw [h65]
  have HX66 := Lib.hid bn57
  clear h55 ba56 bn57 h65
  have KX := HX60
  have KO := HX66
  have KB := HY61
  have KR := HY64
  have KF := HF58
  have HF0 := Lib.hid (Below.refl U53.heap.size U53)
  have htw := twinR_any B2 R2 c2 n U53 HY64.out HS2.out.1 HS2.out.2
  rw [HN2.out, HL2.out] at htw
  have HTW := Lib.hid htw
  clear htw
  have HY67 := Lib.hid (HF0.out)
  have c68 : U53.cell? ⟨g54, 0, none⟩ = some (.slice B2 Rs.length c2) := HX66.out.cell 0
  have c69 : U53.cell? ⟨g54, 1, none⟩ = some (.int .u64 n) := HX66.out.cell 1
  have l70 : g54 < U53.heap.size := HX66.out.lt
  go_wp2_with fail
  clear c68 c69 l70
  refine (HTW.out).mono ?_
  rintro e w71 ⟨B3, c3, R3, rfl, hl3, ho3, hb72⟩
  have HL3 := Lib.hid hl3
  have hn3 : R3.length = Rs.length := by rw [rs_len hl3, ← HL.out, lvs_len]
  rw [hn3]
  have HN3 := Lib.hid hn3
  have HS3 := Lib.hid (show R3.length ≤ 1000000 ∧ ∀ r ∈ R3, r.l.length ≤ 1000000 by
    refine ⟨by omega, fun r hr => ?_⟩
    obtain ⟨q, hq, hq2⟩ := List.mem_map.1 (show r.l ∈ lvs Rs by rw [HL.out, ← hl3]; exact List.mem_map.2 ⟨r, hr, rfl⟩)
    have := HSR.out.2 q hq
    rw [hq2] at this
    exact this)
  have KO3 := Lib.hid ho3
  clear hl3 ho3 hn3
  have HF73 := Lib.hid (bext HF58.out hb72)
  have HX74 := Lib.hid (HX59.out.below hb72 HX59.out.lt)
  have HX75 := Lib.hid (HX60.out.below hb72 HX60.out.lt)
  have HX76 := Lib.hid (HX66.out.below hb72 HX66.out.lt)
  have HY77 := Lib.hid (RunsAt.below HY61.out hb72)
  have HY78 := Lib.hid (RunsAt.below HY62.out hb72)
  have HY79 := Lib.hid (tab_below' HY63.out hb72)
  have HY80 := Lib.hid (RunsAt.below HY64.out hb72)
  have HY81 := Lib.hid (bext HY67.out hb72)
  clear HF58 HX59 HX60 HX66 HY61 HY62 HY63 HY64 HY67
  clear hb72
  have HY82 := Lib.hid (KO3.out)
  have HY83 := Lib.hid ((Below.refl w71.heap.size w71))
  go_upto_region 5 with fail
  obtain ⟨U84, h86⟩ : ∃ U, w71.alloc (.cells #[.slice B3 Rs.length c3, .int .u64 n] 25) = U := ⟨_, rfl⟩
  have ba87 : Below w71.heap.size w71 U84 := by rw [← h86]; exact (Below.refl _ _).alloc (Nat.le_refl _) _
  have bn88 : Blk U84 w71.heap.size 25 #[.slice B3 Rs.length c3, .int .u64 n] := by rw [← h86]; exact Blk.new _ _ _
  try rw [h86]
  have HF89 := Lib.hid (bext HF73.out ba87)
  have HX90 := Lib.hid (HX74.out.below ba87 HX74.out.lt)
  have HX91 := Lib.hid (HX75.out.below ba87 HX75.out.lt)
  have HX92 := Lib.hid (HX76.out.below ba87 HX76.out.lt)
  have HY93 := Lib.hid (RunsAt.below HY77.out ba87)
  have HY94 := Lib.hid (RunsAt.below HY78.out ba87)
  have HY95 := Lib.hid (tab_below' HY79.out ba87)
  have HY96 := Lib.hid (RunsAt.below HY80.out ba87)
  have HY97 := Lib.hid (bext HY81.out ba87)
  have HY98 := Lib.hid (HY82.out.below ba87)
  have HY99 := Lib.hid (bext HY83.out ba87)
  clear HF73 HX74 HX75 HX76 HY77 HY78 HY79 HY80 HY81 HY82 HY83
  obtain ⟨g85, h100⟩ : ∃ g, w71.heap.size = g := ⟨_, rfl⟩
  rw [h100] at bn88
  try rw [h100]
  have HX101 := Lib.hid bn88
  clear h86 ba87 bn88 h100
  have HC2 := Lib.hid (fun W (hW : RunsAt W B2 R2) => HCON.out B2 R2 c2 W HL2.out hW)
  clear HCON HTW
  have hsz5 := HY99.out.size
  have c102 : U84.cell? ⟨g54, 0, none⟩ = some (.slice B2 Rs.length c2) := HX92.out.cell 0
  have c103 : U84.cell? ⟨g54, 1, none⟩ = some (.int .u64 n) := HX92.out.cell 1
  have l104 : g54 < U84.heap.size := HX92.out.lt
  go_wp2_with fail
  clear c102 c103 l104
  refine ((HC2.out _ HY96.out).1).mono ?_
  rintro e w105 ⟨A5, a5, rfl, ho5, hb106⟩
  have HF107 := Lib.hid (bext HF89.out hb106)
  have HX108 := Lib.hid (HX90.out.below hb106 HX90.out.lt)
  have HX109 := Lib.hid (HX91.out.below hb106 HX91.out.lt)
  have HX110 := Lib.hid (HX92.out.below hb106 HX92.out.lt)
  have HX111 := Lib.hid (HX101.out.below hb106 HX101.out.lt)
  have HY112 := Lib.hid (RunsAt.below HY93.out hb106)
  have HY113 := Lib.hid (RunsAt.below HY94.out hb106)
  have HY114 := Lib.hid (tab_below' HY95.out hb106)
  have HY115 := Lib.hid (RunsAt.below HY96.out hb106)
  have HY116 := Lib.hid (bext HY97.out hb106)
  have HY117 := Lib.hid (HY98.out.below hb106)
  have HY118 := Lib.hid (bext HY99.out hb106)
  clear HF89 HX90 HX91 HX92 HX101 HY93 HY94 HY95 HY96 HY97 HY98 HY99
  clear hb106
  have HY119 := Lib.hid (ho5)
  have HZ5 := Lib.hid hsz5
  clear ho5 hsz5
  have hsz6 := HY118.out.size
  have c120 : w105.cell? ⟨g16, 0, none⟩ = some (.slice B Rs.length c) := HX109.out.cell 0
  have c121 : w105.cell? ⟨g16, 1, none⟩ = some (.int .u64 n) := HX109.out.cell 1
  have l122 : g16 < w105.heap.size := HX109.out.lt
  go_wp2_with fail
  clear c120 c121 l122
  refine ((HREF.out _ HY112.out).1).mono ?_
  rintro e w123 ⟨A6, a6, rfl, ho6, hb124⟩
  have HF125 := Lib.hid (bext HF107.out hb124)
  have HX126 := Lib.hid (HX108.out.below hb124 HX108.out.lt)
  have HX127 := Lib.hid (HX109.out.below hb124 HX109.out.lt)
  have HX128 := Lib.hid (HX110.out.below hb124 HX110.out.lt)
  have HX129 := Lib.hid (HX111.out.below hb124 HX111.out.lt)
  have HY130 := Lib.hid (RunsAt.below HY112.out hb124)
  have HY131 := Lib.hid (RunsAt.below HY113.out hb124)
  have HY132 := Lib.hid (tab_below' HY114.out hb124)
  have HY133 := Lib.hid (RunsAt.below HY115.out hb124)
  have HY134 := Lib.hid (bext HY116.out hb124)
  have HY135 := Lib.hid (HY117.out.below hb124)
  have HY136 := Lib.hid (bext HY118.out hb124)
  have HY137 := Lib.hid (own_below HY119.out hb124)
  clear HF107 HX108 HX109 HX110 HX111 HY112 HY113 HY114 HY115 HY116 HY117 HY118 HY119
  clear hb124
  have HY138 := Lib.hid (ho6)
  have HZ6 := Lib.hid hsz6
  clear ho6 hsz6
  have c139 : w123.cell? ⟨g54, 0, none⟩ = some (.slice B2 Rs.length c2) := HX128.out.cell 0
  have c140 : w123.cell? ⟨g54, 1, none⟩ = some (.int .u64 n) := HX128.out.cell 1
  have l141 : g54 < w123.heap.size := HX128.out.lt
  go_wp2_with fail
  clear c139 c140 l141
  refine ((HC2.out _ HY133.out).2.1).mono ?_
  rintro e w142 ⟨rfl, hb143⟩
  have HF144 := Lib.hid (bext HF125.out hb143)
  have HX145 := Lib.hid (HX126.out.below hb143 HX126.out.lt)
  have HX146 := Lib.hid (HX127.out.below hb143 HX127.out.lt)
  have HX147 := Lib.hid (HX128.out.below hb143 HX128.out.lt)
  have HX148 := Lib.hid (HX129.out.below hb143 HX129.out.lt)
  have HY149 := Lib.hid (RunsAt.below HY130.out hb143)
  have HY150 := Lib.hid (RunsAt.below HY131.out hb143)
  have HY151 := Lib.hid (tab_below' HY132.out hb143)
  have HY152 := Lib.hid (RunsAt.below HY133.out hb143)
  have HY153 := Lib.hid (bext HY134.out hb143)
  have HY154 := Lib.hid (HY135.out.below hb143)
  have HY155 := Lib.hid (bext HY136.out hb143)
  have HY156 := Lib.hid (own_below HY137.out hb143)
  have HY157 := Lib.hid (own_below HY138.out hb143)
  clear HF125 HX126 HX127 HX128 HX129 HY130 HY131 HY132 HY133 HY134 HY135 HY136 HY137 HY138
  clear hb143
  have c158 : w142.cell? ⟨g16, 0, none⟩ = some (.slice B Rs.length c) := HX146.out.cell 0
  have c159 : w142.cell? ⟨g16, 1, none⟩ = some (.int .u64 n) := HX146.out.cell 1
  have l160 : g16 < w142.heap.size := HX146.out.lt
  go_wp2_with fail
  clear c158 c159 l160
  refine ((HREF.out _ HY149.out).2.1).mono ?_
  rintro e w161 ⟨rfl, hb162⟩
  have HF163 := Lib.hid (bext HF144.out hb162)
  have HX164 := Lib.hid (HX145.out.below hb162 HX145.out.lt)
  have HX165 := Lib.hid (HX146.out.below hb162 HX146.out.lt)
  have HX166 := Lib.hid (HX147.out.below hb162 HX147.out.lt)
  have HX167 := Lib.hid (HX148.out.below hb162 HX148.out.lt)
  have HY168 := Lib.hid (RunsAt.below HY149.out hb162)
  have HY169 := Lib.hid (RunsAt.below HY150.out hb162)
  have HY170 := Lib.hid (tab_below' HY151.out hb162)
  have HY171 := Lib.hid (RunsAt.below HY152.out hb162)
  have HY172 := Lib.hid (bext HY153.out hb162)
  have HY173 := Lib.hid (HY154.out.below hb162)
  have HY174 := Lib.hid (bext HY155.out hb162)
  have HY175 := Lib.hid (own_below HY156.out hb162)
  have HY176 := Lib.hid (own_below HY157.out hb162)
  clear HF144 HX145 HX146 HX147 HX148 HY149 HY150 HY151 HY152 HY153 HY154 HY155 HY156 HY157
  clear hb162
  have c177 : w161.cell? ⟨g54, 0, none⟩ = some (.slice B2 Rs.length c2) := HX166.out.cell 0
  have c178 : w161.cell? ⟨g54, 1, none⟩ = some (.int .u64 n) := HX166.out.cell 1
  have l179 : g54 < w161.heap.size := HX166.out.lt
  go_wp2_with fail
  clear c177 c178 l179
  refine ((HC2.out _ HY171.out).2.2.1 HY170.out).mono ?_
  rintro e w180 ⟨rfl, hb181⟩
  have HF182 := Lib.hid (bext HF163.out hb181)
  have HX183 := Lib.hid (HX164.out.below hb181 HX164.out.lt)
  have HX184 := Lib.hid (HX165.out.below hb181 HX165.out.lt)
  have HX185 := Lib.hid (HX166.out.below hb181 HX166.out.lt)
  have HX186 := Lib.hid (HX167.out.below hb181 HX167.out.lt)
  have HY187 := Lib.hid (RunsAt.below HY168.out hb181)
  have HY188 := Lib.hid (RunsAt.below HY169.out hb181)
  have HY189 := Lib.hid (tab_below' HY170.out hb181)
  have HY190 := Lib.hid (RunsAt.below HY171.out hb181)
  have HY191 := Lib.hid (bext HY172.out hb181)
  have HY192 := Lib.hid (HY173.out.below hb181)
  have HY193 := Lib.hid (bext HY174.out hb181)
  have HY194 := Lib.hid (own_below HY175.out hb181)
  have HY195 := Lib.hid (own_below HY176.out hb181)
  clear HF163 HX164 HX165 HX166 HX167 HY168 HY169 HY170 HY171 HY172 HY173 HY174 HY175 HY176
  clear hb181
  have hzy := HY193.out.size
  go_upto_region 10 with fail
  obtain ⟨U196, h198⟩ : ∃ U, w180.alloc (.cells #[.int .i64 x1.key, .int .i64 x1.val, .bool x1.dead] 27) = U := ⟨_, rfl⟩
  have ba199 : Below w180.heap.size w180 U196 := by rw [← h198]; exact (Below.refl _ _).alloc (Nat.le_refl _) _
  have bn200 : Blk U196 w180.heap.size 27 #[.int .i64 x1.key, .int .i64 x1.val, .bool x1.dead] := by rw [← h198]; exact Blk.new _ _ _
  try rw [h198]
  have HF201 := Lib.hid (bext HF182.out ba199)
  have HX202 := Lib.hid (HX183.out.below ba199 HX183.out.lt)
  have HX203 := Lib.hid (HX184.out.below ba199 HX184.out.lt)
  have HX204 := Lib.hid (HX185.out.below ba199 HX185.out.lt)
  have HX205 := Lib.hid (HX186.out.below ba199 HX186.out.lt)
  have HY206 := Lib.hid (RunsAt.below HY187.out ba199)
  have HY207 := Lib.hid (RunsAt.below HY188.out ba199)
  have HY208 := Lib.hid (tab_below' HY189.out ba199)
  have HY209 := Lib.hid (RunsAt.below HY190.out ba199)
  have HY210 := Lib.hid (bext HY191.out ba199)
  have HY211 := Lib.hid (HY192.out.below ba199)
  have HY212 := Lib.hid (bext HY193.out ba199)
  have HY213 := Lib.hid (own_below HY194.out ba199)
  have HY214 := Lib.hid (own_below HY195.out ba199)
  clear HF182 HX183 HX184 HX185 HX186 HY187 HY188 HY189 HY190 HY191 HY192 HY193 HY194 HY195
  obtain ⟨g197, h215⟩ : ∃ g, w180.heap.size = g := ⟨_, rfl⟩
  rw [h215] at bn200
  try rw [h215]
  have HX216 := Lib.hid bn200
  have HZY := Lib.hid (show w71.heap.size ≤ g197 by rw [← h215]; exact hzy)
  clear hzy
  clear h198 ba199 bn200 h215
  have c217 : U196.cell? ⟨g16, 0, none⟩ = some (.slice B Rs.length c) := HX203.out.cell 0
  have c218 : U196.cell? ⟨g16, 1, none⟩ = some (.int .u64 n) := HX203.out.cell 1
  have l219 : g16 < U196.heap.size := HX203.out.lt
  go_wp2_with fail
  clear c217 c218 l219
  refine ((HREF.out _ HY206.out).2.2.1).mono ?_
  rintro e w220 ⟨rfl, hb221⟩
  have HF222 := Lib.hid (bext HF201.out hb221)
  have HX223 := Lib.hid (HX202.out.below hb221 HX202.out.lt)
  have HX224 := Lib.hid (HX203.out.below hb221 HX203.out.lt)
  have HX225 := Lib.hid (HX204.out.below hb221 HX204.out.lt)
  have HX226 := Lib.hid (HX205.out.below hb221 HX205.out.lt)
  have HX227 := Lib.hid (HX216.out.below hb221 HX216.out.lt)
  have HY228 := Lib.hid (RunsAt.below HY206.out hb221)
  have HY229 := Lib.hid (RunsAt.below HY207.out hb221)
  have HY230 := Lib.hid (tab_below' HY208.out hb221)
  have HY231 := Lib.hid (RunsAt.below HY209.out hb221)
  have HY232 := Lib.hid (bext HY210.out hb221)
  have HY233 := Lib.hid (HY211.out.below hb221)
  have HY234 := Lib.hid (bext HY212.out hb221)
  have HY235 := Lib.hid (own_below HY213.out hb221)
  have HY236 := Lib.hid (own_below HY214.out hb221)
  clear HF201 HX202 HX203 HX204 HX205 HX216 HY206 HY207 HY208 HY209 HY210 HY211 HY212 HY213 HY214
  clear hb221
  have hzz := HY234.out.size
  go_upto_region 11 with fail
  obtain ⟨U237, h239⟩ : ∃ U, w220.alloc (.cells #[.int .i64 x1.key, .int .i64 x1.val, .bool x1.dead] 27) = U := ⟨_, rfl⟩
  have ba240 : Below w220.heap.size w220 U237 := by rw [← h239]; exact (Below.refl _ _).alloc (Nat.le_refl _) _
  have bn241 : Blk U237 w220.heap.size 27 #[.int .i64 x1.key, .int .i64 x1.val, .bool x1.dead] := by rw [← h239]; exact Blk.new _ _ _
  try rw [h239]
  have HF242 := Lib.hid (bext HF222.out ba240)
  have HX243 := Lib.hid (HX223.out.below ba240 HX223.out.lt)
  have HX244 := Lib.hid (HX224.out.below ba240 HX224.out.lt)
  have HX245 := Lib.hid (HX225.out.below ba240 HX225.out.lt)
  have HX246 := Lib.hid (HX226.out.below ba240 HX226.out.lt)
  have HX247 := Lib.hid (HX227.out.below ba240 HX227.out.lt)
  have HY248 := Lib.hid (RunsAt.below HY228.out ba240)
  have HY249 := Lib.hid (RunsAt.below HY229.out ba240)
  have HY250 := Lib.hid (tab_below' HY230.out ba240)
  have HY251 := Lib.hid (RunsAt.below HY231.out ba240)
  have HY252 := Lib.hid (bext HY232.out ba240)
  have HY253 := Lib.hid (HY233.out.below ba240)
  have HY254 := Lib.hid (bext HY234.out ba240)
  have HY255 := Lib.hid (own_below HY235.out ba240)
  have HY256 := Lib.hid (own_below HY236.out ba240)
  clear HF222 HX223 HX224 HX225 HX226 HX227 HY228 HY229 HY230 HY231 HY232 HY233 HY234 HY235 HY236
  obtain ⟨g238, h257⟩ : ∃ g, w220.heap.size = g := ⟨_, rfl⟩
  rw [h257] at bn241
  try rw [h257]
  have HX258 := Lib.hid bn241
  have HZZ := Lib.hid (show w71.heap.size ≤ g238 by rw [← h257]; exact hzz)
  clear hzz
  clear h239 ba240 bn241 h257
  have c259 : U237.cell? ⟨g16, 0, none⟩ = some (.slice B Rs.length c) := HX244.out.cell 0
  have c260 : U237.cell? ⟨g16, 1, none⟩ = some (.int .u64 n) := HX244.out.cell 1
  have l261 : g16 < U237.heap.size := HX244.out.lt
  have c262 : U237.cell? ⟨g13, 0, none⟩ = some (.slice D Ts.length d) := HX243.out.cell 0
  have c263 : U237.cell? ⟨g13, 1, none⟩ = some (.int .u64 m) := HX243.out.cell 1
  have l264 : g13 < U237.heap.size := HX243.out.lt
  have c265 : U237.cell? ⟨g54, 0, none⟩ = some (.slice B2 Rs.length c2) := HX245.out.cell 0
  have c266 : U237.cell? ⟨g54, 1, none⟩ = some (.int .u64 n) := HX245.out.cell 1
  have l267 : g54 < U237.heap.size := HX245.out.lt
  have c268 : U237.cell? ⟨g85, 0, none⟩ = some (.slice B3 Rs.length c3) := HX246.out.cell 0
  have c269 : U237.cell? ⟨g85, 1, none⟩ = some (.int .u64 n) := HX246.out.cell 1
  have l270 : g85 < U237.heap.size := HX246.out.lt
  have HRB := HY248
  have HRD := HY249
  have HRO := HY251
  have HRT := Lib.hid (HY253.out.runsAt)
  have HQ3 := Lib.hid (fun Z (h1 : RunsAt Z B3 R3) (h2 : RunsAt Z B Rs) => same26_yes B B3 Rs R3 Rs.length Rs.length c c3 n Z rfl HN3.out h2 h1 (HL3.out.trans HL.out.symm) HSR.out.1 HSR.out.2)
  go_upto_region 11 with fail
  go_cut [23] from 68 to 91 (fun v wx => v = .bool true ∧ Below U237.heap.size U237 wx)
  case first =>
    go_region_held3 (fun w' => (∀ bq jq, bq < U237.heap.size → w'.cell? ⟨bq, jq, none⟩ = U237.cell? ⟨bq, jq, none⟩) ∧ (∀ bq jq, bq < U237.heap.size → w'.frozen? ⟨bq, jq, none⟩ = U237.frozen? ⟨bq, jq, none⟩) ∧ U237.heap.size ≤ w'.heap.size ∧ Below U237.heap.size U237 w') ((with_reducible first | exact SB.init | exact SB.below (by assumption) (by assumption) | assumption))
      (first
        | (go_at_call 14; refine ((HC2.out _ (HRO.out.below (SB.bel (by assumption)))).2.2.2.1).mono ?_; rintro e21 v21 ⟨rfl, hv21⟩; have hl21 := SB.le hv21 (by assumption); obtain ⟨hc21, hz21, hs21⟩ := wfacts hv21)
        | (go_at_call 22; refine ((HREF.out _ (HRB.out.below (SB.bel (by assumption)))).2.2.2.1).mono ?_; rintro e22 v22 ⟨rfl, hv22⟩; have hl22 := SB.le hv22 (by assumption); obtain ⟨hc22, hz22, hs22⟩ := wfacts hv22)
        | (have hx := hv23; go_at_call 23; refine ((HC2.out _ (HRO.out.below (SB.bel (by assumption)))).2.2.2.2.2 _ (HRB.out.below (SB.bel (by assumption))) (HRO.out.below (SB.bel (by assumption)))).mono ?_; rintro e25 v25 ⟨rfl, hv25⟩; have hl25 := SB.le hv25 (by assumption); obtain ⟨hc25, hz25, hs25⟩ := wfacts hv25)
        | (go_at_call 23; refine ((HC2.out _ (HRO.out.below (SB.bel (by assumption)))).2.2.2.2.1 _ (HRD.out.below (SB.bel (by assumption))) (HRO.out.below (SB.bel (by assumption)))).mono ?_; rintro e23 v23 ⟨rfl, hv23⟩; have hl23 := SB.le hv23 (by assumption); obtain ⟨hc23, hz23, hs23⟩ := wfacts hv23)
        | (have hx := hv25; go_at_call 24; refine (HQ3.out _ (HRT.out.below (SB.bel (by assumption))) (HRB.out.below (SB.bel (by assumption)))).mono ?_; rintro e26 v26 ⟨rfl, hv26⟩; have hl26 := SB.le hv26 (by assumption); obtain ⟨hc26, hz26, hs26⟩ := wfacts hv26)
        | (go_at_call 24; refine ((HREF.out _ (HRB.out.below (SB.bel (by assumption)))).2.2.2.2 _ (HRD.out.below (SB.bel (by assumption))) (HRB.out.below (SB.bel (by assumption)))).mono ?_; rintro e24 v24 ⟨rfl, hv24⟩; have hl24 := SB.le hv24 (by assumption); obtain ⟨hc24, hz24, hs24⟩ := wfacts hv24)
        | fail "no arm")
    all_goals
      go_wp2_with fail
      go_meet
      exact ⟨by simp, SB.bel (by assumption)⟩
  case rest =>
    obtain ⟨rfl, hbz⟩ := hcut
    clear HRB HRD HRO HRT HQ3 HC2 HREF
    have HF271 := Lib.hid (bext HF242.out hbz)
    have HX272 := Lib.hid (HX243.out.below hbz HX243.out.lt)
    have HX273 := Lib.hid (HX244.out.below hbz HX244.out.lt)
    have HX274 := Lib.hid (HX245.out.below hbz HX245.out.lt)
    have HX275 := Lib.hid (HX246.out.below hbz HX246.out.lt)
    have HX276 := Lib.hid (HX247.out.below hbz HX247.out.lt)
    have HX277 := Lib.hid (HX258.out.below hbz HX258.out.lt)
    have HY278 := Lib.hid (RunsAt.below HY248.out hbz)
    have HY279 := Lib.hid (RunsAt.below HY249.out hbz)
    have HY280 := Lib.hid (tab_below' HY250.out hbz)
    have HY281 := Lib.hid (RunsAt.below HY251.out hbz)
    have HY282 := Lib.hid (bext HY252.out hbz)
    have HY283 := Lib.hid (HY253.out.below hbz)
    have HY284 := Lib.hid (bext HY254.out hbz)
    have HY285 := Lib.hid (own_below HY255.out hbz)
    have HY286 := Lib.hid (own_below HY256.out hbz)
    clear HF242 HX243 HX244 HX245 HX246 HX247 HX258 HY248 HY249 HY250 HY251 HY252 HY253 HY254 HY255 HY256
    clear hbz
    have c287 : wc.cell? ⟨g85, 0, none⟩ = some (.slice B3 Rs.length c3) := HX275.out.cell 0
    have c288 : wc.cell? ⟨g85, 1, none⟩ = some (.int .u64 n) := HX275.out.cell 1
    have l289 : g85 < wc.heap.size := HX275.out.lt
    go_wp2_with fail
    clear c287 c288 l289
    have hsp := spoil26_any B3 R3 c3 U53.heap.size n w71 _ KO3.out HY283.out HY284.out.size HS3.out.1 HS3.out.2
    rw [HN3.out] at hsp
    refine hsp.mono ?_
    clear hsp
    rintro e wz ⟨⟨vz, rfl⟩, hmz⟩
    have HFZ := Lib.hid (HY282.out.trans (hmz.below (B := U53.heap.size) HY282.out.size (fun k hk => hk.1)))
    have HO5 := Lib.hid (own_sl (own_mod HY285.out hmz (fun k hk hs => by have h1 := HZ5.out; omega)))
    have HO6 := Lib.hid (own_sl (own_mod HY286.out hmz (fun k hk hs => by have h1 := HZ6.out; omega)))
    have HYZ := Lib.hid (HX276.out.mod hmz (fun hs => by have h1 := HZY.out; omega))
    have HZZ2 := Lib.hid (HX277.out.mod hmz (fun hs => by have h1 := HZZ.out; omega))
    clear hmz
    go_wp2_with fail
    refine (samePairs_any A5 A6 P P a5 a6 _ HO5.out HO6.out (by have := HPL.out; omega) (by have := HPL.out; omega)).mono ?_
    rw [decide_eq_true rfl]
    rintro e wy ⟨rfl, hby⟩
    have HFY := Lib.hid (HFZ.out.trans (hby.mono HFZ.out.size))
    have by1 := HYZ.out.below hby HYZ.out.lt
    have bz1 := HZZ2.out.below hby HZZ2.out.lt
    have bo1 := KO.out.below HFY.out KO.out.lt
    have bx1 := KX.out.below HFY.out KX.out.lt
    clear hby
    have qy0 : wy.cell? ⟨g197, 0, none⟩ = some (.int .i64 x1.key) := by1.cell 0
    have qz0 : wy.cell? ⟨g238, 0, none⟩ = some (.int .i64 x1.key) := bz1.cell 0
    have qy1 : wy.cell? ⟨g197, 1, none⟩ = some (.int .i64 x1.val) := by1.cell 1
    have qz1 : wy.cell? ⟨g238, 1, none⟩ = some (.int .i64 x1.val) := bz1.cell 1
    have qy2 : wy.cell? ⟨g197, 2, none⟩ = some (.bool x1.dead) := by1.cell 2
    have qz2 : wy.cell? ⟨g238, 2, none⟩ = some (.bool x1.dead) := bz1.cell 2
    have qo0 : wy.cell? ⟨g54, 0, none⟩ = some (.slice B2 Rs.length c2) := bo1.cell 0
    have qo1 : wy.cell? ⟨g54, 1, none⟩ = some (.int .u64 n) := bo1.cell 1
    have qx0 : wy.cell? ⟨g16, 0, none⟩ = some (.slice B Rs.length c) := bx1.cell 0
    have qx1 : wy.cell? ⟨g16, 1, none⟩ = some (.int .u64 n) := bx1.cell 1
    have hxx := fun w => run_eql_ent x1 x1 w
    have hxy := eqX_self x1
    clear by1 bz1 bo1 bx1
    go_wp2_with fail
    refine (same26_yes B B2 Rs R2 Rs.length Rs.length c c2 n _ rfl HN2.out (KB.out.below HFY.out) (KR.out.below HFY.out) (HL2.out.trans HL.out.symm) HSR.out.1 HSR.out.2).mono ?_
    rintro e wx ⟨rfl, hbx⟩
    clear qy0 qy1 qy2 qz0 qz1 qz2 qo0 qo1 qx0 qx1 hxx hxy
    go_wp2_with fail
    go_ret
    refine ⟨?_, bext (bext KF.out HFY.out) hbx⟩
    rfl
end Go.Proofs.YthdcllnmnmemdaaDoor

namespace Go.Proofs.YthdcllnmnmemdaaDoor
open Go Go.ChangeShapes Go.WideShapes Go.ChangeAt Go.RowKit
set_option maxRecDepth 100000

theorem rungsTells_contract (H : Type) (enc : TypeId × Value → H) (W : World) (base : Nat) (args : Array Value) (ds gs : List (DataW H)) (before : List MemPlace)
    (hval0 : ∀ (j : Nat) t v, Tryd.f4.params[j]? = some t → args[j]? = some v → Value.okWide Tryd.prog W .any base t v)
    (hW : DataW.Whole enc Tryd.prog Tryd.f4.params.toList Rows.rungsTellsSpec.vars false W args.toList ds gs before) (hL : laidMetH Tryd.prog Rows.rungsTellsRow.laid W) :
    Calls Tryd.prog 4 args W fun e W' => ∃ v, e = .returned v ∧ Rows.rungsTellsSpec.post enc Tryd.prog Tryd.f4 false true false false W args v W' := by
  have hval : ∀ (j : Nat) t v, Tryd.f4.params[j]? = some t → args[j]? = some v → Value.okWide Tryd.prog W .any base t v := hval0
  have hT := tab_at hL
  have hW' := hW
  obtain ⟨p, q, hA0, hV, rfl, hfz, hnd⟩ := hW
  have hA : DataW.TrodAll enc Tryd.prog W 0 (fun _ => true) true Tryd.f4.params.toList args.toList ds p := hA0
  rw [Tryd.params4] at hA hval
  obtain ⟨v0, v1, v2, d0, d1, d2, p0, p1, p2, rfl, rfl, rfl, h0, h1, h2⟩ := trodAll_three hA
  obtain ⟨rfl, rfl⟩ := trodVars_none hV
  obtain ⟨B, Rs, c, n, rfl, _, _, hs, _, _⟩ := read_rungs (hval 0 25 v0 rfl rfl) h0
  obtain ⟨D, Ts, d, m, rfl, _, _, hs2, _, _⟩ := read_rungs (hval 1 25 v1 rfl rfl) h1
  obtain ⟨key, rfl⟩ := okWide_int Tryd.underlying2 (hval 2 2 v2 rfl rfl)
  refine (rungsTells_any B D Rs Ts c d n m key W hs hs2 hT).mono fun e W' ⟨he, hb⟩ => ?_
  subst he
  exact ⟨_, rfl, law_post (tb := 4) laidOut (by intro t ht; rw [Tryd.params4] at ht; simp at ht; rcases ht with rfl | rfl | rfl <;> exact ⟨by kernel_rfl, of_decide_eq_true (by kernel_rfl)⟩) rfl hW' rfl rfl rfl (by kernel_rfl) Tryd.underlying4 hb⟩

theorem rungsTells_met (os : Os) : laidMet Tryd.prog Rows.rungsTellsRow.laid ((laidWorld os).forCall (fun _ _ => 0) ⟨#[], #[.agg #[.slice none 0 0, .int .u64 0], .agg #[.slice none 0 0, .int .u64 0], .int .i64 0], []⟩).memory :=
  laidMet_of_run' 8 (by kernel_rfl) (by kernel_rfl)
theorem rungsTells_reads (os : Os) {H : Type} (enc : TypeId × Value → H) : ∃ places, DataW.whole enc Tryd.prog ((laidWorld os).forCall (fun _ _ => 0) ⟨#[], #[.agg #[.slice none 0 0, .int .u64 0], .agg #[.slice none 0 0, .int .u64 0], .int .i64 0], []⟩).memory Tryd.f4.params.toList Rows.rungsTellsSpec.vars false (#[.agg #[.slice none 0 0, .int .u64 0], .agg #[.slice none 0 0, .int .u64 0], .int .i64 0] : Array Value).toList 8 = some ([.agg [.nil, .lit (.int .u64 0)], .agg [.nil, .lit (.int .u64 0)], .lit (.int .i64 0)], [], places) :=
  ⟨[], by kernel_rfl⟩
theorem rungsTells_lifted (os : Os) (started : os.Started) (H : Type) (enc : TypeId × Value → H) (F : Stop.Interp) :
    ReturnsInHanded {} Tryd.checked os 4 .any ((OpenSpec.ofChange Rows.rungsTellsSpec).preRow enc Tryd.prog Tryd.f4 Rows.rungsTellsRow.domain false Rows.rungsTellsRow.laid) (((OpenSpec.ofChange Rows.rungsTellsSpec).at F).post enc Tryd.prog Tryd.f4 false true false false) := by
  obtain ⟨places, hx⟩ := rungsTells_reads os enc
  refine returnsInHanded_of_row (C := Tryd.checked) (s := OpenSpec.ofChange Rows.rungsTellsSpec) own started (by kernel_rfl) Tryd.func4
    (witness_row_at (enc := enc) (C := Tryd.checked) false (laidWorld os) #[.agg #[.slice none 0 0, .int .u64 0], .agg #[.slice none 0 0, .int .u64 0], .int .i64 0] rfl (by kernel_rfl) (by kernel_rfl) (by kernel_rfl)
      (OpenSpec.preRow_of_cond 8 hx (by kernel_rfl) (fun k hk => by cases hk) (by kernel_rfl) (rungsTells_met os))) ?_
  intro W base args ds gs before hval hW _ _ _ hL _ _
  exact rungsTells_contract H enc W base args ds gs before hval hW hL
theorem rungsTells_said : Rows.RungsTellsSaid :=
  OpenClaim.holds_of_cond 4 Tryd.f4 rfl rfl rfl rfl rfl rfl rfl ⟨rfl, rfl, rfl, rfl, rfl⟩ rfl rfl rfl rfl rfl (by kernel_rfl) Tryd.func4 (by kernel_rfl)
    (of_decide_eq_true (by kernel_rfl)) (by unfold Func.isWrapper; first | (rw [if_pos (by decide +kernel)]; kernel_rfl) | (rw [if_neg (by decide +kernel)]; exact ⟨rfl, rfl⟩))
    (fun os started H enc _ F => by rw [OpenClaim.pre_eq_preRow]; exact rungsTells_lifted os started H enc F)
theorem rungsTells_plain (f : FuncId) (fn : Func) (hf : Tryd.pinned.checked.prog.funcNamed "shelfmark/shelfmarklaw26.RungsTells" = some f) (hfn : Tryd.pinned.checked.prog.funcs[f]? = some fn) :
    false = Tryd.pinned.checked.prog.looks [] ∧ ∀ (j : Nat) t, fn.params[j]? = some t → Tryd.pinned.checked.prog.wantsStandIn t = false := by
  obtain rfl : f = 4 := Option.some.inj ((show Tryd.prog.funcNamed "shelfmark/shelfmarklaw26.RungsTells" = some 4 by kernel_rfl).symm.trans hf) |>.symm
  obtain rfl : fn = Tryd.f4 := (Option.some.inj (Tryd.func4.symm.trans hfn)).symm
  refine ⟨by kernel_rfl, fun j t ht => ?_⟩
  rw [Tryd.params4] at ht
  have : t = 25 ∨ t = 25 ∨ t = 2 := by
    have := Array.mem_of_getElem? ht
    simpa using this
  rcases this with rfl | rfl | rfl <;> first | exact (show Tryd.prog.wantsStandIn 25 = false by kernel_rfl) | exact (show Tryd.prog.wantsStandIn 25 = false by kernel_rfl) | exact (show Tryd.prog.wantsStandIn 2 = false by kernel_rfl)

/-- the card -/
theorem rungsTells_card : Rows.RungsTellsCardSaid :=
  Claim7.holds_tied_plain_at .later [] _ _ _ _ rungsTells_said (fun _ h => by cases h) (by kernel_rfl) (fun _ h => by cases h) rungsTells_row_tie rfl ⟨rfl, rfl⟩ (by kernel_rfl) rfl rungsTells_plain (by kernel_rfl)
end Go.Proofs.YthdcllnmnmemdaaDoor
