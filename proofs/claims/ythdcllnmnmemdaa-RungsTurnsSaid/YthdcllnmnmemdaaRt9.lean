/- Gt Rr G5 G2 G3 G6 Ga: texts of the claim, in this order. -/
import Derived.Test.YthdcllnmnmemdaaRt7
import Derived.Test.YthdcllnmnmemdaaRt6
import Derived.Test.YthdcllnmnmemdaaRt8
import Derived.IntWalk
import Derived.Maps.OwnSet
import Derived.Maps.Views
import Derived.Maps.AppendAt
/- Contracts: run.Get and Next, kway.Find, and the references'; copies of runs. -/
namespace Go.Proofs.Ythdcllnmnmemdaa
open Go Go.RowKit
set_option maxRecDepth 100000

theorem put3 {w : World} {g : Nat} {t : TypeId} {x0 x1 x2 : Value} (h : Blk w g t #[x0, x1, x2]) (y0 y1 y2 : Value) : Blk (((w.setCell ⟨g, 0, none⟩ y0).setCell ⟨g, 1, none⟩ y1).setCell ⟨g, 2, none⟩ y2) g t #[y0, y1, y2] := by
  have := ((h.set_ 0 y0).set_ 1 y1).set_ 2 y2
  simpa using this
theorem below3 {B : Nat} {a w : World} {g : Nat} (h : Below B a w) (hg : B ≤ g) (y0 y1 y2 : Value) : Below B a (((w.setCell ⟨g, 0, none⟩ y0).setCell ⟨g, 1, none⟩ y1).setCell ⟨g, 2, none⟩ y2) :=
  ((h.setCell (p := ⟨g, 0, none⟩) hg _).setCell (p := ⟨g, 1, none⟩) hg _).setCell (p := ⟨g, 2, none⟩) hg _
/-- hands back an entry and an error -/
def GivesX (x : Ent) (e : Int) (w : World) (r : Ending) (w' : World) : Prop := r = .returned (.tuple #[.agg #[.int .i64 x.key, .int .i64 x.val, .bool x.dead], .int .i64 e]) ∧ Below w.heap.size w w'
/-- hands back an entry, if there is one -/
def GivesO (o : Option Ent) (w : World) (r : Ending) (w' : World) : Prop := r = .returned (.tuple #[.agg #[.int .i64 (o.getD zeroE).key, .int .i64 (o.getD zeroE).val, .bool (o.getD zeroE).dead], .bool o.isSome]) ∧ Below w.heap.size w w'


end Go.Proofs.Ythdcllnmnmemdaa

/- Contracts: run.Pairs, Live, Next, Last, and the references'. -/
namespace Go.Proofs.Ythdcllnmnmemdaa
open Go Go.RowKit
set_option maxRecDepth 100000

/-! ### plain -/
theorem bel_in (l : List Ent) (key : Int) : belK (inL l) key = belK l key := (inL_perm l).countP_eq _
theorem low_is (l : List Ent) (key : Int) : lowK l key = belK l key := lowK_bel l key
def nxE (l : List Ent) (key : Int) : Int := if chkE l = 0 then (if belK l key = l.length then 6 else 0) else chkE l
def nxX (l : List Ent) (key : Int) : Ent := if chkE l = 0 then (inL l).getD (belK l key) zeroE else zeroE
def lsE (l : List Ent) (key : Int) : Int := if chkE l = 0 then (if belK l key = 0 then 6 else 0) else chkE l
def lsX (l : List Ent) (key : Int) : Ent := if chkE l = 0 then (if belK l key = 0 then zeroE else inAt l (belK l key - 1)) else zeroE
def prL (l : List Ent) : List Pr := if chkE l = 0 then plainE (inL l) else []
def lvN (l : List Ent) : Nat := if chkE l = 0 then (liveE l).length else 0
theorem pr_lv (l : List Ent) : (prL l).length = lvN l := by
  unfold prL lvN
  split
  · unfold plainE
    rw [List.length_map]
    exact ((inL_perm l).filter _).length_eq
  · rfl
theorem nx_low (l : List Ent) (key : Int) : nxE l key = lowE l key ∧ (lowE l key = 0 → lowAt l key < l.length ∧ nxX l key = entAt l (lowAt l key)) ∧ (lowE l key ≠ 0 → nxX l key = zeroE) := by
  unfold nxE nxX
  by_cases h : chkE l = 0
  · rw [if_pos h, if_pos h]
    by_cases hk : lowK l key = l.length
    · have h6 := (low_six h hk).1
      rw [low_is] at hk
      rw [if_pos hk, h6]
      refine ⟨rfl, fun hh => by omega, fun _ => ?_⟩
      rw [List.getD_eq_getElem?_getD, List.getElem?_eq_none (by rw [inL_length, hk]; exact Nat.le_refl _)]; rfl
    · have h0 := (low_at h hk).1
      obtain ⟨hlt, h1, h2⟩ := low_inE h hk
      rw [low_is] at hk
      rw [if_neg hk, h0]
      refine ⟨rfl, fun _ => ⟨h2, ?_⟩, fun hh => absurd rfl hh⟩
      rw [h1, ← bel_in, List.getD_eq_getElem?_getD, List.getElem?_eq_getElem hlt]; rfl
  · rw [if_neg h, if_neg h, (low_bad key h).1]
    exact ⟨rfl, fun hh => absurd hh h, fun _ => rfl⟩
/-- hands back pairs of the call's own, and an error -/
def GivesPrs (m : List Pr) (e : Int) (w : World) (r : Ending) (w' : World) : Prop :=
  ∃ A c, r = .returned (.tuple #[.slice A m.length c, .int .i64 e]) ∧ w'.ownsRow w.heap.size 68 2 (.slice A m.length c) m.length (m.flatMap Pr.cells) ∧ Below w.heap.size w w'


set_option maxHeartbeats 1000000 in
theorem all_bad (A : Option Addr) (l : List Ent) (c : Nat) (w : World) (hA : Sl w A (l.flatMap Ent.cells)) (hl : l.length ≤ 4611686018427387903) (hC : ¬ chkE l = 0) :
    Calls Try.prog 83 #[.agg #[.slice A l.length c], .func (.func 84) #[] #[], .func (.func 85) #[] #[]] w (GivesPrs [] (chkE l) w) := by
  obtain ⟨E, hE⟩ : ∃ E, chkE l = E := ⟨_, rfl⟩
  rw [hE] at hC ⊢
  have HE := Lib.hid hE
  have h1 : (E != 0) = true := by simpa using hC
  have HA := Lib.hid hA
  clear hE hC hA
  refine calls_of_in (_F := Fence.wide) ?_
  have hdd : ∀ k : Nat, (Fence.wide.depth.isSome = true → 1 ≤ k) := fun k h => by cases h
  have hwf : ∀ f, Fence.wide.fn f := fun _ => trivial
  have hdp : Fence.wide.depth = none := rfl
  have hro : Fence.wide.round = none := rfl
  obtain ⟨W0, hW0⟩ : ∃ W0, (((w.alloc (.cells #[.slice A l.length c] 49)).alloc (.cells #[.func (.func 84) #[] #[]] 126)).alloc (.cells #[.func (.func 85) #[] #[]] 127)).alloc (.cells #[.slice none 0 0] 28) = W0 := ⟨_, rfl⟩
  have hb0 : Below w.heap.size w W0 := by
    rw [← hW0]; exact ((((Below.refl _ w).alloc (Nat.le_refl _) _).alloc (by simp) _).alloc (by simp; omega) _).alloc (by simp; omega) _
  have k3 : Blk W0 w.heap.size 49 #[.slice A l.length c] := by rw [← hW0]; exact (((Blk.new w _ _).alloc _).alloc _).alloc _
  have k6 : Blk W0 (w.heap.size + 1 + 1 + 1) 28 #[.slice none 0 0] := by
    rw [← hW0]
    have := Blk.new (((w.alloc (.cells #[.slice A l.length c] 49)).alloc (.cells #[.func (.func 84) #[] #[]] 126)).alloc (.cells #[.func (.func 85) #[] #[]] 127)) 28 #[.slice none 0 0]
    rwa [World.size_alloc, World.size_alloc, World.size_alloc] at this
  have c3 : W0.cell? ⟨w.heap.size, 0, none⟩ = some (.slice A l.length c) := k3.cell 0
  refine callsIn_of_wp_marks Try.func83 rfl (hwf _) ?_ hro
  simp only [Try.ntmps83, List.size_toArray, List.length_cons, List.length_nil, Nat.reduceAdd, Nat.reduceSub, Array.replicate_succ, Array.replicate_zero, List.push_toArray, List.append_toArray, List.nil_append, List.cons_append]
  gi_wp2_with fail
  try rw [hW0]
  clear hW0
  (try first | refine ⟨hdp, ?_⟩ | refine ⟨hdd _, ?_⟩)
  refine (callsIn_wide.2 (check_any A l c _ (HA.out.below hb0) hl)).mono ?_
  rw [HE.out]
  rintro e w1 ⟨rfl, hb1⟩
  have hb01 := bext hb0 hb1
  have k61 := k6.below hb1 k6.lt
  have c6 : w1.cell? ⟨w.heap.size + 1 + 1 + 1, 0, none⟩ = some (.slice none 0 0) := k61.cell 0
  have f6 := k61.frozen 0
  have e6 : (w1.setCell ⟨w.heap.size + 1 + 1 + 1, 0, none⟩ (.slice none 0 0)).cell? ⟨w.heap.size + 1 + 1 + 1, 0, none⟩ = some (.slice none 0 0) := (k61.set_ 0 _).cell 0
  clear c3 k3 k6
  gi_wp2_with fail
  refine ⟨.tuple #[.slice none 0 0, .int .i64 E], by simp [results, Try.results83, go_sem, e6], none, 0, rfl, World.ownsRow_nil _ _ _ _, ?_⟩
  exact hb01.setCell (p := ⟨w.heap.size + 1 + 1 + 1, 0, none⟩) (by show w.heap.size ≤ w.heap.size + 1 + 1 + 1; omega) _
set_option maxHeartbeats 1000000 in
theorem pairs_any (A : Option Addr) (l : List Ent) (c : Nat) (w : World) (hA : Sl w A (l.flatMap Ent.cells)) (hl : l.length ≤ 4611686018427387903) :
    Calls Try.prog 63 #[.agg #[.slice A l.length c]] w (GivesPrs (prL l) (chkE l) w) := by
  have hb0 : Below w.heap.size w (w.alloc (.cells #[.slice A l.length c] 49)) := (Below.refl _ _).alloc (Nat.le_refl _) _
  have hall : ∀ W, Below w.heap.size w W → Calls Try.prog 83 #[.agg #[.slice A l.length c], .func (.func 84) #[] #[], .func (.func 85) #[] #[]] W (GivesPrs (prL l) (chkE l) W) := by
    intro W hW
    by_cases hC : chkE l = 0
    · have h := all_ok A l c W (hA.below hW) hC
      have h2 : prL l = plainE (inL l) := by unfold prL; rw [if_pos hC]
      rw [h2, hC]
      exact h
    · have h2 : prL l = [] := by unfold prL; rw [if_neg hC]
      rw [h2]
      exact all_bad A l c W (hA.below hW) hl hC
  have HALL := Lib.hid hall
  obtain ⟨E, hE⟩ : ∃ E, chkE l = E := ⟨_, rfl⟩
  obtain ⟨m, hm⟩ : ∃ m, prL l = m := ⟨_, rfl⟩
  rw [hE, hm]
  rw [hE, hm] at HALL
  clear hE hm hall
  go_enter Try.func63, Try.ntmps63
  go_wp2_with fail
  refine (HALL.out _ hb0).mono ?_
  rintro e w1 ⟨A1, c1, rfl, ho1, hb1⟩
  have HO := Lib.hid (own_mono ho1 hb0.size)
  clear ho1
  go_wp2
  refine bodyPost_ret (v := .tuple #[.slice A1 m.length c1, .int .i64 E]) (by simp [results, Try.results63, go_sem]) rfl ?_
  exact ⟨A1, c1, rfl, HO.out, bext hb0 hb1⟩

set_option maxHeartbeats 1000000 in
theorem live_any (A : Option Addr) (l : List Ent) (c : Nat) (w : World) (hA : Sl w A (l.flatMap Ent.cells)) (hl : l.length ≤ 4611686018427387903) :
    Calls Try.prog 38 #[.agg #[.slice A l.length c]] w (GivesII (lvN l) (chkE l) w) := by
  have hb0 : Below w.heap.size w (w.alloc (.cells #[.slice A l.length c] 49)) := (Below.refl _ _).alloc (Nat.le_refl _) _
  have bX := Blk.new w 49 #[.slice A l.length c]
  have HA := Lib.hid hA
  obtain ⟨E, hE⟩ : ∃ E, chkE l = E := ⟨_, rfl⟩
  have HE := Lib.hid hE
  rw [hE]
  obtain ⟨N, hN⟩ : ∃ N, lvN l = N := ⟨_, rfl⟩
  have HN := Lib.hid hN
  rw [hN]
  clear hA hE hN
  go_enter Try.func38, Try.ntmps38
  go_wp2_with fail
  refine (check_any A l c _ (HA.out.below hb0) hl).mono ?_
  rw [HE.out]
  rintro e w1 ⟨rfl, hb1⟩
  have hb01 := bext hb0 hb1
  have bX1 := bX.below hb1 bX.lt
  have c0 : w1.cell? ⟨w.heap.size, 0, none⟩ = some (.slice A l.length c) := bX1.cell 0
  clear bX
  by_cases h0 : E = 0
  · subst h0
    have HNL : Hid (N = (liveE l).length) := by show _ = _; rw [← HN.out]; unfold lvN; rw [if_pos HE.out]
    go_wp2
    go_loopw [2, 15] (fun v i wr => ∃ k s : Nat, k ≤ l.length ∧ i = .int .i64 k ∧ v = .int .i64 s ∧ Below w1.heap.size w1 wr ∧ Hid (s = (liveE (l.take k)).length)) (fun _ i _ => l.length - (intOf i).toNat)
    case atStart => exact ⟨0, 0, Nat.zero_le _, rfl, rfl, Below.refl _ _, rfl⟩
    case round =>
      clear c0
      obtain ⟨k, s, hk, rfl, rfl, hb, hs⟩ := hrel
      have hsk : s ≤ k := by rw [hs.out]; have := live_le (l.take k); simp at this; omega
      by_cases hlt : k < l.length
      · obtain ⟨b, off, rfl, hbl, c1, c2, c3⟩ := HA.out.entB (bext hb01 hb) k hlt
        have hls := live_succ hlt
        obtain ⟨x, hx⟩ : ∃ x, l[k]'hlt = x := ⟨_, rfl⟩
        rw [hx] at c1 c2 c3 hls
        have i0 : (0 : Int) ≤ (k : Int) := by omega
        have i1 : (k : Int) < (l.length : Int) := by omega
        have ba : Below wr.heap.size wr (wr.alloc (.cells #[.int .i64 x.key, .int .i64 x.val, .bool x.dead] 27)) := (Below.refl _ _).alloc (Nat.le_refl _) _
        have HBA := Lib.hid ba
        clear ba hx
        cases hd : x.dead
        · rw [hd] at c3 hls HBA
          have HLS : Hid (s + 1 = (liveE (l.take (k + 1))).length) := by show _ = _; rw [hls, hs.out]; simp
          clear hls hd
          go_wp2_with fail
          go_roundw
          case rel => exact ⟨k + 1, s + 1, by omega, by go_num, by go_num, bext hb HBA.out, HLS⟩
          case measure => simp [intOf]; omega
        · rw [hd] at c3 hls HBA
          have HLS : Hid (s = (liveE (l.take (k + 1))).length) := by show _ = _; rw [hls, hs.out]; simp
          clear hls hd
          go_wp2_with fail
          go_roundw
          case rel => exact ⟨k + 1, s, by omega, by go_num, rfl, bext hb HBA.out, HLS⟩
          case measure => simp [intOf]; omega
      · have HS : Hid (s = N) := by show _ = _; rw [HNL.out, hs.out, List.take_of_length_le (by omega)]
        go_wp2
        refine bodyPost_ret (v := .tuple #[.int .i64 (s : Nat), .int .i64 0]) (by simp [results, Try.results38, go_sem]) rfl ?_
        rw [← HS.out]
        exact ⟨rfl, bext hb01 hb⟩
  · have h1 : (E != 0) = true := by simpa using h0
    have HNL : Hid (N = 0) := by show _ = _; rw [← HN.out]; unfold lvN; rw [HE.out, if_neg h0]
    clear h0 c0
    go_wp2
    refine bodyPost_ret (v := .tuple #[.int .i64 0, .int .i64 E]) (by simp [results, Try.results38, go_sem]) rfl ?_
    rw [HNL.out]
    exact ⟨rfl, hb01⟩




end Go.Proofs.Ythdcllnmnmemdaa

/- Contracts: which levels may be (rungs.Check), how many entries there are. -/
namespace Go.Proofs.Ythdcllnmnmemdaa
open Go Go.RowKit
set_option maxRecDepth 100000

/-- levels, their runs in memory -/
abbrev lvs (Rs : List Rm) : Lv := Rs.map Rm.l
theorem lvs_len (Rs : List Rm) : (lvs Rs).length = Rs.length := by simp
theorem lvs_lev {Rs : List Rm} {k : Nat} (h : k < Rs.length) : lev (lvs Rs) k = (Rs[k]'h).l := by rw [lev_lt (by simpa using h)]; simp
theorem tot_take_succ {rs : Lv} {k : Nat} (h : k < rs.length) : tot (rs.take (k + 1)) = tot (rs.take k) + (lev rs k).length := by
  rw [List.take_succ_eq_append_getElem h, tot_snoc, lev_lt h]
theorem tot_take_le : ∀ (rs : Lv) (k : Nat), tot (rs.take k) ≤ tot rs
  | [], k => by simp [tot]
  | l :: rs, 0 => by simp [tot]
  | l :: rs, k + 1 => by
    have := tot_take_le rs k
    rw [List.take_succ_cons, tot_cons, tot_cons]; omega
theorem tot_rs (Rs : List Rm) : tot (lvs Rs) = (Rs.map (fun r => r.l.length)).sum := by unfold tot lvs; rw [List.map_map]; rfl
theorem live_dead {l : List Ent} (h : chkE l = 0) : lvN l = l.length ↔ deadE l = false := by
  unfold lvN deadE
  rw [if_pos h]
  constructor
  · intro he
    rw [List.any_eq_false]
    intro e hm
    have h1 : liveE l = l := by
      unfold liveE at he ⊢
      exact List.filter_eq_self.2 (fun a ha => by
        have := List.length_filter_eq_length_iff.1 he a ha
        exact this)
    rw [← h1] at hm
    have := (List.mem_filter.1 hm).2
    simpa using this
  · intro hd
    rw [List.any_eq_false] at hd
    unfold liveE
    congr 1
    exact List.filter_eq_self.2 (fun a ha => by simpa using hd a ha)
theorem chkR_bad {rs : Lv} {k : Nat} (h : k < rs.length) (hb : okLv rs.length k (lev rs k) = false) : chkR rs = 8 := by
  unfold chkR
  rw [if_neg]
  unfold mayB allOk
  intro hx
  simp only [Bool.and_eq_true, decide_eq_true_eq] at hx
  rw [hx.1.2 k h] at hb
  cases hb
theorem chkR_end {rs : Lv} (h : endOk rs = false) : chkR rs = 8 := by unfold chkR mayB; rw [h]; rfl
theorem chkR_all {rs : Lv} (h : endOk rs = true) (h2 : allOk rs rs.length = true) : chkR rs = if 65536 < tot rs then 8 else 0 := by
  unfold chkR mayB
  rw [h, h2]
  by_cases h3 : 65536 < tot rs
  · rw [if_pos h3, if_neg (by simp; omega)]
  · rw [if_neg h3, if_pos (by simp; omega)]
set_option maxHeartbeats 1000000 in
theorem entries_any (B : Option Addr) (Rs : List Rm) (c : Nat) (n : Int) (w : World) (hB : RunsAt w B Rs) (hT : tot (lvs Rs) ≤ 1000000) (hl : Rs.length ≤ 1000000) :
    Calls Try.prog 20 #[.agg #[.slice B Rs.length c, .int .u64 n]] w fun r w' => r = .returned (.int .i64 (tot (lvs Rs) : Nat)) ∧ Below w.heap.size w w' := by
  have hb0 : Below w.heap.size w (w.alloc (.cells #[.slice B Rs.length c, .int .u64 n] 25)) := (Below.refl _ _).alloc (Nat.le_refl _) _
  go_enter Try.func20, Try.ntmps20
  go_wp2
  go_loopw [2, 8] (fun a i wr => ∃ k m : Nat, k ≤ Rs.length ∧ i = .int .i64 k ∧ a = .int .i64 m ∧ Below w.heap.size w wr ∧ m ≤ 1000000 ∧ Hid (m = tot ((lvs Rs).take k))) (fun _ i _ => Rs.length - (intOf i).toNat)
  case atStart => exact ⟨0, 0, Nat.zero_le _, rfl, rfl, hb0, by omega, rfl⟩
  case round =>
    obtain ⟨k, m, hk, rfl, rfl, hb, hm, hd⟩ := hrel
    by_cases hlt : k < Rs.length
    · obtain ⟨b, off, rfl, hbl, cp⟩ := hB.sl.oneB hb k hlt
      have hs := tot_take_succ (rs := lvs Rs) (k := k) (by simpa using hlt)
      rw [lvs_lev hlt] at hs
      have hle := tot_take_le (lvs Rs) (k + 1)
      obtain ⟨r, hr⟩ : ∃ r, Rs[k]'hlt = r := ⟨_, rfl⟩
      rw [hr] at cp hs
      obtain ⟨l, A, cl⟩ := r
      have cp1 : wr.cell? ⟨b, off + k, none⟩ = some (.slice A l.length cl) := cp
      dsimp only at hs
      have hki : (0 : Int) ≤ (k : Int) := by omega
      have hki2 : (k : Int) < (Rs.length : Int) := by omega
      have hsum : m + l.length ≤ 1000000 := by have := hd.out; omega
      have hw : IntKind.i64.wrap ((m : Int) + (l.length : Int)) = ((m + l.length : Nat) : Int) := (IntWalk.i64_in _ (by omega)).trans (by omega)
      have HS := Lib.hid hs
      have hbs := hb.size
      clear cp hr hs hle
      go_wp2
      go_roundw
      case rel => exact ⟨k + 1, m + l.length, by omega, by go_num, by go_num, hb.alloc hbs _, hsum, by show _ = _; rw [HS.out, hd.out]⟩
      case measure => simp [intOf]; omega
    · have hkn : k = Rs.length := by omega
      have hf : m = tot (lvs Rs) := by rw [hd.out, List.take_of_length_le (by simp; omega)]
      have HF := Lib.hid hf
      clear hkn hf
      go_wp2
      go_ret
      exact ⟨ret_int (by rw [HF.out]), hb⟩
end Go.Proofs.Ythdcllnmnmemdaa

/- Plain facts: how an entry climbs levels. No program in sight. -/
namespace Go.Proofs.Ythdcllnmnmemdaa
open Go

def cnt (rs : Lv) : Nat := rs.countP (fun l => decide (l ≠ []))
theorem cnt_set : ∀ (rs : Lv) (k : Nat), lev rs k ≠ [] → cnt (rs.set k []) + 1 = cnt rs
  | [], k, h => absurd (lev_nil k) h
  | l :: rs, 0, h => by
    have : l ≠ [] := by simpa [lev] using h
    simp [cnt, this]
  | l :: rs, k + 1, h => by
    have := cnt_set rs k (by simpa [lev] using h)
    unfold cnt at this ⊢
    rw [List.set_cons_succ, List.countP_cons, List.countP_cons]
    omega
theorem cnt_zero {rs : Lv} (h : cnt rs = 0) (j : Nat) : lev rs j = [] := by
  by_cases e : lev rs j = []
  · exact e
  · have := cnt_set rs j e; omega
def heldB (rs : Lv) (k : Nat) : Bool := (rs.drop (k + 1)).any (fun l => decide (l ≠ []))
theorem held_false {rs : Lv} {k : Nat} : heldB rs k = false ↔ ∀ j, k < j → lev rs j = [] := by
  unfold heldB
  rw [List.any_eq_false]
  constructor
  · intro h j hj
    rcases Nat.lt_or_ge j rs.length with h1 | h1
    · have h2 := h (rs[j]'h1) (List.mem_iff_getElem.2 ⟨j - (k + 1), by simp; omega, by rw [List.getElem_drop]; congr 1; omega⟩)
      rw [lev_lt h1]
      simpa using h2
    · exact lev_ge h1
  · intro h l hl
    obtain ⟨i, hi, e⟩ := List.mem_iff_getElem.1 hl
    rw [List.getElem_drop] at e
    have := h (k + 1 + i) (by omega)
    rw [lev_lt (by simp at hi; omega), e] at this
    simp [this]
def mergeR (rs : Lv) (r : List Ent) : List Ent := mL [r, lev rs (up r.length)] (!heldB rs (up r.length))
/-- a run goes up, level by level, while its level holds one -/
def climb (rs : Lv) (r : List Ent) (n : Int) : Lv × List Ent × Int :=
  if _h : r ≠ [] ∧ lev rs (up r.length) ≠ [] then
    climb (rs.set (up r.length) []) (mergeR rs r) (IntKind.u64.wrap (n + (mergeR rs r).length))
  else (rs, r, n)
termination_by cnt rs
decreasing_by
  have := cnt_set rs (up r.length) _h.2
  omega
theorem climb_up {rs : Lv} {r : List Ent} {n : Int} (h1 : r ≠ []) (h2 : lev rs (up r.length) ≠ []) : climb rs r n = climb (rs.set (up r.length) []) (mergeR rs r) (IntKind.u64.wrap (n + (mergeR rs r).length)) := by
  rw [climb, dif_pos ⟨h1, h2⟩]
theorem climb_end {rs : Lv} {r : List Ent} {n : Int} (h : r = [] ∨ lev rs (up r.length) = []) : climb rs r n = (rs, r, n) := by
  rw [climb, dif_neg]
  rintro ⟨h1, h2⟩
  rcases h with h | h
  · exact h1 h
  · exact h2 h
/-- what stands while a run goes up -/
structure Climbs (rs : Lv) (r : List Ent) : Prop where
  chk : ∀ j, chkE (lev rs j) = 0
  run : chkE r = 0
  size : r.length + tot rs ≤ 65536
  stood : Stood rs
theorem Climbs.mE {rs : Lv} {r : List Ent} (h : Climbs rs r) (j : Nat) : mE [r, lev rs j] = 0 := by
  refine mE_of (by simp [chkAllE, h.chk j, h.run]) ?_
  have := tot_lev rs j
  have := h.size
  simp; omega
theorem Climbs.len {rs : Lv} {r : List Ent} (_h : Climbs rs r) : (mergeR rs r).length ≤ r.length + (lev rs (up r.length)).length := by
  exact mL_len _ (by simp)
theorem Climbs.step {rs : Lv} {r : List Ent} (h : Climbs rs r) : Climbs (rs.set (up r.length) []) (mergeR rs r) := by
  refine ⟨fun j => ?_, mL_chk _ (h.mE _), ?_, fun j => ?_⟩
  · rw [lev_set_nil]
    split
    · exact chk_nil
    · exact h.chk j
  · have h1 := h.len
    have h2 := tot_set_nil rs (up r.length)
    have h3 := h.size
    omega
  · rw [lev_set_nil]
    split
    · exact .inl rfl
    · exact h.stood j
theorem climb_ok : ∀ (m : Nat) {rs : Lv} {r : List Ent} {n : Int}, cnt rs ≤ m → Climbs rs r → Climbs (climb rs r n).1 (climb rs r n).2.1 ∧ ((climb rs r n).2.1 = [] ∨ lev (climb rs r n).1 (up (climb rs r n).2.1.length) = []) ∧ (climb rs r n).1.length = rs.length ∧ (climb rs r n).2.1.length + tot (climb rs r n).1 ≤ r.length + tot rs := by
  intro m
  induction m with
  | zero =>
    intro rs r n hm h
    have h0 := cnt_zero (rs := rs) (by omega) (up r.length)
    rw [climb_end (.inr h0)]
    exact ⟨h, .inr h0, rfl, Nat.le_refl _⟩
  | succ m ih =>
    intro rs r n hm h
    by_cases e : r = [] ∨ lev rs (up r.length) = []
    · rw [climb_end e]
      exact ⟨h, e, rfl, Nat.le_refl _⟩
    · have e1 : r ≠ [] := fun x => e (.inl x)
      have e2 : lev rs (up r.length) ≠ [] := fun x => e (.inr x)
      rw [climb_up e1 e2]
      have h1 := cnt_set rs (up r.length) e2
      obtain ⟨a, b, c, d⟩ := ih (n := IntKind.u64.wrap (n + (mergeR rs r).length)) (by omega) h.step
      refine ⟨a, b, by rw [c, List.length_set], ?_⟩
      have h2 := tot_set_nil rs (up r.length)
      have h3 := h.len
      omega

/-- levels behind an entry was let in, and how many were laid -/
def climbE (rs : Lv) (n : Int) (y : Ent) : Lv × List Ent × Int := if y.dead = true ∧ rs = [] then (rs, [], n) else climb rs [y] (IntKind.u64.wrap (n + 1))
def letL (rs : Lv) (n : Int) (y : Ent) : Lv := cutL (standL (climbE rs n y).1 (climbE rs n y).2.1)
def letN (rs : Lv) (n : Int) (y : Ent) : Int := (climbE rs n y).2.2
def allL (rs : Lv) : List Ent := liveE (allE (rs.map inL))
def fat (rs : Lv) : Bool := decide (2 * (allL rs).length + 2 < tot rs)
def slimL (rs : Lv) : Lv := if fat rs = true then standL [] (laid (allL rs)) else rs
def slimN (rs : Lv) (n : Int) : Int := if fat rs = true then IntKind.u64.wrap (n + (allL rs).length) else n
def addE (rs : Lv) (y : Ent) : Int := if chkR rs ≠ 0 then chkR rs else if tot rs = 65536 then 4 else if badEnt y = true then 8 else 0
def addL (rs : Lv) (n : Int) (y : Ent) : Lv := if addE rs y = 0 then slimL (letL rs n y) else []
def addN (rs : Lv) (n : Int) (y : Ent) : Int := if addE rs y = 0 then slimN (letL rs n y) (letN rs n y) else 0
theorem chk_one {y : Ent} (h : badEnt y = false) : chkE [y] = 0 := by
  have hE : buildE [y] = 0 := by
    unfold buildE
    rw [if_neg (by simp), if_neg (by simp [h]), if_pos (by simp [rises])]
  have hl : laid [y] = [y] := by
    unfold laid ranks
    simp [inord, entAt]
  rw [← hl]
  exact build_chk hE
theorem May.climbs {rs : Lv} (h : May rs) {y : Ent} (hy : badEnt y = false) (ht : tot rs ≠ 65536) : Climbs rs [y] := by
  refine ⟨h.chk, chk_one hy, ?_, h.stood⟩
  have := h.size
  simp; omega
theorem addE_zero {rs : Lv} {y : Ent} : addE rs y = 0 ↔ May rs ∧ tot rs ≠ 65536 ∧ badEnt y = false := by
  rw [← chkR_zero]
  unfold addE
  by_cases h1 : chkR rs = 0
  · rw [if_neg (by simp [h1])]
    by_cases h2 : tot rs = 65536
    · simp [h2]
    · rw [if_neg h2]
      cases badEnt y <;> simp [h1, h2]
  · rw [if_pos h1]
    simp [h1]
theorem climbE_ok {rs : Lv} (h : May rs) {y : Ent} (hy : badEnt y = false) (ht : tot rs ≠ 65536) (n : Int) :
    Climbs (climbE rs n y).1 (climbE rs n y).2.1 ∧ ((climbE rs n y).2.1 = [] ∨ lev (climbE rs n y).1 (up (climbE rs n y).2.1.length) = []) ∧ (climbE rs n y).1.length = rs.length ∧ (climbE rs n y).2.1.length + tot (climbE rs n y).1 ≤ tot rs + 1 := by
  unfold climbE
  split
  · rename_i e
    refine ⟨⟨h.chk, chk_nil, by simpa using h.size, h.stood⟩, .inl rfl, rfl, by simp⟩
  · obtain ⟨a, b, c, d⟩ := climb_ok (cnt rs) (n := IntKind.u64.wrap (n + 1)) (Nat.le_refl _) (h.climbs hy ht)
    exact ⟨a, b, c, by simp at d; omega⟩
theorem letL_tot {rs : Lv} (h : May rs) {y : Ent} (hy : badEnt y = false) (ht : tot rs ≠ 65536) (n : Int) : tot (letL rs n y) ≤ tot rs + 1 ∧ tot (letL rs n y) ≤ 65536 := by
  obtain ⟨a, b, _, d⟩ := climbE_ok h hy ht n
  unfold letL
  rw [tot_cut, tot_stand b]
  have := h.size
  omega
theorem letL_lev {rs : Lv} (n : Int) (y : Ent) (j : Nat) : lev (letL rs n y) j = if (climbE rs n y).2.1 ≠ [] ∧ j = up (climbE rs n y).2.1.length then (climbE rs n y).2.1 else lev (climbE rs n y).1 j := by
  unfold letL
  rw [lev_cut, lev_stand]
theorem letL_chk {rs : Lv} (h : May rs) {y : Ent} (hy : badEnt y = false) (ht : tot rs ≠ 65536) (n : Int) (j : Nat) : chkE (lev (letL rs n y) j) = 0 := by
  obtain ⟨a, _⟩ := climbE_ok h hy ht n
  rw [letL_lev]
  split
  · exact a.run
  · exact a.chk j
theorem letL_stood {rs : Lv} (h : May rs) {y : Ent} (hy : badEnt y = false) (ht : tot rs ≠ 65536) (n : Int) : Stood (letL rs n y) := by
  obtain ⟨a, _⟩ := climbE_ok h hy ht n
  intro j
  rw [letL_lev]
  split
  · rename_i e; exact .inr e.2.symm
  · exact a.stood j
theorem letL_mE {rs : Lv} (h : May rs) {y : Ent} (hy : badEnt y = false) (ht : tot rs ≠ 65536) (n : Int) : mE (letL rs n y) = 0 := by
  refine mE_of (chkAll_zero fun r hr => ?_) (letL_tot h hy ht n).2
  obtain ⟨j, _, e⟩ := lev_of_mem hr
  rw [← e]
  exact letL_chk h hy ht n j
end Go.Proofs.Ythdcllnmnmemdaa

/- Plain facts: what levels have behind an entry was let in. No program in sight. -/
namespace Go.Proofs.Ythdcllnmnmemdaa
open Go

/-- an entry that is not dead -/
def lvO (o : Option Ent) : Option Ent := o.bind (fun e => if e.dead then none else some e)
theorem lvO_none : lvO none = none := rfl
theorem lvO_or {a : Option Ent} : lvO ((lvO a).or none) = lvO a := by
  cases a with
  | none => rfl
  | some e => unfold lvO; cases h : e.dead <;> simp [h]
theorem lvO_idem (a : Option Ent) : lvO (lvO a) = lvO a := by
  cases a with
  | none => rfl
  | some e => unfold lvO; cases h : e.dead <;> simp [h]
/-! ### the newest of levels goes by the levels alone -/
theorem newest_pad (rs : Lv) (m : Nat) (k : Int) : newest (padTo rs m) k = newest rs k := by
  unfold padTo
  rw [newest_append]
  have h : newest (List.replicate (m - rs.length) ([] : List Ent)) k = none := by
    generalize m - rs.length = n
    induction n with
    | zero => rfl
    | succ n ih => rw [List.replicate_succ, newest_cons, ih]; rfl
  rw [h]
  cases newest rs k <;> rfl
theorem newest_congr {a b : Lv} (h : ∀ j, lev a j = lev b j) (k : Int) : newest a k = newest b k := by
  rw [← newest_pad a (max a.length b.length) k, ← newest_pad b (max a.length b.length) k]
  congr 1
  refine List.ext_getElem (by rw [pad_len, pad_len]; omega) fun i h1 h2 => ?_
  rw [← lev_lt h1, ← lev_lt h2, lev_pad, lev_pad, h]
theorem newest_split : ∀ (m : Nat) (rs : Lv) (k : Int), (∀ j, j < m → lev rs j = []) → newest rs k = (look (lev rs m) k).or (newest (rs.set m []) k)
  | m, [], k, _ => by rw [lev_nil]; rfl
  | 0, l :: rs, k, _ => by
    show newest (l :: rs) k = (look l k).or (newest ([] :: rs) k)
    rw [newest_cons, newest_cons]; rfl
  | m + 1, l :: rs, k, h => by
    have h0 : l = [] := by simpa [lev] using h 0 (by omega)
    subst h0
    have h1 : lev ([] :: rs) (m + 1) = lev rs m := by simp [lev]
    rw [h1, List.set_cons_succ, newest_cons, newest_cons, newest_split m rs k (fun j hj => by simpa [lev] using h (j + 1) (by omega))]
    rfl
theorem newest_stand {rs : Lv} {r : List Ent} (k : Int) (h0 : r ≠ []) (h : ∀ j, j < up r.length → lev rs j = []) (h1 : lev rs (up r.length) = []) : newest (standL rs r) k = (look r k).or (newest rs k) := by
  rw [newest_split (up r.length) (standL rs r) k (fun j hj => by rw [lev_stand, if_neg (fun x => by omega)]; exact h j hj), lev_stand, if_pos ⟨h0, rfl⟩]
  congr 1
  refine newest_congr (fun j => ?_) k
  rw [lev_set_nil, lev_stand]
  by_cases e : j = up r.length
  · rw [if_pos e, e, h1]
  · rw [if_neg e, if_neg (fun x => e x.2)]
theorem newest_empty {rs : Lv} (h : ∀ j, lev rs j = []) (k : Int) : newest rs k = none := by
  rw [newest_congr (b := []) (fun j => by rw [h, lev_nil]) k]; rfl
theorem mergeR_look {rs : Lv} {r : List Ent} (h : Climbs rs r) (k : Int) : look (mergeR rs r) k = if heldB rs (up r.length) = true then (look r k).or (look (lev rs (up r.length)) k) else lvO ((look r k).or (look (lev rs (up r.length)) k)) := by
  have hn : newest [r, lev rs (up r.length)] k = (look r k).or (look (lev rs (up r.length)) k) := by
    rw [newest_cons, newest_cons, newest_nil]
    cases look (lev rs (up r.length)) k <;> simp
  unfold mergeR
  cases heldB rs (up r.length) with
  | true => rw [if_pos rfl, ← hn]; exact mL_look (h.mE _) k
  | false => rw [if_neg (by decide), ← hn]; exact mL_look_bare (h.mE _) k
theorem mL_live {rs : Lv} (h : mE rs = 0) : deadE (mL rs true) = false := by
  unfold deadE
  rw [List.any_eq_false]
  intro e he
  have h1 : e ∈ inL (mL rs true) := (inL_perm _).mem_iff.2 he
  rw [mL_in true h] at h1
  have h2 : e ∈ liveE (allE (rs.map inL)) := h1
  unfold liveE at h2
  have := (List.mem_filter.1 h2).2
  simpa using this
/-- what stands besides: below a run that goes up all is empty; the uppermost run has no dead entry -/
structure Rises (rs : Lv) (r : List Ent) : Prop where
  low : ∀ j, j < up r.length → lev rs j = []
  top : ∀ j, lev rs j ≠ [] → (∀ i, j < i → lev rs i = []) → deadE (lev rs j) = false
  dead : deadE r = true → ∃ j, up r.length ≤ j ∧ lev rs j ≠ []
theorem rises_step {rs : Lv} {r : List Ent} (hc : Climbs rs r) (h : Rises rs r) (h0 : r ≠ []) : Rises (rs.set (up r.length) []) (mergeR rs r) := by
  have hk : up (mergeR rs r).length ≤ up r.length + 1 := by
    refine up_le ?_
    have h1 := hc.len
    have h2 := (up_spec (n := r.length) (List.length_pos_iff.2 h0)).1
    have h3 : (lev rs (up r.length)).length ≤ 2 ^ up r.length := by
      rcases hc.stood (up r.length) with e | e
      · rw [e]; simp
      · have := List.eq_nil_or_concat (lev rs (up r.length))
        rcases Nat.eq_zero_or_pos (lev rs (up r.length)).length with e2 | e2
        · omega
        · have := (up_spec e2).1; rwa [e] at this
    rw [Nat.pow_succ]; omega
  have hlow : ∀ j, j ≤ up r.length → lev (rs.set (up r.length) []) j = [] := by
    intro j hj
    rw [lev_set_nil]
    split
    · rfl
    · exact h.low j (by omega)
  refine ⟨fun j hj => hlow j (by omega), fun j hj hup => ?_, fun hd => ?_⟩
  · have hjk : up r.length < j := by
      rcases Nat.lt_or_ge (up r.length) j with h1 | h1
      · exact h1
      · exact absurd (hlow j h1) hj
    rw [lev_set_nil, if_neg (by omega)] at hj ⊢
    refine h.top j hj fun i hi => ?_
    have := hup i hi
    rwa [lev_set_nil, if_neg (by omega)] at this
  · cases hh : heldB rs (up r.length) with
    | false =>
      exfalso
      unfold mergeR at hd
      rw [hh] at hd
      have := mL_live (hc.mE (up r.length))
      simp at hd
      rw [this] at hd
      cases hd
    | true =>
      have : ¬ ∀ j, up r.length < j → lev rs j = [] := fun x => by rw [held_false.2 x] at hh; cases hh
      obtain ⟨j, hj⟩ := Classical.not_forall.1 this
      have hj1 : up r.length < j := Classical.byContradiction fun x => hj fun y => absurd y x
      have hj2 : lev rs j ≠ [] := fun x => hj fun _ => x
      exact ⟨j, by omega, by rw [lev_set_nil, if_neg (by omega)]; exact hj2⟩
theorem climb_view : ∀ (m : Nat) {rs : Lv} {r : List Ent} {n : Int} (k : Int), cnt rs ≤ m → Climbs rs r → Rises rs r → Rises (climb rs r n).1 (climb rs r n).2.1 ∧ lvO ((look (climb rs r n).2.1 k).or (newest (climb rs r n).1 k)) = lvO ((look r k).or (newest rs k)) := by
  intro m
  induction m with
  | zero =>
    intro rs r n k hm hc h
    have h0 := cnt_zero (rs := rs) (by omega) (up r.length)
    rw [climb_end (.inr h0)]
    exact ⟨h, rfl⟩
  | succ m ih =>
    intro rs r n k hm hc h
    by_cases e : r = [] ∨ lev rs (up r.length) = []
    · rw [climb_end e]
      exact ⟨h, rfl⟩
    · have e1 : r ≠ [] := fun x => e (.inl x)
      have e2 : lev rs (up r.length) ≠ [] := fun x => e (.inr x)
      rw [climb_up e1 e2]
      have h1 := cnt_set rs (up r.length) e2
      obtain ⟨a, b⟩ := ih (n := IntKind.u64.wrap (n + (mergeR rs r).length)) k (by omega) hc.step (rises_step hc h e1)
      refine ⟨a, ?_⟩
      rw [b, mergeR_look hc, newest_split (up r.length) rs k h.low]
      cases hh : heldB rs (up r.length) with
      | true => rw [if_pos rfl, Option.or_assoc]
      | false =>
        rw [if_neg (by decide)]
        have hn : newest (rs.set (up r.length) []) k = none := by
          refine newest_empty (fun j => ?_) k
          rw [lev_set_nil]
          by_cases e3 : j = up r.length
          · rw [if_pos e3]
          · rw [if_neg e3]
            rcases Nat.lt_or_ge j (up r.length) with h2 | h2
            · exact h.low j h2
            · exact held_false.1 hh j (by omega)
        rw [hn, lvO_or]
        cases look (lev rs (up r.length)) k <;> simp
theorem May.rises {rs : Lv} (h : May rs) {y : Ent} (hy : ¬ (y.dead = true ∧ rs = [])) : Rises rs [y] := by
  have u0 : up ([y] : List Ent).length = 0 := rfl
  refine ⟨fun j hj => by omega, fun j hj hup => ?_, fun hd => ?_⟩
  · have hj1 := (lev_mem hj).1
    refine h.last j ?_
    rcases h.top with e | e
    · subst e; simp at hj1
    · rcases Nat.lt_or_ge j (rs.length - 1) with h1 | h1
      · exact absurd (hup _ h1) e
      · omega
  · have hd2 : y.dead = true := by simpa [deadE] using hd
    rcases h.top with e | e
    · exact absurd ⟨hd2, e⟩ hy
    · exact ⟨_, Nat.zero_le _, e⟩
theorem look_one (y : Ent) (k : Int) : look [y] k = if y.key = k then some y else none := by rw [look_cons]; rfl
/-- what was let in is had; other keys stay -/
theorem let_view {rs : Lv} (h : May rs) {y : Ent} (hy : badEnt y = false) (ht : tot rs ≠ 65536) (n : Int) (k : Int) : lvO (newest (letL rs n y) k) = if y.key = k then lvO (some y) else lvO (newest rs k) := by
  obtain ⟨_, b, _⟩ := climbE_ok h hy ht n
  by_cases hd : y.dead = true ∧ rs = []
  · have h1 : letL rs n y = [] := by
      unfold letL climbE
      rw [if_pos hd]
      dsimp only
      rw [stand_nil, hd.2]; rfl
    rw [h1, newest_nil, hd.2, newest_nil, lvO_none]
    split
    · unfold lvO; simp [hd.1]
    · rfl
  · have hR := h.rises hd
    obtain ⟨c, d⟩ := climb_view (cnt rs) (n := IntKind.u64.wrap (n + 1)) k (Nat.le_refl _) (h.climbs hy ht) hR
    have e1 : climbE rs n y = climb rs [y] (IntKind.u64.wrap (n + 1)) := by unfold climbE; rw [if_neg hd]
    rw [← e1] at c d
    have h2 : newest (letL rs n y) k = (look (climbE rs n y).2.1 k).or (newest (climbE rs n y).1 k) := by
      unfold letL
      rw [newest_congr (lev_cut _) k]
      by_cases e2 : (climbE rs n y).2.1 = []
      · rw [e2, stand_nil]; rfl
      · rcases b with b | b
        · exact absurd b e2
        · exact newest_stand k e2 c.low b
    rw [h2, d, look_one]
    split <;> rfl
theorem let_may {rs : Lv} (h : May rs) {y : Ent} (hy : badEnt y = false) (ht : tot rs ≠ 65536) (n : Int) : May (letL rs n y) := by
  have hs := letL_stood h hy ht n
  have htop : Top (letL rs n y) := cut_top _
  have htot := (letL_tot h hy ht n).2
  refine ⟨?_, htop, letL_chk h hy ht n, hs, fun j hj => ?_, htot⟩
  · rcases htop with e | e
    · rw [e]; simp
    · rcases hs ((letL rs n y).length - 1) with e2 | e2
      · exact absurd e2 e
      · have := up_16 (Nat.le_trans (tot_lev (letL rs n y) ((letL rs n y).length - 1)) htot)
        omega
  · obtain ⟨_, b, _⟩ := climbE_ok h hy ht n
    by_cases hd : y.dead = true ∧ rs = []
    · have h1 : letL rs n y = [] := by
        unfold letL climbE
        rw [if_pos hd]
        dsimp only
        rw [stand_nil, hd.2]; rfl
      rw [h1] at hj; simp at hj
    · obtain ⟨c, _⟩ := climb_view (cnt rs) (n := IntKind.u64.wrap (n + 1)) 0 (Nat.le_refl _) (h.climbs hy ht) (h.rises hd)
      have e1 : climbE rs n y = climb rs [y] (IntKind.u64.wrap (n + 1)) := by unfold climbE; rw [if_neg hd]
      rw [← e1] at c
      have hne : lev (letL rs n y) j ≠ [] := by
        rcases htop with e | e
        · rw [e] at hj; simp at hj
        · rwa [show j = (letL rs n y).length - 1 by omega]
      have habove : ∀ i, j < i → lev (letL rs n y) i = [] := fun i hi => lev_ge (by omega)
      rw [letL_lev] at hne ⊢
      split
      · rename_i e
        rw [if_pos e] at hne
        cases hdd : deadE (climbE rs n y).2.1 with
        | false => rfl
        | true =>
          obtain ⟨i, h1, h2⟩ := c.dead hdd
          rcases b with b | b
          · exact absurd b e.1
          · by_cases h3 : i = up (climbE rs n y).2.1.length
            · subst h3; exact absurd b h2
            · have h4 := habove i (by omega)
              rw [letL_lev, if_neg (fun x => h3 x.2)] at h4
              exact absurd h4 h2
      · rename_i e
        rw [if_neg e] at hne
        refine c.top j hne fun i hi => ?_
        have h4 := habove i hi
        rw [letL_lev] at h4
        split at h4
        · rename_i e2; exact absurd h4 e2.1
        · exact h4
/-! ### levels laid anew -/
theorem all_live {rs : Lv} (h : mE rs = 0) : buildE (allL rs) = 0 ∧ laid (allL rs) = mL rs true := ⟨mL_build true h, (mL_is true h).symm⟩
theorem allL_look {rs : Lv} (h : mE rs = 0) (k : Int) : look (allL rs) k = lvO (newest rs k) := by
  have h1 := mL_look_bare h k
  rw [look_in (mL_chk true h), mL_in true h] at h1
  exact h1
theorem allL_le {rs : Lv} : (allL rs).length ≤ tot rs := by
  unfold allL
  refine Nat.le_trans (live_le _) ?_
  have h1 := fold_len (rs.map inL) []
  have h2 : ((rs.map inL).map List.length).sum = tot rs := by
    unfold tot
    rw [List.map_map]
    congr 1
    refine List.map_congr_left fun l _ => ?_
    simp [inL_length]
  rw [h2] at h1
  simpa [allE] using h1
theorem lev_alone (r : List Ent) (j : Nat) : lev (standL [] r) j = if r ≠ [] ∧ j = up r.length then r else [] := by rw [lev_stand, lev_nil]
theorem alone_top (r : List Ent) : Top (standL [] r) := stand_top (.inl rfl)
theorem alone_tot (r : List Ent) : tot (standL [] r) = r.length := by rw [tot_stand (.inr (lev_nil _))]; simp [tot]
theorem alone_newest (r : List Ent) (k : Int) : newest (standL [] r) k = look r k := by
  by_cases h : r = []
  · subst h; rw [stand_nil]; rfl
  · rw [newest_stand k h (fun j _ => lev_nil j) (lev_nil _), newest_nil]
    cases look r k <;> rfl
theorem alone_may {r : List Ent} (h : chkE r = 0) (hd : deadE r = false) : May (standL [] r) := by
  have hl := (chk_ok h).2.2
  refine ⟨?_, alone_top r, fun j => ?_, fun j => ?_, fun j hj => ?_, by rw [alone_tot]; exact hl⟩
  · rw [stand_len]
    have := up_16 hl
    split
    · simp
    · simp; omega
  · rw [lev_alone]
    split
    · exact h
    · exact chk_nil
  · rw [lev_alone]
    split
    · rename_i e; exact .inr e.2.symm
    · exact .inl rfl
  · rw [lev_alone]
    split
    · exact hd
    · rfl
theorem alone_all {r : List Ent} (h : chkE r = 0) (hd : deadE r = false) : allL (standL [] r) = inL r := by
  have hm := alone_may h hd
  refine look_ext (live_ris (all_ris fun x hx => ?_)) (chk_ris h) fun k => ?_
  · obtain ⟨l, hl, rfl⟩ := List.mem_map.1 hx
    obtain ⟨j, _, e⟩ := lev_of_mem hl
    rw [← e]
    exact chk_ris (hm.chk j)
  · rw [allL_look hm.mE, alone_newest, ← look_in h]
    cases hk : look r k with
    | none => rfl
    | some e =>
      have h1 := (look_key hk).2
      unfold deadE at hd
      rw [List.any_eq_false] at hd
      have h2 := hd e h1
      unfold lvO
      simp at h2
      simp [h2]
theorem slim_alone {rs : Lv} (h : mE rs = 0) : chkE (laid (allL rs)) = 0 ∧ deadE (laid (allL rs)) = false ∧ (laid (allL rs)).length = (allL rs).length := by
  rw [(all_live h).2]
  refine ⟨mL_chk true h, mL_live h, ?_⟩
  rw [← (all_live h).2, laid_length]
/-- few entries -/
theorem slim_may {rs : Lv} (h : May rs) : May (slimL rs) ∧ tot (slimL rs) ≤ 2 * (allL (slimL rs)).length + 2 ∧ ∀ k, lvO (newest (slimL rs) k) = lvO (newest rs k) := by
  obtain ⟨a, b, c⟩ := slim_alone h.mE
  unfold slimL
  split
  · refine ⟨alone_may a b, ?_, fun k => ?_⟩
    · rw [alone_tot, alone_all a b, inL_length]; omega
    · rw [alone_newest, (all_live h.mE).2, mL_look_bare h.mE]
      exact lvO_idem _
  · rename_i e
    refine ⟨h, ?_, fun _ => rfl⟩
    unfold fat at e
    simp at e
    omega
theorem add_may {rs : Lv} {y : Ent} (h : addE rs y = 0) (n : Int) : May (addL rs n y) ∧ tot (addL rs n y) ≤ 2 * (allL (addL rs n y)).length + 2 ∧ ∀ k, lvO (newest (addL rs n y) k) = if y.key = k then lvO (some y) else lvO (newest rs k) := by
  obtain ⟨h1, h2, h3⟩ := addE_zero.1 h
  unfold addL
  rw [if_pos h]
  obtain ⟨a, b, c⟩ := slim_may (let_may h1 h3 h2 n)
  exact ⟨a, b, fun k => by rw [c, let_view h1 h3 h2 n k]⟩
end Go.Proofs.Ythdcllnmnmemdaa

/- Levels in memory of the call's own; the map of levels that hold a run. No walk. -/
namespace Go.Proofs.Ythdcllnmnmemdaa
open Go Go.RowKit Go.Maps
set_option maxRecDepth 100000

/-! ### levels in memory of the call's own -/
structure OwnRs (w : World) (B0 : Nat) (B : Option Addr) (c : Nat) (Rs : List Rm) : Prop where
  row : w.ownsRow B0 49 1 (.slice B Rs.length c) Rs.length (Rs.map Rm.v)
  ent : ∀ r ∈ Rs, w.ownsRow B0 27 3 r.v r.l.length (r.l.flatMap Ent.cells)
theorem own_rm {w : World} {B0 : Nat} {r : Rm} (h : w.ownsRow B0 27 3 r.v r.l.length (r.l.flatMap Ent.cells)) : r.Ok w := by
  obtain ⟨A3, c3, h3, h4, h5⟩ := own_form h
  obtain ⟨ls, As, cs⟩ := r
  have h6 : As = A3 ∧ cs = c3 := by simpa [Rm.v] using h3
  obtain ⟨rfl, rfl⟩ := h6
  exact ⟨own_sl h, h4, h5⟩
theorem OwnRs.runsAt {w : World} {B0 : Nat} {B : Option Addr} {c : Nat} {Rs : List Rm} (h : OwnRs w B0 B c Rs) : RunsAt w B Rs := ⟨own_sl h.row, fun r hr => own_rm (h.ent r hr)⟩
theorem OwnRs.le {w : World} {B0 : Nat} {B : Option Addr} {c : Nat} {Rs : List Rm} (h : OwnRs w B0 B c Rs) : Rs.length ≤ c ∧ c ≤ maxLen := by
  obtain ⟨A', c', h4, h5, h6⟩ := own_form h.row
  obtain ⟨rfl, rfl⟩ : B = A' ∧ c = c' := by simpa using h4
  exact ⟨h5, h6⟩
theorem OwnRs.nil (w : World) (B0 : Nat) : OwnRs w B0 none 0 [] := ⟨World.ownsRow_nil _ _ _ _, by simp⟩
theorem OwnRs.below {w w' : World} {B0 : Nat} {B : Option Addr} {c : Nat} {Rs : List Rm} (h : OwnRs w B0 B c Rs) (hb : Below w.heap.size w w') : OwnRs w' B0 B c Rs :=
  ⟨own_below h.row hb, fun r hr => own_below (h.ent r hr) hb⟩
theorem OwnRs.mono {w : World} {B0 B1 : Nat} {B : Option Addr} {c : Nat} {Rs : List Rm} (h : OwnRs w B0 B c Rs) (hb : B1 ≤ B0) : OwnRs w B1 B c Rs :=
  ⟨own_mono h.row hb, fun r hr => own_mono (h.ent r hr) hb⟩
theorem OwnRs.alloc {w : World} {B0 : Nat} {B : Option Addr} {c : Nat} {Rs : List Rm} (h : OwnRs w B0 B c Rs) (o : Obj) : OwnRs (w.alloc o) B0 B c Rs :=
  ⟨h.row.alloc o, fun r hr => (h.ent r hr).alloc o⟩
theorem OwnRs.drew {w : World} {B0 : Nat} {B : Option Addr} {c : Nat} {Rs : List Rm} (h : OwnRs w B0 B c Rs) : OwnRs w.drew B0 B c Rs := ⟨h.row, h.ent⟩
/-- a store into a block of another type -/
theorem own_setT {w : World} {g B s n : Nat} {t e : TypeId} {cur : Array Value} {v : Value} {xs : List Value} (hB : Blk w g t cur) (h : w.ownsRow B e s v n xs) (hne : e ≠ t) (i : Nat) (u : Value) : (w.setCell ⟨g, i, none⟩ u).ownsRow B e s v n xs := by
  refine ⟨h.1, ?_⟩
  rcases h.2 with h2 | ⟨k, cap, cur', rfl, hg, hh, r⟩
  · exact .inl h2
  · refine .inr ⟨k, cap, cur', rfl, hg, ?_, r⟩
    refine (Below.heap_setCell w ⟨g, i, none⟩ u k ?_).trans hh
    intro e2
    have e3 : k = g := e2
    subst e3
    have := hB.symm.trans hh
    simp at this
    exact hne this.2.symm
/-- a store into a block that is not this row's, or of another type -/
theorem OwnRs.setT {w : World} {B0 g : Nat} {B : Option Addr} {c : Nat} {Rs : List Rm} {t : TypeId} {cur : Array Value} (h : OwnRs w B0 B c Rs) (hB : Blk w g t cur) (h1 : 49 ≠ t) (h2 : 27 ≠ t) (i : Nat) (u : Value) : OwnRs (w.setCell ⟨g, i, none⟩ u) B0 B c Rs :=
  ⟨own_setT hB h.row h1 i u, fun r hr => own_setT hB (h.ent r hr) h2 i u⟩
/-- a row of runs, of the call's own -/
abbrev RowAt (w : World) (B0 : Nat) (B : Option Addr) (c : Nat) (Rs : List Rm) : Prop := w.ownsRow B0 49 1 (.slice B Rs.length c) Rs.length (Rs.map Rm.v)
theorem RowAt.at {w : World} {B0 : Nat} {B : Option Addr} {c : Nat} {Rs : List Rm} (h : RowAt w B0 B c Rs) (hn : 0 < Rs.length) : ∃ g cur, B = some ⟨g, 0, none⟩ ∧ B0 ≤ g ∧ Blk w g 49 cur ∧ cur.size = c ∧ (∀ k (hk : k < Rs.length), w.cell? ⟨g, k, none⟩ = some (Rs[k]'hk).v) := by
  obtain ⟨g, cap, cur, hv, hg, hb, h1, h2, h3, h4⟩ := own_blk h hn
  obtain ⟨rfl, rfl⟩ : B = some ⟨g, 0, none⟩ ∧ c = cap := by simpa using hv
  refine ⟨g, cur, rfl, hg, hb, by simpa using h3, fun k hk => ?_⟩
  rw [hb.cell]
  have h5 : (Rs.map Rm.v)[k]? = some (Rs[k]'hk).v := by simp [hk]
  rw [← h4, List.getElem?_take, if_pos (by omega)] at h5
  simpa using h5
theorem OwnRs.at {w : World} {B0 : Nat} {B : Option Addr} {c : Nat} {Rs : List Rm} (h : OwnRs w B0 B c Rs) (hn : 0 < Rs.length) : ∃ g cur, B = some ⟨g, 0, none⟩ ∧ B0 ≤ g ∧ Blk w g 49 cur ∧ cur.size = c ∧ (∀ k (hk : k < Rs.length), w.cell? ⟨g, k, none⟩ = some (Rs[k]'hk).v) := RowAt.at h.row hn
theorem RowAt.set {w : World} {B0 g : Nat} {c : Nat} {Rs : List Rm} (h : RowAt w B0 (some ⟨g, 0, none⟩) c Rs) {k : Nat} (hk : k < Rs.length) (r : Rm) : RowAt (w.setCell ⟨g, k, none⟩ r.v) B0 (some ⟨g, 0, none⟩) c (Rs.set k r) := by
  obtain ⟨g', cap, cur, hv, hg, hb, h1, h2, h3, h4⟩ := own_blk h (by omega)
  obtain ⟨rfl, rfl⟩ : g = g' ∧ c = cap := by simpa using hv
  unfold RowAt
  rw [List.length_set]
  refine ⟨by simp, .inr ⟨g, c, cur.setIfInBounds k r.v, rfl, hg, hb.set_ k r.v, h1, h2, by simpa using h3, ?_⟩⟩
  rw [Array.toList_setIfInBounds, List.take_set, h4, List.map_set]
theorem RowAt.le {w : World} {B0 : Nat} {B : Option Addr} {c : Nat} {Rs : List Rm} (h : RowAt w B0 B c Rs) : Rs.length ≤ c ∧ c ≤ maxLen := by
  obtain ⟨A', c', h4, h5, h6⟩ := own_form h
  obtain ⟨rfl, rfl⟩ : B = A' ∧ c = c' := by simpa using h4
  exact ⟨h5, h6⟩
/-- a run is laid at a level -/
theorem OwnRs.set {w : World} {B0 g : Nat} {c : Nat} {Rs : List Rm} (h : OwnRs w B0 (some ⟨g, 0, none⟩) c Rs) {k : Nat} (hk : k < Rs.length) (r : Rm) (hr : w.ownsRow B0 27 3 r.v r.l.length (r.l.flatMap Ent.cells)) :
    OwnRs (w.setCell ⟨g, k, none⟩ r.v) B0 (some ⟨g, 0, none⟩) c (Rs.set k r) := by
  obtain ⟨g', cur, h1, _, hb, _⟩ := h.at (by omega)
  obtain rfl : g = g' := by simpa using h1
  refine ⟨RowAt.set h.row hk r, ?_⟩
  intro s hs
  refine own_setT hb ?_ (by decide) k _
  rcases List.mem_or_eq_of_mem_set hs with h5 | h5
  · exact h.ent s h5
  · rw [h5]; exact hr
/-- a run more, behind the others -/
theorem OwnRs.push {w w' : World} {B0 : Nat} {B A' : Option Addr} {c c' : Nat} {Rs : List Rm} (h : OwnRs w B0 B c Rs) (r : Rm) (hr : w.ownsRow B0 27 3 r.v r.l.length (r.l.flatMap Ent.cells))
    (ho : w'.ownsRow B0 49 1 (.slice A' (Rs.length + 1) c') (Rs.length + 1) (Rs.map Rm.v ++ [r.v])) (hg : w.grownBy w' (Value.slice B Rs.length c).ownBlock) : OwnRs w' B0 A' c' (Rs ++ [r]) := by
  refine ⟨?_, ?_⟩
  · rw [List.length_append, List.map_append]; exact ho
  · intro s hs
    refine own_grow hg h.row ?_ (by decide)
    rcases List.mem_append.1 hs with hs | hs
    · exact h.ent s hs
    · obtain rfl : s = r := by simpa using hs
      exact hr
theorem OwnRs.grown {w w' : World} {B0 : Nat} {B : Option Addr} {c : Nat} {Rs : List Rm} (h : OwnRs w B0 B c Rs) (hg : w.grownBy w' (Value.slice B Rs.length c).ownBlock) (hb : B0 ≤ w.heap.size) : Below B0 w w' :=
  (Below.refl _ _).grown hg (by omega) (fun q hq => (h.row.lt q hq).1)
/-- rows whose runs are among others' -/
theorem OwnRs.sub {w : World} {B0 : Nat} {B A : Option Addr} {c d : Nat} {Rs Ts : List Rm} (h : OwnRs w B0 B c Rs) (ho : w.ownsRow B0 49 1 (.slice A Ts.length d) Ts.length (Ts.map Rm.v)) (hs : ∀ t ∈ Ts, t = ⟨[], none, 0⟩ ∨ t ∈ Rs) : OwnRs w B0 A d Ts := by
  refine ⟨ho, fun t ht => ?_⟩
  rcases hs t ht with rfl | h1
  · exact World.ownsRow_nil _ _ _ _
  · exact h.ent t h1
theorem own_empty (w : World) (B0 : Nat) : w.ownsRow B0 27 3 (Rm.v ⟨[], none, 0⟩) 0 (([] : List Ent).flatMap Ent.cells) := World.ownsRow_nil _ _ _ _

/-- hands back levels, in memory of its own -/
def GivesLs (ls : Lv) (w : World) (r : Ending) (w' : World) : Prop := ∃ B c Rs, r = .returned (.slice B Rs.length c) ∧ lvs Rs = ls ∧ OwnRs w' w.heap.size B c Rs ∧ Below w.heap.size w w'
/-- .. and a ledger -/
def GivesRg (ls : Lv) (n : Int) (w : World) (r : Ending) (w' : World) : Prop := ∃ B c Rs, r = .returned (.agg #[.slice B Rs.length c, .int .u64 n]) ∧ lvs Rs = ls ∧ OwnRs w' w.heap.size B c Rs ∧ Below w.heap.size w w'
/-- .. and an error -/
def GivesRgE (ls : Lv) (n e : Int) (w : World) (r : Ending) (w' : World) : Prop := ∃ B c Rs, r = .returned (.tuple #[.agg #[.slice B Rs.length c, .int .u64 n], .int .i64 e]) ∧ lvs Rs = ls ∧ OwnRs w' w.heap.size B c Rs ∧ Below w.heap.size w w'
theorem rs_len {Rs : List Rm} {ls : Lv} (h : lvs Rs = ls) : Rs.length = ls.length := by rw [← h, lvs_len]
theorem lvs_set (Rs : List Rm) (k : Nat) (r : Rm) : lvs (Rs.set k r) = (lvs Rs).set k r.l := by unfold lvs; rw [List.map_set]
theorem lvs_append (Rs Ts : List Rm) : lvs (Rs ++ Ts) = lvs Rs ++ lvs Ts := by unfold lvs; rw [List.map_append]
theorem lvs_empty (Rs : List Rm) (r : Rm) : lvs (Rs ++ [r]) = lvs Rs ++ [r.l] := by rw [lvs_append]; rfl

/-! ### the map of levels that hold a run -/
def HeldAt (w : World) (b : Nat) (rs : Lv) : Prop := ∃ (n : Nat) (D : DataW Unit), w.ownsMap Try.prog 3 (plainElem (H := Unit) Try.prog 3) b n D ∧ n ≤ 1000000 ∧ Tidy D ∧ (∀ j : Nat, D.atKey (.int .i64 j) (.lit (.int .i64 0)) = .lit (.int .i64 (lev rs j).length)) ∧
  (∀ j : Nat, Maps.has D (.int .i64 j) = decide (lev rs j ≠ [])) ∧ Maps.size D = cnt rs
theorem HeldAt.below {w w' : World} {b : Nat} {rs : Lv} (h : HeldAt w b rs) (hb : Below w.heap.size w w') : HeldAt w' b rs := by
  obtain ⟨n, D, h1, h2⟩ := h
  refine ⟨n, D, ?_, h2⟩
  have hl := h1.lt
  obtain ⟨es, clock, h3, h4⟩ := h1
  exact ⟨es, clock, (hb.block b hl).trans h3, h4⟩
theorem HeldAt.lt {w : World} {b : Nat} {rs : Lv} (h : HeldAt w b rs) : b < w.heap.size := by obtain ⟨n, D, h1, _⟩ := h; exact h1.lt
theorem HeldAt.setCell {w : World} {b : Nat} {rs : Lv} (h : HeldAt w b rs) {a : Addr} (ha : b ≠ a.block) (u : Value) : HeldAt (w.setCell a u) b rs := by
  obtain ⟨n, D, h1, h2⟩ := h
  exact ⟨n, D, h1.setCell ha u, h2⟩
theorem HeldAt.alloc {w : World} {b : Nat} {rs : Lv} (h : HeldAt w b rs) (o : Obj) : HeldAt (w.alloc o) b rs := by
  obtain ⟨n, D, h1, h2⟩ := h
  exact ⟨n, D, h1.alloc o, h2⟩
theorem HeldAt.notCells {w : World} {b g : Nat} {rs : Lv} {t : TypeId} {cur : Array Value} (h : HeldAt w b rs) (hB : Blk w g t cur) : b ≠ g := by
  obtain ⟨n, D, ⟨es, clock, h3, _⟩, _⟩ := h
  rintro rfl
  have := hB.symm.trans h3
  simp at this
theorem lev_take' (rs : Lv) (k j : Nat) : lev (rs.take k) j = if j < k then lev rs j else [] := lev_take rs k j
theorem cnt_take {rs : Lv} {k : Nat} (h : k < rs.length) : cnt (rs.take (k + 1)) = cnt (rs.take k) + (if lev rs k ≠ [] then 1 else 0) := by
  unfold cnt
  rw [List.take_succ_eq_append_getElem h, List.countP_append, lev_lt h]
  by_cases e : rs[k] = [] <;> simp [e]
theorem key_lit (j : Nat) : WideAt.IsKeyLit (.int .i64 (j : Int)) := trivial
theorem key_ne {j k : Nat} (e : ¬ j = k) : Lit.int .i64 (j : Int) ≠ Lit.int .i64 (k : Int) := by
  intro h
  injection h with _ h2
  exact e (by exact_mod_cast h2)
theorem HeldAt.made {_w w' : World} {b : Nat} (h : w'.ownsMap Try.prog 3 (plainElem (H := Unit) Try.prog 3) b 0 (.map [])) : HeldAt w' b [] :=
  ⟨0, .map [], h, by omega, tidy_empty, fun j => by rw [lev_nil]; rfl, fun j => by rw [lev_nil]; rfl, rfl⟩
/-- a level that holds a run is noted -/
theorem held_put {D : DataW Unit} {rs : Lv} {k : Nat} (hk : k < rs.length) (hne : lev rs k ≠ []) (hT : Tidy D) (h1 : ∀ j : Nat, D.atKey (.int .i64 j) (.lit (.int .i64 0)) = .lit (.int .i64 (lev (rs.take k) j).length))
    (h2 : ∀ j : Nat, Maps.has D (.int .i64 j) = decide (lev (rs.take k) j ≠ [])) (h3 : Maps.size D = cnt (rs.take k)) :
    Tidy (D.put (.int .i64 (k : Int)) (.lit (.int .i64 (lev rs k).length))) ∧ (∀ j : Nat, (D.put (.int .i64 (k : Int)) (.lit (.int .i64 (lev rs k).length))).atKey (.int .i64 j) (.lit (.int .i64 0)) = .lit (.int .i64 (lev (rs.take (k + 1)) j).length)) ∧
    (∀ j : Nat, Maps.has (D.put (.int .i64 (k : Int)) (.lit (.int .i64 (lev rs k).length))) (.int .i64 j) = decide (lev (rs.take (k + 1)) j ≠ [])) ∧ Maps.size (D.put (.int .i64 (k : Int)) (.lit (.int .i64 (lev rs k).length))) = cnt (rs.take (k + 1)) := by
  have hno : Maps.has D (.int .i64 (k : Int)) = false := by rw [h2, lev_take, if_neg (by omega)]; rfl
  refine ⟨hT.put (key_lit k) _, fun j => ?_, fun j => ?_, ?_⟩
  · by_cases e : j = k
    · subst e
      rw [atKey_put_same hT.isMap (key_lit j), lev_take, if_pos (by omega)]
    · rw [atKey_put_other (key_ne e), h1, lev_take, lev_take]
      by_cases e2 : j < k
      · rw [if_pos e2, if_pos (by omega)]
      · rw [if_neg e2, if_neg (by omega)]
  · by_cases e : j = k
    · subst e
      rw [has_put_same hT.isMap (key_lit j), lev_take, if_pos (by omega)]
      simp [hne]
    · rw [has_put_other (key_ne e), h2, lev_take, lev_take]
      by_cases e2 : j < k
      · rw [if_pos e2, if_pos (by omega)]
      · rw [if_neg e2, if_neg (by omega)]
  · rw [size_put hT, hno, if_neg (by simp), h3, cnt_take hk, if_pos hne]
theorem held_skip {rs : Lv} {k : Nat} (hk : k < rs.length) (he : lev rs k = []) : (∀ j, lev (rs.take (k + 1)) j = lev (rs.take k) j) ∧ cnt (rs.take (k + 1)) = cnt (rs.take k) := by
  refine ⟨fun j => ?_, by rw [cnt_take hk, if_neg (by simp [he])]; rfl⟩
  rw [lev_take, lev_take]
  by_cases e : j = k
  · subst e; rw [if_pos (by omega), if_neg (by omega), he]
  · by_cases e2 : j < k
    · rw [if_pos e2, if_pos (by omega)]
    · rw [if_neg e2, if_neg (by omega)]
/-- a level is struck out -/
theorem held_del {D : DataW Unit} {rs : Lv} {k : Nat} (hne : lev rs k ≠ []) (hT : Tidy D) (h1 : ∀ j : Nat, D.atKey (.int .i64 j) (.lit (.int .i64 0)) = .lit (.int .i64 (lev rs j).length))
    (h2 : ∀ j : Nat, Maps.has D (.int .i64 j) = decide (lev rs j ≠ [])) (h3 : Maps.size D = cnt rs) :
    Tidy (D.del (.int .i64 (k : Int))) ∧ (∀ j : Nat, (D.del (.int .i64 (k : Int))).atKey (.int .i64 j) (.lit (.int .i64 0)) = .lit (.int .i64 (lev (rs.set k []) j).length)) ∧
    (∀ j : Nat, Maps.has (D.del (.int .i64 (k : Int))) (.int .i64 j) = decide (lev (rs.set k []) j ≠ [])) ∧ Maps.size (D.del (.int .i64 (k : Int))) = cnt (rs.set k []) := by
  refine ⟨hT.del _, fun j => ?_, fun j => ?_, ?_⟩
  · rw [lev_set_nil]
    by_cases e : j = k
    · subst e; rw [atKey_del_same, if_pos rfl]; rfl
    · rw [atKey_del_other (key_ne e), h1, if_neg e]
  · rw [lev_set_nil]
    by_cases e : j = k
    · subst e; rw [has_del_same, if_pos rfl]; rfl
    · rw [has_del_other (key_ne e), h2, if_neg e]
  · have := size_del (k := .int .i64 (k : Int)) hT
    rw [h2, h3, ← cnt_set rs k hne] at this
    simp [hne] at this
    exact this
end Go.Proofs.Ythdcllnmnmemdaa

/- append onto a row of the call's own: where the new row lies. -/
namespace Go.Proofs.Ythdcllnmnmemdaa
open Go Go.RowKit
set_option maxRecDepth 100000
section
variable {P : Program} (w : World)
theorem wpList_append_at {ops : Array Oper} {rest : List Oper} {o : Oper} {a : Act} {Q : Exit → Act → World → Prop} (hgd : o.guard = none) (s x : Operand) (t : TypeId)
    (ho : o.op = .call { callee := .builtin .append, args := #[s, x], argTypes := #[t, t] })
    (base : Nat) (e : TypeId) (i : TypeInfo) (z : Value) (size bytes : Nat) (ht : P.underlying t = some (.slice e)) (hi : P.info? e = some i) (hz : i.zero = some z)
    (hsize : i.size = size) (hby : i.bytes = bytes) (hzs : z.cells.size = size) (hsz : 0 < size)
    (v : Value) (n : Nat) (xs : List Value) (hs : a.eval s = v) (hown : w.ownsRow base e size v n xs)
    (g m c : Nat) (news : List Value) (hx : a.eval x = .slice (some ⟨g, 0, none⟩) m c) (hr : ∀ j u, news[j]? = some u → w.cell? ⟨g, j, none⟩ = some u) (hl : news.length = m * size) (h1 : ∀ u ∈ news, u.oneCell' = true)
    (h63 : n + m ≤ maxLen) (hbytes : (n + m) * bytes ≤ 140737488355328) (hbase : base ≤ w.heap.size)
    (h : ∀ v' w', w'.ownsRow base e size v' (n + m) (xs ++ news) → w.grownBy w' v.ownBlock → (v'.ownBlock = v.ownBlock ∨ v'.ownBlock = some w.heap.size) → wpList P ops Q rest (a.put o.dst v') w') : wpList P ops Q (o :: rest) a w := by
  refine wpList_plain hgd fun K hK => ?_
  obtain ⟨v', w', hrun, h2, h3, _, h4⟩ := run_append_own_at (P := P) w base t o.type e i z size bytes ht hi hz hsize hby hzs hsz v n xs hown ⟨g, 0, none⟩ m c news hl (fun j u hu => by rw [Addr.add_lit, Nat.zero_add]; exact hr j u hu) h1 h63 hbytes hbase
  unfold Oper.wp execOp
  simp only [ho, resolve, invoke, builtin, Sem.run_bind, Sem.run_pure, Result.andThen_ok, List.map_toArray, List.map_cons, List.map_nil, hs, hx, hrun]
  exact hK _ _ (h v' w' h2 h3 h4)
end
/-- a block that is not the row's stays -/
theorem Blk.grown {w w' : World} {g : Nat} {t : TypeId} {cs : Array Value} {row : Option Nat} (h : Blk w g t cs) (hg : w.grownBy w' row) (hne : row ≠ some g) : Blk w' g t cs :=
  h.of (hg.block g h.lt (fun e => hne e.symm))
theorem blk_ne {w : World} {g g' : Nat} {t t' : TypeId} {cs cs' : Array Value} (h : Blk w g t cs) (h' : Blk w g' t' cs') (hne : t ≠ t') : g ≠ g' := by
  rintro rfl
  have := h.symm.trans h'
  simp at this
  exact hne this.2
theorem own_typ {w : World} {g B s n : Nat} {t e : TypeId} {cs : Array Value} {v : Value} {xs : List Value} (h : w.ownsRow B e s v n xs) (hB : Blk w g t cs) (hne : e ≠ t) : v.ownBlock ≠ some g := by
  rcases h.2 with ⟨rfl, _⟩ | ⟨k, cap, cur, rfl, _, hk, _⟩
  · simp [Value.ownBlock]
  · intro e2
    have e3 : k = g := by simpa [Value.ownBlock] using e2
    subst e3
    have := hk.symm.trans hB
    simp at this
    exact hne this.2
end Go.Proofs.Ythdcllnmnmemdaa
