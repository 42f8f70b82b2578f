/- Le Lf Lg Sb Kp Km: texts of the claim, in this order. -/
import Derived.Test.YtolclahkfmplfaaDoorWk2
import Derived.Lib.SliceRun
import Derived.Test.YtolclahkfmplfaaDoorWd1
/- Contracts: Lower, Find, Rank, for every run. -/
namespace Go.Proofs.YtolclahkfmplfaaDoor
open Go Go.RowKit
set_option maxRecDepth 100000

theorem chk_vals (l : List Ent) : chkE l = 0 ∨ chkE l = 4 ∨ chkE l = 8 ∨ chkE l = 130 := by
  unfold chkE fairE riseE
  repeat' split
  all_goals simp_all
theorem low_bad {l : List Ent} (key : Int) (h : ¬ chkE l = 0) : lowE l key = chkE l ∧ lowAt l key = 0 := by
  have h1 : lowE l key = chkE l := by unfold lowE; rw [if_pos h]
  exact ⟨h1, by unfold lowAt; rw [h1, if_neg h]⟩
theorem low_six {l : List Ent} {key : Int} (h : chkE l = 0) (hk : lowK l key = l.length) : lowE l key = 6 ∧ lowAt l key = 0 := by
  have h1 : lowE l key = 6 := by unfold lowE; rw [if_neg (by omega), if_pos hk]
  exact ⟨h1, by unfold lowAt; rw [h1]; rfl⟩
theorem low_at {l : List Ent} {key : Int} (h : chkE l = 0) (hk : ¬ lowK l key = l.length) : lowE l key = 0 ∧ (inord l.length 0)[lowK l key]? = some (lowAt l key) ∧ lowAt l key < l.length := by
  have h1 : lowE l key = 0 := by unfold lowE; rw [if_neg (by omega), if_neg hk]
  have hle := lowK_le l key
  have hlt : lowK l key < (inord l.length 0).length := by rw [inord_length]; omega
  have h2 : (inord l.length 0)[lowK l key]? = some (lowAt l key) := by unfold lowAt; rw [if_pos h1, List.getD_eq_getElem?_getD, List.getElem?_eq_getElem hlt]; rfl
  exact ⟨h1, h2, inord_lt (List.mem_of_getElem? h2)⟩
/-- what Find tells -/
def fdE (l : List Ent) (key : Int) : Int := if lowE l key ≠ 0 then lowE l key else if (entAt l (lowAt l key)).key = key then 0 else 6
def fdAt (l : List Ent) (key : Int) : Nat := if fdE l key = 0 then lowAt l key else 0
/-- what Rank tells -/
def rkN (l : List Ent) (key : Int) : Nat := if chkE l = 0 then lowK l key else 0

set_option maxHeartbeats 1000000 in
theorem lower_any (A : Option Addr) (l : List Ent) (c : Nat) (key : Int) (w : World) (hA : Sl w A (l.flatMap Ent.cells)) (hl : l.length ≤ 4611686018427387903) (hT : TabAt 1 Lib.deBruijn64tab w) :
    Calls Tryd.prog 29 #[.agg #[.slice A l.length c], .int .i64 key] w (GivesII (lowAt l key) (lowE l key) w) := by
  by_cases hC : chkE l = 0
  · exact lower_ok A l c key w hA hT hC
  · obtain ⟨h1, h2⟩ := low_bad key hC
    obtain ⟨E, hE⟩ : ∃ E, chkE l = E := ⟨_, rfl⟩
    rw [h1, h2, hE]
    rw [hE] at hC
    have HE := Lib.hid hE
    clear h1 h2 hE
    have hb0 : Below w.heap.size w ((w.alloc (.cells #[.slice A l.length c] 24)).alloc (.cells #[.int .i64 key] 2)) := ((Below.refl _ _).alloc (Nat.le_refl _) _).alloc (by simp) _
    go_enter Tryd.func29, Tryd.ntmps29
    go_wp2_with fail
    refine (check_any A l c _ (hA.below hb0) hl).mono ?_
    rw [HE.out]
    rintro e w1 ⟨rfl, hb1⟩
    go_wp2
    refine bodyPost_ret (v := .tuple #[.int .i64 0, .int .i64 E]) (by simp [results, Tryd.results29, go_sem]) rfl ?_
    exact ⟨rfl, bext hb0 hb1⟩

set_option maxHeartbeats 1000000 in
theorem find_any (A : Option Addr) (l : List Ent) (c : Nat) (key : Int) (w : World) (hA : Sl w A (l.flatMap Ent.cells)) (hl : l.length ≤ 4611686018427387903) (hT : TabAt 1 Lib.deBruijn64tab w) :
    Calls Tryd.prog 24 #[.agg #[.slice A l.length c], .int .i64 key] w (GivesII (fdAt l key) (fdE l key) w) := by
  have hb0 : Below w.heap.size w (w.alloc (.cells #[.slice A l.length c] 24)) := (Below.refl _ _).alloc (Nat.le_refl _) _
  have bX := Blk.new w 24 #[.slice A l.length c]
  have hT0 := Lib.hid (tab_below (tab_lt hT) hT hb0)
  obtain ⟨E, hE⟩ : ∃ E, lowE l key = E := ⟨_, rfl⟩
  by_cases h0 : E = 0
  · subst h0
    have hC : chkE l = 0 := by
      rcases chk_vals l with h | h | h | h
      · exact h
      all_goals (have := (low_bad key (show ¬ chkE l = 0 by omega)).1; omega)
    have hK : ¬ lowK l key = l.length := fun h => by have := (low_six hC h).1; omega
    obtain ⟨_, _, hat⟩ := low_at hC hK
    obtain ⟨at_, hx⟩ : ∃ at_, lowAt l key = at_ := ⟨_, rfl⟩
    rw [hx] at hat
    have hfe : fdE l key = if (entAt l at_).key = key then 0 else 6 := by unfold fdE; rw [if_neg (by omega), hx]
    rw [entAt_get hat] at hfe
    obtain ⟨b, off, rfl, hbl, c1, c2, c3⟩ := hA.ent at_ hat
    have hsl := Lib.hid hA
    generalize hp : (l[at_]'hat) = p at *
    have HE := Lib.hid hE
    have HX := Lib.hid hx
    have i0 : (0 : Int) ≤ (at_ : Int) := by omega
    have i1 : (at_ : Int) < (l.length : Int) := by omega
    by_cases hk : p.key = key
    · rw [if_pos hk] at hfe
      have hfa : fdAt l key = at_ := by unfold fdAt; rw [if_pos hfe, hx]
      rw [hfa, hfe]
      have hkk : (p.key == key) = true := by simpa using hk
      clear hE hx hC hK hfe hfa hA hp
      go_enter Tryd.func24, Tryd.ntmps24
      go_wp2_with fail
      refine (lower_any (some ⟨b, off, none⟩) l c key _ (hsl.out.below hb0) hl hT0.out).mono ?_
      unfold GivesII
      rw [HE.out, HX.out]
      rintro e w1 ⟨rfl, hb1⟩
      have hb01 := bext hb0 hb1
      have d0 : w1.cell? ⟨w.heap.size, 0, none⟩ = some (.slice (some ⟨b, off, none⟩) l.length c) := (bX.below hb1 bX.lt).cell 0
      have d1 : w1.cell? ⟨b, off + at_ * 3, none⟩ = some (.int .i64 p.key) := ((bcell hb01).1 b _ hbl).trans c1
      clear c1 c2 c3 bX hb1
      go_wp2
      refine bodyPost_ret (v := .tuple #[.int .i64 (at_ : Int), .int .i64 0]) (by simp [results, Tryd.results24, go_sem]) rfl ?_
      exact ⟨rfl, hb01⟩
    · rw [if_neg hk] at hfe
      have hfa : fdAt l key = 0 := by unfold fdAt; rw [hfe]; rfl
      rw [hfa, hfe]
      have hkk : (p.key == key) = false := by simpa using hk
      clear hE hx hC hK hfe hfa hA hp
      go_enter Tryd.func24, Tryd.ntmps24
      go_wp2_with fail
      refine (lower_any (some ⟨b, off, none⟩) l c key _ (hsl.out.below hb0) hl hT0.out).mono ?_
      unfold GivesII
      rw [HE.out, HX.out]
      rintro e w1 ⟨rfl, hb1⟩
      have hb01 := bext hb0 hb1
      have d0 : w1.cell? ⟨w.heap.size, 0, none⟩ = some (.slice (some ⟨b, off, none⟩) l.length c) := (bX.below hb1 bX.lt).cell 0
      have d1 : w1.cell? ⟨b, off + at_ * 3, none⟩ = some (.int .i64 p.key) := ((bcell hb01).1 b _ hbl).trans c1
      clear c1 c2 c3 bX hb1
      go_wp2
      refine bodyPost_ret (v := .tuple #[.int .i64 0, .int .i64 6]) (by simp [results, Tryd.results24, go_sem]) rfl ?_
      exact ⟨rfl, hb01⟩
  · have hfe : fdE l key = E := by unfold fdE; rw [hE, if_pos h0]
    have hfa : fdAt l key = 0 := by unfold fdAt; rw [hfe, if_neg h0]
    rw [hfa, hfe]
    have HE := Lib.hid hE
    have hA' := Lib.hid hA
    clear hE hfe hfa
    go_enter Tryd.func24, Tryd.ntmps24
    go_wp2_with fail
    refine (lower_any A l c key _ (hA'.out.below hb0) hl hT0.out).mono ?_
    unfold GivesII
    rw [HE.out]
    rintro e w1 ⟨rfl, hb1⟩
    go_wp2
    refine bodyPost_ret (v := .tuple #[.int .i64 0, .int .i64 E]) (by simp [results, Tryd.results24, go_sem]) rfl ?_
    exact ⟨rfl, bext hb0 hb1⟩


end Go.Proofs.YtolclahkfmplfaaDoor

/- Contract: two runs compared; plain facts: laid out and sorted again. -/
namespace Go.Proofs.YtolclahkfmplfaaDoor
open Go Go.RowKit
set_option maxRecDepth 100000

theorem in_laid (l : List Ent) : inL (laid l) = l := by
  refine List.ext_getElem? fun k => ?_
  by_cases hk : k < l.length
  · have hk2 : k < (inL (laid l)).length := by rw [inL_length, laid_length]; exact hk
    have hk3 : k < (inord (laid l).length 0).length := by rw [inord_length, laid_length]; exact hk
    rw [List.getElem?_eq_getElem hk2, List.getElem?_eq_getElem hk, inL_get]
    congr 1
    have hp : (inord (laid l).length 0)[k]'hk3 < (laid l).length := inord_lt (List.getElem_mem hk3)
    rw [entAt_get hp]
    have hidx := idx_inord hk3
    have h2 : ∀ a (ha : a < (laid l).length), (inord (laid l).length 0).idxOf a = k → (laid l)[a]'ha = l[k]'hk := by
      intro a ha he
      rw [laid_length] at he
      have hal : a < l.length := by rwa [laid_length] at ha
      have hr : a < (ranks l.length).length := by rw [ranks_length]; exact hal
      have : (laid l)[a]'ha = entAt l ((ranks l.length)[a]'hr) := by simp [laid]
      rw [this, ranks_get hal, he, entAt_get hk]
    exact h2 _ hp hidx
  · rw [List.getElem?_eq_none (by rw [inL_length, laid_length]; omega), List.getElem?_eq_none (by omega)]
theorem laid_in (x : List Ent) : laid (inL x) = x := by
  refine List.ext_getElem? fun a => ?_
  by_cases ha : a < x.length
  · have ha1 : a < (inL x).length := by rw [inL_length]; exact ha
    have ha2 : a < (laid (inL x)).length := by rw [laid_length]; exact ha1
    rw [List.getElem?_eq_getElem ha2, List.getElem?_eq_getElem ha]
    congr 1
    have hr : a < (ranks (inL x).length).length := by rw [ranks_length]; exact ha1
    have h1 : (laid (inL x))[a]'ha2 = entAt (inL x) ((ranks (inL x).length)[a]'hr) := by simp [laid]
    rw [h1, ranks_get ha1]
    have hlt := ranks_lt ha1
    rw [entAt_get hlt]
    have hlt2 : (inord (inL x).length 0).idxOf a < (inord x.length 0).length := by rw [inord_length, ← inL_length x]; exact hlt
    have h3 : ∀ k (hk : k < (inL x).length), k = (inord x.length 0).idxOf a → (inL x)[k]'hk = x[a]'ha := by
      intro k hk he
      rw [inL_get]
      subst he
      rw [inord_idx ha, entAt_get ha]
    exact h3 _ hlt (by rw [inL_length])
  · rw [List.getElem?_eq_none (by rw [laid_length, inL_length]; omega), List.getElem?_eq_none (by omega)]
theorem laid_mem {l : List Ent} {e : Ent} (h : e ∈ laid l) : e ∈ l := by
  obtain ⟨r, hr, rfl⟩ := List.mem_map.1 h
  unfold ranks at hr
  obtain ⟨a, ha, rfl⟩ := List.mem_map.1 hr
  have ha2 : a < l.length := by simpa using ha
  rw [entAt_get (ranks_lt ha2)]
  exact List.getElem_mem _
theorem inL_mem {l : List Ent} {e : Ent} (h : e ∈ inL l) : e ∈ l := by
  obtain ⟨r, hr, rfl⟩ := List.mem_map.1 h
  rw [entAt_get (inord_lt hr)]
  exact List.getElem_mem _
theorem build_parts {l : List Ent} (h : buildE l = 0) : fairE l = 0 ∧ rises (l.map Ent.key) = true := by
  unfold buildE at h
  unfold fairE
  split at h
  · cases h
  · rename_i h1
    split at h
    · cases h
    · rename_i h2
      split at h
      · rename_i h3; exact ⟨by rw [if_neg h1, if_neg h2], h3⟩
      · cases h
theorem fair_sub {l m : List Ent} (hlen : m.length ≤ l.length) (hm : ∀ e ∈ m, e ∈ l) (h : fairE l = 0) : fairE m = 0 := by
  have hl := fair_len h
  unfold fairE at h ⊢
  rw [if_neg (by omega)] at h ⊢
  cases hb : m.any badEnt
  · rfl
  · obtain ⟨e, he, hbe⟩ := List.any_eq_true.1 hb
    rw [if_pos (List.any_eq_true.2 ⟨e, hm e he, hbe⟩)] at h
    cases h
theorem build_chk {l : List Ent} (h : buildE l = 0) : chkE (laid l) = 0 := by
  obtain ⟨h1, h2⟩ := build_parts h
  have hf := fair_sub (m := laid l) (by rw [laid_length]; exact Nat.le_refl _) (fun e he => laid_mem he) h1
  unfold chkE
  rw [if_neg (by omega), in_laid]
  unfold riseE
  rw [if_pos h2]
theorem chk_build {x : List Ent} (h : chkE x = 0) : buildE (inL x) = 0 := by
  obtain ⟨h1, h2, h3⟩ := chk_ok h
  have hf := fair_sub (m := inL x) (by rw [inL_length]; exact Nat.le_refl _) (fun e he => inL_mem he) h1
  have hl := fair_len hf
  unfold fairE at hf
  rw [if_neg (by omega)] at hf
  unfold buildE
  rw [if_neg (by omega)]
  split at hf
  · cases hf
  · rename_i hb
    rw [if_neg hb, if_pos h2]

end Go.Proofs.YtolclahkfmplfaaDoor

/- Contracts: the references of bound; copies of runs. -/
namespace Go.Proofs.YtolclahkfmplfaaDoor
open Go Go.RowKit
set_option maxRecDepth 100000

theorem inL_perm (l : List Ent) : (inL l).Perm l := by
  have h := (inord_perm l.length).map (entAt l)
  have e : (List.range l.length).map (entAt l) = l := by
    refine List.ext_getElem? fun i => ?_
    by_cases hi : i < l.length
    · simp [hi, entAt_get hi]
    · rw [List.getElem?_eq_none (by simp; omega), List.getElem?_eq_none (by omega)]
  rw [e] at h
  exact h
def belK (l : List Ent) (key : Int) : Nat := l.countP (fun e => decide (e.key < key))
theorem lowK_bel (l : List Ent) (key : Int) : lowK l key = belK l key := by
  have h := (inL_perm l).countP_eq (fun e => decide (e.key < key))
  unfold belK
  rw [← h]
  unfold lowK inL
  rw [List.countP_map]
  rfl
theorem belK_succ {l : List Ent} {k : Nat} (h : k < l.length) (key : Int) : belK (l.take (k + 1)) key = belK (l.take k) key + (if (l[k]'h).key < key then 1 else 0) := by
  unfold belK
  rw [List.take_succ_eq_append_getElem h, List.countP_append, List.countP_cons, List.countP_nil]
  simp
theorem belK_le (l : List Ent) (key : Int) : belK l key ≤ l.length := List.countP_le_length




end Go.Proofs.YtolclahkfmplfaaDoor

/- What a region that draws its order keeps: all that was there in the base world is as it was. No program in sight. -/
namespace Go.Proofs.YtolclahkfmplfaaDoor
open Go Go.RowKit

/-- the facts of a later world: old cells, old marks, old blocks -/
theorem wfacts {W w1 : World} {B : Nat} (hb : Below B W w1) : (∀ b o, b < B → w1.cell? ⟨b, o, none⟩ = W.cell? ⟨b, o, none⟩) ∧ (∀ b o, b < B → w1.frozen? ⟨b, o, none⟩ = W.frozen? ⟨b, o, none⟩) ∧ (∀ b, b < W.heap.size → b < w1.heap.size) :=
  ⟨(bcell hb).1, (bcell hb).2, fun _ h => Nat.lt_of_lt_of_le h hb.size⟩
theorem undrew {B : Nat} {w W : World} (h : Below B w W.drew) : Below B w W := ⟨h.os, h.tape, h.output, h.size, h.block⟩

/-- all that was there in w is in W as it was -/
abbrev SB (w W : World) : Prop := (∀ b o, b < w.heap.size → W.cell? ⟨b, o, none⟩ = w.cell? ⟨b, o, none⟩) ∧ (∀ b o, b < w.heap.size → W.frozen? ⟨b, o, none⟩ = w.frozen? ⟨b, o, none⟩) ∧ w.heap.size ≤ W.heap.size ∧ Below w.heap.size w W
section
variable {w W W' : World}
theorem SB.of (h : Below w.heap.size w W) : SB w W := ⟨(bcell h).1, (bcell h).2, h.size, h⟩
theorem SB.bel (h : SB w W) : Below w.heap.size w W := h.2.2.2
theorem SB.init : SB w w.drew := SB.of (Below.refl _ _).drew
theorem SB.init0 : SB w w := SB.of (Below.refl _ _)
theorem SB.below (hb : Below W.heap.size W W') (h : SB w W) : SB w W' := SB.of (bext h.bel hb)
theorem SB.drew (h : SB w W) : SB w W.drew := SB.of h.bel.drew
theorem SB.undrew (h : SB w W.drew) : SB w W := SB.of (_root_.Go.Proofs.YtolclahkfmplfaaDoor.undrew h.bel)
theorem SB.alloc (x : Obj) (h : SB w W) : SB w (W.alloc x) := SB.of (h.bel.alloc h.bel.size x)
theorem SB.allocD (x : Obj) (h : SB w W.drew) : SB w (W.alloc x).drew := (SB.alloc x h.undrew).drew
theorem SB.le (hb : Below W.heap.size W W') (h : SB w W) : w.heap.size ≤ W'.heap.size := Nat.le_trans h.2.2.1 hb.size
theorem SB.re {x : Obj} (y : Obj) (hw : w.heap.size ≤ W.heap.size) (h : SB w (W.alloc x)) : SB w (W.alloc y) :=
  SB.of ⟨h.bel.os, h.bel.tape, h.bel.output, by simp; omega, fun b hb => (Below.heap_alloc W y b (by omega)).trans ((Below.heap_alloc W x b (by omega)).symm.trans (h.bel.block b hb))⟩
theorem SB.re2 {x z : Obj} (y : Obj) (hw : w.heap.size ≤ W.heap.size) (h : SB w ((W.alloc x).alloc z)) : SB w ((W.alloc y).alloc z) :=
  SB.of ⟨h.bel.os, h.bel.tape, h.bel.output, by simp; omega, fun b hb => ((Below.heap_alloc (W.alloc y) z b (by simp; omega)).trans (Below.heap_alloc W y b (by omega))).trans (((Below.heap_alloc (W.alloc x) z b (by simp; omega)).trans (Below.heap_alloc W x b (by omega))).symm.trans (h.bel.block b hb))⟩
theorem SB.re2D {x z : Obj} (y : Obj) (hw : w.heap.size ≤ W.heap.size) (h : SB w ((W.alloc x).alloc z).drew) : SB w ((W.alloc y).alloc z).drew := (SB.re2 y hw h.undrew).drew
theorem SB.reD {x : Obj} (y : Obj) (hw : w.heap.size ≤ W.heap.size) (h : SB w (W.alloc x).drew) : SB w (W.alloc y).drew := (SB.re y hw h.undrew).drew
theorem SB.set {g : Nat} (hg : w.heap.size ≤ g) (i : Nat) (y : Value) (h : SB w W) : SB w (W.setCell ⟨g, i, none⟩ y) := SB.of (h.bel.setCell (p := ⟨g, i, none⟩) hg y)
theorem SB.two {g : Nat} (hg : w.heap.size ≤ g) (y0 y1 : Value) (h : SB w W) : SB w ((W.setCell ⟨g, 0, none⟩ y0).setCell ⟨g, 1, none⟩ y1) := SB.set hg _ _ (SB.set hg _ _ h)
theorem SB.three {g : Nat} (hg : w.heap.size ≤ g) (y0 y1 y2 : Value) (h : SB w W) : SB w (((W.setCell ⟨g, 0, none⟩ y0).setCell ⟨g, 1, none⟩ y1).setCell ⟨g, 2, none⟩ y2) := SB.set hg _ _ (SB.two hg _ _ h)
theorem SB.four {g : Nat} (hg : w.heap.size ≤ g) (y0 y1 y2 y3 : Value) (h : SB w W) : SB w ((((W.setCell ⟨g, 0, none⟩ y0).setCell ⟨g, 1, none⟩ y1).setCell ⟨g, 2, none⟩ y2).setCell ⟨g, 3, none⟩ y3) := SB.set hg _ _ (SB.three hg _ _ _ h)
end

/-! ### a cell that is written -/
theorem cell_other {w : World} {g g' i j : Nat} (v : Value) (h : g' ≠ g) : (w.setCell ⟨g, i, none⟩ v).cell? ⟨g', j, none⟩ = w.cell? ⟨g', j, none⟩ := World.cell?_of_block (a := ⟨g', j, none⟩) (Below.heap_setCell w ⟨g, i, none⟩ v g' h)
theorem cell_same {w : World} {g i : Nat} {u : Value} (v : Value) (h : w.cell? ⟨g, i, none⟩ = some u) : (w.setCell ⟨g, i, none⟩ v).cell? ⟨g, i, none⟩ = some v := by
  have hg : g < w.heap.size := World.block_lt_of_cell? w _ h
  unfold World.cell? at h ⊢
  simp only [World.setCell, Array.getElem?_modify]
  cases ho : w.heap[g]? with
  | none => rw [ho] at h; cases h
  | some o =>
    rw [ho] at h
    cases o with
    | cells cs t fr =>
      simp at h ⊢
      have hi : i < cs.size := by
        rcases Nat.lt_or_ge i cs.size with h2 | h2
        · exact h2
        · rw [Array.getElem?_eq_none h2] at h; cases h
      simp [hi]
    | _ => simp at h

/-! ### a slice that has just been built -/
theorem sl_new1 (W : World) (t : TypeId) (cs : Array Value) : Sl (W.alloc (.cells cs t)) (some ⟨W.heap.size, 0, none⟩) cs.toList :=
  (Blk.new W t cs).sl 0 _ (by intro j u hu; simpa using hu)
theorem sl_new1D (W : World) (t : TypeId) (cs : Array Value) : Sl (W.alloc (.cells cs t)).drew (some ⟨W.heap.size, 0, none⟩) cs.toList := sl_new1 W t cs
theorem sl_old (W : World) (x : Obj) (t : TypeId) (cs : Array Value) : Sl ((W.alloc (.cells cs t)).alloc x) (some ⟨W.heap.size, 0, none⟩) cs.toList :=
  ((Blk.new W t cs).alloc x).sl 0 _ (by intro j u hu; simpa using hu)
theorem sl_new2 (W : World) (x : Obj) (t : TypeId) (cs : Array Value) : Sl ((W.alloc x).alloc (.cells cs t)) (some ⟨W.heap.size + 1, 0, none⟩) cs.toList := by
  have := sl_new1 (W.alloc x) t cs
  rwa [World.size_alloc] at this
end Go.Proofs.YtolclahkfmplfaaDoor

/- Plain facts: sorted lists of entries in one; heaps. No program in sight. -/
namespace Go.Proofs.YtolclahkfmplfaaDoor
open Go

def RisE (l : List Ent) : Prop := l.Pairwise (fun a b => a.key < b.key)
theorem RisE.cons {a : Ent} {l : List Ent} : RisE (a :: l) ↔ (∀ e ∈ l, a.key < e.key) ∧ RisE l := List.pairwise_cons
theorem RisE.nil : RisE [] := List.Pairwise.nil
def look (l : List Ent) (k : Int) : Option Ent := l.find? (fun e => e.key == k)
theorem look_cons (a : Ent) (l : List Ent) (k : Int) : look (a :: l) k = if a.key = k then some a else look l k := by
  unfold look
  rw [List.find?_cons]
  by_cases h : a.key = k
  · simp [h]
  · have h2 : (a.key == k) = false := by simpa using h
    rw [if_neg h, h2]
theorem look_none {l : List Ent} {k : Int} (h : ∀ e ∈ l, k < e.key) : look l k = none := by
  unfold look
  rw [List.find?_eq_none]
  intro e he
  have := h e he
  simp; omega
theorem look_key {l : List Ent} {k : Int} {e : Ent} (h : look l k = some e) : e.key = k ∧ e ∈ l := by
  unfold look at h
  exact ⟨by simpa using List.find?_some h, List.mem_of_find?_eq_some h⟩
theorem look_mem {l : List Ent} (hr : RisE l) {e : Ent} (h : e ∈ l) : look l e.key = some e := by
  induction l with
  | nil => simp at h
  | cons a l ih =>
    obtain ⟨h1, h2⟩ := RisE.cons.1 hr
    rw [look_cons]
    rcases List.mem_cons.1 h with rfl | h
    · rw [if_pos rfl]
    · have := h1 e h
      rw [if_neg (by omega), ih h2 h]
theorem look_append (l m : List Ent) (k : Int) : look (l ++ m) k = (look l k).or (look m k) := by unfold look; rw [List.find?_append]
/-- rising lists that answer alike are the same -/
theorem look_ext : ∀ {x y : List Ent}, RisE x → RisE y → (∀ k, look x k = look y k) → x = y
  | [], [], _, _, _ => rfl
  | a :: x, [], _, _, h => by have := h a.key; rw [look_cons, if_pos rfl] at this; cases this
  | [], b :: y, _, _, h => by have := h b.key; rw [look_cons, if_pos rfl] at this; cases this
  | a :: x, b :: y, hx, hy, h => by
    obtain ⟨a1, a2⟩ := RisE.cons.1 hx
    obtain ⟨b1, b2⟩ := RisE.cons.1 hy
    have ha := h a.key
    have hb := h b.key
    rw [look_cons, if_pos rfl, look_cons] at ha
    rw [look_cons, look_cons, if_pos rfl] at hb
    have hk : a.key = b.key := by
      rcases Int.lt_trichotomy a.key b.key with hlt | heq | hgt
      · rw [if_neg (by omega), look_none (fun e he => by have := b1 e he; omega)] at ha; cases ha
      · exact heq
      · rw [if_neg (by omega), look_none (fun e he => by have := a1 e he; omega)] at hb; cases hb
    rw [if_pos hk.symm] at ha
    have hab : a = b := by simpa using ha
    subst hab
    congr 1
    refine look_ext a2 b2 fun k => ?_
    have hk2 := h k
    rw [look_cons, look_cons] at hk2
    by_cases e : a.key = k
    · subst e; rw [look_none a1, look_none b1]
    · rwa [if_neg e, if_neg e] at hk2

/-- two lists, the first one's where both have a key -/
def bothE : List Ent → List Ent → List Ent
  | [], b => b
  | x :: a, [] => x :: a
  | x :: a, y :: b => if x.key < y.key then x :: bothE a (y :: b) else if x.key = y.key then x :: bothE a b else y :: bothE (x :: a) b
termination_by a b => a.length + b.length
theorem bothE_gt (K : Int) : ∀ (n : Nat) (a b : List Ent), a.length + b.length ≤ n → (∀ e ∈ a, K < e.key) → (∀ e ∈ b, K < e.key) → ∀ e ∈ bothE a b, K < e.key := by
  intro n
  induction n with
  | zero => intro a b h ha hb; cases a <;> cases b <;> simp at h; simp [bothE]
  | succ n ih =>
    intro a b h ha hb
    cases a with
    | nil => rw [bothE]; exact hb
    | cons x a =>
      cases b with
      | nil => rw [bothE]; exact ha
      | cons y b =>
        simp only [List.length_cons] at h
        have hx := ha x (by simp)
        have hy := hb y (by simp)
        have ha' : ∀ e ∈ a, K < e.key := fun e he => ha e (by simp [he])
        have hb' : ∀ e ∈ b, K < e.key := fun e he => hb e (by simp [he])
        rw [bothE]
        split
        · intro e he
          rcases List.mem_cons.1 he with rfl | he
          · exact hx
          · exact ih a (y :: b) (by simp; omega) ha' hb e he
        · split
          · intro e he
            rcases List.mem_cons.1 he with rfl | he
            · exact hx
            · exact ih a b (by omega) ha' hb' e he
          · intro e he
            rcases List.mem_cons.1 he with rfl | he
            · exact hy
            · exact ih (x :: a) b (by simp; omega) ha hb' e he
theorem bothE_law : ∀ (n : Nat) (a b : List Ent), a.length + b.length ≤ n → RisE a → RisE b → RisE (bothE a b) ∧ ∀ k, look (bothE a b) k = (look a k).or (look b k) := by
  intro n
  induction n with
  | zero => intro a b h ha hb; cases a <;> cases b <;> simp at h; simp [bothE, RisE, look]
  | succ n ih =>
    intro a b h ha hb
    cases a with
    | nil => rw [bothE]; exact ⟨hb, fun k => by simp [look]⟩
    | cons x a =>
      cases b with
      | nil => rw [bothE]; exact ⟨ha, fun k => by simp [look]⟩
      | cons y b =>
        simp only [List.length_cons] at h
        obtain ⟨a1, a2⟩ := RisE.cons.1 ha
        obtain ⟨b1, b2⟩ := RisE.cons.1 hb
        rw [bothE]
        split
        · rename_i hlt
          obtain ⟨r1, r2⟩ := ih a (y :: b) (by simp; omega) a2 hb
          refine ⟨RisE.cons.2 ⟨bothE_gt x.key _ a (y :: b) (Nat.le_refl _) a1 (fun e he => ?_), r1⟩, fun k => ?_⟩
          · rcases List.mem_cons.1 he with rfl | he
            · exact hlt
            · have := b1 e he; omega
          · rw [look_cons, look_cons x a, r2]
            split <;> simp
        · rename_i hlt
          split
          · rename_i heq
            obtain ⟨r1, r2⟩ := ih a b (by omega) a2 b2
            refine ⟨RisE.cons.2 ⟨bothE_gt x.key _ a b (Nat.le_refl _) a1 (fun e he => by have := b1 e he; omega), r1⟩, fun k => ?_⟩
            rw [look_cons, look_cons x a, look_cons y b, r2]
            by_cases e : x.key = k
            · rw [if_pos e, if_pos e]; simp
            · rw [if_neg e, if_neg e, if_neg (by omega)]
          · rename_i hne
            obtain ⟨r1, r2⟩ := ih (x :: a) b (by simp; omega) ha b2
            refine ⟨RisE.cons.2 ⟨bothE_gt y.key _ (x :: a) b (Nat.le_refl _) (fun e he => ?_) b1, r1⟩, fun k => ?_⟩
            · rcases List.mem_cons.1 he with rfl | he
              · omega
              · have := a1 e he; omega
            · rw [look_cons, look_cons y b, r2]
              by_cases e : y.key = k
              · rw [if_pos e, if_pos e, look_none (l := x :: a)]
                · rfl
                · intro q hq
                  rcases List.mem_cons.1 hq with rfl | hq
                  · omega
                  · have := a1 q hq; omega
              · rw [if_neg e, if_neg e]
theorem bothE_ris {a b : List Ent} (ha : RisE a) (hb : RisE b) : RisE (bothE a b) := (bothE_law _ a b (Nat.le_refl _) ha hb).1
theorem bothE_look {a b : List Ent} (ha : RisE a) (hb : RisE b) (k : Int) : look (bothE a b) k = (look a k).or (look b k) := (bothE_law _ a b (Nat.le_refl _) ha hb).2 k
theorem bothE_len : ∀ (n : Nat) (a b : List Ent), a.length + b.length ≤ n → (bothE a b).length ≤ a.length + b.length := by
  intro n
  induction n with
  | zero => intro a b h; cases a <;> cases b <;> simp at h; simp [bothE]
  | succ n ih =>
    intro a b h
    cases a with
    | nil => rw [bothE]; simp
    | cons x a =>
      cases b with
      | nil => rw [bothE]; simp
      | cons y b =>
        simp only [List.length_cons] at h ⊢
        rw [bothE]
        split
        · have := ih a (y :: b) (by simp; omega); simp at this ⊢; omega
        · split
          · have := ih a b (by omega); simp at this ⊢; omega
          · have := ih (x :: a) b (by simp; omega); simp at this ⊢; omega

/-- what the newest run that has a key has -/
def newest (rs : List (List Ent)) (k : Int) : Option Ent := rs.findSome? (fun r => look r k)
theorem newest_cons (r : List Ent) (rs : List (List Ent)) (k : Int) : newest (r :: rs) k = (look r k).or (newest rs k) := by
  unfold newest
  rw [List.findSome?_cons]
  cases look r k <;> rfl
/-- all runs in one, the newest first -/
def allE (rs : List (List Ent)) : List Ent := rs.foldl bothE []
theorem fold_law : ∀ (rs : List (List Ent)) {acc : List Ent}, RisE acc → (∀ r ∈ rs, RisE r) → RisE (rs.foldl bothE acc) ∧ ∀ k, look (rs.foldl bothE acc) k = (look acc k).or (newest rs k)
  | [], acc, ha, _ => ⟨ha, fun k => by simp [newest]⟩
  | r :: rs, acc, ha, hr => by
    have h1 := hr r (by simp)
    obtain ⟨g1, g2⟩ := fold_law rs (bothE_ris ha h1) (fun q hq => hr q (by simp [hq]))
    refine ⟨g1, fun k => ?_⟩
    rw [List.foldl_cons, g2, bothE_look ha h1, newest_cons, Option.or_assoc]
theorem all_unique {rs : List (List Ent)} (hr : ∀ r ∈ rs, RisE r) {out : List Ent} (ho : RisE out) (h : ∀ k, look out k = newest rs k) : out = allE rs := by
  obtain ⟨g1, g2⟩ := fold_law rs RisE.nil hr
  exact look_ext ho g1 fun k => by rw [h]; unfold allE; have := g2 k; rw [this]; simp [look]
theorem fold_len : ∀ (rs : List (List Ent)) (acc : List Ent), (rs.foldl bothE acc).length ≤ acc.length + (rs.map List.length).sum
  | [], acc => by simp
  | r :: rs, acc => by
    have h1 := fold_len rs (bothE acc r)
    have h2 := bothE_len _ acc r (Nat.le_refl _)
    simp only [List.foldl_cons, List.map_cons, List.sum_cons]
    omega

/-! ### heaps -/
/-- what is left of a run, and its age -/
structure Hd where
  e : Ent
  rest : List Ent
  age : Nat
def hlt (a b : Hd) : Bool := if a.e.key = b.e.key then decide (a.age < b.age) else decide (a.e.key < b.e.key)
def hle (a b : Hd) : Prop := a.e.key < b.e.key ∨ (a.e.key = b.e.key ∧ a.age ≤ b.age)
theorem hlt_iff (a b : Hd) : hlt a b = true ↔ (a.e.key < b.e.key ∨ (a.e.key = b.e.key ∧ a.age < b.age)) := by
  unfold hlt
  split
  · rename_i h; simp [h]
  · rename_i h; simp [h]
theorem hle_of_not {a b : Hd} (h : hlt a b = false) : hle b a := by
  have := mt (hlt_iff a b).2 (by rw [h]; simp)
  unfold hle
  omega
theorem hle_of_lt {a b : Hd} (h : hlt a b = true) : hle a b := by
  have := (hlt_iff a b).1 h
  unfold hle
  omega
theorem hle_trans {a b c : Hd} (h1 : hle a b) (h2 : hle b c) : hle a c := by unfold hle at *; omega
theorem hle_refl (a : Hd) : hle a a := by unfold hle; omega

/-- from a place on, no thing is greater than those under it -/
def HeapFrom (H : List Hd) (i0 : Nat) : Prop := ∀ j c (hc : c < H.length) (hj : j < c), i0 ≤ j → (c = 2 * j + 1 ∨ c = 2 * j + 2) → hle (H[j]'(by omega)) (H[c]'hc)
/-- the same, but for one place, that sinks -/
def Sinks (H : List Hd) (i0 i : Nat) : Prop :=
  (∀ j c (hc : c < H.length) (hj : j < c), i0 ≤ j → j ≠ i → (c = 2 * j + 1 ∨ c = 2 * j + 2) → hle (H[j]'(by omega)) (H[c]'hc)) ∧
  (∀ p c (hc : c < H.length) (hp : p < c), i0 ≤ p → (i = 2 * p + 1 ∨ i = 2 * p + 2) → (c = 2 * i + 1 ∨ c = 2 * i + 2) → hle (H[p]'(by omega)) (H[c]'hc))
theorem Sinks.start {H : List Hd} {i0 : Nat} (h : HeapFrom H (i0 + 1)) : Sinks H i0 i0 :=
  ⟨fun j c hc hj h0 hne hcc => h j c hc hj (by omega) hcc, fun p c hc hp h0 hi hcc => by omega⟩
theorem Sinks.done {H : List Hd} {i0 i : Nat} (h : Sinks H i0 i) (hd : ∀ c (hc : c < H.length) (hi : i < c), (c = 2 * i + 1 ∨ c = 2 * i + 2) → hle (H[i]'(by omega)) (H[c]'hc)) : HeapFrom H i0 := by
  intro j c hc hj h0 hcc
  by_cases e : j = i
  · subst e; exact hd c hc hj hcc
  · exact h.1 j c hc hj h0 e hcc
def swapL (H : List Hd) (i k : Nat) (hi : i < H.length) (hk : k < H.length) : List Hd := (H.set i (H[k]'hk)).set k (H[i]'hi)
theorem swap_length (H : List Hd) (i k : Nat) (hi : i < H.length) (hk : k < H.length) : (swapL H i k hi hk).length = H.length := by simp [swapL]
theorem swap_get {H : List Hd} {i k : Nat} (hi : i < H.length) (hk : k < H.length) (_hik : i ≠ k) (j : Nat) (hj : j < (swapL H i k hi hk).length) :
    (swapL H i k hi hk)[j]'hj = if j = k then H[i]'hi else if j = i then H[k]'hk else H[j]'(by rw [swap_length] at hj; exact hj) := by
  have hg : ∀ hj2 : j < ((H.set i (H[k]'hk)).set k (H[i]'hi)).length, ((H.set i (H[k]'hk)).set k (H[i]'hi))[j]'hj2 = if j = k then H[i]'hi else if j = i then H[k]'hk else H[j]'(by rw [swap_length] at hj; exact hj) := by
    intro hj2
    rw [List.getElem_set]
    by_cases h1 : k = j
    · rw [if_pos h1, if_pos h1.symm]
    · rw [if_neg h1, if_neg (fun e => h1 e.symm), List.getElem_set]
      by_cases h2 : i = j
      · rw [if_pos h2, if_pos h2.symm]
      · rw [if_neg h2, if_neg (fun e => h2 e.symm)]
  exact hg hj
theorem swap_perm {H : List Hd} {i k : Nat} (hi : i < H.length) (hk : k < H.length) : (swapL H i k hi hk).Perm H := by
  unfold swapL
  exact List.set_set_perm hi hk
theorem Sinks.step {H : List Hd} {i0 i k : Nat} (h : Sinks H i0 i) (h0 : i0 ≤ i) (hi : i < H.length) (hk : k < H.length) (hkc : k = 2 * i + 1 ∨ k = 2 * i + 2) (hlt' : hlt (H[k]'hk) (H[i]'hi) = true)
    (hmin : ∀ c (hc : c < H.length), (c = 2 * i + 1 ∨ c = 2 * i + 2) → hle (H[k]'hk) (H[c]'hc)) : Sinks (swapL H i k hi hk) i0 k := by
  have hik : i ≠ k := by omega
  have hki := hle_of_lt hlt'
  constructor
  · intro j c hc hj hj0 hne hcc
    have hc' : c < H.length := by rwa [swap_length] at hc
    rw [swap_get hi hk hik, swap_get hi hk hik, if_neg hne]
    by_cases e1 : j = i
    · rw [if_pos e1]
      by_cases e2 : c = k
      · rw [if_pos e2]; exact hki
      · rw [if_neg e2, if_neg (by omega)]; exact hmin c hc' (by omega)
    · rw [if_neg e1, if_neg (by omega)]
      by_cases e3 : c = i
      · rw [if_pos e3]
        exact h.2 j k hk (by omega) hj0 (by omega) hkc
      · rw [if_neg e3]
        exact h.1 j c hc' hj hj0 e1 hcc
  · intro p c hc hp hp0 hkp hcc
    have hc' : c < H.length := by rwa [swap_length] at hc
    have hpi : p = i := by omega
    subst hpi
    rw [swap_get hi hk hik, swap_get hi hk hik, if_neg hik, if_pos rfl, if_neg (by omega), if_neg (by omega)]
    exact h.1 k c hc' (by omega) (by omega) (by omega) hcc
theorem heap_top {H : List Hd} (h : HeapFrom H 0) : ∀ j (hj : j < H.length), hle (H[0]'(by omega)) (H[j]'hj) := by
  intro j
  induction j using Nat.strongRecOn with
  | _ j ih =>
    intro hj
    by_cases e : j = 0
    · subst e; exact hle_refl _
    · have hp : (j - 1) / 2 < j := by omega
      exact hle_trans (ih _ hp (by omega)) (h ((j - 1) / 2) j hj hp (Nat.zero_le _) (by omega))
theorem heap_leaves {H : List Hd} {i : Nat} (h : H.length / 2 ≤ i) : HeapFrom H i := by
  intro j c hc hj h0 hcc
  omega
end Go.Proofs.YtolclahkfmplfaaDoor

/- Plain facts: merging runs by a heap of what is left of each. No program in sight. -/
namespace Go.Proofs.YtolclahkfmplfaaDoor
open Go

/-- what stands while runs are merged -/
def MInv (rs : List (List Ent)) (out : List Ent) (H : List Hd) : Prop :=
  RisE out ∧ (∀ e ∈ out, newest rs e.key = some e) ∧
  (∀ h ∈ H, ∃ r, rs[h.age]? = some r ∧ ∃ c, r = c ++ h.e :: h.rest ∧ ∀ e ∈ c, ∃ o ∈ out, o.key = e.key) ∧
  (∀ a r, rs[a]? = some r → (∃ h ∈ H, h.age = a) ∨ (∀ e ∈ r, ∃ o ∈ out, o.key = e.key)) ∧
  (∀ h ∈ H, ∀ o ∈ out, o.key ≤ h.e.key)
theorem MInv.perm {rs : List (List Ent)} {out : List Ent} {H H' : List Hd} (h : MInv rs out H) (hp : H'.Perm H) : MInv rs out H' := by
  obtain ⟨h1, h2, h3, h4, h5⟩ := h
  refine ⟨h1, h2, fun x hx => h3 x (hp.mem_iff.1 hx), fun a r hr => ?_, fun x hx => h5 x (hp.mem_iff.1 hx)⟩
  rcases h4 a r hr with ⟨x, hx, e⟩ | h
  · exact .inl ⟨x, hp.mem_iff.2 hx, e⟩
  · exact .inr h
theorem newest_at : ∀ {rs : List (List Ent)} {a : Nat} {r : List Ent} {k : Int} {e : Ent}, rs[a]? = some r → look r k = some e → (∀ b, b < a → ∀ r', rs[b]? = some r' → look r' k = none) → newest rs k = some e
  | [], _, _, _, _, h, _, _ => by simp at h
  | r0 :: rs, 0, r, k, e, h, hl, _ => by
    have : r0 = r := by simpa using h
    subst this
    rw [newest_cons, hl]; rfl
  | r0 :: rs, a + 1, r, k, e, h, hl, hb => by
    rw [newest_cons, hb 0 (by omega) r0 rfl, newest_at (rs := rs) (a := a) (by simpa using h) hl (fun b hlt r' hr' => hb (b + 1) (by omega) r' (by simpa using hr'))]
    rfl
theorem newest_mem : ∀ {rs : List (List Ent)} {k : Int} {e : Ent}, newest rs k = some e → ∃ (a : Nat) (r : List Ent), rs[a]? = some r ∧ e ∈ r ∧ e.key = k
  | [], _, _, h => by simp [newest] at h
  | r :: rs, k, e, h => by
    rw [newest_cons] at h
    cases hl : look r k with
    | some x =>
      rw [hl] at h
      have : x = e := by simpa using h
      subst this
      exact ⟨0, r, rfl, (look_key hl).2, (look_key hl).1⟩
    | none =>
      rw [hl] at h
      obtain ⟨a, r', h1, h2⟩ := newest_mem (rs := rs) (by simpa using h)
      exact ⟨a + 1, r', by simpa using h1, h2⟩
theorem ris_part {c l : List Ent} {e : Ent} (h : RisE (c ++ e :: l)) : ∀ x ∈ l, e.key < x.key := by
  have := (List.pairwise_append.1 h).2.1
  exact (List.pairwise_cons.1 this).1
/-- is the least key not yet out? -/
def fresh (out : List Ent) (k : Int) : Bool := match out.getLast? with | none => true | some o => !(o.key == k)
theorem fresh_no {out : List Ent} {k : Int} (hr : RisE out) (hle : ∀ o ∈ out, o.key ≤ k) (h : fresh out k = true) : ∀ o ∈ out, o.key < k := by
  intro o ho
  rcases List.eq_nil_or_concat out with rfl | ⟨l, z, rfl⟩
  · simp at ho
  · rw [List.concat_eq_append] at *
    unfold fresh at h
    rw [List.getLast?_append] at h
    have hz : z.key ≠ k := by simpa using h
    have hz2 := hle z (by simp)
    rcases List.mem_append.1 ho with ho | ho
    · have := (List.pairwise_append.1 hr).2.2 o ho z (by simp)
      omega
    · obtain rfl : o = z := by simpa using ho
      omega
theorem fresh_has {out : List Ent} {k : Int} (h : fresh out k = false) : ∃ o ∈ out, o.key = k := by
  unfold fresh at h
  cases hg : out.getLast? with
  | none => rw [hg] at h; cases h
  | some z =>
    rw [hg] at h
    exact ⟨z, List.mem_of_getLast? hg, by simpa using h⟩
def outOf (out : List Ent) (e : Ent) : List Ent := if fresh out e.key = true then out ++ [e] else out
def nextHd (t : Hd) : List Hd := match t.rest with | [] => [] | e :: l => [⟨e, l, t.age⟩]
theorem MInv.step {rs : List (List Ent)} (hrs : ∀ r ∈ rs, RisE r) {out : List Ent} {t : Hd} {H : List Hd} (h : MInv rs out (t :: H)) (ht : ∀ x ∈ H, hle t x) : MInv rs (outOf out t.e) (nextHd t ++ H) := by
  obtain ⟨h1, h2, h3, h4, h5⟩ := h
  obtain ⟨r, hr, c, hc, hcov⟩ := h3 t (by simp)
  have hrr : RisE r := hrs r (List.mem_of_getElem? hr)
  have hlo := h5 t (by simp)
  have hsub : ∀ o ∈ out, o ∈ outOf out t.e := by
    intro o ho
    unfold outOf
    split
    · exact List.mem_append_left _ ho
    · exact ho
  have hcov' : ∃ o ∈ outOf out t.e, o.key = t.e.key := by
    unfold outOf
    cases hf : fresh out t.e.key
    · rw [if_neg (by simp)]; exact fresh_has hf
    · rw [if_pos rfl]; exact ⟨t.e, by simp, rfl⟩
  have hall : ∀ x ∈ c ++ [t.e], ∃ o ∈ outOf out t.e, o.key = x.key := by
    intro x hx
    rcases List.mem_append.1 hx with hx | hx
    · obtain ⟨o, ho, e⟩ := hcov x hx
      exact ⟨o, hsub o ho, e⟩
    · obtain rfl : x = t.e := by simpa using hx
      exact hcov'
  have hmemo : ∀ o ∈ outOf out t.e, o ∈ out ∨ (o = t.e ∧ fresh out t.e.key = true) := by
    intro o ho
    unfold outOf at ho
    split at ho
    · rename_i hf
      rcases List.mem_append.1 ho with ho | ho
      · exact .inl ho
      · exact .inr ⟨by simpa using ho, hf⟩
    · exact .inl ho
  refine ⟨?_, ?_, ?_, ?_, ?_⟩
  · unfold outOf
    split
    · rename_i hf
      refine List.pairwise_append.2 ⟨h1, List.pairwise_singleton _ _, fun o ho x hx => ?_⟩
      have hx' : x = t.e := by simpa using hx
      rw [hx']
      exact fresh_no h1 hlo hf o ho
    · exact h1
  · intro o ho
    rcases hmemo o ho with ho | ⟨rfl, hf⟩
    · exact h2 o ho
    · have hno := fresh_no h1 hlo hf
      refine newest_at hr (look_mem hrr (by rw [hc]; simp)) ?_
      intro b hb r' hr'
      cases hl : look r' t.e.key with
      | none => rfl
      | some x =>
        exfalso
        obtain ⟨hxk, hxr⟩ := look_key hl
        rcases h4 b r' hr' with ⟨g, hg, hga⟩ | hcovd
        · obtain ⟨r2, hr2, c2, hc2, hcov2⟩ := h3 g hg
          rw [hga, hr'] at hr2
          obtain rfl : r' = r2 := by simpa using hr2
          rw [hc2] at hxr
          rcases List.mem_append.1 hxr with hx | hx
          · obtain ⟨o', ho', e⟩ := hcov2 x hx
            have := hno o' ho'
            omega
          · have hge : g.e.key ≤ x.key := by
              rcases List.mem_cons.1 hx with rfl | hx
              · exact Int.le_refl _
              · have := ris_part (hc2 ▸ hrs r' (List.mem_of_getElem? hr')) x hx
                omega
            rcases List.mem_cons.1 hg with rfl | hg
            · omega
            · have := ht g hg
              unfold hle at this
              omega
        · obtain ⟨o', ho', e⟩ := hcovd x hxr
          have := hno o' ho'
          omega
  · intro g hg
    rcases List.mem_append.1 hg with hg | hg
    · unfold nextHd at hg
      cases hrest : t.rest with
      | nil => rw [hrest] at hg; simp at hg
      | cons e2 l2 =>
        rw [hrest] at hg
        obtain rfl : g = ⟨e2, l2, t.age⟩ := by simpa using hg
        exact ⟨r, hr, c ++ [t.e], by rw [hc, hrest]; simp, hall⟩
    · obtain ⟨r2, hr2, c2, hc2, hcov2⟩ := h3 g (by simp [hg])
      exact ⟨r2, hr2, c2, hc2, fun x hx => by obtain ⟨o, ho, e⟩ := hcov2 x hx; exact ⟨o, hsub o ho, e⟩⟩
  · intro a r' hr'
    rcases h4 a r' hr' with ⟨g, hg, hga⟩ | hcovd
    · rcases List.mem_cons.1 hg with rfl | hg
      · cases hrest : g.rest with
        | nil =>
          right
          rw [hga, hr'] at hr
          obtain rfl : r' = r := by simpa using hr
          rw [hc, hrest]
          exact hall
        | cons e2 l2 =>
          left
          refine ⟨⟨e2, l2, g.age⟩, ?_, hga⟩
          unfold nextHd
          rw [hrest]
          simp
      · exact .inl ⟨g, by simp [hg], hga⟩
    · exact .inr fun x hx => by obtain ⟨o, ho, e⟩ := hcovd x hx; exact ⟨o, hsub o ho, e⟩
  · intro g hg o ho
    have hto : o.key ≤ t.e.key := by
      rcases hmemo o ho with ho | ⟨rfl, _⟩
      · exact hlo o ho
      · exact Int.le_refl _
    rcases List.mem_append.1 hg with hg | hg
    · unfold nextHd at hg
      cases hrest : t.rest with
      | nil => rw [hrest] at hg; simp at hg
      | cons e2 l2 =>
        rw [hrest] at hg
        obtain rfl : g = ⟨e2, l2, t.age⟩ := by simpa using hg
        have := ris_part (hc ▸ hrr) e2 (by rw [hrest]; simp)
        show o.key ≤ e2.key
        omega
    · have h6 := ht g hg
      unfold Go.Proofs.YtolclahkfmplfaaDoor.hle at h6
      omega
theorem MInv.done {rs : List (List Ent)} (hrs : ∀ r ∈ rs, RisE r) {out : List Ent} (h : MInv rs out []) : out = allE rs := by
  obtain ⟨h1, h2, h3, h4, h5⟩ := h
  refine all_unique hrs h1 fun k => ?_
  cases hl : look out k with
  | some e =>
    obtain ⟨hk, hm⟩ := look_key hl
    rw [← hk, h2 e hm]
  | none =>
    cases hn : newest rs k with
    | none => rfl
    | some e =>
      obtain ⟨a, r, hr, her, hk⟩ := newest_mem hn
      rcases h4 a r hr with ⟨g, hg, _⟩ | hcov
      · simp at hg
      · obtain ⟨o, ho, e2⟩ := hcov e her
        have := look_mem h1 ho
        rw [e2, hk, hl] at this
        cases this

/-- the heads of runs, by age -/
def headsE : Nat → List (List Ent) → List Hd
  | _, [] => []
  | i, [] :: rs => headsE (i + 1) rs
  | i, (e :: l) :: rs => ⟨e, l, i⟩ :: headsE (i + 1) rs
theorem heads_append : ∀ (rs qs : List (List Ent)) (i : Nat), headsE i (rs ++ qs) = headsE i rs ++ headsE (i + rs.length) qs
  | [], qs, i => rfl
  | [] :: rs, qs, i => by rw [List.cons_append, headsE, headsE, heads_append rs qs (i + 1)]; simp; congr 1; omega
  | (e :: l) :: rs, qs, i => by rw [List.cons_append, headsE, headsE, heads_append rs qs (i + 1)]; simp; congr 1; omega
theorem heads_mem : ∀ {rs : List (List Ent)} {i : Nat} {h : Hd}, h ∈ headsE i rs → i ≤ h.age ∧ rs[h.age - i]? = some (h.e :: h.rest)
  | [], _, _, hm => by simp [headsE] at hm
  | [] :: rs, i, h, hm => by
    rw [headsE] at hm
    obtain ⟨h1, h2⟩ := heads_mem hm
    refine ⟨by omega, ?_⟩
    rw [show h.age - i = (h.age - (i + 1)) + 1 by omega]
    simpa using h2
  | (e :: l) :: rs, i, h, hm => by
    rw [headsE] at hm
    rcases List.mem_cons.1 hm with rfl | hm
    · exact ⟨Nat.le_refl _, by simp⟩
    · obtain ⟨h1, h2⟩ := heads_mem hm
      refine ⟨by omega, ?_⟩
      rw [show h.age - i = (h.age - (i + 1)) + 1 by omega]
      simpa using h2
theorem heads_all : ∀ {rs : List (List Ent)} {i a : Nat} {e : Ent} {l : List Ent}, rs[a]? = some (e :: l) → (⟨e, l, i + a⟩ : Hd) ∈ headsE i rs
  | [], _, _, _, _, h => by simp at h
  | r :: rs, i, 0, e, l, h => by
    have : r = e :: l := by simpa using h
    subst this
    rw [headsE]; simp
  | r :: rs, i, a + 1, e, l, h => by
    have h2 := heads_all (rs := rs) (i := i + 1) (a := a) (by simpa using h)
    rw [show i + 1 + a = i + (a + 1) by omega] at h2
    cases r with
    | nil => rw [headsE]; exact h2
    | cons x y => rw [headsE]; simp [h2]
theorem MInv.start (rs : List (List Ent)) : MInv rs [] (headsE 0 rs) := by
  refine ⟨RisE.nil, by simp, ?_, ?_, by simp⟩
  · intro h hh
    obtain ⟨_, h2⟩ := heads_mem hh
    exact ⟨_, by simpa using h2, [], rfl, by simp⟩
  · intro a r hr
    cases r with
    | nil => exact .inr (by simp)
    | cons e l =>
      have := heads_all (i := 0) hr
      rw [Nat.zero_add] at this
      exact .inl ⟨_, this, rfl⟩
end Go.Proofs.YtolclahkfmplfaaDoor
