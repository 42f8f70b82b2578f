/- Ez Eref Bld Chk Lw Lb Ld: texts of the claim, in this order. -/
import Derived.Test.YtolclahkfmplfaaDoorProg
import Derived.Test.YtolclahkfmplfaaDoorWd1
import Derived.Test.YtolclahkfmplfaaDoorWk1
import Derived.Deep.RegionHeld3
import Derived.Deep.AppendLies
import Derived.Deep.RegionLaw
import Derived.Lib.TrailingZeros
import Derived.Shelf.Spec.TrailingZeros
import Derived.IntWalk
import Derived.Laws.Bits64
/- Contracts: what entries may be, whether keys rise (bound.fair, bound.rising and what they call). -/
namespace Go.Proofs.YtolclahkfmplfaaDoor
open Go Go.RowKit
set_option maxRecDepth 100000

theorem ent_stood : Tryd.prog.stoodInHeld 29 = false := by kernel_rfl
theorem ent_guard : Tryd.prog.eqGuardType Tryd.prog.depth 29 = false := by kernel_rfl
def neE (a b : Ent) : Bool := decide (a ≠ b)
theorem run_neq_ent (a b : Ent) (w : World) :
    (binOp .neq 29 (.agg #[.int .i64 a.key, .int .i64 a.val, .bool a.dead]) (.agg #[.int .i64 b.key, .int .i64 b.val, .bool b.dead])).run Tryd.prog w = .ok (.bool (neE a b)) w := by
  have h1 := ent_stood
  have h2 := ent_guard
  have h3 := Tryd.underlying29
  obtain ⟨k, v, d⟩ := a
  obtain ⟨k', v', d'⟩ := b
  simp only [go_sem, h1, h3]
  simp [go_sem, neE]
  by_cases hk : k = k' <;> by_cases hv : v = v' <;> by_cases hd : d = d' <;> simp [hk, hv, hd]

def badEnt (e : Ent) : Bool := e.dead && (e.val != 0)

set_option maxHeartbeats 400000 in
theorem fair1_any (e : Ent) (w : World) :
    Calls Tryd.prog 26 #[.agg #[.int .i64 e.key, .int .i64 e.val, .bool e.dead]] w fun r w' => r = .returned (.bool (badEnt e)) ∧ Below w.heap.size w w' := by
  obtain ⟨k, v, d⟩ := e
  cases d
  · go_enter Tryd.func26, Tryd.ntmps26
    go_wp2
    go_ret
    exact ⟨rfl, (Below.refl _ _).alloc (Nat.le_refl _) _⟩
  · go_enter Tryd.func26, Tryd.ntmps26
    go_wp2
    go_ret
    exact ⟨rfl, (Below.refl _ _).alloc (Nat.le_refl _) _⟩

set_option maxHeartbeats 400000 in
theorem indexFair_any (A : Option Addr) (l : List Ent) (c : Nat) (w : World) (hA : Sl w A (l.flatMap Ent.cells)) (hl : l.length ≤ 4611686018427387903) :
    Calls Tryd.prog 30 #[.slice A l.length c, .func (.func 26) #[] #[]] w
      fun r w' => (∃ n : Int, r = .returned (.int .i64 n) ∧ decide (n ≥ 0) = l.any badEnt) ∧ Below w.heap.size w w' := by
  go_enter Tryd.func30, Tryd.ntmps30
  go_wp2
  go_loopw [8] (fun i wr => ∃ k : Nat, k ≤ l.length ∧ i = .int .i64 k ∧ Below w.heap.size w wr ∧ (l.take k).any badEnt = false) (fun i _ => l.length - (intOf i).toNat)
  case atStart => exact ⟨0, Nat.zero_le _, rfl, Below.refl _ _, rfl⟩
  case round =>
    obtain ⟨k, hk, rfl, hb, hn⟩ := hrel
    by_cases hlt : k < l.length
    · obtain ⟨b, off, rfl, hbl, c1, c2, c3⟩ := (hA.below hb).ent k hlt
      go_wp2_with (go_at_call 26; refine (fair1_any (l[k]'hlt) _).mono ?_; rintro e w1 ⟨rfl, hb1⟩)
      · have hbad : badEnt (l[k]'hlt) = true := by assumption
        go_ret
        refine ⟨⟨(k : Int), rfl, ?_⟩, hb.trans (hb1.mono hb.size)⟩
        rw [List.any_eq_true.2 ⟨_, List.getElem_mem hlt, hbad⟩]
        simp
      · have hbad : badEnt (l[k]'hlt) = false := by assumption
        go_roundw
        case rel => exact ⟨k + 1, by omega, by go_num, hb.trans (hb1.mono hb.size), by rw [List.take_succ_eq_append_getElem hlt, List.any_append, hn]; simp [hbad]⟩
        case measure => simp [intOf]; omega
    · go_wp2
      go_ret
      refine ⟨⟨-1, rfl, ?_⟩, hb⟩
      rw [List.take_of_length_le (by omega)] at hn
      rw [hn]; rfl

set_option maxHeartbeats 400000 in
theorem containsFair_any (A : Option Addr) (l : List Ent) (c : Nat) (w : World) (hA : Sl w A (l.flatMap Ent.cells)) (hl : l.length ≤ 4611686018427387903) :
    Calls Tryd.prog 25 #[.slice A l.length c, .func (.func 26) #[] #[]] w
      fun r w' => r = .returned (.bool (l.any badEnt)) ∧ Below w.heap.size w w' := by
  go_enter Tryd.func25, Tryd.ntmps25
  go_wp2_with (go_at_call 30; refine (indexFair_any A l c _ hA hl).mono ?_; rintro e w1 ⟨⟨n, rfl, hn⟩, hb⟩; have hH := Lib.hid hn; clear hn)
  go_ret
  exact ⟨ret_bool (by rw [← hH.out]), hb⟩

def fairE (l : List Ent) : Int := if l.length > 65536 then 4 else if l.any badEnt then 8 else 0

set_option maxHeartbeats 400000 in
theorem fair_any (A : Option Addr) (l : List Ent) (c : Nat) (w : World) (hA : Sl w A (l.flatMap Ent.cells)) (hl : l.length ≤ 4611686018427387903) :
    Calls Tryd.prog 21 #[.slice A l.length c] w fun r w' => r = .returned (.int .i64 (fairE l)) ∧ Below w.heap.size w w' := by
  by_cases h1 : l.length > 65536
  · go_enter Tryd.func21, Tryd.ntmps21
    go_wp2
    go_ret
    exact ⟨ret_int (by unfold fairE; rw [if_pos h1]), Below.refl _ _⟩
  · go_enter Tryd.func21, Tryd.ntmps21
    go_wp2_with (go_at_call 25; refine (containsFair_any A l c _ hA hl).mono ?_; rintro e w1 ⟨rfl, hb⟩)
    · have h2 : l.any badEnt = true := by assumption
      go_ret
      exact ⟨ret_int (by unfold fairE; rw [if_neg h1, if_pos h2]), hb⟩
    · have h2 : l.any badEnt = false := by assumption
      go_ret
      exact ⟨ret_int (by unfold fairE; rw [if_neg h1, h2]; rfl), hb⟩

def riseE (l : List Ent) : Int := if rises (l.map Ent.key) then 0 else 130

set_option maxHeartbeats 1000000 in
theorem rising_any (A : Option Addr) (l : List Ent) (c : Nat) (w : World) (hA : Sl w A (l.flatMap Ent.cells)) (hl : l.length ≤ 4611686018427387903) :
    Calls Tryd.prog 22 #[.slice A l.length c] w fun r w' => r = .returned (.int .i64 (riseE l)) ∧ Below w.heap.size w w' := by
  go_enter Tryd.func22, Tryd.ntmps22
  go_wp2
  go_loopw [3] (fun i wr => ∃ k : Nat, 1 ≤ k ∧ i = .int .i64 k ∧ Below w.heap.size w wr ∧ Hid (RiseTo (l.map Ent.key) k)) (fun i _ => l.length - (intOf i).toNat)
  case atStart => exact ⟨1, Nat.le_refl _, rfl, Below.refl _ _, RiseTo.start _⟩
  case round =>
    obtain ⟨k, hk, rfl, hb, hn⟩ := hrel
    by_cases hlt : k < l.length
    · obtain ⟨b, off, rfl, hbl, c1, c2, c3⟩ := (hA.below hb).ent k hlt
      obtain ⟨b', off', e, _, d1, d2, d3⟩ := (hA.below hb).ent (k - 1) (by omega)
      simp only [Option.some.injEq, Addr.mk.injEq] at e
      obtain ⟨rfl, rfl, _⟩ := e
      have i0 : (0 : Int) ≤ (k : Int) := by omega
      have i1 : (k : Int) < (l.length : Int) := by omega
      have i2 : (0 : Int) ≤ (k : Int) - 1 := by omega
      have i3 : (k : Int) - 1 < (l.length : Int) := by omega
      clear c2 c3 d2 d3 hA
      go_wp2
      go_quiet (fail)
      go_wp2
      · have hx : (l[k]'hlt).key ≤ (l[k - 1]'(by omega)).key := by assumption
        go_ret
        refine ⟨ret_int ?_, bdrew hb _⟩
        unfold riseE
        rw [RiseTo.no hk (by simpa using hlt) (by simpa using hx)]
        rfl
      · have hx : (l[k - 1]'(by omega)).key < (l[k]'hlt).key := by assumption
        go_roundw
        case rel => exact ⟨k + 1, by omega, by go_num, bdrew hb _, hn.out.step hk (by simpa using hlt) (by simpa using hx)⟩
        case measure => simp [intOf]; omega
    · go_wp2
      go_ret
      refine ⟨ret_int ?_, hb⟩
      unfold riseE
      rw [hn.out.all (by simp; omega)]
      rfl
end Go.Proofs.YtolclahkfmplfaaDoor

/- Contracts of the references: places, ranks, runs that are laid, and whether entries are the same. -/
namespace Go.Proofs.YtolclahkfmplfaaDoor
open Go Go.RowKit
set_option maxRecDepth 100000

/-- the answer is a slice of the call's own with these cells -/
def GivesOwn (e : TypeId) (s n : Nat) (xs : List Value) (w : World) (r : Ending) (w' : World) : Prop :=
  ∃ A c, r = .returned (.slice A n c) ∧ w'.ownsRow w.heap.size e s (.slice A n c) n xs ∧ Below w.heap.size w w'



theorem ent_info : (Tryd.prog.info? 29).map (fun i => (i.zero, i.size, i.bytes)) = some (some (.agg #[.int .i64 0, .int .i64 0, .bool false]), 3, 24) := by kernel_rfl

def entAt (l : List Ent) (i : Nat) : Ent := l.getD i ⟨0, 0, false⟩
theorem entAt_get {l : List Ent} {i : Nat} (h : i < l.length) : entAt l i = l[i] := by simp [entAt, List.getD, h]
/-- the entries, place by place -/
def laid (l : List Ent) : List Ent := (ranks l.length).map (entAt l)
theorem laid_length (l : List Ent) : (laid l).length = l.length := by simp [laid, ranks_length]




set_option maxRecDepth 100000 in
set_option maxHeartbeats 1000000 in
theorem sameEntries_any (A B : Option Addr) (l m : List Ent) (c d : Nat) (w : World) (hA : Sl w A (l.flatMap Ent.cells)) (hB : Sl w B (m.flatMap Ent.cells)) (_hl : l.length ≤ 4611686018427387903) (hm : m.length ≤ 4611686018427387903) :
    Calls Tryd.prog 14 #[.slice A l.length c, .slice B m.length d] w fun r w' => r = .returned (.bool (decide (l = m))) ∧ Below w.heap.size w w' := by
  by_cases hlen : l.length = m.length
  · have hz : ((l.length : Int) != (m.length : Int)) = false := by simp [hlen]
    have hz2 : (l.length : Int) ≤ (m.length : Int) := by omega
    have HL := Lib.hid hlen
    clear hlen
    go_enter Tryd.func14, Tryd.ntmps14
    go_wp2
    go_loopw [5] (fun i wr => ∃ k : Nat, k ≤ l.length ∧ i = .int .i64 k ∧ Below w.heap.size w wr ∧ Hid (l.take k = m.take k)) (fun i _ => l.length - (intOf i).toNat)
    case atStart => exact ⟨0, Nat.zero_le _, rfl, Below.refl _ _, rfl⟩
    case round =>
      obtain ⟨k, hk, rfl, hb, hn⟩ := hrel
      by_cases hlt : k < l.length
      · have hlt2 : k < m.length := by omega
        obtain ⟨b, off, rfl, hbl, c1, c2, c3⟩ := hA.entB hb k hlt
        obtain ⟨b', off', rfl, hbl', d1, d2, d3⟩ := hB.entB hb k hlt2
        have i0 : (0 : Int) ≤ (k : Int) := by omega
        have i1 : (k : Int) < (l.length : Int) := by omega
        have i2 : (k : Int) < (m.length : Int) := by omega
        clear hA hB
        have hne := fun w => run_neq_ent (l[k]'hlt) (m[k]'hlt2) w
        have hgu := ent_guard
        go_wp2
        go_quiet (fail)
        clear hne hgu
        go_wp2
        · have hx : neE (l[k]'hlt) (m[k]'hlt2) = true := by assumption
          go_ret
          refine ⟨ret_bool ?_, bdrew hb _⟩
          symm
          rw [decide_eq_false_iff_not]
          rintro rfl
          simp [neE] at hx
        · have hx : neE (l[k]'hlt) (m[k]'hlt2) = false := by assumption
          go_roundw
          case rel =>
            refine ⟨k + 1, by omega, by go_num, bdrew hb _, ?_⟩
            show _ = _
            rw [List.take_succ_eq_append_getElem hlt, List.take_succ_eq_append_getElem hlt2, hn.out]
            simp [neE] at hx
            rw [hx]
          case measure => simp [intOf]; omega
      · go_wp2
        go_ret
        refine ⟨ret_bool ?_, hb⟩
        have := hn.out
        rw [List.take_of_length_le (by omega), List.take_of_length_le (by have := HL.out; omega)] at this
        rw [this, decide_eq_true rfl]
  · have hz : ((l.length : Int) != (m.length : Int)) = true := by simp; omega
    have HL := Lib.hid hlen
    clear hlen
    go_enter Tryd.func14, Tryd.ntmps14
    go_wp2
    go_ret
    refine ⟨ret_bool ?_, Below.refl _ _⟩
    symm
    rw [decide_eq_false_iff_not]
    rintro rfl
    exact HL.out rfl
end Go.Proofs.YtolclahkfmplfaaDoor

/- Contracts of bound.Build and of the reference's, and of shelfmarkref23.Same. -/
namespace Go.Proofs.YtolclahkfmplfaaDoor
open Go Go.RowKit
set_option maxRecDepth 100000

/-- the error of Build -/
def buildE (l : List Ent) : Int := if l.length > 65536 then 4 else if l.any badEnt then 8 else if rises (l.map Ent.key) then 0 else 130
/-- the entries of the run that it gives -/
def buildL (l : List Ent) : List Ent := if buildE l = 0 then laid l else []

/-- the answer is a run of the call's own with these entries, and an error -/
def GivesRun (t : TypeId) (m : List Ent) (e : Int) (w : World) (r : Ending) (w' : World) : Prop :=
  ∃ A c, r = .returned (.tuple #[.agg #[.slice A m.length c], .int .i64 e]) ∧ w'.ownsRow w.heap.size t 3 (.slice A m.length c) m.length (m.flatMap Ent.cells) ∧ Below w.heap.size w w'

theorem gives_none {t : TypeId} {e : Int} {w w' : World} (h : Below w.heap.size w w') {m : List Ent} (hm : m = []) : GivesRun t m e w (.returned (.tuple #[.agg #[.slice none 0 0], .int .i64 e])) w' := by
  subst hm; exact ⟨none, 0, rfl, World.ownsRow_nil _ _ _ _, h⟩


theorem fairE_bad {l : List Ent} (h1 : ¬ l.length > 65536) (h2 : l.any badEnt = true) : fairE l = 8 := by unfold fairE; rw [if_neg h1, if_pos h2]
theorem fairE_ok {l : List Ent} (h1 : ¬ l.length > 65536) (h2 : l.any badEnt = false) : fairE l = 0 := by unfold fairE; rw [if_neg h1, h2]; rfl

set_option maxRecDepth 100000 in
set_option maxHeartbeats 2000000 in
theorem build_no (A : Option Addr) (l : List Ent) (c : Nat) (w : World) (hA : Sl w A (l.flatMap Ent.cells)) (hl : l.length ≤ 4611686018427387903) (hno : buildE l ≠ 0) :
    Calls Tryd.prog 12 #[.slice A l.length c] w (GivesRun 29 (buildL l) (buildE l) w) := by
  have hL : buildL l = [] := by unfold buildL; rw [if_neg hno]
  have hb0 : Below w.heap.size w (w.alloc (.cells #[.slice none 0 0] 24)) := (Below.refl _ _).alloc (Nat.le_refl _) _
  have hA0 : Sl (w.alloc (.cells #[.slice none 0 0] 24)) A (l.flatMap Ent.cells) := hA.below hb0
  rw [hL]
  by_cases hf : fairE l = 0
  · have h1 : ¬ l.length > 65536 := by intro h; unfold fairE at hf; rw [if_pos h] at hf; cases hf
    have h2 : l.any badEnt = false := by
      cases h : l.any badEnt with
      | false => rfl
      | true => rw [fairE_bad h1 h] at hf; cases hf
    have h3 : rises (l.map Ent.key) = false := by
      cases h : rises (l.map Ent.key) with
      | false => rfl
      | true => exact absurd (show buildE l = 0 by unfold buildE; rw [if_neg h1, h2, h]; rfl) hno
    have he : buildE l = 130 := by unfold buildE; rw [if_neg h1, h2, h3]; rfl
    have H3 := Lib.hid (show riseE l = 130 by unfold riseE; rw [h3]; rfl)
    have HF := Lib.hid hf
    rw [he]
    clear he h2 h3 hf hL hno
    go_enter Tryd.func12, Tryd.ntmps12
    go_wp2_with fail
    refine (fair_any A l c _ hA0 hl).mono ?_
    rw [HF.out]
    rintro e w1 ⟨rfl, hb1⟩
    have hb01 : Below w.heap.size w w1 := bext hb0 hb1
    have hA1 := hA0.below hb1
    go_wp2_with fail
    refine (rising_any A l c _ hA1 hl).mono ?_
    rw [H3.out]
    rintro e w2 ⟨rfl, hb2⟩
    have hb02 : Below w.heap.size w w2 := bext hb01 hb2
    have hx : Blk w2 w.heap.size 24 #[.slice none 0 0] := ((Blk.new w _ _).below hb1 (by simp)).below hb2 (by have := hb1.size; simp at this; omega)
    have hc2 : w2.cell? ⟨w.heap.size, 0, none⟩ = some (.slice none 0 0) := hx.cell 0
    have hf2 : w2.frozen? ⟨w.heap.size, 0, none⟩ = false := hx.frozen 0
    go_wp2
    refine bodyPost_ret (v := .tuple #[.agg #[.slice none 0 0], .int .i64 130]) (by simp [results, Tryd.results12, go_sem, hc2]) rfl (gives_none ?_ rfl)
    exact hb02.setCell (p := ⟨w.heap.size, 0, none⟩) (Nat.le_refl _) _
  · have he : buildE l = fairE l := by
      unfold fairE at hf
      unfold buildE fairE
      by_cases h1 : l.length > 65536
      · rw [if_pos h1, if_pos h1]
      · rw [if_neg h1] at hf
        rw [if_neg h1, if_neg h1]
        cases h : l.any badEnt with
        | true => rfl
        | false => rw [h] at hf; exact absurd rfl hf
    rw [he]
    obtain ⟨q, hq⟩ : ∃ q, fairE l = q := ⟨_, rfl⟩
    rw [hq] at hf ⊢
    have HF := Lib.hid hq
    have hz : (q != 0) = true := by simpa using hf
    clear hq hf he hL hno
    go_enter Tryd.func12, Tryd.ntmps12
    go_wp2_with fail
    refine (fair_any A l c _ hA0 hl).mono ?_
    rw [HF.out]
    rintro e w1 ⟨rfl, hb1⟩
    have hb01 : Below w.heap.size w w1 := bext hb0 hb1
    have hx : Blk w1 w.heap.size 24 #[.slice none 0 0] := (Blk.new w _ _).below hb1 (by simp)
    have hc2 : w1.cell? ⟨w.heap.size, 0, none⟩ = some (.slice none 0 0) := hx.cell 0
    have hf2 : w1.frozen? ⟨w.heap.size, 0, none⟩ = false := hx.frozen 0
    go_wp2
    refine bodyPost_ret (v := .tuple #[.agg #[.slice none 0 0], .int .i64 q]) (by simp [results, Tryd.results12, go_sem, hc2]) rfl (gives_none ?_ rfl)
    exact hb01.setCell (p := ⟨w.heap.size, 0, none⟩) (Nat.le_refl _) _

set_option maxRecDepth 100000 in
set_option maxHeartbeats 2000000 in
theorem build_yes (A : Option Addr) (l : List Ent) (c : Nat) (w : World) (hA : Sl w A (l.flatMap Ent.cells)) (hl : l.length ≤ 4611686018427387903) (hyes : buildE l = 0) :
    Calls Tryd.prog 12 #[.slice A l.length c] w (GivesRun 29 (buildL l) (buildE l) w) := by
  have hL : buildL l = laid l := by unfold buildL; rw [if_pos hyes]
  have hb0 : Below w.heap.size w (w.alloc (.cells #[.slice none 0 0] 24)) := (Below.refl _ _).alloc (Nat.le_refl _) _
  have hA0 : Sl (w.alloc (.cells #[.slice none 0 0] 24)) A (l.flatMap Ent.cells) := hA.below hb0
  have h1 : ¬ l.length > 65536 := by intro h; unfold buildE at hyes; rw [if_pos h] at hyes; cases hyes
  have h2 : l.any badEnt = false := by
    cases h : l.any badEnt with
    | false => rfl
    | true => unfold buildE at hyes; rw [if_neg h1, h] at hyes; cases hyes
  have h3 : rises (l.map Ent.key) = true := by
    cases h : rises (l.map Ent.key) with
    | true => rfl
    | false => unfold buildE at hyes; rw [if_neg h1, h2, h] at hyes; cases hyes
  have HF := Lib.hid (fairE_ok h1 h2)
  have H3 := Lib.hid (show riseE l = 0 by unfold riseE; rw [h3]; rfl)
  rw [hL, hyes]
  clear h2 h3 hL hyes
  obtain ⟨i0, hi, hz0, hz1, hz2⟩ := info_parts ent_info
  have hmk := fun W => run_make_rowN (P := Tryd.prog) 22 29 i0 _ Tryd.underlying22 hi hz0 l.length (by rw [hz2]; omega) (by omega) W
  rw [hz1] at hmk
  clear hi hz0 hz1 hz2
  go_enter Tryd.func12, Tryd.ntmps12
  go_wp2_with fail
  refine (fair_any A l c _ hA0 hl).mono ?_
  rw [HF.out]
  rintro e w1 ⟨rfl, hb1⟩
  have hb01 : Below w.heap.size w w1 := bext hb0 hb1
  have hA1 := hA0.below hb1
  go_wp2_with fail
  refine (rising_any A l c _ hA1 hl).mono ?_
  rw [H3.out]
  rintro e w2 ⟨rfl, hb2⟩
  have hb02 : Below w.heap.size w w2 := bext hb01 hb2
  have hs2 : w.heap.size < w2.heap.size := by have := hb1.size; have := hb2.size; simp at *; omega
  have hx2 : Blk w2 w.heap.size 24 #[.slice none 0 0] := ((Blk.new w _ _).below hb1 (by simp)).below hb2 (by have := hb1.size; simp at this; omega)
  go_wp2_with fail
  refine (order_ok l.length (by omega) _).mono ?_
  rintro e w3 ⟨rfl, ho3, hb3⟩
  simp only [World.size_alloc] at ho3 hb3
  have hb23 : Below w2.heap.size w2 w3 := ((Below.refl _ _).alloc (Nat.le_refl _) _).trans (hb3.mono (by omega))
  have hb03 : Below w.heap.size w w3 := bext hb02 hb23
  have hx3 := hx2.below hb23 hs2
  have hg3 := (Blk.new w2 29 (madeCells (Value.agg #[Value.int IntKind.i64 0, Value.int IntKind.i64 0, Value.bool false]).cells (l.length * 3))).below hb3 (by omega)
  have hA3 : Sl w3 A (l.flatMap Ent.cells) := hA.below hb03
  clear hmk hb3 hb0 hA0 hA1
  go_wp2
  go_loopw [34] (fun i wr => ∃ k : Nat, k ≤ l.length ∧ i = .int .i64 k ∧ Mod (fun b => b = w2.heap.size) w3 wr ∧
      ∃ cur : Array Value, Hid (cur.size = l.length * 3) ∧ Blk wr w2.heap.size 29 cur ∧ Hid (cur.toList.take (k * 3) = ((laid l).take k).flatMap Ent.cells))
      (fun i _ => l.length - (intOf i).toNat)
  case atStart => exact ⟨0, Nat.zero_le _, rfl, Mod.refl _ _, _, by show _ = _; simp [madeCells, Value.cells], hg3, by show _ = _; simp⟩
  case round =>
    obtain ⟨k, hk, rfl, hm, cur, hcs, hcur, hct⟩ := hrel
    by_cases hlt : k < l.length
    · have hb : Below w.heap.size w wr := hb03.trans (hm.below hb03.size (by intro k h; omega))
      have hrl : k < (ranks l.length).length := by rw [ranks_length]; exact hlt
      obtain ⟨x, hx⟩ : ∃ x, (ranks l.length)[k]'hrl = x := ⟨_, rfl⟩
      have hxn : x < l.length := by rw [← hx, ranks_get hlt]; exact ranks_lt hlt
      have ho4 := ho3.mod hm (by omega)
      have cr : wr.cell? ⟨w2.heap.size + 1, k, none⟩ = some (.int .i64 (x : Nat)) := by
        rw [ho4.cell]; simp [hrl, hx]
      obtain ⟨b, off, rfl, hbl, c1, c2, c3⟩ := hA.entB hb x hxn
      have hsz := hcs.out
      obtain ⟨v1, e1⟩ : ∃ v, wr.cell? ⟨w2.heap.size, k * 3, none⟩ = some v := ⟨_, (hcur.cell _).trans (Array.getElem?_eq_getElem (show k * 3 < cur.size by omega))⟩
      obtain ⟨v2, e2⟩ : ∃ v, wr.cell? ⟨w2.heap.size, k * 3 + 1, none⟩ = some v := ⟨_, (hcur.cell _).trans (Array.getElem?_eq_getElem (show k * 3 + 1 < cur.size by omega))⟩
      obtain ⟨v3, e3⟩ : ∃ v, wr.cell? ⟨w2.heap.size, k * 3 + 2, none⟩ = some v := ⟨_, (hcur.cell _).trans (Array.getElem?_eq_getElem (show k * 3 + 2 < cur.size by omega))⟩
      have f1 := hcur.frozen (k * 3)
      have f2 := hcur.frozen (k * 3 + 1)
      have f3 := hcur.frozen (k * 3 + 2)
      have hxi : (0 : Int) ≤ (x : Int) := by omega
      have hxi2 : (x : Int) < (l.length : Int) := by omega
      have hki : (0 : Int) ≤ (k : Int) := by omega
      have hki2 : (k : Int) < (l.length : Int) := by omega
      have hlk : Hid ((laid l)[k]'(by rw [laid_length]; exact hlt) = l[x]'hxn) := by show _ = _; simp [laid, hx, entAt_get hxn]
      have hlt' : k < (laid l).length := by rw [laid_length]; exact hlt
      have n1 := Nat.ne_of_lt hs2
      clear hx hsz
      go_wp2
      go_roundw
      case rel =>
        refine ⟨k + 1, by omega, by go_num, ((hm.setCell (p := ⟨w2.heap.size, k * 3, none⟩) rfl _).setCell (p := ⟨w2.heap.size, k * 3 + 1, none⟩) rfl _).setCell (p := ⟨w2.heap.size, k * 3 + 2, none⟩) rfl _, _, ?_, ((hcur.set_ (k * 3) _).set_ (k * 3 + 1) _).set_ (k * 3 + 2) _, ?_⟩
        · show _ = _; simpa using hcs.out
        · show _ = _
          rw [take_set3 _ _ _ (by rw [hcs.out]; omega) hct.out, List.take_succ_eq_append_getElem hlt', List.flatMap_append, hlk.out]
          simp [Ent.cells]
      case measure => simp [intOf]; omega
    · have hkn := Lib.hid (show k = l.length by omega)
      have hb : Below w.heap.size w wr := hb03.trans (hm.below hb03.size (by intro k h; omega))
      have hx4 := hx3.mod hm (by omega)
      have hc4 : wr.cell? ⟨w.heap.size, 0, none⟩ = some (.slice none 0 0) := hx4.cell 0
      have hf4 : wr.frozen? ⟨w.heap.size, 0, none⟩ = false := hx4.frozen 0
      have HL := Lib.hid (laid_length l)
      go_wp2
      refine bodyPost_ret (v := .tuple #[.agg #[.slice (some ⟨w2.heap.size, 0, none⟩) l.length l.length], .int .i64 0]) (by simp [results, Tryd.results12, go_sem, hc4]) rfl ?_
      refine ⟨some ⟨w2.heap.size, 0, none⟩, l.length, by rw [HL.out], ?_, hb.setCell (p := ⟨w.heap.size, 0, none⟩) (Nat.le_refl _) _⟩
      rw [HL.out]
      have hct' := hct.out
      rw [hkn.out, List.take_of_length_le (l := laid l) (by rw [HL.out]; omega)] at hct'
      refine own_far ⟨by rw [flat_length Ent.cells 3 Ent.cells_length, HL.out], .inr ⟨w2.heap.size, l.length, cur, rfl, by omega, hcur, Nat.le_refl _, by unfold maxLen; omega, hcs.out, hct'⟩⟩ ?_ _
      simp [Value.ownBlock]
      omega

theorem build_any (A : Option Addr) (l : List Ent) (c : Nat) (w : World) (hA : Sl w A (l.flatMap Ent.cells)) (hl : l.length ≤ 4611686018427387903) :
    Calls Tryd.prog 12 #[.slice A l.length c] w (GivesRun 29 (buildL l) (buildE l) w) := by
  by_cases h : buildE l = 0
  · exact build_yes A l c w hA hl h
  · exact build_no A l c w hA hl h

theorem buildL_le (l : List Ent) : (buildL l).length ≤ l.length := by unfold buildL; split <;> simp [laid_length]
theorem build_n (A : Option Addr) (l : List Ent) (n c : Nat) (w : World) (hn : l.length = n) (hA : Sl w A (l.flatMap Ent.cells)) (hl : l.length ≤ 4611686018427387903) :
    Calls Tryd.prog 12 #[.slice A n c] w (GivesRun 29 (buildL l) (buildE l) w) := by subst hn; exact build_any A l c w hA hl

end Go.Proofs.YtolclahkfmplfaaDoor

/- Contracts: a run's entries by their ranks (bound's and the reference's), whether a run may be, and its sorted entries. -/
namespace Go.Proofs.YtolclahkfmplfaaDoor
open Go Go.RowKit
set_option maxRecDepth 100000

/-- the entries of a run, by their ranks -/
def inL (l : List Ent) : List Ent := (inord l.length 0).map (entAt l)
theorem inL_length (l : List Ent) : (inL l).length = l.length := by simp [inL, inord_length]
theorem inL_get {l : List Ent} {k : Nat} (h : k < (inL l).length) : (inL l)[k]'h = entAt l ((inord l.length 0)[k]'(by simpa [inL] using h)) := by simp [inL]

/-- the first k places' entries stand where their ranks are -/
def Scat (l : List Ent) (k : Nat) (cur : Array Value) : Prop := ∀ a, a < k → ∀ (ha : a < l.length) (j : Nat), j < 3 → cur[(inord l.length 0).idxOf a * 3 + j]? = ((l[a]'ha).cells)[j]?
theorem Scat.start (l : List Ent) (cur : Array Value) : Scat l 0 cur := fun a h => absurd h (by omega)
theorem Scat.step {l : List Ent} {k : Nat} {cur : Array Value} (h : Scat l k cur) (hk : k < l.length) (hs : cur.size = l.length * 3) (r : Nat) (hr : r = (inord l.length 0).idxOf k) :
    Scat l (k + 1) (((cur.setIfInBounds (r * 3) (.int .i64 (l[k]'hk).key)).setIfInBounds (r * 3 + 1) (.int .i64 (l[k]'hk).val)).setIfInBounds (r * 3 + 2) (.bool (l[k]'hk).dead)) := by
  subst hr
  have hrl := ranks_lt hk
  intro a ha hal j hj
  by_cases e : a = k
  · subst e
    have : j = 0 ∨ j = 1 ∨ j = 2 := by omega
    rcases this with rfl | rfl | rfl
    · rw [Array.getElem?_setIfInBounds_ne (by omega), Array.getElem?_setIfInBounds_ne (by omega), Nat.add_zero, Array.getElem?_setIfInBounds_self_of_lt (by omega)]; rfl
    · rw [Array.getElem?_setIfInBounds_ne (by omega), Array.getElem?_setIfInBounds_self_of_lt (by simp; omega)]; rfl
    · rw [Array.getElem?_setIfInBounds_self_of_lt (by simp; omega)]; rfl
  · have hne : (inord l.length 0).idxOf a ≠ (inord l.length 0).idxOf k := by
      intro e2
      have h1 := inord_idx hal
      have h2 := inord_idx hk
      simp only [e2] at h1
      exact e (h1.symm.trans h2)
    rw [Array.getElem?_setIfInBounds_ne (by omega), Array.getElem?_setIfInBounds_ne (by omega), Array.getElem?_setIfInBounds_ne (by omega)]
    exact h a (by omega) hal j hj
theorem Scat.done {l : List Ent} {cur : Array Value} (h : Scat l l.length cur) (hs : cur.size = l.length * 3) : cur.toList.take (l.length * 3) = (inL l).flatMap Ent.cells := by
  rw [List.take_of_length_le (by simp; omega)]
  refine List.ext_getElem? fun i => ?_
  by_cases hi : i < l.length * 3
  · have hk : i / 3 < l.length := by omega
    have hk' : i / 3 < (inord l.length 0).length := by rw [inord_length]; exact hk
    have e : i / 3 * 3 + i % 3 = i := by omega
    have hf := flat_get Ent.cells 3 Ent.cells_length (inL l) (i / 3) (i % 3) (by rw [inL_length]; exact hk) (by omega)
    rw [e, inL_get] at hf
    have hp := inord_lt (List.getElem_mem hk')
    rw [entAt_get hp] at hf
    have hc := h _ hp hp (i % 3) (by omega)
    rw [idx_inord hk', e] at hc
    rw [hf, ← hc]
    simp
  · rw [List.getElem?_eq_none (by simp; omega), List.getElem?_eq_none (by rw [flat_length Ent.cells 3 Ent.cells_length, inL_length]; omega)]


set_option maxHeartbeats 3200000 in
theorem sorted_any (A : Option Addr) (l : List Ent) (c : Nat) (w : World) (hA : Sl w A (l.flatMap Ent.cells)) (hn : l.length ≤ 65536) :
    Calls Tryd.prog 16 #[.agg #[.slice A l.length c]] w (GivesOwn 29 3 l.length ((inL l).flatMap Ent.cells) w) := by
  obtain ⟨i0, hi, hz0, hz1, hz2⟩ := info_parts ent_info
  have hmk := fun W => run_make_rowN (P := Tryd.prog) 22 29 i0 _ Tryd.underlying22 hi hz0 l.length (by rw [hz2]; omega) (by omega) W
  rw [hz1] at hmk
  clear hi hz0 hz1 hz2
  obtain ⟨W0, hW0⟩ : ∃ W0, (w.alloc (.cells #[.slice A l.length c] 46)).alloc (.cells (madeCells #[Value.int IntKind.i64 0, Value.int IntKind.i64 0, Value.bool false] (l.length * 3)) 29) = W0 := ⟨_, rfl⟩
  have hb0 : Below w.heap.size w W0 := by rw [← hW0]; exact ((Below.refl _ _).alloc (Nat.le_refl _) _).alloc (by simp) _
  have hx0 : Blk W0 w.heap.size 46 #[.slice A l.length c] := by rw [← hW0]; exact (Blk.new w _ _).alloc _
  have hg0 : Blk W0 (w.heap.size + 1) 29 (madeCells #[Value.int IntKind.i64 0, Value.int IntKind.i64 0, Value.bool false] (l.length * 3)) := by
    rw [← hW0]; have := Blk.new (w.alloc (.cells #[.slice A l.length c] 46)) 29 (madeCells #[Value.int IntKind.i64 0, Value.int IntKind.i64 0, Value.bool false] (l.length * 3))
    rwa [World.size_alloc] at this
  have hs0 : W0.heap.size = w.heap.size + 1 + 1 := by rw [← hW0]; simp
  have cx0 : W0.cell? ⟨w.heap.size, 0, none⟩ = some (.slice A l.length c) := hx0.cell 0
  go_enter Tryd.func16, Tryd.ntmps16
  go_wp2_with fail
  try rw [hW0]
  refine (order_ok l.length hn _).mono ?_
  rintro e w3 ⟨rfl, ho3, hb3⟩
  rw [hs0] at ho3
  have hb03 : Below w.heap.size w w3 := bext hb0 hb3
  have hx3 := hx0.below hb3 hx0.lt
  have hg3 := hg0.below hb3 hg0.lt
  have hgl := hg3.lt
  have hol := ho3.lt
  clear hmk hW0 hb3 hb0 hx0 hg0 cx0
  rw [hs0]
  go_wp2
  go_loopw [21] (fun i wr => ∃ k : Nat, k ≤ l.length ∧ i = .int .i64 k ∧ Mod (fun b => b = w.heap.size + 1) w3 wr ∧
      ∃ cur : Array Value, Hid (cur.size = l.length * 3) ∧ Blk wr (w.heap.size + 1) 29 cur ∧ Hid (Scat l k cur))
      (fun i _ => l.length - (intOf i).toNat)
  case atStart => exact ⟨0, Nat.zero_le _, rfl, Mod.refl _ _, _, by show _ = _; simp [madeCells], hg3, Scat.start _ _⟩
  case round =>
    obtain ⟨k, hk, rfl, hm, cur, hcs, hcur, hct⟩ := hrel
    by_cases hlt : k < l.length
    · have hb : Below w.heap.size w wr := hb03.trans (hm.below hb03.size (by intro k h; omega))
      have hrl : k < (ranks l.length).length := by rw [ranks_length]; exact hlt
      obtain ⟨x, hx⟩ : ∃ x, (ranks l.length)[k]'hrl = x := ⟨_, rfl⟩
      have hxi : x = (inord l.length 0).idxOf k := by rw [← hx, ranks_get hlt]
      have hxn : x < l.length := by rw [hxi]; exact ranks_lt hlt
      have ho4 := ho3.mod hm (by omega)
      have cr : wr.cell? ⟨w.heap.size + 1 + 1, k, none⟩ = some (.int .i64 (x : Nat)) := by
        rw [ho4.cell]; simp [hrl, hx]
      have cx : wr.cell? ⟨w.heap.size, 0, none⟩ = some (.slice A l.length c) := (hx3.mod hm (by omega)).cell 0
      obtain ⟨b, off, rfl, hbl, c1, c2, c3⟩ := hA.entB hb k hlt
      have hsz := hcs.out
      obtain ⟨v1, e1⟩ : ∃ v, wr.cell? ⟨w.heap.size + 1, x * 3, none⟩ = some v := ⟨_, (hcur.cell _).trans (Array.getElem?_eq_getElem (show x * 3 < cur.size by omega))⟩
      obtain ⟨v2, e2⟩ : ∃ v, wr.cell? ⟨w.heap.size + 1, x * 3 + 1, none⟩ = some v := ⟨_, (hcur.cell _).trans (Array.getElem?_eq_getElem (show x * 3 + 1 < cur.size by omega))⟩
      obtain ⟨v3, e3⟩ : ∃ v, wr.cell? ⟨w.heap.size + 1, x * 3 + 2, none⟩ = some v := ⟨_, (hcur.cell _).trans (Array.getElem?_eq_getElem (show x * 3 + 2 < cur.size by omega))⟩
      have f1 := hcur.frozen (x * 3)
      have f2 := hcur.frozen (x * 3 + 1)
      have f3 := hcur.frozen (x * 3 + 2)
      have hxi1 : (0 : Int) ≤ (x : Int) := by omega
      have hxi2 : (x : Int) < (l.length : Int) := by omega
      have hki : (0 : Int) ≤ (k : Int) := by omega
      have hki2 : (k : Int) < (l.length : Int) := by omega
      have hst := Lib.hid (hct.out.step hlt hcs.out x hxi)
      clear hx hsz hxi hx3
      go_wp2
      go_roundw
      case rel =>
        exact ⟨k + 1, by omega, by go_num, ((hm.setCell (p := ⟨w.heap.size + 1, x * 3, none⟩) rfl _).setCell (p := ⟨w.heap.size + 1, x * 3 + 1, none⟩) rfl _).setCell (p := ⟨w.heap.size + 1, x * 3 + 2, none⟩) rfl _, _, by show _ = _; simpa using hcs.out, ((hcur.set_ (x * 3) _).set_ (x * 3 + 1) _).set_ (x * 3 + 2) _, hst⟩
      case measure => simp [intOf]; omega
    · have hkn : k = l.length := by omega
      have hb : Below w.heap.size w wr := hb03.trans (hm.below hb03.size (by intro k h; omega))
      have hct' := Scat.done (hkn ▸ hct.out) hcs.out
      have HC := Lib.hid hct'
      clear hct' hkn
      go_wp2
      go_ret
      exact ⟨some ⟨w.heap.size + 1, 0, none⟩, l.length, rfl, ⟨by rw [flat_length Ent.cells 3 Ent.cells_length, inL_length], .inr ⟨w.heap.size + 1, l.length, cur, rfl, by omega, hcur, Nat.le_refl _, by unfold maxLen; omega, hcs.out, HC.out⟩⟩, hb⟩
end Go.Proofs.YtolclahkfmplfaaDoor

/- Plain facts: how Lower goes down Eytzinger's tree and back. No program in sight. -/
namespace Go.Proofs.YtolclahkfmplfaaDoor
open Go

/-- where a way down ends: places from 1 on -/
def low (n : Nat) (t : Nat → Bool) (m : Nat) : Nat := if h : 1 ≤ m ∧ m ≤ n then low n t (2 * m + (if t (m - 1) then 1 else 0)) else m
termination_by n + 1 - m
decreasing_by split <;> omega
theorem low_in {n : Nat} {t : Nat → Bool} {m : Nat} (h1 : 1 ≤ m) (h2 : m ≤ n) : low n t m = low n t (2 * m + (if t (m - 1) then 1 else 0)) := by rw [low, dif_pos ⟨h1, h2⟩]
theorem low_out {n : Nat} {t : Nat → Bool} {m : Nat} (h : ¬ m ≤ n) : low n t m = m := by rw [low, dif_neg (by omega)]
/-- back over all turns to the right, and the last one to the left -/
def anc (m : Nat) : Nat := if h : m % 2 = 1 then anc (m / 2) else m / 2
termination_by m
decreasing_by omega
theorem anc_odd {m : Nat} (h : m % 2 = 1) : anc m = anc (m / 2) := by rw [anc, dif_pos h]
theorem anc_even {m : Nat} (h : m % 2 ≠ 1) : anc m = m / 2 := by rw [anc, dif_neg h]
theorem anc_left (m : Nat) : anc (2 * m) = m := by rw [anc_even (by omega)]; omega
theorem anc_right (m : Nat) : anc (2 * m + 1) = anc m := by rw [anc_odd (by omega)]; congr 1; omega
theorem anc_le (m : Nat) : anc m ≤ m / 2 := by
  induction m using Nat.strongRecOn with
  | _ m ih =>
    by_cases h : m % 2 = 1
    · rw [anc_odd h]; have := ih (m / 2) (by omega); omega
    · rw [anc_even h]; omega
theorem anc_shift : ∀ (f m : Nat), m < 2 ^ f - 1 → anc m = m / 2 ^ (Lib.ctzFrom f (2 ^ f - 1 - m) + 1)
  | 0, m, h => by simp at h
  | f + 1, m, h => by
    have h2 : 2 ^ (f + 1) = 2 * 2 ^ f := by rw [Nat.pow_succ, Nat.mul_comm]
    have hp : 0 < 2 ^ f := Nat.pow_pos (by omega)
    unfold Lib.ctzFrom
    by_cases hm : m % 2 = 1
    · rw [if_neg (by omega), anc_odd hm, anc_shift f (m / 2) (by omega), show (2 ^ (f + 1) - 1 - m) / 2 = 2 ^ f - 1 - m / 2 by omega, Nat.div_div_eq_div_mul]
      congr 1
      rw [show 1 + Lib.ctzFrom f (2 ^ f - 1 - m / 2) + 1 = (Lib.ctzFrom f (2 ^ f - 1 - m / 2) + 1) + 1 by omega, Nat.pow_succ 2 (Lib.ctzFrom f (2 ^ f - 1 - m / 2) + 1), Nat.mul_comm]
    · rw [if_pos (by omega), anc_even hm]
theorem anc_ctz {m : Nat} (h : m < 18446744073709551615) : anc m = m / 2 ^ (Lib.ctz 64 (18446744073709551615 - m) + 1) := by
  have := anc_shift 64 m (by simpa using h)
  unfold Lib.ctz
  rw [if_neg (by omega)]
  simpa using this

/-- where a way stands -/
def WayAt (n : Nat) (t : Nat → Bool) (m : Nat) : Prop :=
  1 ≤ m ∧ ∃ pre post : List Nat, inord n 0 = pre ++ inord n (m - 1) ++ post ∧ (∀ x ∈ pre, t x = true) ∧ (∀ x ∈ post, t x = false) ∧ post.head? = (if anc m = 0 then none else some (anc m - 1))
theorem WayAt.start (n : Nat) (t : Nat → Bool) : WayAt n t 1 := by
  refine ⟨Nat.le_refl _, [], [], by simp, by simp, by simp, ?_⟩
  have : anc 1 = 0 := by have := anc_le 1; omega
  rw [this]
  rfl
theorem WayAt.step {n : Nat} {t : Nat → Bool} {m : Nat} (hp : (inord n 0).Pairwise (fun a b => t b = true → t a = true)) (h : WayAt n t m) (hm : m ≤ n) : WayAt n t (2 * m + (if t (m - 1) then 1 else 0)) := by
  obtain ⟨h1, pre, post, he, hpre, hpost, hh⟩ := h
  have hin := inord_in (show m - 1 < n by omega)
  rw [hin] at he
  rw [he] at hp
  cases ht : t (m - 1)
  · refine ⟨by omega, pre, (m - 1) :: inord n (2 * (m - 1) + 2) ++ post, ?_, hpre, ?_, ?_⟩
    · rw [he, show 2 * m + (if false = true then 1 else 0) - 1 = 2 * (m - 1) + 1 by simp; omega]; simp
    · intro x hx
      rcases List.mem_append.1 hx with hx | hx
      · rcases List.mem_cons.1 hx with rfl | hx
        · exact ht
        · have h3 := (List.pairwise_append.1 hp).1
          have h4 := (List.pairwise_append.1 h3).2.1
          have h5 := (List.pairwise_append.1 h4).2.1
          have h6 := (List.pairwise_cons.1 h5).1 x hx
          cases htx : t x
          · rfl
          · have := h6 htx; rw [ht] at this; cases this
      · exact hpost x hx
    · rw [show 2 * m + (if false = true then 1 else 0) = 2 * m from rfl, anc_left, if_neg (by omega)]; rfl
  · rw [if_pos rfl]
    refine ⟨by omega, pre ++ inord n (2 * (m - 1) + 1) ++ [m - 1], post, ?_, ?_, hpost, ?_⟩
    · rw [he, show 2 * m + 1 - 1 = 2 * (m - 1) + 2 by omega]; simp
    · intro x hx
      rcases List.mem_append.1 hx with hx | hx
      · rcases List.mem_append.1 hx with hx | hx
        · exact hpre x hx
        · have h3 := (List.pairwise_append.1 hp).1
          have h4 := (List.pairwise_append.1 h3).2.1
          exact (List.pairwise_append.1 h4).2.2 x hx (m - 1) (by simp) ht
      · obtain rfl : x = m - 1 := by simpa using hx
        exact ht
    · rw [anc_right]; exact hh
theorem WayAt.done {n : Nat} {t : Nat → Bool} {m : Nat} (h : WayAt n t m) (hm : ¬ m ≤ n) : (inord n 0)[(inord n 0).countP t]? = (if anc m = 0 then none else some (anc m - 1)) := by
  obtain ⟨h1, pre, post, he, hpre, hpost, hh⟩ := h
  rw [inord_out (show ¬ m - 1 < n by omega), List.append_nil] at he
  have hc : (inord n 0).countP t = pre.length := by
    rw [he, List.countP_append, List.countP_eq_length.2 hpre, List.countP_eq_zero.2 (fun x hx => by rw [hpost x hx]; simp)]
    omega
  rw [hc, he, List.getElem?_append_right (Nat.le_refl _), Nat.sub_self, ← hh]
  cases post <;> rfl
theorem WayAt.lt {n : Nat} {t : Nat → Bool} {m : Nat} (h : WayAt n t m) (hm : ¬ m ≤ n) (h0 : anc m ≠ 0) : anc m - 1 < n := by
  have := h.done hm
  rw [if_neg h0] at this
  exact inord_lt (List.mem_of_getElem? this)
end Go.Proofs.YtolclahkfmplfaaDoor

/- Contracts: whether a run may be, its sorted entries, and the place of Lower. -/
namespace Go.Proofs.YtolclahkfmplfaaDoor
open Go Go.RowKit
set_option maxRecDepth 100000

/-- the error of a run -/
def chkE (l : List Ent) : Int := if fairE l ≠ 0 then fairE l else riseE (inL l)
theorem fair_len {l : List Ent} (h : fairE l = 0) : l.length ≤ 65536 := by
  unfold fairE at h
  split at h
  · cases h
  · omega
theorem chk_ok {l : List Ent} (h : chkE l = 0) : fairE l = 0 ∧ rises ((inL l).map Ent.key) = true ∧ l.length ≤ 65536 := by
  unfold chkE at h
  split at h
  · exact absurd h (by assumption)
  · rename_i hf
    have hf : fairE l = 0 := by omega
    refine ⟨hf, ?_, fair_len hf⟩
    unfold riseE at h
    split at h
    · assumption
    · cases h

set_option maxHeartbeats 1000000 in
theorem check_any (A : Option Addr) (l : List Ent) (c : Nat) (w : World) (hA : Sl w A (l.flatMap Ent.cells)) (hl : l.length ≤ 4611686018427387903) :
    Calls Tryd.prog 15 #[.agg #[.slice A l.length c]] w fun r w' => r = .returned (.int .i64 (chkE l)) ∧ Below w.heap.size w w' := by
  have hb0 : Below w.heap.size w (w.alloc (.cells #[.slice A l.length c] 24)) := (Below.refl _ _).alloc (Nat.le_refl _) _
  have bX := Blk.new w 24 #[.slice A l.length c]
  obtain ⟨E, hE⟩ : ∃ E, fairE l = E := ⟨_, rfl⟩
  by_cases h0 : E = 0
  · subst h0
    have hl2 := fair_len hE
    have hc : chkE l = riseE (inL l) := by unfold chkE; rw [if_neg (by omega)]
    rw [hc]
    have HE := Lib.hid hE
    have HL := Lib.hid (inL_length l)
    clear hE hc
    go_enter Tryd.func15, Tryd.ntmps15
    go_wp2_with fail
    refine (fair_any A l c _ (hA.below hb0) hl).mono ?_
    rw [HE.out]
    rintro e w1 ⟨rfl, hb1⟩
    have hb01 := bext hb0 hb1
    have c0 : w1.cell? ⟨w.heap.size, 0, none⟩ = some (.slice A l.length c) := (bX.below hb1 bX.lt).cell 0
    clear bX hb1
    go_wp2_with fail
    refine (sorted_any A l c _ (hA.below hb01) hl2).mono ?_
    rintro e w2 ⟨A2, c2, rfl, ho2, hb2⟩
    have hb02 := bext hb01 hb2
    have hs2 := Lib.hid (own_sl ho2)
    clear ho2 c0
    go_wp2_with fail
    rw [← HL.out]
    refine (rising_any A2 (inL l) c2 _ hs2.out (by rw [HL.out]; omega)).mono ?_
    rintro e w3 ⟨rfl, hb3⟩
    go_wp2
    go_ret
    exact ⟨rfl, bext hb02 hb3⟩
  · have hc : chkE l = E := by unfold chkE; rw [hE, if_pos h0]
    rw [hc]
    have HE := Lib.hid hE
    clear hE hc
    go_enter Tryd.func15, Tryd.ntmps15
    go_wp2_with fail
    refine (fair_any A l c _ (hA.below hb0) hl).mono ?_
    rw [HE.out]
    rintro e w1 ⟨rfl, hb1⟩
    go_wp2
    go_ret
    exact ⟨rfl, bext hb0 hb1⟩

/-- hands back entries in new memory, and an error -/
def GivesEnts (m : List Ent) (e : Int) (w : World) (r : Ending) (w' : World) : Prop :=
  ∃ A c, r = .returned (.tuple #[.slice A m.length c, .int .i64 e]) ∧ w'.ownsRow w.heap.size 29 3 (.slice A m.length c) m.length (m.flatMap Ent.cells) ∧ Below w.heap.size w w'
def sortL (l : List Ent) : List Ent := if chkE l = 0 then inL l else []
set_option maxHeartbeats 1000000 in
theorem sortedE_any (A : Option Addr) (l : List Ent) (c : Nat) (w : World) (hA : Sl w A (l.flatMap Ent.cells)) (hl : l.length ≤ 4611686018427387903) :
    Calls Tryd.prog 10 #[.agg #[.slice A l.length c]] w (GivesEnts (sortL l) (chkE l) w) := by
  have hb0 : Below w.heap.size w (w.alloc (.cells #[.slice A l.length c] 24)) := (Below.refl _ _).alloc (Nat.le_refl _) _
  have bX := Blk.new w 24 #[.slice A l.length c]
  obtain ⟨E, hE⟩ : ∃ E, chkE l = E := ⟨_, rfl⟩
  by_cases h0 : E = 0
  · subst h0
    have hl2 := (chk_ok hE).2.2
    have hS : sortL l = inL l := by unfold sortL; rw [if_pos hE]
    rw [hS, hE]
    have HE := Lib.hid hE
    have HL := Lib.hid (inL_length l)
    clear hE hS
    go_enter Tryd.func10, Tryd.ntmps10
    go_wp2_with fail
    refine (check_any A l c _ (hA.below hb0) hl).mono ?_
    rw [HE.out]
    rintro e w1 ⟨rfl, hb1⟩
    have hb01 := bext hb0 hb1
    have c0 : w1.cell? ⟨w.heap.size, 0, none⟩ = some (.slice A l.length c) := (bX.below hb1 bX.lt).cell 0
    clear bX hb1
    go_wp2_with fail
    refine (sorted_any A l c _ (hA.below hb01) hl2).mono ?_
    rintro e w2 ⟨A2, c2, rfl, ho2, hb2⟩
    have ho2 := Lib.hid (own_mono ho2 hb01.size)
    go_wp2
    refine bodyPost_ret (v := .tuple #[.slice A2 l.length c2, .int .i64 0]) (by simp [results, Tryd.results10, go_sem]) rfl ?_
    exact ⟨A2, c2, by rw [HL.out], by rw [HL.out]; exact ho2.out, bext hb01 hb2⟩
  · have hS : sortL l = [] := by unfold sortL; rw [if_neg (by omega)]
    rw [hS, hE]
    have HE := Lib.hid hE
    clear hE hS
    go_enter Tryd.func10, Tryd.ntmps10
    go_wp2_with fail
    refine (check_any A l c _ (hA.below hb0) hl).mono ?_
    rw [HE.out]
    rintro e w1 ⟨rfl, hb1⟩
    go_wp2
    refine bodyPost_ret (v := .tuple #[.slice none 0 0, .int .i64 E]) (by simp [results, Tryd.results10, go_sem]) rfl ?_
    exact ⟨none, 0, rfl, World.ownsRow_nil _ _ _ _, bext hb0 hb1⟩

/-! ### math/bits.TrailingZeros, with its table in its variable -/
theorem tab_below {g : Nat} {w w' : World} (hg : g < w.heap.size) (h : TabAt g Lib.deBruijn64tab w) (hb : Below w.heap.size w w') : TabAt g Lib.deBruijn64tab w' := fun j hj => (hb.cell (p := ⟨g, j, none⟩) hg).trans (h j hj)
theorem tab_lt {g : Nat} {w : World} (h : TabAt g Lib.deBruijn64tab w) : g < w.heap.size := by
  have h0 := h 0 (by decide)
  exact Nat.lt_of_not_le fun hle => by
    have : w.cell? ⟨g, 0, none⟩ = none := by simp [World.cell?, Array.getElem?_eq_none hle]
    rw [this] at h0; cases h0
set_option maxHeartbeats 1000000 in
theorem tz64_core (x k idx : Nat) (w : World) (hx0 : ((x : Int) == 0) = false)
    (key : IntKind.u64.wrap (bits BinOp.and IntKind.u64 (x : Int) (IntKind.u64.wrap (-(x : Int))) * 285870213051353865) / 288230376151711744 = (idx : Int))
    (hi : idx < 64) (hk : k < 64) (hcell : w.cell? ⟨1, idx, none⟩ = some (.int .u8 k)) :
    Calls Tryd.prog 37 #[.int .u64 x] w fun e w' => e = .returned (.int .i64 k) ∧ w' = w := by
  go_enter Tryd.func37, Tryd.ntmps37
  go_wp2_with (simp only [key])
  go_ret
  exact ⟨rfl, rfl⟩
theorem tz_any (x : Nat) (w : World) (hx0 : x ≠ 0) (hx : x < 18446744073709551616) (hT : TabAt 1 Lib.deBruijn64tab w) :
    Calls Tryd.prog 35 #[.int .u64 x] w fun e w' => e = .returned (.int .i64 (Lib.ctz 64 x)) ∧ w' = w := by
  obtain ⟨hlow, hk⟩ := Lib.lowest_bit 64 x hx0 hx
  obtain ⟨hi, htab⟩ := Lib.deBruijn64_at _ hk
  have hcell := hT _ hi
  rw [htab] at hcell
  have h := tz64_core x _ _ w (by simp; omega) (tz64_key x _ hx hx0 hlow) hi hk hcell
  go_enter Tryd.func35, Tryd.ntmps35
  go_wp2_with fail
  refine h.mono ?_
  rintro e w1 ⟨rfl, rfl⟩
  go_wp2
  go_ret
  exact ⟨rfl, rfl⟩
end Go.Proofs.YtolclahkfmplfaaDoor

/- Contracts: the place of Lower, Find, Rank. -/
namespace Go.Proofs.YtolclahkfmplfaaDoor
open Go Go.RowKit
set_option maxRecDepth 100000

/-- hands back two numbers -/
def GivesII (a e : Int) (w : World) (r : Ending) (w' : World) : Prop := r = .returned (.tuple #[.int .i64 a, .int .i64 e]) ∧ Below w.heap.size w w'
def belowT (l : List Ent) (key : Int) (x : Nat) : Bool := decide ((entAt l x).key < key)
/-- how many keys are below one -/
def lowK (l : List Ent) (key : Int) : Nat := (inord l.length 0).countP (belowT l key)
def lowE (l : List Ent) (key : Int) : Int := if chkE l ≠ 0 then chkE l else if lowK l key = l.length then 6 else 0
def lowAt (l : List Ent) (key : Int) : Nat := if lowE l key = 0 then (inord l.length 0).getD (lowK l key) 0 else 0
theorem inL_pairs {l : List Ent} (h : rises ((inL l).map Ent.key) = true) (key : Int) : (inord l.length 0).Pairwise (fun a b => belowT l key b = true → belowT l key a = true) := by
  unfold rises at h
  have h := of_decide_eq_true h
  unfold inL at h
  rw [List.map_map] at h
  have h2 := List.pairwise_map.1 h
  refine h2.imp fun {a b} hab => ?_
  intro hb
  unfold belowT at hb ⊢
  have hb := of_decide_eq_true hb
  exact decide_eq_true (Int.lt_trans hab hb)
theorem lowK_le (l : List Ent) (key : Int) : lowK l key ≤ l.length := by
  have : (inord l.length 0).countP (belowT l key) ≤ (inord l.length 0).length := List.countP_le_length
  rw [inord_length] at this
  exact this

theorem not_u64 (m : Nat) (hm : m < 18446744073709551616) : bits BinOp.xor IntKind.u64 IntKind.u64.max (m : Int) = ((18446744073709551615 - m : Nat) : Int) := by
  have h1 : IntKind.u64.max = ((18446744073709551615 : Nat) : Int) := rfl
  rw [h1, bits_xor_u64_nat _ _ (by omega) hm]
  congr 1
  refine Nat.eq_of_testBit_eq fun i => ?_
  have h2 := Nat.testBit_two_pow_sub_succ (n := 64) (x := m) (by simpa using hm) i
  have h3 := Nat.testBit_two_pow_sub_one 64 i
  rw [Nat.testBit_xor]
  rw [show (2 : Nat) ^ 64 - 1 = 18446744073709551615 by rfl] at h3
  rw [show (2 : Nat) ^ 64 - (m + 1) = 18446744073709551615 - m by omega] at h2
  rw [h3, h2]
  by_cases hi : i < 64
  · simp [hi]
  · have : m.testBit i = false := Nat.testBit_lt_two_pow (Nat.lt_of_lt_of_le hm (by rw [show (18446744073709551616 : Nat) = 2 ^ 64 by rfl]; exact Nat.pow_le_pow_right (by omega) (by omega)))
    simp [hi, this]

set_option maxHeartbeats 1000000 in
theorem turn_any (k key : Int) (b : Nat) (w : World) (hc : w.cell? ⟨b, 0, none⟩ = some (.int .i64 key)) :
    Calls Tryd.prog 34 #[.int .i64 k, .pointer (some ⟨b, 0, none⟩)] w fun r w' => r = .returned (.int .i64 (if decide (k < key) = true then 1 else 0)) ∧ Below w.heap.size w w' := by
  by_cases h : k < key
  · rw [decide_eq_true h, if_pos rfl]
    go_enter Tryd.func34, Tryd.ntmps34
    go_wp2
    go_ret
    exact ⟨rfl, Below.refl _ _⟩
  · rw [decide_eq_false h, if_neg (by simp)]
    go_enter Tryd.func34, Tryd.ntmps34
    go_wp2
    go_ret
    exact ⟨rfl, Below.refl _ _⟩

set_option maxHeartbeats 2000000 in
theorem lower_ok (A : Option Addr) (l : List Ent) (c : Nat) (key : Int) (w : World) (hA : Sl w A (l.flatMap Ent.cells)) (hT : TabAt 1 Lib.deBruijn64tab w) (hC : chkE l = 0) :
    Calls Tryd.prog 29 #[.agg #[.slice A l.length c], .int .i64 key] w (GivesII (lowAt l key) (lowE l key) w) := by
  have hsg : IntKind.u64.signed = false := rfl
  have hmf : ∀ (fn : Fn) (first cap : Array Value) (w : World), (Instr.makeFunc fn first cap).run Tryd.prog w = .ok (.func fn first cap) w := fun _ _ _ _ => rfl
  obtain ⟨_, hris, hlen⟩ := chk_ok hC
  have HP := Lib.hid (inL_pairs hris key)
  have hLE : lowE l key = if lowK l key = l.length then 6 else 0 := by unfold lowE; rw [if_neg (by omega)]
  have hKl := lowK_le l key
  have hb0 : Below w.heap.size w ((w.alloc (.cells #[.slice A l.length c] 24)).alloc (.cells #[.int .i64 key] 2)) := ((Below.refl _ _).alloc (Nat.le_refl _) _).alloc (by simp) _
  have bX : Blk ((w.alloc (.cells #[.slice A l.length c] 24)).alloc (.cells #[.int .i64 key] 2)) w.heap.size 24 #[.slice A l.length c] := (Blk.new w _ _).alloc _
  have bK : Blk ((w.alloc (.cells #[.slice A l.length c] 24)).alloc (.cells #[.int .i64 key] 2)) (w.heap.size + 1) 2 #[.int .i64 key] := by
    have := Blk.new (w.alloc (.cells #[.slice A l.length c] 24)) 2 #[.int .i64 key]
    rwa [World.size_alloc] at this
  have HC := Lib.hid hC
  have HLE := Lib.hid hLE
  have HT := Lib.hid hT
  have hTl := tab_lt hT
  clear hC hLE hris hT
  go_enter Tryd.func29, Tryd.ntmps29
  go_wp2_with fail
  refine (check_any A l c _ (hA.below hb0) (by omega)).mono ?_
  rw [HC.out]
  rintro e w1 ⟨rfl, hb1⟩
  have hb01 := bext hb0 hb1
  have bX1 := bX.below hb1 bX.lt
  have bK1 := bK.below hb1 bK.lt
  clear bX bK hb0 hb1
  go_wp2_with fail
  go_loopw [8] (fun n wr => ∃ m : Nat, n = .int .i64 (m : Nat) ∧ WayAt l.length (belowT l key) m ∧ m ≤ 2 * l.length + 1 ∧ Below w1.heap.size w1 wr) (fun n _ => l.length + 1 - (intOf n).toNat)
  case atStart => exact ⟨1, rfl, WayAt.start _ _, by omega, Below.refl _ _⟩
  case round =>
    obtain ⟨m, rfl, hw, hm, hb⟩ := hrel
    have bXr := bX1.below hb bX1.lt
    have bKr := bK1.below hb bK1.lt
    have c0 : wr.cell? ⟨w.heap.size, 0, none⟩ = some (.slice A l.length c) := bXr.cell 0
    have ck : wr.cell? ⟨w.heap.size + 1, 0, none⟩ = some (.int .i64 key) := bKr.cell 0
    by_cases hlt : m ≤ l.length
    · obtain ⟨j, rfl⟩ : ∃ j, m = j + 1 := ⟨m - 1, by have := hw.1; omega⟩
      have hjl : j < l.length := by omega
      obtain ⟨b, off, rfl, hbl, c1, c2, c3⟩ := hA.entB (bext hb01 hb) j hjl
      have hst := Lib.hid (hw.step HP.out hlt)
      have hbt : Hid (belowT l key (j + 1 - 1) = decide ((l[j]'hjl).key < key)) := Lib.hid (by rw [Nat.add_sub_cancel]; unfold belowT; rw [entAt_get hjl])
      generalize (l[j]'hjl) = p at *
      have i0 : (0 : Int) ≤ (j : Int) := by omega
      have i1 : (j : Int) < (l.length : Int) := by omega
      have w1' : IntKind.i64.wrap ((j : Int) + 1 - 1) = (j : Int) := by rw [show (j : Int) + 1 - 1 = (j : Int) by omega]; exact IntWalk.i64_in _ (by omega)
      have w2' : IntKind.i64.wrap (2 * ((j : Int) + 1)) = 2 * ((j : Int) + 1) := IntWalk.i64_in _ (by omega)
      clear hw HP bXr bKr
      go_wp2_with fail
      refine (turn_any p.key key _ _ ck).mono ?_
      rw [← hbt.out]
      rintro e w2 ⟨rfl, hb2⟩
      obtain ⟨B, hB⟩ : ∃ B : Nat, (if belowT l key (j + 1 - 1) = true then 1 else 0 : Nat) = B := ⟨_, rfl⟩
      have hBI : (if belowT l key (j + 1 - 1) = true then (1 : Int) else 0) = (B : Int) := by rw [← hB]; split <;> rfl
      have hB1 : B ≤ 1 := by rw [← hB]; split <;> omega
      have hst2 := hst.out
      rw [hB] at hst2
      have hst3 := Lib.hid hst2
      rw [hBI]
      have w3' : IntKind.i64.wrap (2 * ((j : Int) + 1) + (B : Int)) = 2 * ((j : Int) + 1) + (B : Int) := IntWalk.i64_in _ (by omega)
      clear hst hst2 hbt hB hBI
      go_wp2
      go_roundw
      case rel => exact ⟨2 * (j + 1) + B, by go_num, hst3.out, by omega, bext hb hb2⟩
      case measure => simp [intOf]; omega
    · have hx := Lib.hid (not_u64 m (by omega))
      have hdone := Lib.hid (hw.done hlt)
      have hanc := Lib.hid (anc_ctz (m := m) (by omega))
      have hancl := anc_le m
      obtain ⟨a, ha⟩ : ∃ a, anc m = a := ⟨_, rfl⟩
      obtain ⟨cz, hcz⟩ : ∃ cz, Lib.ctz 64 (18446744073709551615 - m) = cz := ⟨_, rfl⟩
      have hcl : cz < 64 := by
        rw [← hcz]; unfold Lib.ctz; rw [if_neg (by omega)]
        obtain ⟨_, _, h⟩ := Lib.ctzFrom_spec 64 (18446744073709551615 - m) (by omega) (by omega)
        exact h
      rw [ha] at hancl
      have hanc2 := Lib.hid (show a = m / 2 ^ (cz + 1) by rw [← ha, ← hcz]; exact hanc.out)
      have hdone2 := Lib.hid (show (inord l.length 0)[lowK l key]? = (if a = 0 then none else some (a - 1)) by rw [← ha]; exact hdone.out)
      have hwz : IntKind.i64.wrap ((cz : Int) + 1) = (cz : Int) + 1 := IntWalk.i64_in _ (by omega)
      have HCZ := Lib.hid hcz
      clear hdone hanc ha hcz hw
      go_wp2_with fail
      rw [hx.out]
      refine (tz_any (18446744073709551615 - m) _ (by omega) (by omega) (tab_below hTl HT.out (bext hb01 hb))).mono ?_
      rw [HCZ.out]
      rintro e w2 ⟨rfl, rfl⟩
      have hd : (m : Int) / 2 ^ (cz + 1) = (a : Int) := by rw [hanc2.out]; simp
      by_cases h0 : a = 0
      · subst h0
        have hd2 := hdone2.out
        rw [if_pos rfl] at hd2
        have hK : lowK l key = l.length := by have := List.getElem?_eq_none_iff.1 hd2; rw [inord_length] at this; omega
        have hE : lowE l key = 6 := by rw [HLE.out, if_pos hK]
        have hAt : lowAt l key = 0 := by unfold lowAt; rw [if_neg (by omega)]
        have HEE := Lib.hid hE
        have HAt := Lib.hid hAt
        have hd3 : (m : Int) / 2 ^ (cz + 1) = 0 := by simpa using hd
        clear hd hd2 hK hE hAt hdone2 hanc2 hancl
        go_wp2
        refine bodyPost_ret (v := .tuple #[.int .i64 0, .int .i64 6]) (by simp [results, Tryd.results29, go_sem]) rfl ?_
        exact ⟨by rw [HEE.out, HAt.out]; rfl, bext hb01 hb⟩
      · obtain ⟨j, rfl⟩ : ∃ j, a = j + 1 := ⟨a - 1, by omega⟩
        have hd2 := hdone2.out
        rw [if_neg (by omega), Nat.add_sub_cancel] at hd2
        have hK : lowK l key < l.length := by have := (List.getElem?_eq_some_iff.1 hd2).1; rw [inord_length] at this; exact this
        have hE : lowE l key = 0 := by rw [HLE.out, if_neg (by omega)]
        have hAt : lowAt l key = j := by unfold lowAt; rw [if_pos hE, List.getD_eq_getElem?_getD, hd2]; rfl
        have HEE := Lib.hid hE
        have HAt := Lib.hid hAt
        have hd3 : (m : Int) / 2 ^ (cz + 1) = (j : Int) + 1 := by rw [hd]; omega
        have hnz : ((j : Int) + 1 == 0) = false := by rw [beq_eq_false_iff_ne]; omega
        have hw5 : wrap64 (j : Int) = (j : Int) := IntWalk.wrap64_in (j : Int) (by omega)
        have hw4 : wrap64 ((j : Int) + 1 - 1) = (j : Int) := by rw [show (j : Int) + 1 - 1 = (j : Int) by omega]; exact hw5
        clear hd hd2 hK hE hAt hdone2 hanc2 hancl
        go_wp2
        refine bodyPost_ret (v := .tuple #[.int .i64 (j : Int), .int .i64 0]) (by simp [results, Tryd.results29, go_sem, hw5]) rfl ?_
        exact ⟨by rw [HEE.out, HAt.out], bext hb01 hb⟩
end Go.Proofs.YtolclahkfmplfaaDoor
