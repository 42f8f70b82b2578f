/- Contracts: the references of bound; copies of runs. -/
import Derived.Test.YtokomclcgegfkaaLe
import Derived.Test.YtokomclcgegfkaaLf
import Derived.Lib.SliceRun
namespace Go.Proofs.Ytokomclcgegfkaa
open Go Go.RowKit
set_option maxRecDepth 100000

theorem inL_perm (l : List Ent) : (inL l).Perm l := by
  have h := (inord_perm l.length).map (entAt l)
  have e : (List.range l.length).map (entAt l) = l := by
    refine List.ext_getElem? fun i => ?_
    by_cases hi : i < l.length
    · simp [hi, entAt_get hi]
    · rw [List.getElem?_eq_none (by simp; omega), List.getElem?_eq_none (by omega)]
  rw [e] at h
  exact h
def belK (l : List Ent) (key : Int) : Nat := l.countP (fun e => decide (e.key < key))
theorem lowK_bel (l : List Ent) (key : Int) : lowK l key = belK l key := by
  have h := (inL_perm l).countP_eq (fun e => decide (e.key < key))
  unfold belK
  rw [← h]
  unfold lowK inL
  rw [List.countP_map]
  rfl
theorem belK_succ {l : List Ent} {k : Nat} (h : k < l.length) (key : Int) : belK (l.take (k + 1)) key = belK (l.take k) key + (if (l[k]'h).key < key then 1 else 0) := by
  unfold belK
  rw [List.take_succ_eq_append_getElem h, List.countP_append, List.countP_cons, List.countP_nil]
  simp
theorem belK_le (l : List Ent) (key : Int) : belK l key ≤ l.length := List.countP_le_length

set_option maxHeartbeats 1000000 in
theorem refCheck_any (A : Option Addr) (l : List Ent) (c : Nat) (w : World) (hA : Sl w A (l.flatMap Ent.cells)) (hl : l.length ≤ 4611686018427387903) :
    Calls Try.prog 56 #[.agg #[.slice A l.length c]] w fun r w' => r = .returned (.int .i64 (chkE l)) ∧ Below w.heap.size w w' := by
  have hb0 : Below w.heap.size w (w.alloc (.cells #[.slice A l.length c] 24)) := (Below.refl _ _).alloc (Nat.le_refl _) _
  have bX := Blk.new w 24 #[.slice A l.length c]
  have hA' := Lib.hid hA
  clear hA
  by_cases h1 : l.length > 65536
  · have hE : chkE l = 4 := by unfold chkE fairE; rw [if_pos h1]; rfl
    rw [hE]
    have h1' : (65536 : Int) < (l.length : Int) := by omega
    go_enter Try.func56, Try.ntmps56
    go_wp2
    go_ret
    exact ⟨rfl, hb0⟩
  · have h1' : ¬ (65536 : Int) < (l.length : Int) := by omega
    cases h2 : l.any badEnt
    · have hE : chkE l = riseE (inL l) := by unfold chkE fairE; rw [if_neg h1, h2]; rfl
      rw [hE]
      have H2 := Lib.hid h2
      have HL := Lib.hid (inL_length l)
      obtain ⟨b, hb⟩ : ∃ b, rises ((inL l).map Ent.key) = b := ⟨_, rfl⟩
      have HB := Lib.hid hb
      have hR : riseE (inL l) = if b = true then 0 else 130 := by unfold riseE; rw [hb]
      rw [hR]
      clear h2 hE hb hR
      go_enter Try.func56, Try.ntmps56
      go_wp2_with fail
      refine (refFair_any A l c _ (hA'.out.below hb0) hl).mono ?_
      rw [H2.out]
      rintro e w1 ⟨rfl, rfl⟩
      have c0 := bX.cell 0
      go_wp2_with fail
      refine (refIn_any A l c _ (hA'.out.below hb0) (by omega)).mono ?_
      rintro e w2 ⟨A2, c2, rfl, ho2, hb2⟩
      have hb02 := bext hb0 hb2
      have hs2 := Lib.hid (own_sl ho2)
      clear ho2 c0
      go_wp2_with fail
      rw [← HL.out]
      refine (refRising_any A2 (inL l) c2 _ hs2.out (by rw [HL.out]; omega)).mono ?_
      rw [HB.out]
      rintro e w3 ⟨rfl, hb3⟩
      cases b
      · go_wp2
        go_ret
        exact ⟨rfl, bext hb02 hb3⟩
      · go_wp2
        go_ret
        exact ⟨rfl, bext hb02 hb3⟩
    · have hE : chkE l = 8 := by unfold chkE fairE; rw [if_neg h1, h2]; rfl
      rw [hE]
      have H2 := Lib.hid h2
      clear h2 hE
      go_enter Try.func56, Try.ntmps56
      go_wp2_with fail
      refine (refFair_any A l c _ (hA'.out.below hb0) hl).mono ?_
      rw [H2.out]
      rintro e w1 ⟨rfl, rfl⟩
      go_wp2
      go_ret
      exact ⟨rfl, hb0⟩



end Go.Proofs.Ytokomclcgegfkaa
