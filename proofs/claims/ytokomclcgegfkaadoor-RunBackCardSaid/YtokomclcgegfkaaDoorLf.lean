/- Contract: two runs compared; plain facts: laid out and sorted again. -/
import Derived.Test.YtokomclcgegfkaaDoorLb
namespace Go.Proofs.YtokomclcgegfkaaDoor
open Go Go.RowKit
set_option maxRecDepth 100000

theorem in_laid (l : List Ent) : inL (laid l) = l := by
  refine List.ext_getElem? fun k => ?_
  by_cases hk : k < l.length
  · have hk2 : k < (inL (laid l)).length := by rw [inL_length, laid_length]; exact hk
    have hk3 : k < (inord (laid l).length 0).length := by rw [inord_length, laid_length]; exact hk
    rw [List.getElem?_eq_getElem hk2, List.getElem?_eq_getElem hk, inL_get]
    congr 1
    have hp : (inord (laid l).length 0)[k]'hk3 < (laid l).length := inord_lt (List.getElem_mem hk3)
    rw [entAt_get hp]
    have hidx := idx_inord hk3
    have h2 : ∀ a (ha : a < (laid l).length), (inord (laid l).length 0).idxOf a = k → (laid l)[a]'ha = l[k]'hk := by
      intro a ha he
      rw [laid_length] at he
      have hal : a < l.length := by rwa [laid_length] at ha
      have hr : a < (ranks l.length).length := by rw [ranks_length]; exact hal
      have : (laid l)[a]'ha = entAt l ((ranks l.length)[a]'hr) := by simp [laid]
      rw [this, ranks_get hal, he, entAt_get hk]
    exact h2 _ hp hidx
  · rw [List.getElem?_eq_none (by rw [inL_length, laid_length]; omega), List.getElem?_eq_none (by omega)]
theorem laid_in (x : List Ent) : laid (inL x) = x := by
  refine List.ext_getElem? fun a => ?_
  by_cases ha : a < x.length
  · have ha1 : a < (inL x).length := by rw [inL_length]; exact ha
    have ha2 : a < (laid (inL x)).length := by rw [laid_length]; exact ha1
    rw [List.getElem?_eq_getElem ha2, List.getElem?_eq_getElem ha]
    congr 1
    have hr : a < (ranks (inL x).length).length := by rw [ranks_length]; exact ha1
    have h1 : (laid (inL x))[a]'ha2 = entAt (inL x) ((ranks (inL x).length)[a]'hr) := by simp [laid]
    rw [h1, ranks_get ha1]
    have hlt := ranks_lt ha1
    rw [entAt_get hlt]
    have hlt2 : (inord (inL x).length 0).idxOf a < (inord x.length 0).length := by rw [inord_length, ← inL_length x]; exact hlt
    have h3 : ∀ k (hk : k < (inL x).length), k = (inord x.length 0).idxOf a → (inL x)[k]'hk = x[a]'ha := by
      intro k hk he
      rw [inL_get]
      subst he
      rw [inord_idx ha, entAt_get ha]
    exact h3 _ hlt (by rw [inL_length])
  · rw [List.getElem?_eq_none (by rw [laid_length, inL_length]; omega), List.getElem?_eq_none (by omega)]
theorem laid_mem {l : List Ent} {e : Ent} (h : e ∈ laid l) : e ∈ l := by
  obtain ⟨r, hr, rfl⟩ := List.mem_map.1 h
  unfold ranks at hr
  obtain ⟨a, ha, rfl⟩ := List.mem_map.1 hr
  have ha2 : a < l.length := by simpa using ha
  rw [entAt_get (ranks_lt ha2)]
  exact List.getElem_mem _
theorem inL_mem {l : List Ent} {e : Ent} (h : e ∈ inL l) : e ∈ l := by
  obtain ⟨r, hr, rfl⟩ := List.mem_map.1 h
  rw [entAt_get (inord_lt hr)]
  exact List.getElem_mem _
theorem build_parts {l : List Ent} (h : buildE l = 0) : fairE l = 0 ∧ rises (l.map Ent.key) = true := by
  unfold buildE at h
  unfold fairE
  split at h
  · cases h
  · rename_i h1
    split at h
    · cases h
    · rename_i h2
      split at h
      · rename_i h3; exact ⟨by rw [if_neg h1, if_neg h2], h3⟩
      · cases h
theorem fair_sub {l m : List Ent} (hlen : m.length ≤ l.length) (hm : ∀ e ∈ m, e ∈ l) (h : fairE l = 0) : fairE m = 0 := by
  have hl := fair_len h
  unfold fairE at h ⊢
  rw [if_neg (by omega)] at h ⊢
  cases hb : m.any badEnt
  · rfl
  · obtain ⟨e, he, hbe⟩ := List.any_eq_true.1 hb
    rw [if_pos (List.any_eq_true.2 ⟨e, hm e he, hbe⟩)] at h
    cases h
theorem build_chk {l : List Ent} (h : buildE l = 0) : chkE (laid l) = 0 := by
  obtain ⟨h1, h2⟩ := build_parts h
  have hf := fair_sub (m := laid l) (by rw [laid_length]; exact Nat.le_refl _) (fun e he => laid_mem he) h1
  unfold chkE
  rw [if_neg (by omega), in_laid]
  unfold riseE
  rw [if_pos h2]
theorem chk_build {x : List Ent} (h : chkE x = 0) : buildE (inL x) = 0 := by
  obtain ⟨h1, h2, h3⟩ := chk_ok h
  have hf := fair_sub (m := inL x) (by rw [inL_length]; exact Nat.le_refl _) (fun e he => inL_mem he) h1
  have hl := fair_len hf
  unfold fairE at hf
  rw [if_neg (by omega)] at hf
  unfold buildE
  rw [if_neg (by omega)]
  split at hf
  · cases hf
  · rename_i hb
    rw [if_neg hb, if_pos h2]

set_option maxHeartbeats 1000000 in
theorem equalE_any (A B : Option Addr) (l m : List Ent) (c d : Nat) (w : World) (hA : Sl w A (l.flatMap Ent.cells)) (hB : Sl w B (m.flatMap Ent.cells)) (_hl : l.length ≤ 4611686018427387903) (hm : m.length ≤ 4611686018427387903) :
    Calls Tryd.prog 68 #[.slice A l.length c, .slice B m.length d] w fun r w' => r = .returned (.bool (decide (l = m))) ∧ Below w.heap.size w w' := by
  by_cases hlen : l.length = m.length
  · have hz : ((l.length : Int) != (m.length : Int)) = false := by simp [hlen]
    have hz2 : (l.length : Int) ≤ (m.length : Int) := by omega
    have HL := Lib.hid hlen
    clear hlen
    go_enter Tryd.func68, Tryd.ntmps68
    go_wp2
    go_loopw [13] (fun i wr => ∃ k : Nat, k ≤ l.length ∧ i = .int .i64 k ∧ Below w.heap.size w wr ∧ Hid (l.take k = m.take k)) (fun i _ => l.length - (intOf i).toNat)
    case atStart => exact ⟨0, Nat.zero_le _, rfl, Below.refl _ _, rfl⟩
    case round =>
      obtain ⟨k, hk, rfl, hb, hn⟩ := hrel
      by_cases hlt : k < l.length
      · have hlt2 : k < m.length := by omega
        obtain ⟨b, off, rfl, hbl, c1, c2, c3⟩ := hA.entB hb k hlt
        obtain ⟨b', off', rfl, hbl', d1, d2, d3⟩ := hB.entB hb k hlt2
        have i0 : (0 : Int) ≤ (k : Int) := by omega
        have i1 : (k : Int) < (l.length : Int) := by omega
        have i2 : (k : Int) < (m.length : Int) := by omega
        clear hA hB
        have hne := fun w => run_neq_ent (l[k]'hlt) (m[k]'hlt2) w
        have hgu := ent_guard
        go_wp2
        go_quiet (fail)
        clear hne hgu
        go_wp2
        · have hx : neE (l[k]'hlt) (m[k]'hlt2) = true := by assumption
          go_ret
          refine ⟨ret_bool ?_, bdrew hb _⟩
          symm
          rw [decide_eq_false_iff_not]
          rintro rfl
          simp [neE] at hx
        · have hx : neE (l[k]'hlt) (m[k]'hlt2) = false := by assumption
          go_roundw
          case rel =>
            refine ⟨k + 1, by omega, by go_num, bdrew hb _, ?_⟩
            show _ = _
            rw [List.take_succ_eq_append_getElem hlt, List.take_succ_eq_append_getElem hlt2, hn.out]
            simp [neE] at hx
            rw [hx]
          case measure => simp [intOf]; omega
      · go_wp2
        go_ret
        refine ⟨ret_bool ?_, hb⟩
        have := hn.out
        rw [List.take_of_length_le (by omega), List.take_of_length_le (by have := HL.out; omega)] at this
        rw [this, decide_eq_true rfl]
  · have hz : ((l.length : Int) != (m.length : Int)) = true := by simp; omega
    have HL := Lib.hid hlen
    clear hlen
    go_enter Tryd.func68, Tryd.ntmps68
    go_wp2
    go_ret
    refine ⟨ret_bool ?_, Below.refl _ _⟩
    symm
    rw [decide_eq_false_iff_not]
    rintro rfl
    exact HL.out rfl
set_option maxHeartbeats 1000000 in
theorem boundSame_any (A B : Option Addr) (l m : List Ent) (c d : Nat) (w : World) (hA : Sl w A (l.flatMap Ent.cells)) (hB : Sl w B (m.flatMap Ent.cells)) (hl : l.length ≤ 4611686018427387903) (hm : m.length ≤ 4611686018427387903) :
    Calls Tryd.prog 23 #[.agg #[.slice A l.length c], .agg #[.slice B m.length d]] w fun r w' => r = .returned (.bool (decide (l = m))) ∧ Below w.heap.size w w' := by
  have hb0 : Below w.heap.size w ((w.alloc (.cells #[.slice A l.length c] 24)).alloc (.cells #[.slice B m.length d] 24)) := ((Below.refl _ _).alloc (Nat.le_refl _) _).alloc (by simp) _
  go_enter Tryd.func23, Tryd.ntmps23
  go_wp2_with fail
  refine (equalE_any A B l m c d _ (hA.below hb0) (hB.below hb0) hl hm).mono ?_
  rintro e w1 ⟨rfl, hb1⟩
  go_wp2
  go_ret
  exact ⟨rfl, bext hb0 hb1⟩
end Go.Proofs.YtokomclcgegfkaaDoor
