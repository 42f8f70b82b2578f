/- Contracts: Lower, Find, Rank, for every run. -/
import Derived.Test.YtokomclcgegfkaaLd
namespace Go.Proofs.Ytokomclcgegfkaa
open Go Go.RowKit
set_option maxRecDepth 100000

theorem chk_vals (l : List Ent) : chkE l = 0 ∨ chkE l = 4 ∨ chkE l = 8 ∨ chkE l = 130 := by
  unfold chkE fairE riseE
  repeat' split
  all_goals simp_all
theorem low_bad {l : List Ent} (key : Int) (h : ¬ chkE l = 0) : lowE l key = chkE l ∧ lowAt l key = 0 := by
  have h1 : lowE l key = chkE l := by unfold lowE; rw [if_pos h]
  exact ⟨h1, by unfold lowAt; rw [h1, if_neg h]⟩
theorem low_six {l : List Ent} {key : Int} (h : chkE l = 0) (hk : lowK l key = l.length) : lowE l key = 6 ∧ lowAt l key = 0 := by
  have h1 : lowE l key = 6 := by unfold lowE; rw [if_neg (by omega), if_pos hk]
  exact ⟨h1, by unfold lowAt; rw [h1]; rfl⟩
theorem low_at {l : List Ent} {key : Int} (h : chkE l = 0) (hk : ¬ lowK l key = l.length) : lowE l key = 0 ∧ (inord l.length 0)[lowK l key]? = some (lowAt l key) ∧ lowAt l key < l.length := by
  have h1 : lowE l key = 0 := by unfold lowE; rw [if_neg (by omega), if_neg hk]
  have hle := lowK_le l key
  have hlt : lowK l key < (inord l.length 0).length := by rw [inord_length]; omega
  have h2 : (inord l.length 0)[lowK l key]? = some (lowAt l key) := by unfold lowAt; rw [if_pos h1, List.getD_eq_getElem?_getD, List.getElem?_eq_getElem hlt]; rfl
  exact ⟨h1, h2, inord_lt (List.mem_of_getElem? h2)⟩
/-- what Find tells -/
def fdE (l : List Ent) (key : Int) : Int := if lowE l key ≠ 0 then lowE l key else if (entAt l (lowAt l key)).key = key then 0 else 6
def fdAt (l : List Ent) (key : Int) : Nat := if fdE l key = 0 then lowAt l key else 0
/-- what Rank tells -/
def rkN (l : List Ent) (key : Int) : Nat := if chkE l = 0 then lowK l key else 0




end Go.Proofs.Ytokomclcgegfkaa
