/- Plain facts on merged runs: lengths, a run merged with itself, folds. No program in sight. -/
import Derived.Test.YtokomclcgegfkaaDoorKh
namespace Go.Proofs.YtokomclcgegfkaaDoor
open Go

theorem bothE_ge : ∀ (n : Nat) (a b : List Ent), a.length + b.length ≤ n → a.length ≤ (bothE a b).length ∧ b.length ≤ (bothE a b).length := by
  intro n
  induction n with
  | zero => intro a b h; cases a <;> cases b <;> simp at h; simp [bothE]
  | succ n ih =>
    intro a b h
    cases a with
    | nil => rw [bothE]; simp
    | cons x a =>
      cases b with
      | nil => rw [bothE]; simp
      | cons y b =>
        simp only [List.length_cons] at h ⊢
        rw [bothE]
        split
        · have := ih a (y :: b) (by simp; omega); simp at this ⊢; omega
        · split
          · have := ih a b (by omega); simp at this ⊢; omega
          · have := ih (x :: a) b (by simp; omega); simp at this ⊢; omega
theorem bothE_self : ∀ (l : List Ent), bothE l l = l
  | [] => by rw [bothE]
  | x :: l => by rw [bothE_eq rfl, bothE_self l]
theorem fold_ge : ∀ (rs : List (List Ent)) (acc : List Ent), acc.length ≤ (rs.foldl bothE acc).length ∧ ∀ r ∈ rs, r.length ≤ (rs.foldl bothE acc).length
  | [], acc => by simp
  | r :: rs, acc => by
    have h1 := bothE_ge _ acc r (Nat.le_refl _)
    obtain ⟨g1, g2⟩ := fold_ge rs (bothE acc r)
    rw [List.foldl_cons]
    refine ⟨by omega, fun q hq => ?_⟩
    rcases List.mem_cons.1 hq with rfl | hq
    · omega
    · exact g2 q hq
theorem all_one (l : List Ent) : allE [l] = l := by unfold allE; rw [List.foldl_cons, List.foldl_nil, bothE]
theorem all_two (a b : List Ent) : allE [a, b] = bothE a b := by unfold allE; rw [List.foldl_cons, List.foldl_cons, List.foldl_nil, bothE]

/-- a run with a right layout -/
theorem mE_chk {rs : List (List Ent)} (h : mE rs = 0) : chkAllE rs = 0 := by
  unfold mE at h
  split at h
  · assumption
  · exact absurd h (by assumption)
theorem mE_of {rs : List (List Ent)} (h : chkAllE rs = 0) (hT : (rs.map List.length).sum ≤ 65536) : mE rs = 0 := by
  unfold mE
  rw [if_pos h, if_neg]
  have h1 := fold_len (rs.map inL) []
  have h2 : ((rs.map inL).map List.length).sum = (rs.map List.length).sum := by
    rw [List.map_map]
    congr 1
    exact List.map_congr_left (fun r _ => inL_length r)
  rw [h2] at h1
  unfold allE
  simp at h1 ⊢
  omega
theorem mE_bad {rs : List (List Ent)} (hT : (rs.map List.length).sum ≤ 65536) : mE rs = chkAllE rs := by
  by_cases h : chkAllE rs = 0
  · rw [mE_of h hT, h]
  · unfold mE; rw [if_neg h]
theorem rms (rs : List (List Ent)) : (rs.map (fun l => (⟨l, none, 0⟩ : Rm))).map Rm.l = rs := by rw [List.map_map]; simp [Function.comp_def]
theorem mL_build {rs : List (List Ent)} (bare : Bool) (h : mE rs = 0) : buildE (bareE bare (allE (rs.map inL))) = 0 := by
  have h2 := mrg_build (Rs := rs.map (fun l => (⟨l, none, 0⟩ : Rm))) bare (by rw [mrgE_m, rms]; exact h)
  rw [inS_of, rms] at h2
  exact h2.1
theorem mL_is {rs : List (List Ent)} (bare : Bool) (h : mE rs = 0) : mL rs bare = laid (bareE bare (allE (rs.map inL))) := by unfold mL; rw [if_pos h]
theorem mL_chk {rs : List (List Ent)} (bare : Bool) (h : mE rs = 0) : chkE (mL rs bare) = 0 := by
  rw [mL_is bare h]
  exact build_chk (mL_build bare h)
theorem mL_in {rs : List (List Ent)} (bare : Bool) (h : mE rs = 0) : inL (mL rs bare) = bareE bare (allE (rs.map inL)) := by rw [mL_is bare h, in_laid]
theorem mL_len {rs : List (List Ent)} {T : Nat} (bare : Bool) (hT : (rs.map List.length).sum ≤ T) : (mL rs bare).length ≤ T := by
  have h := mrg_len (Rs := rs.map (fun l => (⟨l, none, 0⟩ : Rm))) (T := T) bare (by rw [List.map_map]; exact hT)
  rw [mrgL_m, rms] at h
  exact h
theorem mL_ge {rs : List (List Ent)} (h : mE rs = 0) {r : List Ent} (hr : r ∈ rs) : r.length ≤ (mL rs false).length := by
  rw [mL_is false h, laid_length]
  have := (fold_ge (rs.map inL) []).2 (inL r) (List.mem_map.2 ⟨r, hr, rfl⟩)
  rw [inL_length] at this
  exact this
theorem self_E {r : List Ent} (h : chkE r = 0) (hl : r.length ≤ 32768) : mE [r, r] = 0 := mE_of (by simp [chkAllE, h]) (by simp; omega)
theorem self_L {r : List Ent} (h : chkE r = 0) (hl : r.length ≤ 32768) : mL [r, r] false = r := by
  rw [mL_is false (self_E h hl)]
  show laid (allE [inL r, inL r]) = r
  rw [all_two, bothE_self, laid_in]
theorem chkAll_zero {rs : List (List Ent)} (h : ∀ r ∈ rs, chkE r = 0) : chkAllE rs = 0 := by
  induction rs with
  | nil => rfl
  | cons r rs ih =>
    rw [chkAllE, if_pos (h r (by simp))]
    exact ih fun q hq => h q (by simp [hq])
end Go.Proofs.YtokomclcgegfkaaDoor
