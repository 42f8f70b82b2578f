/- Ky Gp G1 G2 G3: texts of the claim, in this order. -/
import Derived.Test.YthbppblmecdekaaDoorWb7
import Derived.Test.YthbppblmecdekaaDoorWb6
/- Plain facts on merged runs: lengths, a run merged with itself, folds. No program in sight. -/
namespace Go.Proofs.YthbppblmecdekaaDoor
open Go

theorem bothE_ge : ∀ (n : Nat) (a b : List Ent), a.length + b.length ≤ n → a.length ≤ (bothE a b).length ∧ b.length ≤ (bothE a b).length := by
  intro n
  induction n with
  | zero => intro a b h; cases a <;> cases b <;> simp at h; simp [bothE]
  | succ n ih =>
    intro a b h
    cases a with
    | nil => rw [bothE]; simp
    | cons x a =>
      cases b with
      | nil => rw [bothE]; simp
      | cons y b =>
        simp only [List.length_cons] at h ⊢
        rw [bothE]
        split
        · have := ih a (y :: b) (by simp; omega); simp at this ⊢; omega
        · split
          · have := ih a b (by omega); simp at this ⊢; omega
          · have := ih (x :: a) b (by simp; omega); simp at this ⊢; omega
theorem bothE_self : ∀ (l : List Ent), bothE l l = l
  | [] => by rw [bothE]
  | x :: l => by rw [bothE_eq rfl, bothE_self l]
theorem fold_ge : ∀ (rs : List (List Ent)) (acc : List Ent), acc.length ≤ (rs.foldl bothE acc).length ∧ ∀ r ∈ rs, r.length ≤ (rs.foldl bothE acc).length
  | [], acc => by simp
  | r :: rs, acc => by
    have h1 := bothE_ge _ acc r (Nat.le_refl _)
    obtain ⟨g1, g2⟩ := fold_ge rs (bothE acc r)
    rw [List.foldl_cons]
    refine ⟨by omega, fun q hq => ?_⟩
    rcases List.mem_cons.1 hq with rfl | hq
    · omega
    · exact g2 q hq
theorem all_one (l : List Ent) : allE [l] = l := by unfold allE; rw [List.foldl_cons, List.foldl_nil, bothE]
theorem all_two (a b : List Ent) : allE [a, b] = bothE a b := by unfold allE; rw [List.foldl_cons, List.foldl_cons, List.foldl_nil, bothE]

/-- a run with a right layout -/
theorem mE_chk {rs : List (List Ent)} (h : mE rs = 0) : chkAllE rs = 0 := by
  unfold mE at h
  split at h
  · assumption
  · exact absurd h (by assumption)
theorem mE_of {rs : List (List Ent)} (h : chkAllE rs = 0) (hT : (rs.map List.length).sum ≤ 65536) : mE rs = 0 := by
  unfold mE
  rw [if_pos h, if_neg]
  have h1 := fold_len (rs.map inL) []
  have h2 : ((rs.map inL).map List.length).sum = (rs.map List.length).sum := by
    rw [List.map_map]
    congr 1
    exact List.map_congr_left (fun r _ => inL_length r)
  rw [h2] at h1
  unfold allE
  simp at h1 ⊢
  omega
theorem mE_bad {rs : List (List Ent)} (hT : (rs.map List.length).sum ≤ 65536) : mE rs = chkAllE rs := by
  by_cases h : chkAllE rs = 0
  · rw [mE_of h hT, h]
  · unfold mE; rw [if_neg h]
theorem rms (rs : List (List Ent)) : (rs.map (fun l => (⟨l, none, 0⟩ : Rm))).map Rm.l = rs := by rw [List.map_map]; simp [Function.comp_def]
theorem mL_build {rs : List (List Ent)} (bare : Bool) (h : mE rs = 0) : buildE (bareE bare (allE (rs.map inL))) = 0 := by
  have h2 := mrg_build (Rs := rs.map (fun l => (⟨l, none, 0⟩ : Rm))) bare (by rw [mrgE_m, rms]; exact h)
  rw [inS_of, rms] at h2
  exact h2.1
theorem mL_is {rs : List (List Ent)} (bare : Bool) (h : mE rs = 0) : mL rs bare = laid (bareE bare (allE (rs.map inL))) := by unfold mL; rw [if_pos h]
theorem mL_chk {rs : List (List Ent)} (bare : Bool) (h : mE rs = 0) : chkE (mL rs bare) = 0 := by
  rw [mL_is bare h]
  exact build_chk (mL_build bare h)
theorem mL_in {rs : List (List Ent)} (bare : Bool) (h : mE rs = 0) : inL (mL rs bare) = bareE bare (allE (rs.map inL)) := by rw [mL_is bare h, in_laid]
theorem mL_len {rs : List (List Ent)} {T : Nat} (bare : Bool) (hT : (rs.map List.length).sum ≤ T) : (mL rs bare).length ≤ T := by
  have h := mrg_len (Rs := rs.map (fun l => (⟨l, none, 0⟩ : Rm))) (T := T) bare (by rw [List.map_map]; exact hT)
  rw [mrgL_m, rms] at h
  exact h
theorem mL_ge {rs : List (List Ent)} (h : mE rs = 0) {r : List Ent} (hr : r ∈ rs) : r.length ≤ (mL rs false).length := by
  rw [mL_is false h, laid_length]
  have := (fold_ge (rs.map inL) []).2 (inL r) (List.mem_map.2 ⟨r, hr, rfl⟩)
  rw [inL_length] at this
  exact this
theorem self_E {r : List Ent} (h : chkE r = 0) (hl : r.length ≤ 32768) : mE [r, r] = 0 := mE_of (by simp [chkAllE, h]) (by simp; omega)
theorem self_L {r : List Ent} (h : chkE r = 0) (hl : r.length ≤ 32768) : mL [r, r] false = r := by
  rw [mL_is false (self_E h hl)]
  show laid (allE [inL r, inL r]) = r
  rw [all_two, bothE_self, laid_in]
theorem chkAll_zero {rs : List (List Ent)} (h : ∀ r ∈ rs, chkE r = 0) : chkAllE rs = 0 := by
  induction rs with
  | nil => rfl
  | cons r rs ih =>
    rw [chkAllE, if_pos (h r (by simp))]
    exact ih fun q hq => h q (by simp [hq])
end Go.Proofs.YthbppblmecdekaaDoor

/- Plain facts: what is found in a run, by the entries themselves. No program in sight. -/
namespace Go.Proofs.YthbppblmecdekaaDoor
open Go

theorem look_isNone {l : List Ent} {k : Int} (h : look l k = none) : ∀ e ∈ l, e.key ≠ k := by
  unfold look at h
  rw [List.find?_eq_none] at h
  intro e he
  simpa using h e he
theorem look_perm {l m : List Ent} (hp : l.Perm m) (hr : RisE m) (k : Int) : look l k = look m k := by
  cases h : look l k with
  | some e =>
    obtain ⟨h1, h2⟩ := look_key h
    have := look_mem hr (hp.mem_iff.1 h2)
    rw [h1] at this
    exact this.symm
  | none =>
    cases h2 : look m k with
    | none => rfl
    | some e =>
      obtain ⟨h3, h4⟩ := look_key h2
      exact absurd h3 (look_isNone h e (hp.mem_iff.2 h4))
theorem look_in {l : List Ent} (h : chkE l = 0) (k : Int) : look l k = look (inL l) k := look_perm (inL_perm l).symm (chk_ris h) k
theorem ris_count : ∀ {m : List Ent} (k : Int), RisE m → ∀ i (hi : i < m.length), ((m[i]'hi).key < k ↔ i < belK m k)
  | [], k, _, i, hi => by simp at hi
  | a :: m, k, h, i, hi => by
    obtain ⟨h1, h2⟩ := RisE.cons.1 h
    have hb : belK (a :: m) k = belK m k + (if a.key < k then 1 else 0) := by
      unfold belK
      rw [List.countP_cons]
      simp
    rw [hb]
    by_cases ha : a.key < k
    · rw [if_pos ha]
      cases i with
      | zero => simp [ha]
      | succ i =>
        have := ris_count k h2 i (by simpa using hi)
        simp at this ⊢
        exact this
    · rw [if_neg ha]
      have h0 : belK m k = 0 := by
        unfold belK
        rw [List.countP_eq_zero]
        intro e he
        have := h1 e he
        simp; omega
      rw [h0]
      cases i with
      | zero => simp; omega
      | succ i =>
        have := h1 _ (List.getElem_mem (by simpa using hi : i < m.length))
        simp; omega
/-- sorted entries from a key on -/
theorem ris_at {m : List Ent} {k : Int} (h : RisE m) (hlt : belK m k < m.length) : k ≤ (m[belK m k]'hlt).key := by
  have := (ris_count k h _ hlt)
  omega
theorem ris_look {m : List Ent} {k : Int} (h : RisE m) : look m k = if hlt : belK m k < m.length then (if (m[belK m k]'hlt).key = k then some (m[belK m k]'hlt) else none) else none := by
  cases hl : look m k with
  | some e =>
    obtain ⟨h1, h2⟩ := look_key hl
    obtain ⟨i, hi, he⟩ := List.getElem_of_mem h2
    have hK : belK m k = i := by
      have h3 := ris_count k h i hi
      rw [he] at h3
      have h4 : ¬ i < belK m k := fun hh => by have := h3.2 hh; omega
      have h5 : ¬ belK m k < i := fun hh => by
        have h6 := (List.pairwise_iff_getElem.1 h) (belK m k) i (by omega) hi hh
        have h7 := ris_count k h (belK m k) (by omega)
        rw [he] at h6
        omega
      omega
    subst hK
    rw [dif_pos hi, he, if_pos h1]
  | none =>
    have h2 := look_isNone hl
    split
    · rename_i hlt
      rw [if_neg (h2 _ (List.getElem_mem hlt))]
    · rfl
/-- what Lower tells, by the sorted entries -/
theorem low_inE {l : List Ent} {key : Int} (h : chkE l = 0) (hk : ¬ lowK l key = l.length) :
    ∃ hlt : belK (inL l) key < (inL l).length, entAt l (lowAt l key) = (inL l)[belK (inL l) key]'hlt ∧ lowAt l key < l.length := by
  obtain ⟨_, h2, h3⟩ := low_at h hk
  have hK : lowK l key = belK (inL l) key := by
    rw [lowK_bel]
    unfold belK
    exact ((inL_perm l).countP_eq _).symm
  have hlt : belK (inL l) key < (inL l).length := by
    rw [inL_length, ← hK]
    have := lowK_le l key
    omega
  refine ⟨hlt, ?_, h3⟩
  rw [inL_get]
  congr 1
  rw [hK] at h2
  exact (List.getElem?_eq_some_iff.1 h2).2.symm
theorem low_end {l : List Ent} {key : Int} (hk : lowK l key = l.length) : ¬ belK (inL l) key < (inL l).length := by
  have hK : lowK l key = belK (inL l) key := by
    rw [lowK_bel]
    unfold belK
    exact ((inL_perm l).countP_eq _).symm
  rw [inL_length, ← hK, hk]
  omega
/-- what Find tells, by the entries -/
theorem fd_look {l : List Ent} (key : Int) (h : chkE l = 0) :
    (fdE l key = 0 ∧ fdAt l key < l.length ∧ look l key = some (entAt l (fdAt l key))) ∨ (fdE l key = 6 ∧ look l key = none) := by
  by_cases hk : lowK l key = l.length
  · right
    have h6 := (low_six h hk).1
    refine ⟨by unfold fdE; rw [h6]; rfl, ?_⟩
    rw [look_in h, ris_look (chk_ris h), dif_neg (low_end hk)]
  · obtain ⟨hlt, h1, h2⟩ := low_inE h hk
    have h0 := (low_at h hk).1
    have hfe : fdE l key = if (entAt l (lowAt l key)).key = key then 0 else 6 := by unfold fdE; rw [h0]; rfl
    by_cases hkey : (entAt l (lowAt l key)).key = key
    · left
      rw [if_pos hkey] at hfe
      have hat : fdAt l key = lowAt l key := by unfold fdAt; rw [if_pos hfe]
      refine ⟨hfe, by rw [hat]; exact h2, ?_⟩
      rw [look_in h, ris_look (chk_ris h), dif_pos hlt, ← h1, if_pos hkey, hat]
    · right
      rw [if_neg hkey] at hfe
      refine ⟨hfe, ?_⟩
      rw [look_in h, ris_look (chk_ris h), dif_pos hlt, ← h1, if_neg hkey]
theorem fd_bad {l : List Ent} (key : Int) (h : ¬ chkE l = 0) : fdE l key = chkE l := by
  have := (low_bad key h).1
  unfold fdE
  rw [this, if_pos h]

def zeroE : Ent := ⟨0, 0, false⟩
/-- what Get tells -/
def gtE (l : List Ent) (key : Int) : Int := if chkE l = 0 then (if (look l key).isSome then 0 else 6) else chkE l
def gtX (l : List Ent) (key : Int) : Ent := if chkE l = 0 then (look l key).getD zeroE else zeroE
theorem gt_fd (l : List Ent) (key : Int) : gtE l key = fdE l key ∧ (fdE l key = 0 → fdAt l key < l.length ∧ gtX l key = entAt l (fdAt l key)) ∧ (fdE l key ≠ 0 → gtX l key = zeroE) := by
  unfold gtE gtX
  by_cases h : chkE l = 0
  · rw [if_pos h, if_pos h]
    rcases fd_look key h with ⟨h1, h2, h3⟩ | ⟨h1, h2⟩
    · rw [h1, h3]
      exact ⟨rfl, fun _ => ⟨h2, rfl⟩, fun hh => absurd rfl hh⟩
    · rw [h1, h2]
      exact ⟨rfl, fun hh => by omega, fun _ => rfl⟩
  · rw [if_neg h, if_neg h, fd_bad key h]
    exact ⟨rfl, fun hh => absurd hh h, fun _ => rfl⟩
theorem gt_vals (l : List Ent) (key : Int) : gtE l key = 0 ∨ gtE l key = 6 ∨ (chkE l ≠ 0 ∧ gtE l key = chkE l) := by
  unfold gtE
  split
  · split
    · exact .inl rfl
    · exact .inr (.inl rfl)
  · exact .inr (.inr ⟨by assumption, rfl⟩)

/-- what is found of a key in runs -/
def kfE (rs : List (List Ent)) (key : Int) : Int := if chkAllE rs = 0 then (if (newest rs key).isSome then 0 else 6) else chkAllE rs
def kfX (rs : List (List Ent)) (key : Int) : Ent := if chkAllE rs = 0 then (newest rs key).getD zeroE else zeroE
theorem newest_nil (key : Int) : newest [] key = none := rfl
theorem newest_append (rs qs : List (List Ent)) (key : Int) : newest (rs ++ qs) key = (newest rs key).or (newest qs key) := by
  induction rs with
  | nil => rfl
  | cons r rs ih => rw [List.cons_append, newest_cons, newest_cons, ih, Option.or_assoc]
theorem newest_succ {rs : List (List Ent)} {k : Nat} (h : k < rs.length) (key : Int) : newest (rs.take (k + 1)) key = (newest (rs.take k) key).or (look (rs[k]'h) key) := by
  rw [List.take_succ_eq_append_getElem h, newest_append, newest_cons, newest_nil, Option.or_none]
theorem chkAll_take {rs : List (List Ent)} {k : Nat} (h : k < rs.length) (h0 : chkAllE (rs.take k) = 0) : chkAllE (rs.take (k + 1)) = chkE (rs[k]'h) ∧ (chkE (rs[k]'h) ≠ 0 → chkAllE rs = chkE (rs[k]'h)) := by
  have key : ∀ (a b : List (List Ent)), chkAllE a = 0 → chkAllE (a ++ b) = chkAllE b := by
    intro a b ha
    induction a with
    | nil => rfl
    | cons r a ih =>
      rw [chkAllE] at ha
      by_cases h1 : chkE r = 0
      · rw [if_pos h1] at ha
        rw [List.cons_append, chkAllE, if_pos h1, ih ha]
      · rw [if_neg h1] at ha
        exact absurd ha h1
  constructor
  · rw [List.take_succ_eq_append_getElem h, key _ _ h0, chkAllE, chkAllE]
    split
    · rename_i h; exact h.symm
    · rfl
  · intro hne
    have h2 := key (rs.take k) (rs.drop k) h0
    rw [List.take_append_drop, List.drop_eq_getElem_cons h, chkAllE, if_neg hne] at h2
    exact h2
theorem newest_in {rs : List (List Ent)} (h : chkAllE rs = 0) (key : Int) : newest (rs.map inL) key = newest rs key := by
  induction rs with
  | nil => rfl
  | cons r rs ih =>
    have h1 := chkAll_ok h r (by simp)
    have h2 : chkAllE rs = 0 := chkAll_zero fun q hq => chkAll_ok h q (by simp [hq])
    rw [List.map_cons, newest_cons, newest_cons, ih h2, look_in h1]
theorem ins_ris {rs : List (List Ent)} (h : chkAllE rs = 0) : ∀ r ∈ rs.map inL, RisE r := by
  intro r hr
  obtain ⟨q, hq, rfl⟩ := List.mem_map.1 hr
  exact chk_ris (chkAll_ok h q hq)
/-- what is found in runs merged -/
theorem mL_look {rs : List (List Ent)} (h : mE rs = 0) (key : Int) : look (mL rs false) key = newest rs key := by
  have hc := mE_chk h
  have hr := all_ris (ins_ris hc)
  rw [look_in (mL_chk false h), mL_in false h]
  show look (allE (rs.map inL)) key = _
  have := (fold_law (rs.map inL) RisE.nil (ins_ris hc)).2 key
  unfold allE
  rw [this]
  have h2 : look ([] : List Ent) key = none := rfl
  rw [h2, Option.none_or, newest_in hc]
theorem look_live {l : List Ent} (hr : RisE l) (key : Int) : look (liveE l) key = (look l key).bind (fun e => if e.dead then none else some e) := by
  cases h : look l key with
  | none =>
    have h2 := look_isNone h
    cases h3 : look (liveE l) key with
    | none => rfl
    | some e =>
      obtain ⟨h4, h5⟩ := look_key h3
      exact absurd h4 (h2 e (List.mem_filter.1 h5).1)
  | some e =>
    obtain ⟨h1, h2⟩ := look_key h
    show _ = if e.dead then none else some e
    cases hd : e.dead with
    | false =>
      have := look_mem (live_ris hr) (List.mem_filter.2 ⟨h2, by simp [hd]⟩ : e ∈ liveE l)
      rw [h1] at this
      rw [this]; rfl
    | true =>
      cases h3 : look (liveE l) key with
      | none => rfl
      | some x =>
        obtain ⟨h4, h5⟩ := look_key h3
        obtain ⟨h6, h7⟩ := List.mem_filter.1 h5
        have := look_mem hr h6
        rw [h4, h] at this
        obtain rfl := Option.some.inj this
        rw [hd] at h7
        simp at h7
theorem mL_look_bare {rs : List (List Ent)} (h : mE rs = 0) (key : Int) : look (mL rs true) key = (newest rs key).bind (fun e => if e.dead then none else some e) := by
  have hc := mE_chk h
  have hr := all_ris (ins_ris hc)
  rw [look_in (mL_chk true h), mL_in true h]
  show look (liveE (allE (rs.map inL))) key = _
  rw [look_live hr]
  have := (fold_law (rs.map inL) RisE.nil (ins_ris hc)).2 key
  have h2 : look ([] : List Ent) key = none := rfl
  rw [h2, Option.none_or, newest_in hc] at this
  show (look (List.foldl bothE [] (rs.map inL)) key).bind _ = _
  rw [this]
end Go.Proofs.YthbppblmecdekaaDoor

/- Plain facts on levels of runs: which may be, how an entry is let in. No program in sight. -/
namespace Go.Proofs.YthbppblmecdekaaDoor
open Go

def up (n : Nat) : Nat := if n ≤ 1 then 0 else Nat.log2 (n - 1) + 1
theorem up_spec {n : Nat} (_h : 0 < n) : n ≤ 2 ^ up n ∧ (0 < up n → 2 ^ (up n - 1) < n) := by
  unfold up
  split
  · exact ⟨by simp; omega, fun h => by omega⟩
  · have h1 := Nat.log2_self_le (n := n - 1) (by omega)
    have h2 := Nat.lt_log2_self (n := n - 1)
    rw [Nat.add_sub_cancel]
    exact ⟨by omega, fun _ => by omega⟩
theorem up_eq {n k : Nat} (h0 : 0 < n) (h1 : n ≤ 2 ^ k) (h2 : 0 < k → 2 ^ (k - 1) < n) : up n = k := by
  obtain ⟨a, b⟩ := up_spec h0
  rcases Nat.lt_trichotomy (up n) k with h | h | h
  · have h3 := h2 (by omega)
    have h4 : 2 ^ up n ≤ 2 ^ (k - 1) := Nat.pow_le_pow_right (by omega) (by omega)
    omega
  · exact h
  · have h3 := b (by omega)
    have h4 : 2 ^ k ≤ 2 ^ (up n - 1) := Nat.pow_le_pow_right (by omega) (by omega)
    omega
theorem up_le {n k : Nat} (h : n ≤ 2 ^ k) : up n ≤ k := by
  rcases Nat.eq_zero_or_pos n with rfl | h0
  · simp [up]
  · obtain ⟨_, b⟩ := up_spec h0
    rcases Nat.lt_or_ge k (up n) with h1 | h1
    · have h3 := b (by omega)
      have h4 : 2 ^ k ≤ 2 ^ (up n - 1) := Nat.pow_le_pow_right (by omega) (by omega)
      omega
    · exact h1
theorem up_mono {n m : Nat} (h : n ≤ m) : up n ≤ up m := by
  rcases Nat.eq_zero_or_pos m with rfl | h0
  · rw [show n = 0 by omega]; exact Nat.le_refl _
  · exact up_le (Nat.le_trans h (up_spec h0).1)
theorem up_16 {n : Nat} (h : n ≤ 65536) : up n ≤ 16 := up_le (by omega)

abbrev Lv := List (List Ent)
def lev (rs : Lv) (j : Nat) : List Ent := rs.getD j []
theorem lev_lt {rs : Lv} {j : Nat} (h : j < rs.length) : lev rs j = rs[j]'h := by simp [lev, h]
theorem lev_ge {rs : Lv} {j : Nat} (h : rs.length ≤ j) : lev rs j = [] := by unfold lev; rw [List.getD_eq_getElem?_getD, List.getElem?_eq_none h]; rfl
theorem lev_nil (j : Nat) : lev [] j = [] := lev_ge (Nat.zero_le _)
theorem lev_mem {rs : Lv} {j : Nat} (h : lev rs j ≠ []) : j < rs.length ∧ lev rs j ∈ rs := by
  rcases Nat.lt_or_ge j rs.length with h1 | h1
  · exact ⟨h1, by rw [lev_lt h1]; exact List.getElem_mem h1⟩
  · exact absurd (lev_ge h1) h
theorem lev_of_mem {rs : Lv} {l : List Ent} (h : l ∈ rs) : ∃ j, j < rs.length ∧ lev rs j = l := by
  obtain ⟨j, hj, e⟩ := List.getElem_of_mem h
  exact ⟨j, hj, by rw [lev_lt hj, e]⟩
def Top (rs : Lv) : Prop := rs = [] ∨ lev rs (rs.length - 1) ≠ []
theorem canon_le {a b : Lv} (ha : Top a) (h : ∀ j, lev a j = lev b j) : a.length ≤ b.length := by
  rcases ha with rfl | ha
  · simp
  · rcases Nat.lt_or_ge (a.length - 1) b.length with h1 | h1
    · omega
    · rw [h, lev_ge h1] at ha; exact absurd rfl ha
/-- levels without empty ones at the end are the same if each level is -/
theorem canon_ext {a b : Lv} (ha : Top a) (hb : Top b) (h : ∀ j, lev a j = lev b j) : a = b := by
  have hl := Nat.le_antisymm (canon_le ha h) (canon_le hb fun j => (h j).symm)
  refine List.ext_getElem hl fun i h1 h2 => ?_
  have := h i
  rwa [lev_lt h1, lev_lt h2] at this

/-! ### a run at its level -/
def padTo (rs : Lv) (m : Nat) : Lv := rs ++ List.replicate (m - rs.length) []
theorem pad_len (rs : Lv) (m : Nat) : (padTo rs m).length = max rs.length m := by simp [padTo]; omega
theorem lev_pad (rs : Lv) (m j : Nat) : lev (padTo rs m) j = lev rs j := by
  unfold padTo lev
  rw [List.getD_eq_getElem?_getD, List.getD_eq_getElem?_getD]
  rcases Nat.lt_or_ge j rs.length with h | h
  · rw [List.getElem?_append_left h]
  · rw [List.getElem?_append_right h, List.getElem?_eq_none h, List.getElem?_replicate]
    split <;> rfl
theorem pad_step (rs : Lv) {m : Nat} (h : rs.length ≤ m) : padTo rs (m + 1) = padTo rs m ++ [[]] := by
  unfold padTo
  rw [show m + 1 - rs.length = (m - rs.length) + 1 by omega, List.replicate_succ', List.append_assoc]
theorem pad_same (rs : Lv) {m : Nat} (h : m ≤ rs.length) : padTo rs m = rs := by unfold padTo; rw [show m - rs.length = 0 by omega]; simp
theorem lev_set {rs : Lv} {k : Nat} (r : List Ent) (h : k < rs.length) (j : Nat) : lev (rs.set k r) j = if j = k then r else lev rs j := by
  unfold lev
  rw [List.getD_eq_getElem?_getD, List.getD_eq_getElem?_getD, List.getElem?_set]
  by_cases e : k = j
  · subst e; simp [h]
  · rw [if_neg e, if_neg (fun x => e x.symm)]
theorem lev_set_nil (rs : Lv) (k j : Nat) : lev (rs.set k []) j = if j = k then [] else lev rs j := by
  rcases Nat.lt_or_ge k rs.length with h | h
  · exact lev_set [] h j
  · rw [List.set_eq_of_length_le h]
    split
    · rename_i e; subst e; exact lev_ge h
    · rfl
def standL (rs : Lv) (r : List Ent) : Lv := if r = [] then rs else (padTo rs (up r.length + 1)).set (up r.length) r
theorem stand_nil (rs : Lv) : standL rs [] = rs := by simp [standL]
theorem lev_stand (rs : Lv) (r : List Ent) (j : Nat) : lev (standL rs r) j = if r ≠ [] ∧ j = up r.length then r else lev rs j := by
  unfold standL
  by_cases h : r = []
  · rw [if_pos h, if_neg (fun x => x.1 h)]
  · rw [if_neg h, lev_set r (by rw [pad_len]; omega), lev_pad]
    by_cases e : j = up r.length
    · rw [if_pos e, if_pos ⟨h, e⟩]
    · rw [if_neg e, if_neg (fun x => e x.2)]
theorem stand_len (rs : Lv) (r : List Ent) : (standL rs r).length = if r = [] then rs.length else max rs.length (up r.length + 1) := by
  unfold standL
  split
  · rfl
  · rw [List.length_set, pad_len]
theorem stand_top {rs : Lv} {r : List Ent} (h : Top rs) : Top (standL rs r) := by
  by_cases e : r = []
  · subst e; rwa [stand_nil]
  · right
    rw [stand_len, if_neg e, lev_stand]
    split
    · exact e
    · rename_i h2
      have h3 : up r.length + 1 < rs.length := by
        rcases Nat.lt_or_ge (up r.length + 1) rs.length with h4 | h4
        · exact h4
        · exact absurd ⟨e, by omega⟩ h2
      rcases h with rfl | h
      · simp at h3
      · rw [show max rs.length (up r.length + 1) = rs.length by omega]; exact h

/-! ### the empty ones at the end are cut off -/
def cutN (rs : Lv) : Nat → Nat
  | 0 => 0
  | n + 1 => if lev rs n = [] then cutN rs n else n + 1
theorem cutN_le (rs : Lv) : ∀ n, cutN rs n ≤ n
  | 0 => Nat.le_refl _
  | n + 1 => by
    unfold cutN
    have := cutN_le rs n
    split <;> omega
theorem cutN_above (rs : Lv) : ∀ n j, cutN rs n ≤ j → j < n → lev rs j = []
  | 0, j, _, h => by omega
  | n + 1, j, h1, h2 => by
    unfold cutN at h1
    split at h1
    · rename_i e
      by_cases h3 : j = n
      · subst h3; exact e
      · exact cutN_above rs n j h1 (by omega)
    · omega
theorem cutN_top (rs : Lv) : ∀ n, cutN rs n = 0 ∨ lev rs (cutN rs n - 1) ≠ []
  | 0 => .inl rfl
  | n + 1 => by
    unfold cutN
    split
    · exact cutN_top rs n
    · rename_i e; exact .inr e
def cutL (rs : Lv) : Lv := rs.take (cutN rs rs.length)
theorem lev_take (rs : Lv) (n j : Nat) : lev (rs.take n) j = if j < n then lev rs j else [] := by
  unfold lev
  rw [List.getD_eq_getElem?_getD, List.getD_eq_getElem?_getD, List.getElem?_take]
  split <;> rfl
theorem lev_cut (rs : Lv) (j : Nat) : lev (cutL rs) j = lev rs j := by
  unfold cutL
  rw [lev_take]
  split
  · rfl
  · rename_i h
    rcases Nat.lt_or_ge j rs.length with h1 | h1
    · exact (cutN_above rs rs.length j (by omega) h1).symm
    · exact (lev_ge h1).symm
theorem cut_top (rs : Lv) : Top (cutL rs) := by
  have h1 := cutN_le rs rs.length
  rcases cutN_top rs rs.length with h | h
  · left; unfold cutL; rw [h]; rfl
  · by_cases h0 : cutN rs rs.length = 0
    · left; unfold cutL; rw [h0]; rfl
    · right
      unfold cutL
      rw [List.length_take, lev_take, Nat.min_eq_left h1, if_pos (by omega)]
      exact h
theorem cut_id {rs : Lv} (h : Top rs) : cutL rs = rs := canon_ext (cut_top rs) h (lev_cut rs)
theorem cut_len (rs : Lv) : (cutL rs).length ≤ rs.length := by unfold cutL; rw [List.length_take]; omega

/-! ### all runs, each at its level -/
def ofL (all : Lv) : Lv := all.foldl standL []
theorem of_snoc (all : Lv) (r : List Ent) : ofL (all ++ [r]) = standL (ofL all) r := by simp [ofL, List.foldl_append]
/-- each run stands at its level -/
def Stood (rs : Lv) : Prop := ∀ j, lev rs j = [] ∨ up (lev rs j).length = j
theorem of_top : ∀ all : Lv, Top (ofL all) := by
  intro all
  have h : ∀ (l acc : Lv), Top acc → Top (l.foldl standL acc) := by
    intro l
    induction l with
    | nil => exact fun acc h => h
    | cons x l ih => exact fun acc h => ih _ (stand_top h)
  exact h all [] (.inl rfl)
theorem of_take {rs : Lv} (h : Stood rs) : ∀ m, m ≤ rs.length → ∀ j, lev (ofL (rs.take m)) j = if j < m then lev rs j else []
  | 0, _, j => by simp [ofL, lev_nil]
  | m + 1, hm, j => by
    rw [List.take_add_one, List.getElem?_eq_getElem (by omega), Option.toList_some, of_snoc, lev_stand, of_take h m (by omega) j, ← lev_lt (by omega : m < rs.length)]
    rcases h m with e | e
    · rw [if_neg (fun x => x.1 e)]
      by_cases h1 : j < m
      · rw [if_pos h1, if_pos (by omega)]
      · rw [if_neg h1]
        by_cases h2 : j = m
        · subst h2; rw [if_pos (by omega), e]
        · rw [if_neg (by omega)]
    · by_cases h2 : j = m
      · subst h2
        by_cases h3 : lev rs j = []
        · rw [if_neg (fun x => x.1 h3), if_neg (by omega), if_pos (by omega), h3]
        · rw [if_pos ⟨h3, e.symm⟩, if_pos (by omega)]
      · rw [if_neg (fun x => h2 (by rw [x.2, e]))]
        by_cases h1 : j < m
        · rw [if_pos h1, if_pos (by omega)]
        · rw [if_neg h1, if_neg (by omega)]
theorem lev_of {rs : Lv} (h : Stood rs) (j : Nat) : lev (ofL rs) j = lev rs j := by
  have := of_take h rs.length (Nat.le_refl _) j
  rw [List.take_length] at this
  rw [this]
  split
  · rfl
  · rename_i h1; exact (lev_ge (by omega)).symm
theorem of_levels {rs : Lv} (r : List Ent) (h : Stood rs) : ofL (rs ++ [r]) = cutL (standL rs r) := by
  refine canon_ext (of_top _) (cut_top _) fun j => ?_
  rw [lev_cut, of_snoc, lev_stand, lev_stand, lev_of h]
theorem of_one (r : List Ent) : ofL [r] = standL [] r := rfl

/-! ### sizes -/
def tot (rs : Lv) : Nat := (rs.map List.length).sum
theorem tot_cons (l : List Ent) (rs : Lv) : tot (l :: rs) = l.length + tot rs := by simp [tot]
theorem tot_snoc (rs : Lv) (l : List Ent) : tot (rs ++ [l]) = tot rs + l.length := by simp [tot]
theorem tot_set_nil : ∀ (rs : Lv) (k : Nat), tot (rs.set k []) + (lev rs k).length = tot rs
  | [], k => by simp [tot, lev_nil]
  | l :: rs, 0 => by simp [tot, lev, Nat.add_comm]
  | l :: rs, k + 1 => by
    have := tot_set_nil rs k
    rw [List.set_cons_succ, tot_cons, tot_cons]
    have e : lev (l :: rs) (k + 1) = lev rs k := by simp [lev]
    rw [e]; omega
theorem tot_pad (rs : Lv) (m : Nat) : tot (padTo rs m) = tot rs := by simp [tot, padTo]
theorem tot_set {rs : Lv} {k : Nat} (r : List Ent) (h : k < rs.length) (e : lev rs k = []) : tot (rs.set k r) = tot rs + r.length := by
  induction rs generalizing k with
  | nil => simp at h
  | cons l rs ih =>
    cases k with
    | zero =>
      have : l = [] := by simpa [lev] using e
      subst this
      simp [tot, Nat.add_comm]
    | succ k =>
      rw [List.set_cons_succ, tot_cons, tot_cons, ih (by simpa using h) (by simpa [lev] using e)]
      omega
theorem tot_stand {rs : Lv} {r : List Ent} (e : r = [] ∨ lev rs (up r.length) = []) : tot (standL rs r) = tot rs + r.length := by
  unfold standL
  by_cases h : r = []
  · subst h; simp
  · rw [if_neg h, tot_set r (by rw [pad_len]; omega) (by rw [lev_pad]; exact e.resolve_left h), tot_pad]
theorem tot_take (rs : Lv) : ∀ n, (∀ j, n ≤ j → lev rs j = []) → tot (rs.take n) = tot rs := by
  induction rs with
  | nil => intro n _; simp
  | cons l rs ih =>
    intro n h
    cases n with
    | zero =>
      have h0 : l = [] := by simpa [lev] using h 0 (Nat.le_refl _)
      have := ih 0 (fun j _ => by simpa [lev] using h (j + 1) (Nat.zero_le _))
      rw [tot_cons, h0, ← this]; simp [tot]
    | succ n =>
      rw [List.take_succ_cons, tot_cons, tot_cons, ih n (fun j hj => by simpa [lev] using h (j + 1) (by omega))]
theorem tot_cut (rs : Lv) : tot (cutL rs) = tot rs := by
  refine tot_take rs _ fun j hj => ?_
  rcases Nat.lt_or_ge j rs.length with h1 | h1
  · exact cutN_above rs rs.length j hj h1
  · exact lev_ge h1
theorem tot_lev (rs : Lv) (j : Nat) : (lev rs j).length ≤ tot rs := by have := tot_set_nil rs j; omega

/-! ### which levels may be -/
def deadE (l : List Ent) : Bool := l.any (fun e => e.dead)
def okLv (n i : Nat) (l : List Ent) : Bool := decide (chkE l = 0) && (decide (l = []) || decide (up l.length = i)) && (decide (i + 1 ≠ n) || !deadE l)
def endOk (rs : Lv) : Bool := decide (rs.length ≤ 17) && (decide (rs.length = 0) || decide (lev rs (rs.length - 1) ≠ []))
def allOk (rs : Lv) (k : Nat) : Bool := decide (∀ i, i < k → okLv rs.length i (lev rs i) = true)
theorem allOk_succ (rs : Lv) (k : Nat) : allOk rs (k + 1) = (allOk rs k && okLv rs.length k (lev rs k)) := by
  unfold allOk
  rw [Bool.eq_iff_iff]
  simp only [decide_eq_true_eq, Bool.and_eq_true]
  constructor
  · exact fun h => ⟨fun i hi => h i (by omega), h k (by omega)⟩
  · intro ⟨h1, h2⟩ i hi
    by_cases e : i = k
    · subst e; exact h2
    · exact h1 i (by omega)
def mayB (rs : Lv) : Bool := endOk rs && allOk rs rs.length && decide (tot rs ≤ 65536)
def chkR (rs : Lv) : Int := if mayB rs = true then 0 else 8
structure May (rs : Lv) : Prop where
  len : rs.length ≤ 17
  top : Top rs
  chk : ∀ j, chkE (lev rs j) = 0
  stood : Stood rs
  last : ∀ j, j + 1 = rs.length → deadE (lev rs j) = false
  size : tot rs ≤ 65536
theorem chk_nil : chkE [] = 0 := by
  have h : inL [] = [] := by unfold inL; simp [inord]
  unfold chkE; rw [h]; decide
theorem may_iff (rs : Lv) : mayB rs = true ↔ May rs := by
  unfold mayB endOk allOk okLv
  simp only [Bool.and_eq_true, Bool.or_eq_true, decide_eq_true_eq, Bool.not_eq_true']
  constructor
  · rintro ⟨⟨⟨h1, h2⟩, h3⟩, h4⟩
    refine ⟨h1, ?_, fun j => ?_, fun j => ?_, fun j hj => ?_, h4⟩
    · rcases h2 with h2 | h2
      · exact .inl (List.eq_nil_of_length_eq_zero h2)
      · exact .inr h2
    · rcases Nat.lt_or_ge j rs.length with h | h
      · exact (h3 j h).1.1
      · rw [lev_ge h]; exact chk_nil
    · rcases Nat.lt_or_ge j rs.length with h | h
      · exact (h3 j h).1.2
      · exact .inl (lev_ge h)
    · rcases (h3 j (by omega)).2 with h | h
      · exact absurd hj h
      · exact h
  · intro h
    refine ⟨⟨⟨h.len, ?_⟩, fun i hi => ⟨⟨h.chk i, h.stood i⟩, ?_⟩⟩, h.size⟩
    · rcases h.top with e | e
      · left; rw [e]; rfl
      · exact .inr e
    · by_cases e : i + 1 = rs.length
      · exact .inr (h.last i e)
      · exact .inl e
theorem chkR_zero {rs : Lv} : chkR rs = 0 ↔ May rs := by
  rw [← may_iff]
  unfold chkR
  split <;> simp_all
theorem May.chkAll {rs : Lv} (h : May rs) : chkAllE rs = 0 := chkAll_zero fun r hr => by
  obtain ⟨j, _, e⟩ := lev_of_mem hr
  rw [← e]; exact h.chk j
theorem May.mE {rs : Lv} (h : May rs) : mE rs = 0 := mE_of h.chkAll h.size
end Go.Proofs.YthbppblmecdekaaDoor

/- Plain facts: how an entry climbs levels. No program in sight. -/
namespace Go.Proofs.YthbppblmecdekaaDoor
open Go

def cnt (rs : Lv) : Nat := rs.countP (fun l => decide (l ≠ []))
theorem cnt_set : ∀ (rs : Lv) (k : Nat), lev rs k ≠ [] → cnt (rs.set k []) + 1 = cnt rs
  | [], k, h => absurd (lev_nil k) h
  | l :: rs, 0, h => by
    have : l ≠ [] := by simpa [lev] using h
    simp [cnt, this]
  | l :: rs, k + 1, h => by
    have := cnt_set rs k (by simpa [lev] using h)
    unfold cnt at this ⊢
    rw [List.set_cons_succ, List.countP_cons, List.countP_cons]
    omega
theorem cnt_zero {rs : Lv} (h : cnt rs = 0) (j : Nat) : lev rs j = [] := by
  by_cases e : lev rs j = []
  · exact e
  · have := cnt_set rs j e; omega
def heldB (rs : Lv) (k : Nat) : Bool := (rs.drop (k + 1)).any (fun l => decide (l ≠ []))
theorem held_false {rs : Lv} {k : Nat} : heldB rs k = false ↔ ∀ j, k < j → lev rs j = [] := by
  unfold heldB
  rw [List.any_eq_false]
  constructor
  · intro h j hj
    rcases Nat.lt_or_ge j rs.length with h1 | h1
    · have h2 := h (rs[j]'h1) (List.mem_iff_getElem.2 ⟨j - (k + 1), by simp; omega, by rw [List.getElem_drop]; congr 1; omega⟩)
      rw [lev_lt h1]
      simpa using h2
    · exact lev_ge h1
  · intro h l hl
    obtain ⟨i, hi, e⟩ := List.mem_iff_getElem.1 hl
    rw [List.getElem_drop] at e
    have := h (k + 1 + i) (by omega)
    rw [lev_lt (by simp at hi; omega), e] at this
    simp [this]
def mergeR (rs : Lv) (r : List Ent) : List Ent := mL [r, lev rs (up r.length)] (!heldB rs (up r.length))
/-- a run goes up, level by level, while its level holds one -/
def climb (rs : Lv) (r : List Ent) (n : Int) : Lv × List Ent × Int :=
  if _h : r ≠ [] ∧ lev rs (up r.length) ≠ [] then
    climb (rs.set (up r.length) []) (mergeR rs r) (IntKind.u64.wrap (n + (mergeR rs r).length))
  else (rs, r, n)
termination_by cnt rs
decreasing_by
  have := cnt_set rs (up r.length) _h.2
  omega
theorem climb_up {rs : Lv} {r : List Ent} {n : Int} (h1 : r ≠ []) (h2 : lev rs (up r.length) ≠ []) : climb rs r n = climb (rs.set (up r.length) []) (mergeR rs r) (IntKind.u64.wrap (n + (mergeR rs r).length)) := by
  rw [climb, dif_pos ⟨h1, h2⟩]
theorem climb_end {rs : Lv} {r : List Ent} {n : Int} (h : r = [] ∨ lev rs (up r.length) = []) : climb rs r n = (rs, r, n) := by
  rw [climb, dif_neg]
  rintro ⟨h1, h2⟩
  rcases h with h | h
  · exact h1 h
  · exact h2 h
/-- what stands while a run goes up -/
structure Climbs (rs : Lv) (r : List Ent) : Prop where
  chk : ∀ j, chkE (lev rs j) = 0
  run : chkE r = 0
  size : r.length + tot rs ≤ 65536
  stood : Stood rs
theorem Climbs.mE {rs : Lv} {r : List Ent} (h : Climbs rs r) (j : Nat) : mE [r, lev rs j] = 0 := by
  refine mE_of (by simp [chkAllE, h.chk j, h.run]) ?_
  have := tot_lev rs j
  have := h.size
  simp; omega
theorem Climbs.len {rs : Lv} {r : List Ent} (_h : Climbs rs r) : (mergeR rs r).length ≤ r.length + (lev rs (up r.length)).length := by
  exact mL_len _ (by simp)
theorem Climbs.step {rs : Lv} {r : List Ent} (h : Climbs rs r) : Climbs (rs.set (up r.length) []) (mergeR rs r) := by
  refine ⟨fun j => ?_, mL_chk _ (h.mE _), ?_, fun j => ?_⟩
  · rw [lev_set_nil]
    split
    · exact chk_nil
    · exact h.chk j
  · have h1 := h.len
    have h2 := tot_set_nil rs (up r.length)
    have h3 := h.size
    omega
  · rw [lev_set_nil]
    split
    · exact .inl rfl
    · exact h.stood j
theorem climb_ok : ∀ (m : Nat) {rs : Lv} {r : List Ent} {n : Int}, cnt rs ≤ m → Climbs rs r → Climbs (climb rs r n).1 (climb rs r n).2.1 ∧ ((climb rs r n).2.1 = [] ∨ lev (climb rs r n).1 (up (climb rs r n).2.1.length) = []) ∧ (climb rs r n).1.length = rs.length ∧ (climb rs r n).2.1.length + tot (climb rs r n).1 ≤ r.length + tot rs := by
  intro m
  induction m with
  | zero =>
    intro rs r n hm h
    have h0 := cnt_zero (rs := rs) (by omega) (up r.length)
    rw [climb_end (.inr h0)]
    exact ⟨h, .inr h0, rfl, Nat.le_refl _⟩
  | succ m ih =>
    intro rs r n hm h
    by_cases e : r = [] ∨ lev rs (up r.length) = []
    · rw [climb_end e]
      exact ⟨h, e, rfl, Nat.le_refl _⟩
    · have e1 : r ≠ [] := fun x => e (.inl x)
      have e2 : lev rs (up r.length) ≠ [] := fun x => e (.inr x)
      rw [climb_up e1 e2]
      have h1 := cnt_set rs (up r.length) e2
      obtain ⟨a, b, c, d⟩ := ih (n := IntKind.u64.wrap (n + (mergeR rs r).length)) (by omega) h.step
      refine ⟨a, b, by rw [c, List.length_set], ?_⟩
      have h2 := tot_set_nil rs (up r.length)
      have h3 := h.len
      omega

/-- levels behind an entry was let in, and how many were laid -/
def climbE (rs : Lv) (n : Int) (y : Ent) : Lv × List Ent × Int := if y.dead = true ∧ rs = [] then (rs, [], n) else climb rs [y] (IntKind.u64.wrap (n + 1))
def letL (rs : Lv) (n : Int) (y : Ent) : Lv := cutL (standL (climbE rs n y).1 (climbE rs n y).2.1)
def letN (rs : Lv) (n : Int) (y : Ent) : Int := (climbE rs n y).2.2
def allL (rs : Lv) : List Ent := liveE (allE (rs.map inL))
def fat (rs : Lv) : Bool := decide (2 * (allL rs).length + 2 < tot rs)
def slimL (rs : Lv) : Lv := if fat rs = true then standL [] (laid (allL rs)) else rs
def slimN (rs : Lv) (n : Int) : Int := if fat rs = true then IntKind.u64.wrap (n + (allL rs).length) else n
def addE (rs : Lv) (y : Ent) : Int := if chkR rs ≠ 0 then chkR rs else if tot rs = 65536 then 4 else if badEnt y = true then 8 else 0
def addL (rs : Lv) (n : Int) (y : Ent) : Lv := if addE rs y = 0 then slimL (letL rs n y) else []
def addN (rs : Lv) (n : Int) (y : Ent) : Int := if addE rs y = 0 then slimN (letL rs n y) (letN rs n y) else 0
theorem chk_one {y : Ent} (h : badEnt y = false) : chkE [y] = 0 := by
  have hE : buildE [y] = 0 := by
    unfold buildE
    rw [if_neg (by simp), if_neg (by simp [h]), if_pos (by simp [rises])]
  have hl : laid [y] = [y] := by
    unfold laid ranks
    simp [inord, entAt]
  rw [← hl]
  exact build_chk hE
theorem May.climbs {rs : Lv} (h : May rs) {y : Ent} (hy : badEnt y = false) (ht : tot rs ≠ 65536) : Climbs rs [y] := by
  refine ⟨h.chk, chk_one hy, ?_, h.stood⟩
  have := h.size
  simp; omega
theorem addE_zero {rs : Lv} {y : Ent} : addE rs y = 0 ↔ May rs ∧ tot rs ≠ 65536 ∧ badEnt y = false := by
  rw [← chkR_zero]
  unfold addE
  by_cases h1 : chkR rs = 0
  · rw [if_neg (by simp [h1])]
    by_cases h2 : tot rs = 65536
    · simp [h2]
    · rw [if_neg h2]
      cases badEnt y <;> simp [h1, h2]
  · rw [if_pos h1]
    simp [h1]
theorem climbE_ok {rs : Lv} (h : May rs) {y : Ent} (hy : badEnt y = false) (ht : tot rs ≠ 65536) (n : Int) :
    Climbs (climbE rs n y).1 (climbE rs n y).2.1 ∧ ((climbE rs n y).2.1 = [] ∨ lev (climbE rs n y).1 (up (climbE rs n y).2.1.length) = []) ∧ (climbE rs n y).1.length = rs.length ∧ (climbE rs n y).2.1.length + tot (climbE rs n y).1 ≤ tot rs + 1 := by
  unfold climbE
  split
  · rename_i e
    refine ⟨⟨h.chk, chk_nil, by simpa using h.size, h.stood⟩, .inl rfl, rfl, by simp⟩
  · obtain ⟨a, b, c, d⟩ := climb_ok (cnt rs) (n := IntKind.u64.wrap (n + 1)) (Nat.le_refl _) (h.climbs hy ht)
    exact ⟨a, b, c, by simp at d; omega⟩
theorem letL_tot {rs : Lv} (h : May rs) {y : Ent} (hy : badEnt y = false) (ht : tot rs ≠ 65536) (n : Int) : tot (letL rs n y) ≤ tot rs + 1 ∧ tot (letL rs n y) ≤ 65536 := by
  obtain ⟨a, b, _, d⟩ := climbE_ok h hy ht n
  unfold letL
  rw [tot_cut, tot_stand b]
  have := h.size
  omega
theorem letL_lev {rs : Lv} (n : Int) (y : Ent) (j : Nat) : lev (letL rs n y) j = if (climbE rs n y).2.1 ≠ [] ∧ j = up (climbE rs n y).2.1.length then (climbE rs n y).2.1 else lev (climbE rs n y).1 j := by
  unfold letL
  rw [lev_cut, lev_stand]
theorem letL_chk {rs : Lv} (h : May rs) {y : Ent} (hy : badEnt y = false) (ht : tot rs ≠ 65536) (n : Int) (j : Nat) : chkE (lev (letL rs n y) j) = 0 := by
  obtain ⟨a, _⟩ := climbE_ok h hy ht n
  rw [letL_lev]
  split
  · exact a.run
  · exact a.chk j
theorem letL_stood {rs : Lv} (h : May rs) {y : Ent} (hy : badEnt y = false) (ht : tot rs ≠ 65536) (n : Int) : Stood (letL rs n y) := by
  obtain ⟨a, _⟩ := climbE_ok h hy ht n
  intro j
  rw [letL_lev]
  split
  · rename_i e; exact .inr e.2.symm
  · exact a.stood j
theorem letL_mE {rs : Lv} (h : May rs) {y : Ent} (hy : badEnt y = false) (ht : tot rs ≠ 65536) (n : Int) : mE (letL rs n y) = 0 := by
  refine mE_of (chkAll_zero fun r hr => ?_) (letL_tot h hy ht n).2
  obtain ⟨j, _, e⟩ := lev_of_mem hr
  rw [← e]
  exact letL_chk h hy ht n j
end Go.Proofs.YthbppblmecdekaaDoor

/- Plain facts: what levels have behind an entry was let in. No program in sight. -/
namespace Go.Proofs.YthbppblmecdekaaDoor
open Go

/-- an entry that is not dead -/
def lvO (o : Option Ent) : Option Ent := o.bind (fun e => if e.dead then none else some e)
theorem lvO_none : lvO none = none := rfl
theorem lvO_or {a : Option Ent} : lvO ((lvO a).or none) = lvO a := by
  cases a with
  | none => rfl
  | some e => unfold lvO; cases h : e.dead <;> simp [h]
theorem lvO_idem (a : Option Ent) : lvO (lvO a) = lvO a := by
  cases a with
  | none => rfl
  | some e => unfold lvO; cases h : e.dead <;> simp [h]
/-! ### the newest of levels goes by the levels alone -/
theorem newest_pad (rs : Lv) (m : Nat) (k : Int) : newest (padTo rs m) k = newest rs k := by
  unfold padTo
  rw [newest_append]
  have h : newest (List.replicate (m - rs.length) ([] : List Ent)) k = none := by
    generalize m - rs.length = n
    induction n with
    | zero => rfl
    | succ n ih => rw [List.replicate_succ, newest_cons, ih]; rfl
  rw [h]
  cases newest rs k <;> rfl
theorem newest_congr {a b : Lv} (h : ∀ j, lev a j = lev b j) (k : Int) : newest a k = newest b k := by
  rw [← newest_pad a (max a.length b.length) k, ← newest_pad b (max a.length b.length) k]
  congr 1
  refine List.ext_getElem (by rw [pad_len, pad_len]; omega) fun i h1 h2 => ?_
  rw [← lev_lt h1, ← lev_lt h2, lev_pad, lev_pad, h]
theorem newest_split : ∀ (m : Nat) (rs : Lv) (k : Int), (∀ j, j < m → lev rs j = []) → newest rs k = (look (lev rs m) k).or (newest (rs.set m []) k)
  | m, [], k, _ => by rw [lev_nil]; rfl
  | 0, l :: rs, k, _ => by
    show newest (l :: rs) k = (look l k).or (newest ([] :: rs) k)
    rw [newest_cons, newest_cons]; rfl
  | m + 1, l :: rs, k, h => by
    have h0 : l = [] := by simpa [lev] using h 0 (by omega)
    subst h0
    have h1 : lev ([] :: rs) (m + 1) = lev rs m := by simp [lev]
    rw [h1, List.set_cons_succ, newest_cons, newest_cons, newest_split m rs k (fun j hj => by simpa [lev] using h (j + 1) (by omega))]
    rfl
theorem newest_stand {rs : Lv} {r : List Ent} (k : Int) (h0 : r ≠ []) (h : ∀ j, j < up r.length → lev rs j = []) (h1 : lev rs (up r.length) = []) : newest (standL rs r) k = (look r k).or (newest rs k) := by
  rw [newest_split (up r.length) (standL rs r) k (fun j hj => by rw [lev_stand, if_neg (fun x => by omega)]; exact h j hj), lev_stand, if_pos ⟨h0, rfl⟩]
  congr 1
  refine newest_congr (fun j => ?_) k
  rw [lev_set_nil, lev_stand]
  by_cases e : j = up r.length
  · rw [if_pos e, e, h1]
  · rw [if_neg e, if_neg (fun x => e x.2)]
theorem newest_empty {rs : Lv} (h : ∀ j, lev rs j = []) (k : Int) : newest rs k = none := by
  rw [newest_congr (b := []) (fun j => by rw [h, lev_nil]) k]; rfl
theorem mergeR_look {rs : Lv} {r : List Ent} (h : Climbs rs r) (k : Int) : look (mergeR rs r) k = if heldB rs (up r.length) = true then (look r k).or (look (lev rs (up r.length)) k) else lvO ((look r k).or (look (lev rs (up r.length)) k)) := by
  have hn : newest [r, lev rs (up r.length)] k = (look r k).or (look (lev rs (up r.length)) k) := by
    rw [newest_cons, newest_cons, newest_nil]
    cases look (lev rs (up r.length)) k <;> simp
  unfold mergeR
  cases heldB rs (up r.length) with
  | true => rw [if_pos rfl, ← hn]; exact mL_look (h.mE _) k
  | false => rw [if_neg (by decide), ← hn]; exact mL_look_bare (h.mE _) k
theorem mL_live {rs : Lv} (h : mE rs = 0) : deadE (mL rs true) = false := by
  unfold deadE
  rw [List.any_eq_false]
  intro e he
  have h1 : e ∈ inL (mL rs true) := (inL_perm _).mem_iff.2 he
  rw [mL_in true h] at h1
  have h2 : e ∈ liveE (allE (rs.map inL)) := h1
  unfold liveE at h2
  have := (List.mem_filter.1 h2).2
  simpa using this
/-- what stands besides: below a run that goes up all is empty; the uppermost run has no dead entry -/
structure Rises (rs : Lv) (r : List Ent) : Prop where
  low : ∀ j, j < up r.length → lev rs j = []
  top : ∀ j, lev rs j ≠ [] → (∀ i, j < i → lev rs i = []) → deadE (lev rs j) = false
  dead : deadE r = true → ∃ j, up r.length ≤ j ∧ lev rs j ≠ []
theorem rises_step {rs : Lv} {r : List Ent} (hc : Climbs rs r) (h : Rises rs r) (h0 : r ≠ []) : Rises (rs.set (up r.length) []) (mergeR rs r) := by
  have hk : up (mergeR rs r).length ≤ up r.length + 1 := by
    refine up_le ?_
    have h1 := hc.len
    have h2 := (up_spec (n := r.length) (List.length_pos_iff.2 h0)).1
    have h3 : (lev rs (up r.length)).length ≤ 2 ^ up r.length := by
      rcases hc.stood (up r.length) with e | e
      · rw [e]; simp
      · have := List.eq_nil_or_concat (lev rs (up r.length))
        rcases Nat.eq_zero_or_pos (lev rs (up r.length)).length with e2 | e2
        · omega
        · have := (up_spec e2).1; rwa [e] at this
    rw [Nat.pow_succ]; omega
  have hlow : ∀ j, j ≤ up r.length → lev (rs.set (up r.length) []) j = [] := by
    intro j hj
    rw [lev_set_nil]
    split
    · rfl
    · exact h.low j (by omega)
  refine ⟨fun j hj => hlow j (by omega), fun j hj hup => ?_, fun hd => ?_⟩
  · have hjk : up r.length < j := by
      rcases Nat.lt_or_ge (up r.length) j with h1 | h1
      · exact h1
      · exact absurd (hlow j h1) hj
    rw [lev_set_nil, if_neg (by omega)] at hj ⊢
    refine h.top j hj fun i hi => ?_
    have := hup i hi
    rwa [lev_set_nil, if_neg (by omega)] at this
  · cases hh : heldB rs (up r.length) with
    | false =>
      exfalso
      unfold mergeR at hd
      rw [hh] at hd
      have := mL_live (hc.mE (up r.length))
      simp at hd
      rw [this] at hd
      cases hd
    | true =>
      have : ¬ ∀ j, up r.length < j → lev rs j = [] := fun x => by rw [held_false.2 x] at hh; cases hh
      obtain ⟨j, hj⟩ := Classical.not_forall.1 this
      have hj1 : up r.length < j := Classical.byContradiction fun x => hj fun y => absurd y x
      have hj2 : lev rs j ≠ [] := fun x => hj fun _ => x
      exact ⟨j, by omega, by rw [lev_set_nil, if_neg (by omega)]; exact hj2⟩
theorem climb_view : ∀ (m : Nat) {rs : Lv} {r : List Ent} {n : Int} (k : Int), cnt rs ≤ m → Climbs rs r → Rises rs r → Rises (climb rs r n).1 (climb rs r n).2.1 ∧ lvO ((look (climb rs r n).2.1 k).or (newest (climb rs r n).1 k)) = lvO ((look r k).or (newest rs k)) := by
  intro m
  induction m with
  | zero =>
    intro rs r n k hm hc h
    have h0 := cnt_zero (rs := rs) (by omega) (up r.length)
    rw [climb_end (.inr h0)]
    exact ⟨h, rfl⟩
  | succ m ih =>
    intro rs r n k hm hc h
    by_cases e : r = [] ∨ lev rs (up r.length) = []
    · rw [climb_end e]
      exact ⟨h, rfl⟩
    · have e1 : r ≠ [] := fun x => e (.inl x)
      have e2 : lev rs (up r.length) ≠ [] := fun x => e (.inr x)
      rw [climb_up e1 e2]
      have h1 := cnt_set rs (up r.length) e2
      obtain ⟨a, b⟩ := ih (n := IntKind.u64.wrap (n + (mergeR rs r).length)) k (by omega) hc.step (rises_step hc h e1)
      refine ⟨a, ?_⟩
      rw [b, mergeR_look hc, newest_split (up r.length) rs k h.low]
      cases hh : heldB rs (up r.length) with
      | true => rw [if_pos rfl, Option.or_assoc]
      | false =>
        rw [if_neg (by decide)]
        have hn : newest (rs.set (up r.length) []) k = none := by
          refine newest_empty (fun j => ?_) k
          rw [lev_set_nil]
          by_cases e3 : j = up r.length
          · rw [if_pos e3]
          · rw [if_neg e3]
            rcases Nat.lt_or_ge j (up r.length) with h2 | h2
            · exact h.low j h2
            · exact held_false.1 hh j (by omega)
        rw [hn, lvO_or]
        cases look (lev rs (up r.length)) k <;> simp
theorem May.rises {rs : Lv} (h : May rs) {y : Ent} (hy : ¬ (y.dead = true ∧ rs = [])) : Rises rs [y] := by
  have u0 : up ([y] : List Ent).length = 0 := rfl
  refine ⟨fun j hj => by omega, fun j hj hup => ?_, fun hd => ?_⟩
  · have hj1 := (lev_mem hj).1
    refine h.last j ?_
    rcases h.top with e | e
    · subst e; simp at hj1
    · rcases Nat.lt_or_ge j (rs.length - 1) with h1 | h1
      · exact absurd (hup _ h1) e
      · omega
  · have hd2 : y.dead = true := by simpa [deadE] using hd
    rcases h.top with e | e
    · exact absurd ⟨hd2, e⟩ hy
    · exact ⟨_, Nat.zero_le _, e⟩
theorem look_one (y : Ent) (k : Int) : look [y] k = if y.key = k then some y else none := by rw [look_cons]; rfl
/-- what was let in is had; other keys stay -/
theorem let_view {rs : Lv} (h : May rs) {y : Ent} (hy : badEnt y = false) (ht : tot rs ≠ 65536) (n : Int) (k : Int) : lvO (newest (letL rs n y) k) = if y.key = k then lvO (some y) else lvO (newest rs k) := by
  obtain ⟨_, b, _⟩ := climbE_ok h hy ht n
  by_cases hd : y.dead = true ∧ rs = []
  · have h1 : letL rs n y = [] := by
      unfold letL climbE
      rw [if_pos hd]
      dsimp only
      rw [stand_nil, hd.2]; rfl
    rw [h1, newest_nil, hd.2, newest_nil, lvO_none]
    split
    · unfold lvO; simp [hd.1]
    · rfl
  · have hR := h.rises hd
    obtain ⟨c, d⟩ := climb_view (cnt rs) (n := IntKind.u64.wrap (n + 1)) k (Nat.le_refl _) (h.climbs hy ht) hR
    have e1 : climbE rs n y = climb rs [y] (IntKind.u64.wrap (n + 1)) := by unfold climbE; rw [if_neg hd]
    rw [← e1] at c d
    have h2 : newest (letL rs n y) k = (look (climbE rs n y).2.1 k).or (newest (climbE rs n y).1 k) := by
      unfold letL
      rw [newest_congr (lev_cut _) k]
      by_cases e2 : (climbE rs n y).2.1 = []
      · rw [e2, stand_nil]; rfl
      · rcases b with b | b
        · exact absurd b e2
        · exact newest_stand k e2 c.low b
    rw [h2, d, look_one]
    split <;> rfl
theorem let_may {rs : Lv} (h : May rs) {y : Ent} (hy : badEnt y = false) (ht : tot rs ≠ 65536) (n : Int) : May (letL rs n y) := by
  have hs := letL_stood h hy ht n
  have htop : Top (letL rs n y) := cut_top _
  have htot := (letL_tot h hy ht n).2
  refine ⟨?_, htop, letL_chk h hy ht n, hs, fun j hj => ?_, htot⟩
  · rcases htop with e | e
    · rw [e]; simp
    · rcases hs ((letL rs n y).length - 1) with e2 | e2
      · exact absurd e2 e
      · have := up_16 (Nat.le_trans (tot_lev (letL rs n y) ((letL rs n y).length - 1)) htot)
        omega
  · obtain ⟨_, b, _⟩ := climbE_ok h hy ht n
    by_cases hd : y.dead = true ∧ rs = []
    · have h1 : letL rs n y = [] := by
        unfold letL climbE
        rw [if_pos hd]
        dsimp only
        rw [stand_nil, hd.2]; rfl
      rw [h1] at hj; simp at hj
    · obtain ⟨c, _⟩ := climb_view (cnt rs) (n := IntKind.u64.wrap (n + 1)) 0 (Nat.le_refl _) (h.climbs hy ht) (h.rises hd)
      have e1 : climbE rs n y = climb rs [y] (IntKind.u64.wrap (n + 1)) := by unfold climbE; rw [if_neg hd]
      rw [← e1] at c
      have hne : lev (letL rs n y) j ≠ [] := by
        rcases htop with e | e
        · rw [e] at hj; simp at hj
        · rwa [show j = (letL rs n y).length - 1 by omega]
      have habove : ∀ i, j < i → lev (letL rs n y) i = [] := fun i hi => lev_ge (by omega)
      rw [letL_lev] at hne ⊢
      split
      · rename_i e
        rw [if_pos e] at hne
        cases hdd : deadE (climbE rs n y).2.1 with
        | false => rfl
        | true =>
          obtain ⟨i, h1, h2⟩ := c.dead hdd
          rcases b with b | b
          · exact absurd b e.1
          · by_cases h3 : i = up (climbE rs n y).2.1.length
            · subst h3; exact absurd b h2
            · have h4 := habove i (by omega)
              rw [letL_lev, if_neg (fun x => h3 x.2)] at h4
              exact absurd h4 h2
      · rename_i e
        rw [if_neg e] at hne
        refine c.top j hne fun i hi => ?_
        have h4 := habove i hi
        rw [letL_lev] at h4
        split at h4
        · rename_i e2; exact absurd h4 e2.1
        · exact h4
/-! ### levels laid anew -/
theorem all_live {rs : Lv} (h : mE rs = 0) : buildE (allL rs) = 0 ∧ laid (allL rs) = mL rs true := ⟨mL_build true h, (mL_is true h).symm⟩
theorem allL_look {rs : Lv} (h : mE rs = 0) (k : Int) : look (allL rs) k = lvO (newest rs k) := by
  have h1 := mL_look_bare h k
  rw [look_in (mL_chk true h), mL_in true h] at h1
  exact h1
theorem allL_le {rs : Lv} : (allL rs).length ≤ tot rs := by
  unfold allL
  refine Nat.le_trans (live_le _) ?_
  have h1 := fold_len (rs.map inL) []
  have h2 : ((rs.map inL).map List.length).sum = tot rs := by
    unfold tot
    rw [List.map_map]
    congr 1
    refine List.map_congr_left fun l _ => ?_
    simp [inL_length]
  rw [h2] at h1
  simpa [allE] using h1
theorem lev_alone (r : List Ent) (j : Nat) : lev (standL [] r) j = if r ≠ [] ∧ j = up r.length then r else [] := by rw [lev_stand, lev_nil]
theorem alone_top (r : List Ent) : Top (standL [] r) := stand_top (.inl rfl)
theorem alone_tot (r : List Ent) : tot (standL [] r) = r.length := by rw [tot_stand (.inr (lev_nil _))]; simp [tot]
theorem alone_newest (r : List Ent) (k : Int) : newest (standL [] r) k = look r k := by
  by_cases h : r = []
  · subst h; rw [stand_nil]; rfl
  · rw [newest_stand k h (fun j _ => lev_nil j) (lev_nil _), newest_nil]
    cases look r k <;> rfl
theorem alone_may {r : List Ent} (h : chkE r = 0) (hd : deadE r = false) : May (standL [] r) := by
  have hl := (chk_ok h).2.2
  refine ⟨?_, alone_top r, fun j => ?_, fun j => ?_, fun j hj => ?_, by rw [alone_tot]; exact hl⟩
  · rw [stand_len]
    have := up_16 hl
    split
    · simp
    · simp; omega
  · rw [lev_alone]
    split
    · exact h
    · exact chk_nil
  · rw [lev_alone]
    split
    · rename_i e; exact .inr e.2.symm
    · exact .inl rfl
  · rw [lev_alone]
    split
    · exact hd
    · rfl
theorem alone_all {r : List Ent} (h : chkE r = 0) (hd : deadE r = false) : allL (standL [] r) = inL r := by
  have hm := alone_may h hd
  refine look_ext (live_ris (all_ris fun x hx => ?_)) (chk_ris h) fun k => ?_
  · obtain ⟨l, hl, rfl⟩ := List.mem_map.1 hx
    obtain ⟨j, _, e⟩ := lev_of_mem hl
    rw [← e]
    exact chk_ris (hm.chk j)
  · rw [allL_look hm.mE, alone_newest, ← look_in h]
    cases hk : look r k with
    | none => rfl
    | some e =>
      have h1 := (look_key hk).2
      unfold deadE at hd
      rw [List.any_eq_false] at hd
      have h2 := hd e h1
      unfold lvO
      simp at h2
      simp [h2]
theorem slim_alone {rs : Lv} (h : mE rs = 0) : chkE (laid (allL rs)) = 0 ∧ deadE (laid (allL rs)) = false ∧ (laid (allL rs)).length = (allL rs).length := by
  rw [(all_live h).2]
  refine ⟨mL_chk true h, mL_live h, ?_⟩
  rw [← (all_live h).2, laid_length]
/-- few entries -/
theorem slim_may {rs : Lv} (h : May rs) : May (slimL rs) ∧ tot (slimL rs) ≤ 2 * (allL (slimL rs)).length + 2 ∧ ∀ k, lvO (newest (slimL rs) k) = lvO (newest rs k) := by
  obtain ⟨a, b, c⟩ := slim_alone h.mE
  unfold slimL
  split
  · refine ⟨alone_may a b, ?_, fun k => ?_⟩
    · rw [alone_tot, alone_all a b, inL_length]; omega
    · rw [alone_newest, (all_live h.mE).2, mL_look_bare h.mE]
      exact lvO_idem _
  · rename_i e
    refine ⟨h, ?_, fun _ => rfl⟩
    unfold fat at e
    simp at e
    omega
theorem add_may {rs : Lv} {y : Ent} (h : addE rs y = 0) (n : Int) : May (addL rs n y) ∧ tot (addL rs n y) ≤ 2 * (allL (addL rs n y)).length + 2 ∧ ∀ k, lvO (newest (addL rs n y) k) = if y.key = k then lvO (some y) else lvO (newest rs k) := by
  obtain ⟨h1, h2, h3⟩ := addE_zero.1 h
  unfold addL
  rw [if_pos h]
  obtain ⟨a, b, c⟩ := slim_may (let_may h1 h3 h2 n)
  exact ⟨a, b, fun k => by rw [c, let_view h1 h3 h2 n k]⟩
end Go.Proofs.YthbppblmecdekaaDoor
