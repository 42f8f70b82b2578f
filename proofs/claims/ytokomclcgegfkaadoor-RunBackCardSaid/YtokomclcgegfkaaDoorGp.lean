/- Plain facts: what is found in a run, by the entries themselves. No program in sight. -/
import Derived.Test.YtokomclcgegfkaaDoorLg
import Derived.Test.YtokomclcgegfkaaDoorKy
namespace Go.Proofs.YtokomclcgegfkaaDoor
open Go

theorem look_isNone {l : List Ent} {k : Int} (h : look l k = none) : ∀ e ∈ l, e.key ≠ k := by
  unfold look at h
  rw [List.find?_eq_none] at h
  intro e he
  simpa using h e he
theorem look_perm {l m : List Ent} (hp : l.Perm m) (hr : RisE m) (k : Int) : look l k = look m k := by
  cases h : look l k with
  | some e =>
    obtain ⟨h1, h2⟩ := look_key h
    have := look_mem hr (hp.mem_iff.1 h2)
    rw [h1] at this
    exact this.symm
  | none =>
    cases h2 : look m k with
    | none => rfl
    | some e =>
      obtain ⟨h3, h4⟩ := look_key h2
      exact absurd h3 (look_isNone h e (hp.mem_iff.2 h4))
theorem look_in {l : List Ent} (h : chkE l = 0) (k : Int) : look l k = look (inL l) k := look_perm (inL_perm l).symm (chk_ris h) k
theorem ris_count : ∀ {m : List Ent} (k : Int), RisE m → ∀ i (hi : i < m.length), ((m[i]'hi).key < k ↔ i < belK m k)
  | [], k, _, i, hi => by simp at hi
  | a :: m, k, h, i, hi => by
    obtain ⟨h1, h2⟩ := RisE.cons.1 h
    have hb : belK (a :: m) k = belK m k + (if a.key < k then 1 else 0) := by
      unfold belK
      rw [List.countP_cons]
      simp
    rw [hb]
    by_cases ha : a.key < k
    · rw [if_pos ha]
      cases i with
      | zero => simp [ha]
      | succ i =>
        have := ris_count k h2 i (by simpa using hi)
        simp at this ⊢
        exact this
    · rw [if_neg ha]
      have h0 : belK m k = 0 := by
        unfold belK
        rw [List.countP_eq_zero]
        intro e he
        have := h1 e he
        simp; omega
      rw [h0]
      cases i with
      | zero => simp; omega
      | succ i =>
        have := h1 _ (List.getElem_mem (by simpa using hi : i < m.length))
        simp; omega
/-- sorted entries from a key on -/
theorem ris_at {m : List Ent} {k : Int} (h : RisE m) (hlt : belK m k < m.length) : k ≤ (m[belK m k]'hlt).key := by
  have := (ris_count k h _ hlt)
  omega
theorem ris_look {m : List Ent} {k : Int} (h : RisE m) : look m k = if hlt : belK m k < m.length then (if (m[belK m k]'hlt).key = k then some (m[belK m k]'hlt) else none) else none := by
  cases hl : look m k with
  | some e =>
    obtain ⟨h1, h2⟩ := look_key hl
    obtain ⟨i, hi, he⟩ := List.getElem_of_mem h2
    have hK : belK m k = i := by
      have h3 := ris_count k h i hi
      rw [he] at h3
      have h4 : ¬ i < belK m k := fun hh => by have := h3.2 hh; omega
      have h5 : ¬ belK m k < i := fun hh => by
        have h6 := (List.pairwise_iff_getElem.1 h) (belK m k) i (by omega) hi hh
        have h7 := ris_count k h (belK m k) (by omega)
        rw [he] at h6
        omega
      omega
    subst hK
    rw [dif_pos hi, he, if_pos h1]
  | none =>
    have h2 := look_isNone hl
    split
    · rename_i hlt
      rw [if_neg (h2 _ (List.getElem_mem hlt))]
    · rfl
/-- what Lower tells, by the sorted entries -/
theorem low_inE {l : List Ent} {key : Int} (h : chkE l = 0) (hk : ¬ lowK l key = l.length) :
    ∃ hlt : belK (inL l) key < (inL l).length, entAt l (lowAt l key) = (inL l)[belK (inL l) key]'hlt ∧ lowAt l key < l.length := by
  obtain ⟨_, h2, h3⟩ := low_at h hk
  have hK : lowK l key = belK (inL l) key := by
    rw [lowK_bel]
    unfold belK
    exact ((inL_perm l).countP_eq _).symm
  have hlt : belK (inL l) key < (inL l).length := by
    rw [inL_length, ← hK]
    have := lowK_le l key
    omega
  refine ⟨hlt, ?_, h3⟩
  rw [inL_get]
  congr 1
  rw [hK] at h2
  exact (List.getElem?_eq_some_iff.1 h2).2.symm
theorem low_end {l : List Ent} {key : Int} (hk : lowK l key = l.length) : ¬ belK (inL l) key < (inL l).length := by
  have hK : lowK l key = belK (inL l) key := by
    rw [lowK_bel]
    unfold belK
    exact ((inL_perm l).countP_eq _).symm
  rw [inL_length, ← hK, hk]
  omega
/-- what Find tells, by the entries -/
theorem fd_look {l : List Ent} (key : Int) (h : chkE l = 0) :
    (fdE l key = 0 ∧ fdAt l key < l.length ∧ look l key = some (entAt l (fdAt l key))) ∨ (fdE l key = 6 ∧ look l key = none) := by
  by_cases hk : lowK l key = l.length
  · right
    have h6 := (low_six h hk).1
    refine ⟨by unfold fdE; rw [h6]; rfl, ?_⟩
    rw [look_in h, ris_look (chk_ris h), dif_neg (low_end hk)]
  · obtain ⟨hlt, h1, h2⟩ := low_inE h hk
    have h0 := (low_at h hk).1
    have hfe : fdE l key = if (entAt l (lowAt l key)).key = key then 0 else 6 := by unfold fdE; rw [h0]; rfl
    by_cases hkey : (entAt l (lowAt l key)).key = key
    · left
      rw [if_pos hkey] at hfe
      have hat : fdAt l key = lowAt l key := by unfold fdAt; rw [if_pos hfe]
      refine ⟨hfe, by rw [hat]; exact h2, ?_⟩
      rw [look_in h, ris_look (chk_ris h), dif_pos hlt, ← h1, if_pos hkey, hat]
    · right
      rw [if_neg hkey] at hfe
      refine ⟨hfe, ?_⟩
      rw [look_in h, ris_look (chk_ris h), dif_pos hlt, ← h1, if_neg hkey]
theorem fd_bad {l : List Ent} (key : Int) (h : ¬ chkE l = 0) : fdE l key = chkE l := by
  have := (low_bad key h).1
  unfold fdE
  rw [this, if_pos h]

def zeroE : Ent := ⟨0, 0, false⟩
/-- what Get tells -/
def gtE (l : List Ent) (key : Int) : Int := if chkE l = 0 then (if (look l key).isSome then 0 else 6) else chkE l
def gtX (l : List Ent) (key : Int) : Ent := if chkE l = 0 then (look l key).getD zeroE else zeroE
theorem gt_fd (l : List Ent) (key : Int) : gtE l key = fdE l key ∧ (fdE l key = 0 → fdAt l key < l.length ∧ gtX l key = entAt l (fdAt l key)) ∧ (fdE l key ≠ 0 → gtX l key = zeroE) := by
  unfold gtE gtX
  by_cases h : chkE l = 0
  · rw [if_pos h, if_pos h]
    rcases fd_look key h with ⟨h1, h2, h3⟩ | ⟨h1, h2⟩
    · rw [h1, h3]
      exact ⟨rfl, fun _ => ⟨h2, rfl⟩, fun hh => absurd rfl hh⟩
    · rw [h1, h2]
      exact ⟨rfl, fun hh => by omega, fun _ => rfl⟩
  · rw [if_neg h, if_neg h, fd_bad key h]
    exact ⟨rfl, fun hh => absurd hh h, fun _ => rfl⟩
theorem gt_vals (l : List Ent) (key : Int) : gtE l key = 0 ∨ gtE l key = 6 ∨ (chkE l ≠ 0 ∧ gtE l key = chkE l) := by
  unfold gtE
  split
  · split
    · exact .inl rfl
    · exact .inr (.inl rfl)
  · exact .inr (.inr ⟨by assumption, rfl⟩)

/-- what is found of a key in runs -/
def kfE (rs : List (List Ent)) (key : Int) : Int := if chkAllE rs = 0 then (if (newest rs key).isSome then 0 else 6) else chkAllE rs
def kfX (rs : List (List Ent)) (key : Int) : Ent := if chkAllE rs = 0 then (newest rs key).getD zeroE else zeroE
theorem newest_nil (key : Int) : newest [] key = none := rfl
theorem newest_append (rs qs : List (List Ent)) (key : Int) : newest (rs ++ qs) key = (newest rs key).or (newest qs key) := by
  induction rs with
  | nil => rfl
  | cons r rs ih => rw [List.cons_append, newest_cons, newest_cons, ih, Option.or_assoc]
theorem newest_succ {rs : List (List Ent)} {k : Nat} (h : k < rs.length) (key : Int) : newest (rs.take (k + 1)) key = (newest (rs.take k) key).or (look (rs[k]'h) key) := by
  rw [List.take_succ_eq_append_getElem h, newest_append, newest_cons, newest_nil, Option.or_none]
theorem chkAll_take {rs : List (List Ent)} {k : Nat} (h : k < rs.length) (h0 : chkAllE (rs.take k) = 0) : chkAllE (rs.take (k + 1)) = chkE (rs[k]'h) ∧ (chkE (rs[k]'h) ≠ 0 → chkAllE rs = chkE (rs[k]'h)) := by
  have key : ∀ (a b : List (List Ent)), chkAllE a = 0 → chkAllE (a ++ b) = chkAllE b := by
    intro a b ha
    induction a with
    | nil => rfl
    | cons r a ih =>
      rw [chkAllE] at ha
      by_cases h1 : chkE r = 0
      · rw [if_pos h1] at ha
        rw [List.cons_append, chkAllE, if_pos h1, ih ha]
      · rw [if_neg h1] at ha
        exact absurd ha h1
  constructor
  · rw [List.take_succ_eq_append_getElem h, key _ _ h0, chkAllE, chkAllE]
    split
    · rename_i h; exact h.symm
    · rfl
  · intro hne
    have h2 := key (rs.take k) (rs.drop k) h0
    rw [List.take_append_drop, List.drop_eq_getElem_cons h, chkAllE, if_neg hne] at h2
    exact h2
theorem newest_in {rs : List (List Ent)} (h : chkAllE rs = 0) (key : Int) : newest (rs.map inL) key = newest rs key := by
  induction rs with
  | nil => rfl
  | cons r rs ih =>
    have h1 := chkAll_ok h r (by simp)
    have h2 : chkAllE rs = 0 := chkAll_zero fun q hq => chkAll_ok h q (by simp [hq])
    rw [List.map_cons, newest_cons, newest_cons, ih h2, look_in h1]
theorem ins_ris {rs : List (List Ent)} (h : chkAllE rs = 0) : ∀ r ∈ rs.map inL, RisE r := by
  intro r hr
  obtain ⟨q, hq, rfl⟩ := List.mem_map.1 hr
  exact chk_ris (chkAll_ok h q hq)
/-- what is found in runs merged -/
theorem mL_look {rs : List (List Ent)} (h : mE rs = 0) (key : Int) : look (mL rs false) key = newest rs key := by
  have hc := mE_chk h
  have hr := all_ris (ins_ris hc)
  rw [look_in (mL_chk false h), mL_in false h]
  show look (allE (rs.map inL)) key = _
  have := (fold_law (rs.map inL) RisE.nil (ins_ris hc)).2 key
  unfold allE
  rw [this]
  have h2 : look ([] : List Ent) key = none := rfl
  rw [h2, Option.none_or, newest_in hc]
theorem look_live {l : List Ent} (hr : RisE l) (key : Int) : look (liveE l) key = (look l key).bind (fun e => if e.dead then none else some e) := by
  cases h : look l key with
  | none =>
    have h2 := look_isNone h
    cases h3 : look (liveE l) key with
    | none => rfl
    | some e =>
      obtain ⟨h4, h5⟩ := look_key h3
      exact absurd h4 (h2 e (List.mem_filter.1 h5).1)
  | some e =>
    obtain ⟨h1, h2⟩ := look_key h
    show _ = if e.dead then none else some e
    cases hd : e.dead with
    | false =>
      have := look_mem (live_ris hr) (List.mem_filter.2 ⟨h2, by simp [hd]⟩ : e ∈ liveE l)
      rw [h1] at this
      rw [this]; rfl
    | true =>
      cases h3 : look (liveE l) key with
      | none => rfl
      | some x =>
        obtain ⟨h4, h5⟩ := look_key h3
        obtain ⟨h6, h7⟩ := List.mem_filter.1 h5
        have := look_mem hr h6
        rw [h4, h] at this
        obtain rfl := Option.some.inj this
        rw [hd] at h7
        simp at h7
theorem mL_look_bare {rs : List (List Ent)} (h : mE rs = 0) (key : Int) : look (mL rs true) key = (newest rs key).bind (fun e => if e.dead then none else some e) := by
  have hc := mE_chk h
  have hr := all_ris (ins_ris hc)
  rw [look_in (mL_chk true h), mL_in true h]
  show look (liveE (allE (rs.map inL))) key = _
  rw [look_live hr]
  have := (fold_law (rs.map inL) RisE.nil (ins_ris hc)).2 key
  have h2 : look ([] : List Ent) key = none := rfl
  rw [h2, Option.none_or, newest_in hc] at this
  show (look (List.foldl bothE [] (rs.map inL)) key).bind _ = _
  rw [this]
end Go.Proofs.YtokomclcgegfkaaDoor
