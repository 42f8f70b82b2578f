/- G2 Gp G3 Ro Rp: texts of the claim, in this order. -/
import Derived.Test.YtolclahkfmplfaaGreatWz8
import Derived.Test.YtolclahkfmplfaaGreatWz6
import Derived.Test.YtolclahkfmplfaaGreatWz7
import Derived.LoopIn
/- Plain facts: how an entry climbs levels. No program in sight. -/
namespace Go.Proofs.YtolclahkfmplfaaGreat
open Go

def cnt (rs : Lv) : Nat := rs.countP (fun l => decide (l ≠ []))
theorem cnt_set : ∀ (rs : Lv) (k : Nat), lev rs k ≠ [] → cnt (rs.set k []) + 1 = cnt rs
  | [], k, h => absurd (lev_nil k) h
  | l :: rs, 0, h => by
    have : l ≠ [] := by simpa [lev] using h
    simp [cnt, this]
  | l :: rs, k + 1, h => by
    have := cnt_set rs k (by simpa [lev] using h)
    unfold cnt at this ⊢
    rw [List.set_cons_succ, List.countP_cons, List.countP_cons]
    omega
theorem cnt_zero {rs : Lv} (h : cnt rs = 0) (j : Nat) : lev rs j = [] := by
  by_cases e : lev rs j = []
  · exact e
  · have := cnt_set rs j e; omega
def heldB (rs : Lv) (k : Nat) : Bool := (rs.drop (k + 1)).any (fun l => decide (l ≠ []))
theorem held_false {rs : Lv} {k : Nat} : heldB rs k = false ↔ ∀ j, k < j → lev rs j = [] := by
  unfold heldB
  rw [List.any_eq_false]
  constructor
  · intro h j hj
    rcases Nat.lt_or_ge j rs.length with h1 | h1
    · have h2 := h (rs[j]'h1) (List.mem_iff_getElem.2 ⟨j - (k + 1), by simp; omega, by rw [List.getElem_drop]; congr 1; omega⟩)
      rw [lev_lt h1]
      simpa using h2
    · exact lev_ge h1
  · intro h l hl
    obtain ⟨i, hi, e⟩ := List.mem_iff_getElem.1 hl
    rw [List.getElem_drop] at e
    have := h (k + 1 + i) (by omega)
    rw [lev_lt (by simp at hi; omega), e] at this
    simp [this]
def mergeR (rs : Lv) (r : List Ent) : List Ent := mL [r, lev rs (up r.length)] (!heldB rs (up r.length))
/-- a run goes up, level by level, while its level holds one -/
def climb (rs : Lv) (r : List Ent) (n : Int) : Lv × List Ent × Int :=
  if _h : r ≠ [] ∧ lev rs (up r.length) ≠ [] then
    climb (rs.set (up r.length) []) (mergeR rs r) (IntKind.u64.wrap (n + (mergeR rs r).length))
  else (rs, r, n)
termination_by cnt rs
decreasing_by
  have := cnt_set rs (up r.length) _h.2
  omega
theorem climb_up {rs : Lv} {r : List Ent} {n : Int} (h1 : r ≠ []) (h2 : lev rs (up r.length) ≠ []) : climb rs r n = climb (rs.set (up r.length) []) (mergeR rs r) (IntKind.u64.wrap (n + (mergeR rs r).length)) := by
  rw [climb, dif_pos ⟨h1, h2⟩]
theorem climb_end {rs : Lv} {r : List Ent} {n : Int} (h : r = [] ∨ lev rs (up r.length) = []) : climb rs r n = (rs, r, n) := by
  rw [climb, dif_neg]
  rintro ⟨h1, h2⟩
  rcases h with h | h
  · exact h1 h
  · exact h2 h
/-- what stands while a run goes up -/
structure Climbs (rs : Lv) (r : List Ent) : Prop where
  chk : ∀ j, chkE (lev rs j) = 0
  run : chkE r = 0
  size : r.length + tot rs ≤ 65536
  stood : Stood rs
theorem Climbs.mE {rs : Lv} {r : List Ent} (h : Climbs rs r) (j : Nat) : mE [r, lev rs j] = 0 := by
  refine mE_of (by simp [chkAllE, h.chk j, h.run]) ?_
  have := tot_lev rs j
  have := h.size
  simp; omega
theorem Climbs.len {rs : Lv} {r : List Ent} (_h : Climbs rs r) : (mergeR rs r).length ≤ r.length + (lev rs (up r.length)).length := by
  exact mL_len _ (by simp)
theorem Climbs.step {rs : Lv} {r : List Ent} (h : Climbs rs r) : Climbs (rs.set (up r.length) []) (mergeR rs r) := by
  refine ⟨fun j => ?_, mL_chk _ (h.mE _), ?_, fun j => ?_⟩
  · rw [lev_set_nil]
    split
    · exact chk_nil
    · exact h.chk j
  · have h1 := h.len
    have h2 := tot_set_nil rs (up r.length)
    have h3 := h.size
    omega
  · rw [lev_set_nil]
    split
    · exact .inl rfl
    · exact h.stood j
theorem climb_ok : ∀ (m : Nat) {rs : Lv} {r : List Ent} {n : Int}, cnt rs ≤ m → Climbs rs r → Climbs (climb rs r n).1 (climb rs r n).2.1 ∧ ((climb rs r n).2.1 = [] ∨ lev (climb rs r n).1 (up (climb rs r n).2.1.length) = []) ∧ (climb rs r n).1.length = rs.length ∧ (climb rs r n).2.1.length + tot (climb rs r n).1 ≤ r.length + tot rs := by
  intro m
  induction m with
  | zero =>
    intro rs r n hm h
    have h0 := cnt_zero (rs := rs) (by omega) (up r.length)
    rw [climb_end (.inr h0)]
    exact ⟨h, .inr h0, rfl, Nat.le_refl _⟩
  | succ m ih =>
    intro rs r n hm h
    by_cases e : r = [] ∨ lev rs (up r.length) = []
    · rw [climb_end e]
      exact ⟨h, e, rfl, Nat.le_refl _⟩
    · have e1 : r ≠ [] := fun x => e (.inl x)
      have e2 : lev rs (up r.length) ≠ [] := fun x => e (.inr x)
      rw [climb_up e1 e2]
      have h1 := cnt_set rs (up r.length) e2
      obtain ⟨a, b, c, d⟩ := ih (n := IntKind.u64.wrap (n + (mergeR rs r).length)) (by omega) h.step
      refine ⟨a, b, by rw [c, List.length_set], ?_⟩
      have h2 := tot_set_nil rs (up r.length)
      have h3 := h.len
      omega

/-- levels behind an entry was let in, and how many were laid -/
def climbE (rs : Lv) (n : Int) (y : Ent) : Lv × List Ent × Int := if y.dead = true ∧ rs = [] then (rs, [], n) else climb rs [y] (IntKind.u64.wrap (n + 1))
def letL (rs : Lv) (n : Int) (y : Ent) : Lv := cutL (standL (climbE rs n y).1 (climbE rs n y).2.1)
def letN (rs : Lv) (n : Int) (y : Ent) : Int := (climbE rs n y).2.2
def allL (rs : Lv) : List Ent := liveE (allE (rs.map inL))
def fat (rs : Lv) : Bool := decide (2 * (allL rs).length + 2 < tot rs)
def slimL (rs : Lv) : Lv := if fat rs = true then standL [] (laid (allL rs)) else rs
def slimN (rs : Lv) (n : Int) : Int := if fat rs = true then IntKind.u64.wrap (n + (allL rs).length) else n
def addE (rs : Lv) (y : Ent) : Int := if chkR rs ≠ 0 then chkR rs else if tot rs = 65536 then 4 else if badEnt y = true then 8 else 0
def addL (rs : Lv) (n : Int) (y : Ent) : Lv := if addE rs y = 0 then slimL (letL rs n y) else []
def addN (rs : Lv) (n : Int) (y : Ent) : Int := if addE rs y = 0 then slimN (letL rs n y) (letN rs n y) else 0
theorem chk_one {y : Ent} (h : badEnt y = false) : chkE [y] = 0 := by
  have hE : buildE [y] = 0 := by
    unfold buildE
    rw [if_neg (by simp), if_neg (by simp [h]), if_pos (by simp [rises])]
  have hl : laid [y] = [y] := by
    unfold laid ranks
    simp [inord, entAt]
  rw [← hl]
  exact build_chk hE
theorem May.climbs {rs : Lv} (h : May rs) {y : Ent} (hy : badEnt y = false) (ht : tot rs ≠ 65536) : Climbs rs [y] := by
  refine ⟨h.chk, chk_one hy, ?_, h.stood⟩
  have := h.size
  simp; omega
theorem addE_zero {rs : Lv} {y : Ent} : addE rs y = 0 ↔ May rs ∧ tot rs ≠ 65536 ∧ badEnt y = false := by
  rw [← chkR_zero]
  unfold addE
  by_cases h1 : chkR rs = 0
  · rw [if_neg (by simp [h1])]
    by_cases h2 : tot rs = 65536
    · simp [h2]
    · rw [if_neg h2]
      cases badEnt y <;> simp [h1, h2]
  · rw [if_pos h1]
    simp [h1]
theorem climbE_ok {rs : Lv} (h : May rs) {y : Ent} (hy : badEnt y = false) (ht : tot rs ≠ 65536) (n : Int) :
    Climbs (climbE rs n y).1 (climbE rs n y).2.1 ∧ ((climbE rs n y).2.1 = [] ∨ lev (climbE rs n y).1 (up (climbE rs n y).2.1.length) = []) ∧ (climbE rs n y).1.length = rs.length ∧ (climbE rs n y).2.1.length + tot (climbE rs n y).1 ≤ tot rs + 1 := by
  unfold climbE
  split
  · rename_i e
    refine ⟨⟨h.chk, chk_nil, by simpa using h.size, h.stood⟩, .inl rfl, rfl, by simp⟩
  · obtain ⟨a, b, c, d⟩ := climb_ok (cnt rs) (n := IntKind.u64.wrap (n + 1)) (Nat.le_refl _) (h.climbs hy ht)
    exact ⟨a, b, c, by simp at d; omega⟩
theorem letL_tot {rs : Lv} (h : May rs) {y : Ent} (hy : badEnt y = false) (ht : tot rs ≠ 65536) (n : Int) : tot (letL rs n y) ≤ tot rs + 1 ∧ tot (letL rs n y) ≤ 65536 := by
  obtain ⟨a, b, _, d⟩ := climbE_ok h hy ht n
  unfold letL
  rw [tot_cut, tot_stand b]
  have := h.size
  omega
theorem letL_lev {rs : Lv} (n : Int) (y : Ent) (j : Nat) : lev (letL rs n y) j = if (climbE rs n y).2.1 ≠ [] ∧ j = up (climbE rs n y).2.1.length then (climbE rs n y).2.1 else lev (climbE rs n y).1 j := by
  unfold letL
  rw [lev_cut, lev_stand]
theorem letL_chk {rs : Lv} (h : May rs) {y : Ent} (hy : badEnt y = false) (ht : tot rs ≠ 65536) (n : Int) (j : Nat) : chkE (lev (letL rs n y) j) = 0 := by
  obtain ⟨a, _⟩ := climbE_ok h hy ht n
  rw [letL_lev]
  split
  · exact a.run
  · exact a.chk j
theorem letL_stood {rs : Lv} (h : May rs) {y : Ent} (hy : badEnt y = false) (ht : tot rs ≠ 65536) (n : Int) : Stood (letL rs n y) := by
  obtain ⟨a, _⟩ := climbE_ok h hy ht n
  intro j
  rw [letL_lev]
  split
  · rename_i e; exact .inr e.2.symm
  · exact a.stood j
theorem letL_mE {rs : Lv} (h : May rs) {y : Ent} (hy : badEnt y = false) (ht : tot rs ≠ 65536) (n : Int) : mE (letL rs n y) = 0 := by
  refine mE_of (chkAll_zero fun r hr => ?_) (letL_tot h hy ht n).2
  obtain ⟨j, _, e⟩ := lev_of_mem hr
  rw [← e]
  exact letL_chk h hy ht n j
end Go.Proofs.YtolclahkfmplfaaGreat

/- Plain facts: what is found in a run, by the entries themselves. No program in sight. -/
namespace Go.Proofs.YtolclahkfmplfaaGreat
open Go

theorem look_isNone {l : List Ent} {k : Int} (h : look l k = none) : ∀ e ∈ l, e.key ≠ k := by
  unfold look at h
  rw [List.find?_eq_none] at h
  intro e he
  simpa using h e he
theorem look_perm {l m : List Ent} (hp : l.Perm m) (hr : RisE m) (k : Int) : look l k = look m k := by
  cases h : look l k with
  | some e =>
    obtain ⟨h1, h2⟩ := look_key h
    have := look_mem hr (hp.mem_iff.1 h2)
    rw [h1] at this
    exact this.symm
  | none =>
    cases h2 : look m k with
    | none => rfl
    | some e =>
      obtain ⟨h3, h4⟩ := look_key h2
      exact absurd h3 (look_isNone h e (hp.mem_iff.2 h4))
theorem look_in {l : List Ent} (h : chkE l = 0) (k : Int) : look l k = look (inL l) k := look_perm (inL_perm l).symm (chk_ris h) k
theorem ris_count : ∀ {m : List Ent} (k : Int), RisE m → ∀ i (hi : i < m.length), ((m[i]'hi).key < k ↔ i < belK m k)
  | [], k, _, i, hi => by simp at hi
  | a :: m, k, h, i, hi => by
    obtain ⟨h1, h2⟩ := RisE.cons.1 h
    have hb : belK (a :: m) k = belK m k + (if a.key < k then 1 else 0) := by
      unfold belK
      rw [List.countP_cons]
      simp
    rw [hb]
    by_cases ha : a.key < k
    · rw [if_pos ha]
      cases i with
      | zero => simp [ha]
      | succ i =>
        have := ris_count k h2 i (by simpa using hi)
        simp at this ⊢
        exact this
    · rw [if_neg ha]
      have h0 : belK m k = 0 := by
        unfold belK
        rw [List.countP_eq_zero]
        intro e he
        have := h1 e he
        simp; omega
      rw [h0]
      cases i with
      | zero => simp; omega
      | succ i =>
        have := h1 _ (List.getElem_mem (by simpa using hi : i < m.length))
        simp; omega
/-- sorted entries from a key on -/
theorem ris_at {m : List Ent} {k : Int} (h : RisE m) (hlt : belK m k < m.length) : k ≤ (m[belK m k]'hlt).key := by
  have := (ris_count k h _ hlt)
  omega
theorem ris_look {m : List Ent} {k : Int} (h : RisE m) : look m k = if hlt : belK m k < m.length then (if (m[belK m k]'hlt).key = k then some (m[belK m k]'hlt) else none) else none := by
  cases hl : look m k with
  | some e =>
    obtain ⟨h1, h2⟩ := look_key hl
    obtain ⟨i, hi, he⟩ := List.getElem_of_mem h2
    have hK : belK m k = i := by
      have h3 := ris_count k h i hi
      rw [he] at h3
      have h4 : ¬ i < belK m k := fun hh => by have := h3.2 hh; omega
      have h5 : ¬ belK m k < i := fun hh => by
        have h6 := (List.pairwise_iff_getElem.1 h) (belK m k) i (by omega) hi hh
        have h7 := ris_count k h (belK m k) (by omega)
        rw [he] at h6
        omega
      omega
    subst hK
    rw [dif_pos hi, he, if_pos h1]
  | none =>
    have h2 := look_isNone hl
    split
    · rename_i hlt
      rw [if_neg (h2 _ (List.getElem_mem hlt))]
    · rfl
/-- what Lower tells, by the sorted entries -/
theorem low_inE {l : List Ent} {key : Int} (h : chkE l = 0) (hk : ¬ lowK l key = l.length) :
    ∃ hlt : belK (inL l) key < (inL l).length, entAt l (lowAt l key) = (inL l)[belK (inL l) key]'hlt ∧ lowAt l key < l.length := by
  obtain ⟨_, h2, h3⟩ := low_at h hk
  have hK : lowK l key = belK (inL l) key := by
    rw [lowK_bel]
    unfold belK
    exact ((inL_perm l).countP_eq _).symm
  have hlt : belK (inL l) key < (inL l).length := by
    rw [inL_length, ← hK]
    have := lowK_le l key
    omega
  refine ⟨hlt, ?_, h3⟩
  rw [inL_get]
  congr 1
  rw [hK] at h2
  exact (List.getElem?_eq_some_iff.1 h2).2.symm
theorem low_end {l : List Ent} {key : Int} (hk : lowK l key = l.length) : ¬ belK (inL l) key < (inL l).length := by
  have hK : lowK l key = belK (inL l) key := by
    rw [lowK_bel]
    unfold belK
    exact ((inL_perm l).countP_eq _).symm
  rw [inL_length, ← hK, hk]
  omega
/-- what Find tells, by the entries -/
theorem fd_look {l : List Ent} (key : Int) (h : chkE l = 0) :
    (fdE l key = 0 ∧ fdAt l key < l.length ∧ look l key = some (entAt l (fdAt l key))) ∨ (fdE l key = 6 ∧ look l key = none) := by
  by_cases hk : lowK l key = l.length
  · right
    have h6 := (low_six h hk).1
    refine ⟨by unfold fdE; rw [h6]; rfl, ?_⟩
    rw [look_in h, ris_look (chk_ris h), dif_neg (low_end hk)]
  · obtain ⟨hlt, h1, h2⟩ := low_inE h hk
    have h0 := (low_at h hk).1
    have hfe : fdE l key = if (entAt l (lowAt l key)).key = key then 0 else 6 := by unfold fdE; rw [h0]; rfl
    by_cases hkey : (entAt l (lowAt l key)).key = key
    · left
      rw [if_pos hkey] at hfe
      have hat : fdAt l key = lowAt l key := by unfold fdAt; rw [if_pos hfe]
      refine ⟨hfe, by rw [hat]; exact h2, ?_⟩
      rw [look_in h, ris_look (chk_ris h), dif_pos hlt, ← h1, if_pos hkey, hat]
    · right
      rw [if_neg hkey] at hfe
      refine ⟨hfe, ?_⟩
      rw [look_in h, ris_look (chk_ris h), dif_pos hlt, ← h1, if_neg hkey]
theorem fd_bad {l : List Ent} (key : Int) (h : ¬ chkE l = 0) : fdE l key = chkE l := by
  have := (low_bad key h).1
  unfold fdE
  rw [this, if_pos h]

def zeroE : Ent := ⟨0, 0, false⟩
/-- what Get tells -/
def gtE (l : List Ent) (key : Int) : Int := if chkE l = 0 then (if (look l key).isSome then 0 else 6) else chkE l
def gtX (l : List Ent) (key : Int) : Ent := if chkE l = 0 then (look l key).getD zeroE else zeroE
theorem gt_fd (l : List Ent) (key : Int) : gtE l key = fdE l key ∧ (fdE l key = 0 → fdAt l key < l.length ∧ gtX l key = entAt l (fdAt l key)) ∧ (fdE l key ≠ 0 → gtX l key = zeroE) := by
  unfold gtE gtX
  by_cases h : chkE l = 0
  · rw [if_pos h, if_pos h]
    rcases fd_look key h with ⟨h1, h2, h3⟩ | ⟨h1, h2⟩
    · rw [h1, h3]
      exact ⟨rfl, fun _ => ⟨h2, rfl⟩, fun hh => absurd rfl hh⟩
    · rw [h1, h2]
      exact ⟨rfl, fun hh => by omega, fun _ => rfl⟩
  · rw [if_neg h, if_neg h, fd_bad key h]
    exact ⟨rfl, fun hh => absurd hh h, fun _ => rfl⟩
theorem gt_vals (l : List Ent) (key : Int) : gtE l key = 0 ∨ gtE l key = 6 ∨ (chkE l ≠ 0 ∧ gtE l key = chkE l) := by
  unfold gtE
  split
  · split
    · exact .inl rfl
    · exact .inr (.inl rfl)
  · exact .inr (.inr ⟨by assumption, rfl⟩)

/-- what is found of a key in runs -/
def kfE (rs : List (List Ent)) (key : Int) : Int := if chkAllE rs = 0 then (if (newest rs key).isSome then 0 else 6) else chkAllE rs
def kfX (rs : List (List Ent)) (key : Int) : Ent := if chkAllE rs = 0 then (newest rs key).getD zeroE else zeroE
theorem newest_nil (key : Int) : newest [] key = none := rfl
theorem newest_append (rs qs : List (List Ent)) (key : Int) : newest (rs ++ qs) key = (newest rs key).or (newest qs key) := by
  induction rs with
  | nil => rfl
  | cons r rs ih => rw [List.cons_append, newest_cons, newest_cons, ih, Option.or_assoc]
theorem newest_succ {rs : List (List Ent)} {k : Nat} (h : k < rs.length) (key : Int) : newest (rs.take (k + 1)) key = (newest (rs.take k) key).or (look (rs[k]'h) key) := by
  rw [List.take_succ_eq_append_getElem h, newest_append, newest_cons, newest_nil, Option.or_none]
theorem chkAll_take {rs : List (List Ent)} {k : Nat} (h : k < rs.length) (h0 : chkAllE (rs.take k) = 0) : chkAllE (rs.take (k + 1)) = chkE (rs[k]'h) ∧ (chkE (rs[k]'h) ≠ 0 → chkAllE rs = chkE (rs[k]'h)) := by
  have key : ∀ (a b : List (List Ent)), chkAllE a = 0 → chkAllE (a ++ b) = chkAllE b := by
    intro a b ha
    induction a with
    | nil => rfl
    | cons r a ih =>
      rw [chkAllE] at ha
      by_cases h1 : chkE r = 0
      · rw [if_pos h1] at ha
        rw [List.cons_append, chkAllE, if_pos h1, ih ha]
      · rw [if_neg h1] at ha
        exact absurd ha h1
  constructor
  · rw [List.take_succ_eq_append_getElem h, key _ _ h0, chkAllE, chkAllE]
    split
    · rename_i h; exact h.symm
    · rfl
  · intro hne
    have h2 := key (rs.take k) (rs.drop k) h0
    rw [List.take_append_drop, List.drop_eq_getElem_cons h, chkAllE, if_neg hne] at h2
    exact h2
theorem newest_in {rs : List (List Ent)} (h : chkAllE rs = 0) (key : Int) : newest (rs.map inL) key = newest rs key := by
  induction rs with
  | nil => rfl
  | cons r rs ih =>
    have h1 := chkAll_ok h r (by simp)
    have h2 : chkAllE rs = 0 := chkAll_zero fun q hq => chkAll_ok h q (by simp [hq])
    rw [List.map_cons, newest_cons, newest_cons, ih h2, look_in h1]
theorem ins_ris {rs : List (List Ent)} (h : chkAllE rs = 0) : ∀ r ∈ rs.map inL, RisE r := by
  intro r hr
  obtain ⟨q, hq, rfl⟩ := List.mem_map.1 hr
  exact chk_ris (chkAll_ok h q hq)
/-- what is found in runs merged -/
theorem mL_look {rs : List (List Ent)} (h : mE rs = 0) (key : Int) : look (mL rs false) key = newest rs key := by
  have hc := mE_chk h
  have hr := all_ris (ins_ris hc)
  rw [look_in (mL_chk false h), mL_in false h]
  show look (allE (rs.map inL)) key = _
  have := (fold_law (rs.map inL) RisE.nil (ins_ris hc)).2 key
  unfold allE
  rw [this]
  have h2 : look ([] : List Ent) key = none := rfl
  rw [h2, Option.none_or, newest_in hc]
theorem look_live {l : List Ent} (hr : RisE l) (key : Int) : look (liveE l) key = (look l key).bind (fun e => if e.dead then none else some e) := by
  cases h : look l key with
  | none =>
    have h2 := look_isNone h
    cases h3 : look (liveE l) key with
    | none => rfl
    | some e =>
      obtain ⟨h4, h5⟩ := look_key h3
      exact absurd h4 (h2 e (List.mem_filter.1 h5).1)
  | some e =>
    obtain ⟨h1, h2⟩ := look_key h
    show _ = if e.dead then none else some e
    cases hd : e.dead with
    | false =>
      have := look_mem (live_ris hr) (List.mem_filter.2 ⟨h2, by simp [hd]⟩ : e ∈ liveE l)
      rw [h1] at this
      rw [this]; rfl
    | true =>
      cases h3 : look (liveE l) key with
      | none => rfl
      | some x =>
        obtain ⟨h4, h5⟩ := look_key h3
        obtain ⟨h6, h7⟩ := List.mem_filter.1 h5
        have := look_mem hr h6
        rw [h4, h] at this
        obtain rfl := Option.some.inj this
        rw [hd] at h7
        simp at h7
theorem mL_look_bare {rs : List (List Ent)} (h : mE rs = 0) (key : Int) : look (mL rs true) key = (newest rs key).bind (fun e => if e.dead then none else some e) := by
  have hc := mE_chk h
  have hr := all_ris (ins_ris hc)
  rw [look_in (mL_chk true h), mL_in true h]
  show look (liveE (allE (rs.map inL))) key = _
  rw [look_live hr]
  have := (fold_law (rs.map inL) RisE.nil (ins_ris hc)).2 key
  have h2 : look ([] : List Ent) key = none := rfl
  rw [h2, Option.none_or, newest_in hc] at this
  show (look (List.foldl bothE [] (rs.map inL)) key).bind _ = _
  rw [this]
end Go.Proofs.YtolclahkfmplfaaGreat

/- Plain facts: what levels have behind an entry was let in. No program in sight. -/
namespace Go.Proofs.YtolclahkfmplfaaGreat
open Go

/-- an entry that is not dead -/
def lvO (o : Option Ent) : Option Ent := o.bind (fun e => if e.dead then none else some e)
theorem lvO_none : lvO none = none := rfl
theorem lvO_or {a : Option Ent} : lvO ((lvO a).or none) = lvO a := by
  cases a with
  | none => rfl
  | some e => unfold lvO; cases h : e.dead <;> simp [h]
theorem lvO_idem (a : Option Ent) : lvO (lvO a) = lvO a := by
  cases a with
  | none => rfl
  | some e => unfold lvO; cases h : e.dead <;> simp [h]
/-! ### the newest of levels goes by the levels alone -/
theorem newest_pad (rs : Lv) (m : Nat) (k : Int) : newest (padTo rs m) k = newest rs k := by
  unfold padTo
  rw [newest_append]
  have h : newest (List.replicate (m - rs.length) ([] : List Ent)) k = none := by
    generalize m - rs.length = n
    induction n with
    | zero => rfl
    | succ n ih => rw [List.replicate_succ, newest_cons, ih]; rfl
  rw [h]
  cases newest rs k <;> rfl
theorem newest_congr {a b : Lv} (h : ∀ j, lev a j = lev b j) (k : Int) : newest a k = newest b k := by
  rw [← newest_pad a (max a.length b.length) k, ← newest_pad b (max a.length b.length) k]
  congr 1
  refine List.ext_getElem (by rw [pad_len, pad_len]; omega) fun i h1 h2 => ?_
  rw [← lev_lt h1, ← lev_lt h2, lev_pad, lev_pad, h]
theorem newest_split : ∀ (m : Nat) (rs : Lv) (k : Int), (∀ j, j < m → lev rs j = []) → newest rs k = (look (lev rs m) k).or (newest (rs.set m []) k)
  | m, [], k, _ => by rw [lev_nil]; rfl
  | 0, l :: rs, k, _ => by
    show newest (l :: rs) k = (look l k).or (newest ([] :: rs) k)
    rw [newest_cons, newest_cons]; rfl
  | m + 1, l :: rs, k, h => by
    have h0 : l = [] := by simpa [lev] using h 0 (by omega)
    subst h0
    have h1 : lev ([] :: rs) (m + 1) = lev rs m := by simp [lev]
    rw [h1, List.set_cons_succ, newest_cons, newest_cons, newest_split m rs k (fun j hj => by simpa [lev] using h (j + 1) (by omega))]
    rfl
theorem newest_stand {rs : Lv} {r : List Ent} (k : Int) (h0 : r ≠ []) (h : ∀ j, j < up r.length → lev rs j = []) (h1 : lev rs (up r.length) = []) : newest (standL rs r) k = (look r k).or (newest rs k) := by
  rw [newest_split (up r.length) (standL rs r) k (fun j hj => by rw [lev_stand, if_neg (fun x => by omega)]; exact h j hj), lev_stand, if_pos ⟨h0, rfl⟩]
  congr 1
  refine newest_congr (fun j => ?_) k
  rw [lev_set_nil, lev_stand]
  by_cases e : j = up r.length
  · rw [if_pos e, e, h1]
  · rw [if_neg e, if_neg (fun x => e x.2)]
theorem newest_empty {rs : Lv} (h : ∀ j, lev rs j = []) (k : Int) : newest rs k = none := by
  rw [newest_congr (b := []) (fun j => by rw [h, lev_nil]) k]; rfl
theorem mergeR_look {rs : Lv} {r : List Ent} (h : Climbs rs r) (k : Int) : look (mergeR rs r) k = if heldB rs (up r.length) = true then (look r k).or (look (lev rs (up r.length)) k) else lvO ((look r k).or (look (lev rs (up r.length)) k)) := by
  have hn : newest [r, lev rs (up r.length)] k = (look r k).or (look (lev rs (up r.length)) k) := by
    rw [newest_cons, newest_cons, newest_nil]
    cases look (lev rs (up r.length)) k <;> simp
  unfold mergeR
  cases heldB rs (up r.length) with
  | true => rw [if_pos rfl, ← hn]; exact mL_look (h.mE _) k
  | false => rw [if_neg (by decide), ← hn]; exact mL_look_bare (h.mE _) k
theorem mL_live {rs : Lv} (h : mE rs = 0) : deadE (mL rs true) = false := by
  unfold deadE
  rw [List.any_eq_false]
  intro e he
  have h1 : e ∈ inL (mL rs true) := (inL_perm _).mem_iff.2 he
  rw [mL_in true h] at h1
  have h2 : e ∈ liveE (allE (rs.map inL)) := h1
  unfold liveE at h2
  have := (List.mem_filter.1 h2).2
  simpa using this
/-- what stands besides: below a run that goes up all is empty; the uppermost run has no dead entry -/
structure Rises (rs : Lv) (r : List Ent) : Prop where
  low : ∀ j, j < up r.length → lev rs j = []
  top : ∀ j, lev rs j ≠ [] → (∀ i, j < i → lev rs i = []) → deadE (lev rs j) = false
  dead : deadE r = true → ∃ j, up r.length ≤ j ∧ lev rs j ≠ []
theorem rises_step {rs : Lv} {r : List Ent} (hc : Climbs rs r) (h : Rises rs r) (h0 : r ≠ []) : Rises (rs.set (up r.length) []) (mergeR rs r) := by
  have hk : up (mergeR rs r).length ≤ up r.length + 1 := by
    refine up_le ?_
    have h1 := hc.len
    have h2 := (up_spec (n := r.length) (List.length_pos_iff.2 h0)).1
    have h3 : (lev rs (up r.length)).length ≤ 2 ^ up r.length := by
      rcases hc.stood (up r.length) with e | e
      · rw [e]; simp
      · have := List.eq_nil_or_concat (lev rs (up r.length))
        rcases Nat.eq_zero_or_pos (lev rs (up r.length)).length with e2 | e2
        · omega
        · have := (up_spec e2).1; rwa [e] at this
    rw [Nat.pow_succ]; omega
  have hlow : ∀ j, j ≤ up r.length → lev (rs.set (up r.length) []) j = [] := by
    intro j hj
    rw [lev_set_nil]
    split
    · rfl
    · exact h.low j (by omega)
  refine ⟨fun j hj => hlow j (by omega), fun j hj hup => ?_, fun hd => ?_⟩
  · have hjk : up r.length < j := by
      rcases Nat.lt_or_ge (up r.length) j with h1 | h1
      · exact h1
      · exact absurd (hlow j h1) hj
    rw [lev_set_nil, if_neg (by omega)] at hj ⊢
    refine h.top j hj fun i hi => ?_
    have := hup i hi
    rwa [lev_set_nil, if_neg (by omega)] at this
  · cases hh : heldB rs (up r.length) with
    | false =>
      exfalso
      unfold mergeR at hd
      rw [hh] at hd
      have := mL_live (hc.mE (up r.length))
      simp at hd
      rw [this] at hd
      cases hd
    | true =>
      have : ¬ ∀ j, up r.length < j → lev rs j = [] := fun x => by rw [held_false.2 x] at hh; cases hh
      obtain ⟨j, hj⟩ := Classical.not_forall.1 this
      have hj1 : up r.length < j := Classical.byContradiction fun x => hj fun y => absurd y x
      have hj2 : lev rs j ≠ [] := fun x => hj fun _ => x
      exact ⟨j, by omega, by rw [lev_set_nil, if_neg (by omega)]; exact hj2⟩
theorem climb_view : ∀ (m : Nat) {rs : Lv} {r : List Ent} {n : Int} (k : Int), cnt rs ≤ m → Climbs rs r → Rises rs r → Rises (climb rs r n).1 (climb rs r n).2.1 ∧ lvO ((look (climb rs r n).2.1 k).or (newest (climb rs r n).1 k)) = lvO ((look r k).or (newest rs k)) := by
  intro m
  induction m with
  | zero =>
    intro rs r n k hm hc h
    have h0 := cnt_zero (rs := rs) (by omega) (up r.length)
    rw [climb_end (.inr h0)]
    exact ⟨h, rfl⟩
  | succ m ih =>
    intro rs r n k hm hc h
    by_cases e : r = [] ∨ lev rs (up r.length) = []
    · rw [climb_end e]
      exact ⟨h, rfl⟩
    · have e1 : r ≠ [] := fun x => e (.inl x)
      have e2 : lev rs (up r.length) ≠ [] := fun x => e (.inr x)
      rw [climb_up e1 e2]
      have h1 := cnt_set rs (up r.length) e2
      obtain ⟨a, b⟩ := ih (n := IntKind.u64.wrap (n + (mergeR rs r).length)) k (by omega) hc.step (rises_step hc h e1)
      refine ⟨a, ?_⟩
      rw [b, mergeR_look hc, newest_split (up r.length) rs k h.low]
      cases hh : heldB rs (up r.length) with
      | true => rw [if_pos rfl, Option.or_assoc]
      | false =>
        rw [if_neg (by decide)]
        have hn : newest (rs.set (up r.length) []) k = none := by
          refine newest_empty (fun j => ?_) k
          rw [lev_set_nil]
          by_cases e3 : j = up r.length
          · rw [if_pos e3]
          · rw [if_neg e3]
            rcases Nat.lt_or_ge j (up r.length) with h2 | h2
            · exact h.low j h2
            · exact held_false.1 hh j (by omega)
        rw [hn, lvO_or]
        cases look (lev rs (up r.length)) k <;> simp
theorem May.rises {rs : Lv} (h : May rs) {y : Ent} (hy : ¬ (y.dead = true ∧ rs = [])) : Rises rs [y] := by
  have u0 : up ([y] : List Ent).length = 0 := rfl
  refine ⟨fun j hj => by omega, fun j hj hup => ?_, fun hd => ?_⟩
  · have hj1 := (lev_mem hj).1
    refine h.last j ?_
    rcases h.top with e | e
    · subst e; simp at hj1
    · rcases Nat.lt_or_ge j (rs.length - 1) with h1 | h1
      · exact absurd (hup _ h1) e
      · omega
  · have hd2 : y.dead = true := by simpa [deadE] using hd
    rcases h.top with e | e
    · exact absurd ⟨hd2, e⟩ hy
    · exact ⟨_, Nat.zero_le _, e⟩
theorem look_one (y : Ent) (k : Int) : look [y] k = if y.key = k then some y else none := by rw [look_cons]; rfl
/-- what was let in is had; other keys stay -/
theorem let_view {rs : Lv} (h : May rs) {y : Ent} (hy : badEnt y = false) (ht : tot rs ≠ 65536) (n : Int) (k : Int) : lvO (newest (letL rs n y) k) = if y.key = k then lvO (some y) else lvO (newest rs k) := by
  obtain ⟨_, b, _⟩ := climbE_ok h hy ht n
  by_cases hd : y.dead = true ∧ rs = []
  · have h1 : letL rs n y = [] := by
      unfold letL climbE
      rw [if_pos hd]
      dsimp only
      rw [stand_nil, hd.2]; rfl
    rw [h1, newest_nil, hd.2, newest_nil, lvO_none]
    split
    · unfold lvO; simp [hd.1]
    · rfl
  · have hR := h.rises hd
    obtain ⟨c, d⟩ := climb_view (cnt rs) (n := IntKind.u64.wrap (n + 1)) k (Nat.le_refl _) (h.climbs hy ht) hR
    have e1 : climbE rs n y = climb rs [y] (IntKind.u64.wrap (n + 1)) := by unfold climbE; rw [if_neg hd]
    rw [← e1] at c d
    have h2 : newest (letL rs n y) k = (look (climbE rs n y).2.1 k).or (newest (climbE rs n y).1 k) := by
      unfold letL
      rw [newest_congr (lev_cut _) k]
      by_cases e2 : (climbE rs n y).2.1 = []
      · rw [e2, stand_nil]; rfl
      · rcases b with b | b
        · exact absurd b e2
        · exact newest_stand k e2 c.low b
    rw [h2, d, look_one]
    split <;> rfl
theorem let_may {rs : Lv} (h : May rs) {y : Ent} (hy : badEnt y = false) (ht : tot rs ≠ 65536) (n : Int) : May (letL rs n y) := by
  have hs := letL_stood h hy ht n
  have htop : Top (letL rs n y) := cut_top _
  have htot := (letL_tot h hy ht n).2
  refine ⟨?_, htop, letL_chk h hy ht n, hs, fun j hj => ?_, htot⟩
  · rcases htop with e | e
    · rw [e]; simp
    · rcases hs ((letL rs n y).length - 1) with e2 | e2
      · exact absurd e2 e
      · have := up_16 (Nat.le_trans (tot_lev (letL rs n y) ((letL rs n y).length - 1)) htot)
        omega
  · obtain ⟨_, b, _⟩ := climbE_ok h hy ht n
    by_cases hd : y.dead = true ∧ rs = []
    · have h1 : letL rs n y = [] := by
        unfold letL climbE
        rw [if_pos hd]
        dsimp only
        rw [stand_nil, hd.2]; rfl
      rw [h1] at hj; simp at hj
    · obtain ⟨c, _⟩ := climb_view (cnt rs) (n := IntKind.u64.wrap (n + 1)) 0 (Nat.le_refl _) (h.climbs hy ht) (h.rises hd)
      have e1 : climbE rs n y = climb rs [y] (IntKind.u64.wrap (n + 1)) := by unfold climbE; rw [if_neg hd]
      rw [← e1] at c
      have hne : lev (letL rs n y) j ≠ [] := by
        rcases htop with e | e
        · rw [e] at hj; simp at hj
        · rwa [show j = (letL rs n y).length - 1 by omega]
      have habove : ∀ i, j < i → lev (letL rs n y) i = [] := fun i hi => lev_ge (by omega)
      rw [letL_lev] at hne ⊢
      split
      · rename_i e
        rw [if_pos e] at hne
        cases hdd : deadE (climbE rs n y).2.1 with
        | false => rfl
        | true =>
          obtain ⟨i, h1, h2⟩ := c.dead hdd
          rcases b with b | b
          · exact absurd b e.1
          · by_cases h3 : i = up (climbE rs n y).2.1.length
            · subst h3; exact absurd b h2
            · have h4 := habove i (by omega)
              rw [letL_lev, if_neg (fun x => h3 x.2)] at h4
              exact absurd h4 h2
      · rename_i e
        rw [if_neg e] at hne
        refine c.top j hne fun i hi => ?_
        have h4 := habove i hi
        rw [letL_lev] at h4
        split at h4
        · rename_i e2; exact absurd h4 e2.1
        · exact h4
/-! ### levels laid anew -/
theorem all_live {rs : Lv} (h : mE rs = 0) : buildE (allL rs) = 0 ∧ laid (allL rs) = mL rs true := ⟨mL_build true h, (mL_is true h).symm⟩
theorem allL_look {rs : Lv} (h : mE rs = 0) (k : Int) : look (allL rs) k = lvO (newest rs k) := by
  have h1 := mL_look_bare h k
  rw [look_in (mL_chk true h), mL_in true h] at h1
  exact h1
theorem allL_le {rs : Lv} : (allL rs).length ≤ tot rs := by
  unfold allL
  refine Nat.le_trans (live_le _) ?_
  have h1 := fold_len (rs.map inL) []
  have h2 : ((rs.map inL).map List.length).sum = tot rs := by
    unfold tot
    rw [List.map_map]
    congr 1
    refine List.map_congr_left fun l _ => ?_
    simp [inL_length]
  rw [h2] at h1
  simpa [allE] using h1
theorem lev_alone (r : List Ent) (j : Nat) : lev (standL [] r) j = if r ≠ [] ∧ j = up r.length then r else [] := by rw [lev_stand, lev_nil]
theorem alone_top (r : List Ent) : Top (standL [] r) := stand_top (.inl rfl)
theorem alone_tot (r : List Ent) : tot (standL [] r) = r.length := by rw [tot_stand (.inr (lev_nil _))]; simp [tot]
theorem alone_newest (r : List Ent) (k : Int) : newest (standL [] r) k = look r k := by
  by_cases h : r = []
  · subst h; rw [stand_nil]; rfl
  · rw [newest_stand k h (fun j _ => lev_nil j) (lev_nil _), newest_nil]
    cases look r k <;> rfl
theorem alone_may {r : List Ent} (h : chkE r = 0) (hd : deadE r = false) : May (standL [] r) := by
  have hl := (chk_ok h).2.2
  refine ⟨?_, alone_top r, fun j => ?_, fun j => ?_, fun j hj => ?_, by rw [alone_tot]; exact hl⟩
  · rw [stand_len]
    have := up_16 hl
    split
    · simp
    · simp; omega
  · rw [lev_alone]
    split
    · exact h
    · exact chk_nil
  · rw [lev_alone]
    split
    · rename_i e; exact .inr e.2.symm
    · exact .inl rfl
  · rw [lev_alone]
    split
    · exact hd
    · rfl
theorem alone_all {r : List Ent} (h : chkE r = 0) (hd : deadE r = false) : allL (standL [] r) = inL r := by
  have hm := alone_may h hd
  refine look_ext (live_ris (all_ris fun x hx => ?_)) (chk_ris h) fun k => ?_
  · obtain ⟨l, hl, rfl⟩ := List.mem_map.1 hx
    obtain ⟨j, _, e⟩ := lev_of_mem hl
    rw [← e]
    exact chk_ris (hm.chk j)
  · rw [allL_look hm.mE, alone_newest, ← look_in h]
    cases hk : look r k with
    | none => rfl
    | some e =>
      have h1 := (look_key hk).2
      unfold deadE at hd
      rw [List.any_eq_false] at hd
      have h2 := hd e h1
      unfold lvO
      simp at h2
      simp [h2]
theorem slim_alone {rs : Lv} (h : mE rs = 0) : chkE (laid (allL rs)) = 0 ∧ deadE (laid (allL rs)) = false ∧ (laid (allL rs)).length = (allL rs).length := by
  rw [(all_live h).2]
  refine ⟨mL_chk true h, mL_live h, ?_⟩
  rw [← (all_live h).2, laid_length]
/-- few entries -/
theorem slim_may {rs : Lv} (h : May rs) : May (slimL rs) ∧ tot (slimL rs) ≤ 2 * (allL (slimL rs)).length + 2 ∧ ∀ k, lvO (newest (slimL rs) k) = lvO (newest rs k) := by
  obtain ⟨a, b, c⟩ := slim_alone h.mE
  unfold slimL
  split
  · refine ⟨alone_may a b, ?_, fun k => ?_⟩
    · rw [alone_tot, alone_all a b, inL_length]; omega
    · rw [alone_newest, (all_live h.mE).2, mL_look_bare h.mE]
      exact lvO_idem _
  · rename_i e
    refine ⟨h, ?_, fun _ => rfl⟩
    unfold fat at e
    simp at e
    omega
theorem add_may {rs : Lv} {y : Ent} (h : addE rs y = 0) (n : Int) : May (addL rs n y) ∧ tot (addL rs n y) ≤ 2 * (allL (addL rs n y)).length + 2 ∧ ∀ k, lvO (newest (addL rs n y) k) = if y.key = k then lvO (some y) else lvO (newest rs k) := by
  obtain ⟨h1, h2, h3⟩ := addE_zero.1 h
  unfold addL
  rw [if_pos h]
  obtain ⟨a, b, c⟩ := slim_may (let_may h1 h3 h2 n)
  exact ⟨a, b, fun k => by rw [c, let_view h1 h3 h2 n k]⟩
end Go.Proofs.YtolclahkfmplfaaGreat

/- Contracts: eytz.Next, eytz.Place, and what run's inOrder yields. -/
namespace Go.Proofs.YtolclahkfmplfaaGreat
open Go Go.RowKit Go.Shelf
set_option maxRecDepth 100000

attribute [local go_sem] Oper.semAt_some
/-- the end of a function that has held one range over a function: any results -/
theorem postM_gen {F : Fence} {P : Program} {fn : Func} {R : Ending → World → Prop} {tmps : Array Value} {D : Nat} {w : World} {v : Value}
    (hD : w.heap[D]? = some (.deferred (some []))) (hr : (results fn tmps).run P (w.putObj D (.deferred none)) = .ok v (w.putObj D (.deferred none))) (hR : R (.returned v) (w.putObj D (.deferred none))) :
    bodyPostM F 0 P fn R .ret { tmps := tmps, defers := [{ target := .collected D, args := #[] }] } w :=
  ⟨by simp, .inl ⟨_, _, rfl, run_takeDeferred hD, ⟨_, hr, hR⟩⟩⟩

set_option maxHeartbeats 1000000 in
theorem eytzNext_some (n x y k : Nat) (w : World) (hn : n ≤ 65536) (hx : (inord n 0)[k]? = some x) (hy : (inord n 0)[k + 1]? = some y) :
    Calls Tryz.prog 98 #[.int .i64 (n : Nat), .int .i64 (x : Nat)] w fun r w' => r = .returned (.tuple #[.int .i64 (y : Nat), .int .i64 0]) ∧ w = w' := by
  have hxn := inord_lt (List.mem_of_getElem? hx)
  have H := Lib.hid (nxI_some hx hy)
  have hy1 : ((y : Int) == -1) = false := beq_eq_false_iff_ne.2 (by omega)
  clear hx hy
  go_enter Tryz.func98, Tryz.ntmps98
  go_wp2_with fail
  refine (within_ok n x _ hn hxn).mono ?_
  rintro e w1 ⟨rfl, rfl⟩
  go_wp2_with fail
  refine (next_any n x _ _ rfl rfl hn hxn _).mono ?_
  rw [H.out]
  rintro e w2 ⟨rfl, rfl⟩
  go_wp2
  refine bodyPost_ret (v := .tuple #[.int .i64 (y : Nat), .int .i64 0]) (by simp [results, Tryz.results98, go_sem]) rfl ?_
  exact ⟨rfl, rfl⟩
set_option maxHeartbeats 1000000 in
theorem eytzNext_none (n x k : Nat) (w : World) (hn : n ≤ 65536) (hx : (inord n 0)[k]? = some x) (hy : (inord n 0)[k + 1]? = none) :
    Calls Tryz.prog 98 #[.int .i64 (n : Nat), .int .i64 (x : Nat)] w fun r w' => r = .returned (.tuple #[.int .i64 0, .int .i64 6]) ∧ w = w' := by
  have hxn := inord_lt (List.mem_of_getElem? hx)
  have H := Lib.hid (nxI_none hx hy)
  clear hx hy
  go_enter Tryz.func98, Tryz.ntmps98
  go_wp2_with fail
  refine (within_ok n x _ hn hxn).mono ?_
  rintro e w1 ⟨rfl, rfl⟩
  go_wp2_with fail
  refine (next_any n x _ _ rfl rfl hn hxn _).mono ?_
  rw [H.out]
  rintro e w2 ⟨rfl, rfl⟩
  go_wp2
  refine bodyPost_ret (v := .tuple #[.int .i64 0, .int .i64 6]) (by simp [results, Tryz.results98, go_sem]) rfl ?_
  exact ⟨rfl, rfl⟩

set_option maxHeartbeats 1000000 in
theorem place_zero (w : World) :
    Calls Tryz.prog 71 #[.int .i64 0, .int .i64 0] w fun r w' => r = .returned (.tuple #[.int .i64 0, .int .i64 2]) ∧ Below w.heap.size w w' := by
  refine calls_of_in (_F := Fence.wide) ?_
  have hdd : ∀ k : Nat, (Fence.wide.depth.isSome = true → 1 ≤ k) := fun k h => by cases h
  have hwf : ∀ f, Fence.wide.fn f := fun _ => trivial
  have hdp : Fence.wide.depth = none := rfl
  have hro : Fence.wide.round = none := rfl
  have hwz : ∀ W : World, Calls Tryz.prog 96 #[.int .i64 0, .int .i64 0] W fun r w' => r = .returned (.int .i64 2) ∧ W = w' := by
    intro W
    have H0 : Hid (askedE (0 : Nat) = 0) := rfl
    go_enter Tryz.func96, Tryz.ntmps96
    go_wp2_with fail
    refine (asked_any (0 : Nat) _).mono ?_
    rw [H0.out]
    rintro e w1 ⟨rfl, rfl⟩
    go_wp2
    go_ret
    exact ⟨rfl, rfl⟩
  refine callsIn_of_wp_marks Tryz.func71 rfl (hwf _) ?_ hro
  simp only [Tryz.ntmps71, List.size_toArray, List.length_cons, List.length_nil, Nat.reduceAdd, Nat.reduceSub, Array.replicate_succ, Array.replicate_zero, List.push_toArray, List.append_toArray, List.nil_append, List.cons_append]
  gi_wp2_with ((try first | refine ⟨hdp, ?_⟩ | refine ⟨hdd _, ?_⟩); gi_at_call 96; refine (callsIn_wide.2 (hwz _)).mono ?_; rintro e w1 ⟨rfl, rfl⟩)
  refine ⟨.tuple #[.int .i64 0, .int .i64 2], by simp [results, Tryz.results71, go_sem], rfl, ?_⟩
  exact (((Below.refl _ _).alloc (Nat.le_refl _) _).alloc (by simp) _).alloc (by simp; omega) _

set_option maxHeartbeats 2000000 in
theorem place_ok (n k : Nat) (hn : n ≤ 65536) (hk : k < n) (w : World) :
    Calls Tryz.prog 71 #[.int .i64 (n : Nat), .int .i64 (k : Nat)] w fun r w' => r = .returned (.tuple #[.int .i64 ((inord n 0).getD k 0 : Nat), .int .i64 0]) ∧ Below w.heap.size w w' := by
  obtain ⟨at_, hat⟩ : ∃ at_, (inord n 0).getD k 0 = at_ := ⟨_, rfl⟩
  rw [hat]
  have HAT := Lib.hid hat
  clear hat
  refine calls_of_in (_F := Fence.wide) ?_
  have hdd : ∀ k : Nat, (Fence.wide.depth.isSome = true → 1 ≤ k) := fun k h => by cases h
  have hwf : ∀ f, Fence.wide.fn f := fun _ => trivial
  have hdp : Fence.wide.depth = none := rfl
  have hro : Fence.wide.round = none := rfl
  refine callsIn_of_wp_marks Tryz.func71 rfl (hwf _) ?_ hro
  simp only [Tryz.ntmps71, List.size_toArray, List.length_cons, List.length_nil, Nat.reduceAdd, Nat.reduceSub, Array.replicate_succ, Array.replicate_zero, List.push_toArray, List.append_toArray, List.nil_append, List.cons_append]
  gi_wp2_with (first
    | ((try first | refine ⟨hdp, ?_⟩ | refine ⟨hdd _, ?_⟩); gi_at_call 96; refine (callsIn_wide.2 (within_ok n k _ hn hk)).mono ?_; rintro e w1 ⟨rfl, rfl⟩)
    | ((try first | refine ⟨hdp, ?_⟩ | refine ⟨hdd _, ?_⟩); gi_at_call 90; refine (callsIn_wide.2 (places_any _ _)).mono ?_; rintro e w1 ⟨rfl, rfl⟩))
  obtain ⟨g, hg⟩ : ∃ g, w.heap.size = g := ⟨_, rfl⟩
  obtain ⟨W0, hW0⟩ : ∃ W0, ((((w.alloc (.cells #[.int .i64 (k : Nat)] 3)).alloc (.cells #[.int .i64 0] 3)).alloc (.cells #[.int .i64 0] 33)).alloc (.cells #[.int .i64 (n : Nat)] 3)) = W0 := ⟨_, rfl⟩
  rw [hW0]
  have b0 : Blk W0 w.heap.size 3 #[.int .i64 (k : Nat)] := by rw [← hW0]; exact (((Blk.new w _ _).alloc _).alloc _).alloc _
  have b1 : Blk W0 (w.heap.size + 1) 3 #[.int .i64 0] := by
    rw [← hW0]; have := Blk.new (w.alloc (.cells #[.int .i64 (k : Nat)] 3)) 3 #[.int .i64 0]
    rw [World.size_alloc] at this
    exact (this.alloc _).alloc _
  have b2 : Blk W0 (w.heap.size + 1 + 1) 33 #[.int .i64 0] := by
    rw [← hW0]; have := Blk.new ((w.alloc (.cells #[.int .i64 (k : Nat)] 3)).alloc (.cells #[.int .i64 0] 3)) 33 #[.int .i64 0]
    rw [World.size_alloc, World.size_alloc] at this
    exact this.alloc _
  have b3 : Blk W0 (w.heap.size + 1 + 1 + 1) 3 #[.int .i64 (n : Nat)] := by
    rw [← hW0]; have := Blk.new (((w.alloc (.cells #[.int .i64 (k : Nat)] 3)).alloc (.cells #[.int .i64 0] 3)).alloc (.cells #[.int .i64 0] 33)) 3 #[.int .i64 (n : Nat)]
    rwa [World.size_alloc, World.size_alloc, World.size_alloc] at this
  have hb0 : Below w.heap.size w W0 := by
    rw [← hW0]; exact ((((Below.refl _ w).alloc (Nat.le_refl _) _).alloc (by simp) _).alloc (by simp; omega) _).alloc (by simp; omega) _
  have hs0 : W0.heap.size = w.heap.size + 4 := by rw [← hW0]; simp
  clear hW0
  rw [hg] at b0 b1 b2 b3 hb0 hs0 ⊢
  refine wpIn_rangeS hdp hwf hro rfl (enters_of Tryz.func106 (by kernel_rfl) rfl)
    (places1_in n (g + 1 + 1 + 1) hn W0 (b3.cell 0)) (by rintro b rfl; omega) (fun _ h => h.elim) (fun _ => rfl)
    (fun j W => j ≤ k ∧ Blk W g 3 #[.int .i64 (k : Nat)] ∧ Blk W (g + 1) 3 #[.int .i64 0] ∧ Blk W (g + 1 + 1) 33 #[.int .i64 0] ∧ Below g w W)
    (fun c W => c = .ret ∧ Blk W (g + 1) 3 #[.int .i64 (at_ : Nat)] ∧ Blk W (g + 1 + 1) 33 #[.int .i64 0] ∧ Below g w W)
    (fun j => [(17, .int .i64 (j : Nat)), (18, .int .i64 ((inord n 0).getD j 0 : Nat)), (7, .int .i64 (j : Nat)), (8, .int .i64 ((inord n 0).getD j 0 : Nat))])
    ?stab ?stabx ⟨Nat.zero_le _, b0, b1, b2, hb0⟩ ?assign ?body ?done ?stop
  case stab =>
    rintro j A B ⟨hj, hB0, hB1, hB2, hbl⟩ hm
    exact ⟨hj, hB0.mod hm (by simp; omega), hB1.mod hm (by simp; omega), hB2.mod hm (by simp; omega), hbl.trans (hm.below (by have := hB0.lt; omega) (by rintro k (h | h | h) <;> first | exact h.elim | omega))⟩
  case stabx =>
    rintro j A B ⟨hj, hB1, hB2, hbl⟩ hm
    exact ⟨hj, hB1.mod hm (by simp; omega), hB2.mod hm (by simp; omega), hbl.trans (hm.below (by have := hB1.lt; omega) (by rintro k (h | h | h) <;> first | exact h.elim | omega))⟩
  case assign =>
    intro l j hj A C hC
    simp only [placesX]
    gi_wp2
    exact hC
  case body =>
    rintro l j hj A ⟨hjk, hB0, hB1, hB2, hbl⟩ hsA
    have c0 : A.cell? ⟨g, 0, none⟩ = some (.int .i64 (k : Nat)) := hB0.cell 0
    simp only [rt, List.foldl_cons, List.foldl_nil]
    by_cases hjk2 : j = k
    · subst hjk2
      rw [HAT.out]
      have hq : ((j : Int) == (j : Int)) = true := beq_self_eq_true _
      have c1 : A.cell? ⟨g + 1, 0, none⟩ = some (.int .i64 0) := hB1.cell 0
      have c2 : A.cell? ⟨g + 1 + 1, 0, none⟩ = some (.int .i64 0) := hB2.cell 0
      have f1 := hB1.frozen 0
      have f2 := hB2.frozen 0
      gi_wp2
      refine ⟨((Mod.refl _ _).setCell (p := ⟨g + 1, 0, none⟩) (by simp; omega) _).setCell (p := ⟨g + 1 + 1, 0, none⟩) (by simp; omega) _, rfl, ?_, ?_, ?_⟩
      · exact (hB1.set_ 0 _).far (p := ⟨g + 1 + 1, 0, none⟩) (by simp) _
      · have := (hB2.far (p := ⟨g + 1, 0, none⟩) (by simp) (.int .i64 (at_ : Nat))).set_ 0 (.int .i64 0)
        simpa using this
      · exact (hbl.setCell (p := ⟨g + 1, 0, none⟩) (Nat.le_succ _) _).setCell (p := ⟨g + 1 + 1, 0, none⟩) (by show g ≤ g + 1 + 1; omega) _
    · have hq : ((j : Int) == (k : Int)) = false := beq_eq_false_iff_ne.2 (by omega)
      have hjlt : j + 1 ≤ k := by omega
      clear hjk2
      gi_wp2
      exact ⟨Mod.refl _ _, hjlt, hB0, hB1, hB2, hbl⟩
  case done =>
    rintro W ⟨hj, _⟩ hD
    omega
  case stop =>
    rintro c W ⟨rfl, hB1, hB2, hbl⟩ hD
    have hlt1 := hB1.lt
    have hB1' : Blk (W.putObj W0.heap.size (.deferred none)) (g + 1) 3 #[.int .i64 (at_ : Nat)] := hB1.of (World.putObj_heap_other (by omega))
    have hB2' : Blk (W.putObj W0.heap.size (.deferred none)) (g + 1 + 1) 33 #[.int .i64 0] := hB2.of (World.putObj_heap_other (by omega))
    have c1 : (W.putObj W0.heap.size (.deferred none)).cell? ⟨g + 1, 0, none⟩ = some (.int .i64 (at_ : Nat)) := hB1'.cell 0
    have c2 : (W.putObj W0.heap.size (.deferred none)).cell? ⟨g + 1 + 1, 0, none⟩ = some (.int .i64 0) := hB2'.cell 0
    gi_wp2
    subst hg
    refine postM_gen (v := .tuple #[.int .i64 (at_ : Nat), .int .i64 0]) hD (by simp [results, Tryz.results71, go_sem, c1, c2]) ⟨rfl, ?_⟩
    exact hbl.trans ⟨rfl, rfl, rfl, by simp [World.putObj], fun k hk => World.putObj_heap_other (by omega)⟩
end Go.Proofs.YtolclahkfmplfaaGreat

/- What run's inOrder yields. -/
namespace Go.Proofs.YtolclahkfmplfaaGreat
open Go Go.RowKit Go.Shelf
set_option maxRecDepth 100000
attribute [local go_sem] Oper.semAt_some

def inAt (l : List Ent) (k : Nat) : Ent := (inL l).getD k zeroE
def entX (l : List Ent) (k : Nat) : Array Value := #[.agg #[.int .i64 (inAt l k).key, .int .i64 (inAt l k).val, .bool (inAt l k).dead]]
theorem inAt_get {l : List Ent} {k x : Nat} (hx : (inord l.length 0)[k]? = some x) (hl : x < l.length) : inAt l k = l[x]'hl := by
  unfold inAt inL
  rw [List.getD_eq_getElem?_getD, List.getElem?_map, hx]
  simp [entAt_get hl]
/-- how far the iterator has come -/
def atOf (w : World) (B n : Nat) : Nat := match w.cell? ⟨B, 0, none⟩ with | some (.int _ x) => n - (inord n 0).idxOf x.toNat | _ => 0
def goOn (e : Value) (m : Nat) : Nat := match e with | .int _ x => if x = 0 then m + 1 else 0 | _ => 0

set_option maxHeartbeats 2000000 in
theorem inOrder1_in (B1 B2 : Nat) (A : Option Addr) (l : List Ent) (c : Nat) (hl : l.length ≤ 65536) (w : World)
    (hc1 : w.cell? ⟨B1, 0, none⟩ = some (.slice A l.length c)) (hb2 : Blk w B2 3 #[.int .i64 ((inord l.length 0).getD 0 0 : Nat)]) (h12 : B1 ≠ B2) (hA : Sl w A (l.flatMap Ent.cells)) (hA2 : l.length ≠ 0 → ∀ a, A = some a → a.block ≠ B2) :
    Yields Fence.wide Tryz.prog 97 #[.pointer (some ⟨B1, 0, none⟩), .pointer (some ⟨B2, 0, none⟩)] l.length (entX l) (fun b => b = B1 ∨ b = B2 ∨ (l.length ≠ 0 ∧ ∃ a, A = some a ∧ b = a.block)) (fun b => b = B2) w := by
  intro y I X W hsz hKp hI hX hY h0
  have hcW : W.cell? ⟨B1, 0, none⟩ = some (.slice A l.length c) := (World.cell?_of_block (hKp B1 (.inl rfl))).trans hc1
  have hbW : Blk W B2 3 #[.int .i64 ((inord l.length 0).getD 0 0 : Nat)] := hb2.of (hKp B2 (.inr (.inl rfl)))
  have hAW : Sl W A (l.flatMap Ent.cells) := by
    by_cases h0l : l.length = 0
    · left; rw [List.eq_nil_of_length_eq_zero h0l]; rfl
    rcases hA with h | ⟨b, off, hA1, hlt, hc⟩
    · exact .inl h
    · exact .inr ⟨b, off, hA1, Nat.lt_of_lt_of_le hlt hsz, fun j u hu => (World.cell?_of_block (a := ⟨b, off + j, none⟩) (hKp b (.inr (.inr ⟨h0l, _, hA1, rfl⟩)))).trans (hc j u hu)⟩
  have hdd : ∀ k : Nat, (Fence.wide.depth.isSome = true → 1 ≤ k) := fun k h => by cases h
  have hwf : ∀ f, Fence.wide.fn f := fun _ => trivial
  have hdp : Fence.wide.depth = none := rfl
  have hro : Fence.wide.round = none := rfl
  have HH := Lib.hid (And.intro hI (And.intro hX hY))
  clear hI hX hY hKp hb2 hc1 hA
  refine callsIn_of_wp Tryz.func97 rfl (hwf _) ?_ hro
  simp only [Tryz.ntmps97, List.size_toArray, List.length_cons, List.length_nil, Nat.reduceAdd, Nat.reduceSub, Array.replicate_succ, Array.replicate_zero, List.push_toArray, List.append_toArray, List.nil_append, List.cons_append]
  gi_wp2
  gi_loopw [4] (fun e wr => ∃ k : Nat, I k wr ∧ Hid (wr.cell? ⟨B1, 0, none⟩ = some (.slice A l.length c) ∧ Sl wr A (l.flatMap Ent.cells)) ∧
    ((k < l.length ∧ e = .int .i64 0 ∧ Hid (Blk wr B2 3 #[.int .i64 ((inord l.length 0).getD k 0 : Nat)])) ∨ (k = l.length ∧ (l.length = 0 ∧ e = .int .i64 0 ∨ e = .int .i64 6)))) (fun e wr => goOn e (atOf wr B2 l.length))
  case atStart =>
    refine ⟨0, h0, ⟨hcW, hAW⟩, ?_⟩
    by_cases hz : l.length = 0
    · exact .inr ⟨hz.symm, .inl ⟨hz, rfl⟩⟩
    · exact .inl ⟨by omega, rfl, hbW⟩
  case round =>
    clear hcW hbW hAW h0
    obtain ⟨k, hi, hcs, hcase⟩ := hrel
    rcases hcase with ⟨hk, rfl, hb⟩ | ⟨hk, ⟨hz, rfl⟩ | rfl⟩
    · have hkl : k < (inord l.length 0).length := by rw [inord_length]; exact hk
      obtain ⟨x, hx⟩ : ∃ x, (inord l.length 0)[k]? = some x := ⟨_, List.getElem?_eq_getElem hkl⟩
      have hxn : x < l.length := inord_lt (List.mem_of_getElem? hx)
      have hgd : (inord l.length 0).getD k 0 = x := by simp [List.getD, hx]
      have hbx := hb.out
      rw [hgd] at hbx
      have hat := inAt_get hx hxn
      have hcx := hcs.out.1
      obtain ⟨b, off, hAe, hbl, e1, e2, e3⟩ := hcs.out.2.ent x hxn
      rw [← hat] at e1 e2 e3
      subst hAe
      have hne := hA2 (by omega) _ rfl
      have c2 : wr.cell? ⟨B2, 0, none⟩ = some (.int .i64 (x : Nat)) := hbx.cell 0
      have n0 : (0 : Int) < (l.length : Int) := by omega
      have i0 : (0 : Int) ≤ (x : Int) := by omega
      have i1 : (x : Int) < (l.length : Int) := by omega
      have hY' := HH.out.2.2 k wr hk hi
      unfold entX at hY'
      obtain ⟨fn, tmps, assign, body, hy, hR⟩ := hY'
      have HXX := Lib.hid hx
      have HBX := Lib.hid hbx
      have HMW := Lib.hid c2
      have HIDX : Hid ((inord l.length 0).idxOf x = k) := by
        show _ = _
        have := idx_inord hkl
        rw [(List.getElem?_eq_some_iff.1 hx).2] at this
        exact this
      clear hx hat hbx hgd hb
      gi_wp2
      first | refine hR.mono ?_ | refine ⟨rfl, hR.mono ?_⟩ | refine ⟨hwf _, hR.mono ?_⟩
      clear hR hy
      rintro e W2 (⟨rfl, hi2, hs2, hk2⟩ | ⟨rfl, hx2⟩)
      · have hcw2 : W2.cell? ⟨B1, 0, none⟩ = some (.slice (some ⟨b, off, none⟩) l.length c) := (World.cell?_of_block (hk2 B1 (.inl rfl))).trans hcs.out.1
        have hbw2 : Blk W2 B2 3 #[.int .i64 (x : Nat)] := HBX.out.of (hk2 B2 (.inr (.inl rfl)))
        have hAw2 : Sl W2 (some ⟨b, off, none⟩) (l.flatMap Ent.cells) := by
          rcases hcs.out.2 with h | ⟨b', off', hA1, hlt, hc⟩
          · exact .inl h
          · exact .inr ⟨b', off', hA1, Nat.lt_of_lt_of_le hlt hs2, fun j u hu => (World.cell?_of_block (a := ⟨b', off' + j, none⟩) (hk2 b' (.inr (.inr ⟨by omega, _, hA1, rfl⟩)))).trans (hc j u hu)⟩
        have HCS := Lib.hid (And.intro hcw2 hAw2)
        have c2' : W2.cell? ⟨B2, 0, none⟩ = some (.int .i64 (x : Nat)) := hbw2.cell 0
        have f2' : W2.frozen? ⟨B2, 0, none⟩ = false := hbw2.frozen 0
        have HBW := Lib.hid hbw2
        clear hk2 hcw2 hAw2 hbw2 e1 e2 e3 c2 hcx
        have hmd : ∀ v, Mod (fun b => b = B2) W2 (W2.setCell ⟨B2, 0, none⟩ v) := fun v => Mod.setCell (S := fun b => b = B2) (Mod.refl _ _) (p := ⟨B2, 0, none⟩) rfl v
        rcases hnext : (inord l.length 0)[k + 1]? with _ | z
        · have hlen : k + 1 = l.length := by
            have h1 := (List.getElem?_eq_none_iff.1 hnext)
            rw [inord_length] at h1
            omega
          have HLN := Lib.hid hlen
          have HNX := Lib.hid hnext
          have HMD := Lib.hid hmd
          clear hnext hlen hmd
          gi_wp2_with ((try first | refine ⟨hdp, ?_⟩ | refine ⟨hdd _, ?_⟩); gi_at_call 98; refine (callsIn_wide.2 (eytzNext_none l.length x k _ hl HXX.out HNX.out)).mono ?_; rintro e w1 ⟨rfl, rfl⟩)
          go_roundw
          case rel =>
            have hm := HMD.out (.int .i64 0)
            refine ⟨k + 1, HH.out.1 _ _ _ hi2 hm, ⟨(hm.cell (p := ⟨B1, 0, none⟩) (World.block_lt_of_cell? _ _ HCS.out.1) h12).trans HCS.out.1, HCS.out.2.mod hm (fun a ha => by cases ha; exact hne)⟩, .inr ⟨HLN.out, .inr rfl⟩⟩
          case measure => simp [goOn]
        · have HNX := Lib.hid hnext
          have hkn : k + 1 < l.length := by have := (List.getElem?_eq_some_iff.1 hnext).1; rwa [inord_length] at this
          have HMD := Lib.hid hmd
          have HID2 : Hid ((inord l.length 0).idxOf z = k + 1) := by
            show _ = _
            have hh : k + 1 < (inord l.length 0).length := by rw [inord_length]; exact hkn
            have := idx_inord hh
            rw [(List.getElem?_eq_some_iff.1 hnext).2] at this
            exact this
          clear hnext hmd
          gi_wp2_with ((try first | refine ⟨hdp, ?_⟩ | refine ⟨hdd _, ?_⟩); gi_at_call 98; refine (callsIn_wide.2 (eytzNext_some l.length x z k _ hl HXX.out HNX.out)).mono ?_; rintro e w1 ⟨rfl, rfl⟩)
          have hbz : Blk (W2.setCell ⟨B2, 0, none⟩ (.int .i64 (z : Nat))) B2 3 #[.int .i64 (z : Nat)] := by
            have := HBW.out.set_ 0 (.int .i64 (z : Nat))
            simpa using this
          go_roundw
          case rel =>
            have hm := HMD.out (.int .i64 (z : Nat))
            refine ⟨k + 1, HH.out.1 _ _ _ hi2 hm, ⟨(hm.cell (p := ⟨B1, 0, none⟩) (World.block_lt_of_cell? _ _ HCS.out.1) h12).trans HCS.out.1, HCS.out.2.mod hm (fun a ha => by cases ha; exact hne)⟩, .inl ⟨hkn, rfl, ?_⟩⟩
            show Blk _ _ _ _
            rw [show (inord l.length 0).getD (k + 1) 0 = z by simp [List.getD, HNX.out]]
            exact hbz
          case measure =>
            have h1 : atOf (W2.setCell ⟨B2, 0, none⟩ (.int .i64 (z : Nat))) B2 l.length = l.length - (k + 1) := by
              unfold atOf
              rw [hbz.cell 0]
              simp [HID2.out]
            have h2 : atOf wr B2 l.length = l.length - k := by
              unfold atOf
              rw [show wr.cell? ⟨B2, 0, none⟩ = some (.int .i64 (x : Nat)) from HMW.out]
              simp [HIDX.out]
            show goOn _ _ < goOn _ _
            rw [h1, h2]
            simp [goOn]
            omega
      · gi_wp2
        first | refine bodyPost_ret (results_none rfl _ _ _) rfl ?_ | refine bodyPost_end (results_none rfl _ _ _) rfl ?_
        exact ⟨⟨_, rfl⟩, .inr hx2⟩
    · subst hk
      have hz2 : ((l.length : Int) ≤ 0) := by omega
      have HI2 := Lib.hid hi
      clear hz
      gi_wp2
      refine bodyPost_end (results_none rfl _ _ _) rfl ?_
      exact ⟨⟨_, rfl⟩, .inl HI2.out⟩
    · subst hk
      have HI2 := Lib.hid hi
      by_cases hz : l.length = 0
      · have hz2 : ((l.length : Int) ≤ 0) := by omega
        clear hz
        gi_wp2
        refine bodyPost_end (results_none rfl _ _ _) rfl ?_
        exact ⟨⟨_, rfl⟩, .inl HI2.out⟩
      · have hz2 : (0 : Int) < (l.length : Int) := by omega
        clear hz
        gi_wp2
        refine bodyPost_end (results_none rfl _ _ _) rfl ?_
        exact ⟨⟨_, rfl⟩, .inl HI2.out⟩
end Go.Proofs.YtolclahkfmplfaaGreat
