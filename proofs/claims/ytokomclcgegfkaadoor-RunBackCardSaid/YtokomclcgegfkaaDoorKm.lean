/- Plain facts: merging runs by a heap of what is left of each. No program in sight. -/
import Derived.Test.YtokomclcgegfkaaDoorKp
namespace Go.Proofs.YtokomclcgegfkaaDoor
open Go

/-- what stands while runs are merged -/
def MInv (rs : List (List Ent)) (out : List Ent) (H : List Hd) : Prop :=
  RisE out ∧ (∀ e ∈ out, newest rs e.key = some e) ∧
  (∀ h ∈ H, ∃ r, rs[h.age]? = some r ∧ ∃ c, r = c ++ h.e :: h.rest ∧ ∀ e ∈ c, ∃ o ∈ out, o.key = e.key) ∧
  (∀ a r, rs[a]? = some r → (∃ h ∈ H, h.age = a) ∨ (∀ e ∈ r, ∃ o ∈ out, o.key = e.key)) ∧
  (∀ h ∈ H, ∀ o ∈ out, o.key ≤ h.e.key)
theorem MInv.perm {rs : List (List Ent)} {out : List Ent} {H H' : List Hd} (h : MInv rs out H) (hp : H'.Perm H) : MInv rs out H' := by
  obtain ⟨h1, h2, h3, h4, h5⟩ := h
  refine ⟨h1, h2, fun x hx => h3 x (hp.mem_iff.1 hx), fun a r hr => ?_, fun x hx => h5 x (hp.mem_iff.1 hx)⟩
  rcases h4 a r hr with ⟨x, hx, e⟩ | h
  · exact .inl ⟨x, hp.mem_iff.2 hx, e⟩
  · exact .inr h
theorem newest_at : ∀ {rs : List (List Ent)} {a : Nat} {r : List Ent} {k : Int} {e : Ent}, rs[a]? = some r → look r k = some e → (∀ b, b < a → ∀ r', rs[b]? = some r' → look r' k = none) → newest rs k = some e
  | [], _, _, _, _, h, _, _ => by simp at h
  | r0 :: rs, 0, r, k, e, h, hl, _ => by
    have : r0 = r := by simpa using h
    subst this
    rw [newest_cons, hl]; rfl
  | r0 :: rs, a + 1, r, k, e, h, hl, hb => by
    rw [newest_cons, hb 0 (by omega) r0 rfl, newest_at (rs := rs) (a := a) (by simpa using h) hl (fun b hlt r' hr' => hb (b + 1) (by omega) r' (by simpa using hr'))]
    rfl
theorem newest_mem : ∀ {rs : List (List Ent)} {k : Int} {e : Ent}, newest rs k = some e → ∃ (a : Nat) (r : List Ent), rs[a]? = some r ∧ e ∈ r ∧ e.key = k
  | [], _, _, h => by simp [newest] at h
  | r :: rs, k, e, h => by
    rw [newest_cons] at h
    cases hl : look r k with
    | some x =>
      rw [hl] at h
      have : x = e := by simpa using h
      subst this
      exact ⟨0, r, rfl, (look_key hl).2, (look_key hl).1⟩
    | none =>
      rw [hl] at h
      obtain ⟨a, r', h1, h2⟩ := newest_mem (rs := rs) (by simpa using h)
      exact ⟨a + 1, r', by simpa using h1, h2⟩
theorem ris_part {c l : List Ent} {e : Ent} (h : RisE (c ++ e :: l)) : ∀ x ∈ l, e.key < x.key := by
  have := (List.pairwise_append.1 h).2.1
  exact (List.pairwise_cons.1 this).1
/-- is the least key not yet out? -/
def fresh (out : List Ent) (k : Int) : Bool := match out.getLast? with | none => true | some o => !(o.key == k)
theorem fresh_no {out : List Ent} {k : Int} (hr : RisE out) (hle : ∀ o ∈ out, o.key ≤ k) (h : fresh out k = true) : ∀ o ∈ out, o.key < k := by
  intro o ho
  rcases List.eq_nil_or_concat out with rfl | ⟨l, z, rfl⟩
  · simp at ho
  · rw [List.concat_eq_append] at *
    unfold fresh at h
    rw [List.getLast?_append] at h
    have hz : z.key ≠ k := by simpa using h
    have hz2 := hle z (by simp)
    rcases List.mem_append.1 ho with ho | ho
    · have := (List.pairwise_append.1 hr).2.2 o ho z (by simp)
      omega
    · obtain rfl : o = z := by simpa using ho
      omega
theorem fresh_has {out : List Ent} {k : Int} (h : fresh out k = false) : ∃ o ∈ out, o.key = k := by
  unfold fresh at h
  cases hg : out.getLast? with
  | none => rw [hg] at h; cases h
  | some z =>
    rw [hg] at h
    exact ⟨z, List.mem_of_getLast? hg, by simpa using h⟩
def outOf (out : List Ent) (e : Ent) : List Ent := if fresh out e.key = true then out ++ [e] else out
def nextHd (t : Hd) : List Hd := match t.rest with | [] => [] | e :: l => [⟨e, l, t.age⟩]
theorem MInv.step {rs : List (List Ent)} (hrs : ∀ r ∈ rs, RisE r) {out : List Ent} {t : Hd} {H : List Hd} (h : MInv rs out (t :: H)) (ht : ∀ x ∈ H, hle t x) : MInv rs (outOf out t.e) (nextHd t ++ H) := by
  obtain ⟨h1, h2, h3, h4, h5⟩ := h
  obtain ⟨r, hr, c, hc, hcov⟩ := h3 t (by simp)
  have hrr : RisE r := hrs r (List.mem_of_getElem? hr)
  have hlo := h5 t (by simp)
  have hsub : ∀ o ∈ out, o ∈ outOf out t.e := by
    intro o ho
    unfold outOf
    split
    · exact List.mem_append_left _ ho
    · exact ho
  have hcov' : ∃ o ∈ outOf out t.e, o.key = t.e.key := by
    unfold outOf
    cases hf : fresh out t.e.key
    · rw [if_neg (by simp)]; exact fresh_has hf
    · rw [if_pos rfl]; exact ⟨t.e, by simp, rfl⟩
  have hall : ∀ x ∈ c ++ [t.e], ∃ o ∈ outOf out t.e, o.key = x.key := by
    intro x hx
    rcases List.mem_append.1 hx with hx | hx
    · obtain ⟨o, ho, e⟩ := hcov x hx
      exact ⟨o, hsub o ho, e⟩
    · obtain rfl : x = t.e := by simpa using hx
      exact hcov'
  have hmemo : ∀ o ∈ outOf out t.e, o ∈ out ∨ (o = t.e ∧ fresh out t.e.key = true) := by
    intro o ho
    unfold outOf at ho
    split at ho
    · rename_i hf
      rcases List.mem_append.1 ho with ho | ho
      · exact .inl ho
      · exact .inr ⟨by simpa using ho, hf⟩
    · exact .inl ho
  refine ⟨?_, ?_, ?_, ?_, ?_⟩
  · unfold outOf
    split
    · rename_i hf
      refine List.pairwise_append.2 ⟨h1, List.pairwise_singleton _ _, fun o ho x hx => ?_⟩
      have hx' : x = t.e := by simpa using hx
      rw [hx']
      exact fresh_no h1 hlo hf o ho
    · exact h1
  · intro o ho
    rcases hmemo o ho with ho | ⟨rfl, hf⟩
    · exact h2 o ho
    · have hno := fresh_no h1 hlo hf
      refine newest_at hr (look_mem hrr (by rw [hc]; simp)) ?_
      intro b hb r' hr'
      cases hl : look r' t.e.key with
      | none => rfl
      | some x =>
        exfalso
        obtain ⟨hxk, hxr⟩ := look_key hl
        rcases h4 b r' hr' with ⟨g, hg, hga⟩ | hcovd
        · obtain ⟨r2, hr2, c2, hc2, hcov2⟩ := h3 g hg
          rw [hga, hr'] at hr2
          obtain rfl : r' = r2 := by simpa using hr2
          rw [hc2] at hxr
          rcases List.mem_append.1 hxr with hx | hx
          · obtain ⟨o', ho', e⟩ := hcov2 x hx
            have := hno o' ho'
            omega
          · have hge : g.e.key ≤ x.key := by
              rcases List.mem_cons.1 hx with rfl | hx
              · exact Int.le_refl _
              · have := ris_part (hc2 ▸ hrs r' (List.mem_of_getElem? hr')) x hx
                omega
            rcases List.mem_cons.1 hg with rfl | hg
            · omega
            · have := ht g hg
              unfold hle at this
              omega
        · obtain ⟨o', ho', e⟩ := hcovd x hxr
          have := hno o' ho'
          omega
  · intro g hg
    rcases List.mem_append.1 hg with hg | hg
    · unfold nextHd at hg
      cases hrest : t.rest with
      | nil => rw [hrest] at hg; simp at hg
      | cons e2 l2 =>
        rw [hrest] at hg
        obtain rfl : g = ⟨e2, l2, t.age⟩ := by simpa using hg
        exact ⟨r, hr, c ++ [t.e], by rw [hc, hrest]; simp, hall⟩
    · obtain ⟨r2, hr2, c2, hc2, hcov2⟩ := h3 g (by simp [hg])
      exact ⟨r2, hr2, c2, hc2, fun x hx => by obtain ⟨o, ho, e⟩ := hcov2 x hx; exact ⟨o, hsub o ho, e⟩⟩
  · intro a r' hr'
    rcases h4 a r' hr' with ⟨g, hg, hga⟩ | hcovd
    · rcases List.mem_cons.1 hg with rfl | hg
      · cases hrest : g.rest with
        | nil =>
          right
          rw [hga, hr'] at hr
          obtain rfl : r' = r := by simpa using hr
          rw [hc, hrest]
          exact hall
        | cons e2 l2 =>
          left
          refine ⟨⟨e2, l2, g.age⟩, ?_, hga⟩
          unfold nextHd
          rw [hrest]
          simp
      · exact .inl ⟨g, by simp [hg], hga⟩
    · exact .inr fun x hx => by obtain ⟨o, ho, e⟩ := hcovd x hx; exact ⟨o, hsub o ho, e⟩
  · intro g hg o ho
    have hto : o.key ≤ t.e.key := by
      rcases hmemo o ho with ho | ⟨rfl, _⟩
      · exact hlo o ho
      · exact Int.le_refl _
    rcases List.mem_append.1 hg with hg | hg
    · unfold nextHd at hg
      cases hrest : t.rest with
      | nil => rw [hrest] at hg; simp at hg
      | cons e2 l2 =>
        rw [hrest] at hg
        obtain rfl : g = ⟨e2, l2, t.age⟩ := by simpa using hg
        have := ris_part (hc ▸ hrr) e2 (by rw [hrest]; simp)
        show o.key ≤ e2.key
        omega
    · have h6 := ht g hg
      unfold Go.Proofs.YtokomclcgegfkaaDoor.hle at h6
      omega
theorem MInv.done {rs : List (List Ent)} (hrs : ∀ r ∈ rs, RisE r) {out : List Ent} (h : MInv rs out []) : out = allE rs := by
  obtain ⟨h1, h2, h3, h4, h5⟩ := h
  refine all_unique hrs h1 fun k => ?_
  cases hl : look out k with
  | some e =>
    obtain ⟨hk, hm⟩ := look_key hl
    rw [← hk, h2 e hm]
  | none =>
    cases hn : newest rs k with
    | none => rfl
    | some e =>
      obtain ⟨a, r, hr, her, hk⟩ := newest_mem hn
      rcases h4 a r hr with ⟨g, hg, _⟩ | hcov
      · simp at hg
      · obtain ⟨o, ho, e2⟩ := hcov e her
        have := look_mem h1 ho
        rw [e2, hk, hl] at this
        cases this

/-- the heads of runs, by age -/
def headsE : Nat → List (List Ent) → List Hd
  | _, [] => []
  | i, [] :: rs => headsE (i + 1) rs
  | i, (e :: l) :: rs => ⟨e, l, i⟩ :: headsE (i + 1) rs
theorem heads_append : ∀ (rs qs : List (List Ent)) (i : Nat), headsE i (rs ++ qs) = headsE i rs ++ headsE (i + rs.length) qs
  | [], qs, i => rfl
  | [] :: rs, qs, i => by rw [List.cons_append, headsE, headsE, heads_append rs qs (i + 1)]; simp; congr 1; omega
  | (e :: l) :: rs, qs, i => by rw [List.cons_append, headsE, headsE, heads_append rs qs (i + 1)]; simp; congr 1; omega
theorem heads_mem : ∀ {rs : List (List Ent)} {i : Nat} {h : Hd}, h ∈ headsE i rs → i ≤ h.age ∧ rs[h.age - i]? = some (h.e :: h.rest)
  | [], _, _, hm => by simp [headsE] at hm
  | [] :: rs, i, h, hm => by
    rw [headsE] at hm
    obtain ⟨h1, h2⟩ := heads_mem hm
    refine ⟨by omega, ?_⟩
    rw [show h.age - i = (h.age - (i + 1)) + 1 by omega]
    simpa using h2
  | (e :: l) :: rs, i, h, hm => by
    rw [headsE] at hm
    rcases List.mem_cons.1 hm with rfl | hm
    · exact ⟨Nat.le_refl _, by simp⟩
    · obtain ⟨h1, h2⟩ := heads_mem hm
      refine ⟨by omega, ?_⟩
      rw [show h.age - i = (h.age - (i + 1)) + 1 by omega]
      simpa using h2
theorem heads_all : ∀ {rs : List (List Ent)} {i a : Nat} {e : Ent} {l : List Ent}, rs[a]? = some (e :: l) → (⟨e, l, i + a⟩ : Hd) ∈ headsE i rs
  | [], _, _, _, _, h => by simp at h
  | r :: rs, i, 0, e, l, h => by
    have : r = e :: l := by simpa using h
    subst this
    rw [headsE]; simp
  | r :: rs, i, a + 1, e, l, h => by
    have h2 := heads_all (rs := rs) (i := i + 1) (a := a) (by simpa using h)
    rw [show i + 1 + a = i + (a + 1) by omega] at h2
    cases r with
    | nil => rw [headsE]; exact h2
    | cons x y => rw [headsE]; simp [h2]
theorem MInv.start (rs : List (List Ent)) : MInv rs [] (headsE 0 rs) := by
  refine ⟨RisE.nil, by simp, ?_, ?_, by simp⟩
  · intro h hh
    obtain ⟨_, h2⟩ := heads_mem hh
    exact ⟨_, by simpa using h2, [], rfl, by simp⟩
  · intro a r hr
    cases r with
    | nil => exact .inr (by simp)
    | cons e l =>
      have := heads_all (i := 0) hr
      rw [Nat.zero_add] at this
      exact .inl ⟨_, this, rfl⟩
end Go.Proofs.YtokomclcgegfkaaDoor
