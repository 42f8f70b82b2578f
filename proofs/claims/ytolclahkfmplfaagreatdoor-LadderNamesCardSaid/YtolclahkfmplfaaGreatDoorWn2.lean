/- Dh0 Dh Dc Dd: texts of the claim, in this order. -/
import Derived.Test.YtolclahkfmplfaaGreatDoorWg14
import Derived.Test.YtolclahkfmplfaaGreatDoorWn1
import Derived.Test.YtolclahkfmplfaaGreatDoorWg15
/- Plain: whether a key is among pairs. No program in sight. -/
namespace Go.Proofs.YtolclahkfmplfaaGreatDoor
open Go
theorem len_sub : ∀ {a b : List Int}, a.Nodup → (∀ x ∈ a, x ∈ b) → a.length ≤ b.length
  | [], _, _, _ => Nat.zero_le _
  | x :: a, b, hn, h => by
    have hx := h x List.mem_cons_self
    have h2 := List.nodup_cons.1 hn
    have h3 := len_sub (a := a) (b := b.erase x) h2.2 fun y hy => (List.mem_erase_of_ne (fun e => h2.1 (by rw [← e]; exact hy))).2 (h y (List.mem_cons_of_mem _ hy))
    rw [List.length_erase_of_mem hx] at h3
    have h4 := List.length_pos_of_mem hx
    simp only [List.length_cons]
    omega
theorem key_in {L : Lv} (hM : May L) (k : Int) : k ∈ (allL L).map Ent.key ↔ isB L k = true := by
  have hl := allL_look hM.mE k
  rw [lv_is (chkR_zero.2 hM)] at hl
  constructor
  · intro hm
    obtain ⟨e, he, hk⟩ := List.mem_map.1 hm
    have h5 := look_mem (allL_ris hM) he
    rw [hk, hl] at h5
    by_cases hb : isB L k = true
    · exact hb
    · rw [if_neg hb] at h5; cases h5
  · intro hb
    rw [if_pos hb] at hl
    obtain ⟨h5, h6⟩ := look_key hl
    exact List.mem_map.2 ⟨_, h6, h5⟩
end Go.Proofs.YtolclahkfmplfaaGreatDoor

/- Plain facts for the law LadderGets. No program in sight. -/
namespace Go.Proofs.YtolclahkfmplfaaGreatDoor
open Go
theorem keys_nodup {L : Lv} (hM : May L) : ((allL L).map Ent.key).Nodup := by
  have h := allL_ris hM
  unfold RisE at h
  unfold List.Nodup
  rw [List.pairwise_map]
  exact h.imp fun h => by omega
theorem add_keys {L : Lv} {n : Int} {y : Ent} (ha : addE L y = 0) : (allL (addL L n y)).length ≤ (allL L).length + (if y.dead = true ∨ isB L y.key = true then 0 else 1) := by
  have hM := (addE_zero.1 ha).1
  have hM' := (add_may ha n).1
  have hk : ∀ k, k ≠ y.key → isB L k = isB (addL L n y) k := fun k => (adds_ok ha n k).alike
  have hn := keys_nodup hM'
  by_cases h : y.dead = true ∨ isB L y.key = true
  · rw [if_pos h]
    have := len_sub (b := (allL L).map Ent.key) hn fun x hx => by
      have hx' := (key_in hM' x).1 hx
      refine (key_in hM x).2 ?_
      by_cases hxy : x = y.key
      · subst hxy
        rcases h with h | h
        · unfold isB at hx'
          simp at hx'
          have := (adds_ok ha n y.key).went h hx'.1
          rw [this] at hx'
          exact absurd hx'.2 (by simp)
        · exact h
      · rw [hk x hxy]; exact hx'
    simpa using this
  · rw [if_neg h]
    have := len_sub (b := y.key :: (allL L).map Ent.key) hn fun x hx => by
      have hx' := (key_in hM' x).1 hx
      by_cases hxy : x = y.key
      · subst hxy; exact List.mem_cons_self
      · exact List.mem_cons_of_mem _ ((key_in hM x).2 (by rw [hk x hxy]; exact hx'))
    simpa using this
theorem isB_ve {c : Cfg} {L : Lv} {k : Int} (h : errL c L = 0) : veD c L k = 0 ↔ isB L k = true := by
  unfold veD
  rw [if_pos h]
  by_cases hb : isB L k = true
  · rw [if_pos hb]; simp [hb]
  · rw [if_neg hb]; simp [hb]
theorem ve_two {c : Cfg} {L : Lv} {k : Int} (h : errL c L = 0) : veD c L k = 0 ∨ veD c L k = 6 := by
  unfold veD
  rw [if_pos h]
  split <;> simp
theorem ve_same {c : Cfg} {L L' : Lv} {k : Int} (h : errL c L = 0) (h' : errL c L' = 0) (hb : isB L k = isB L' k) (hs : isB L k = true → gxR L k = gxR L' k) : veD c L' k = veD c L k ∧ vlD c L' k = vlD c L k := by
  unfold veD vlD
  rw [if_pos h, if_pos h', ← hb]
  refine ⟨rfl, ?_⟩
  by_cases hi : isB L k = true
  · rw [if_pos ⟨h', hi⟩, if_pos ⟨h, hi⟩, hs hi]
  · rw [if_neg (fun x => hi x.2), if_neg (fun x => hi x.2)]
structure Gets (c : Cfg) (L L' : Lv) (key other ve vl : Int) : Prop where
  err : errL c L' = 0
  e : veD c L' key = ve
  v : ve = 0 → vlD c L' key = vl
  le : tot L' ≤ 65536
  ln : L'.length ≤ 17
  same : other ≠ key → veD c L' other = veD c L other ∧ vlD c L' other = vlD c L other
theorem up_zero {e0 : Int} {L : Lv} {y : Ent} (h : upE e0 L y = 0) (n : Int) : e0 = 0 ∧ addE L y = 0 ∧ upL e0 L n y = addL L n y := by
  unfold upE at h
  by_cases h0 : e0 = 0
  · rw [if_pos h0] at h
    exact ⟨h0, h, by unfold upL; rw [if_pos h0]⟩
  · rw [if_neg h0] at h; exact absurd h h0
theorem put_gets {c : Cfg} {L : Lv} {n key val : Int} (other : Int) (he : errL c L = 0) (hg : upE (putE0 c L key) L (putY key val) = 0) : Gets c L (upL (putE0 c L key) L n (putY key val)) key other 0 val := by
  obtain ⟨h0, ha, hL⟩ := up_zero hg n
  rw [hL]
  obtain ⟨hC, hR, hm, _⟩ := errL_zero he
  rw [prR_len hR] at hm
  have hlen : ((allL (addL L n (putY key val))).length : Int) ≤ c.most := by
    have hk := add_keys (n := n) ha
    by_cases hb : isB L key = true
    · rw [if_pos (show (putY key val).dead = true ∨ isB L (putY key val).key = true from Or.inr hb)] at hk
      omega
    · rw [if_neg (show ¬ ((putY key val).dead = true ∨ isB L (putY key val).key = true) from fun h => h.elim (fun h => by cases h) hb)] at hk
      have hv : veD c L key = 6 := by
        rcases ve_two (k := key) he with h | h
        · exact absurd ((isB_ve he).1 h) hb
        · exact h
      unfold putE0 at h0
      rw [if_pos hv, prR_len hR] at h0
      by_cases hq : ((allL L).length : Int) = c.most
      · rw [if_pos hq] at h0; cases h0
      · omega
  have hE := errL_ok hC (add_may ha n).1 hlen (add_may ha n).2.1
  have hA := adds_ok ha n other
  have hd := hA.had rfl
  have hb : isB (addL L n (putY key val)) key = true := by
    unfold isB
    rw [show geR (addL L n (putY key val)) key = 0 from hd.1, show gxR (addL L n (putY key val)) key = putY key val from hd.2]
    rfl
  refine ⟨hE, (isB_ve hE).2 hb, fun _ => ?_, (add_may ha n).1.size, (add_may ha n).1.len, fun hne => ve_same he hE (hA.alike hne) (hA.same hne)⟩
  unfold vlD
  rw [if_pos ⟨hE, hb⟩, show gxR (addL L n (putY key val)) key = putY key val from hd.2]
  rfl
theorem del_gets {c : Cfg} {L : Lv} {n key : Int} (other vl : Int) (he : errL c L = 0) (hg : upE (veD c L key) L (delY key) = 0) : Gets c L (upL (veD c L key) L n (delY key)) key other 6 vl := by
  obtain ⟨h0, ha, hL⟩ := up_zero hg n
  rw [hL]
  obtain ⟨hC, hR, hm, _⟩ := errL_zero he
  rw [prR_len hR] at hm
  have hlen : ((allL (addL L n (delY key))).length : Int) ≤ c.most := by
    have hk := add_keys (n := n) ha
    rw [if_pos (show (delY key).dead = true ∨ isB L (delY key).key = true from Or.inl rfl)] at hk
    omega
  have hE := errL_ok hC (add_may ha n).1 hlen (add_may ha n).2.1
  have hA := adds_ok ha n other
  have hb : ¬ isB (addL L n (delY key)) key = true := by
    intro hb
    unfold isB at hb
    simp at hb
    have := hA.went rfl hb.1
    rw [show gxR (addL L n (delY key)) (delY key).key = gxR (addL L n (delY key)) key from rfl, hb.2] at this
    cases this
  refine ⟨hE, ?_, fun h => absurd h (by decide), (add_may ha n).1.size, (add_may ha n).1.len, fun hne => ve_same he hE (hA.alike hne) (hA.same hne)⟩
  rcases ve_two (k := key) hE with h | h
  · exact absurd ((isB_ve hE).1 h) hb
  · exact h
theorem up_add {e0 : Int} {L : Lv} {y : Ent} (hR : chkR L = 0) (ht : tot L ≤ 300) (hy : badEnt y = false) : upE e0 L y = e0 := by
  unfold upE
  by_cases h : e0 = 0
  · rw [if_pos h, h]
    exact addE_zero.2 ⟨chkR_zero.1 hR, by omega, hy⟩
  · rw [if_neg h]
theorem put_iff {c : Cfg} {L : Lv} {key val : Int} (he : errL c L = 0) (ht : tot L ≤ 300) : (upE (putE0 c L key) L (putY key val) = 0) ↔ (veD c L key = 0 ∨ ((prD c L).length : Int) < c.most) := by
  obtain ⟨hC, hR, hm, _⟩ := errL_zero he
  rw [up_add hR ht (by rfl)]
  unfold prD putE0
  rw [if_pos he]
  rcases ve_two (k := key) he with h | h
  · rw [h]; simp
  · rw [h, if_pos rfl]
    by_cases hq : ((prR L).length : Int) = c.most
    · rw [if_pos hq]; simp; omega
    · rw [if_neg hq]; simp; omega
theorem del_iff {c : Cfg} {L : Lv} {key : Int} (he : errL c L = 0) (ht : tot L ≤ 300) : upE (veD c L key) L (delY key) = veD c L key :=
  up_add (errL_zero he).2.1 ht (by rfl)
theorem errL_vals (c : Cfg) (L : Lv) : errL c L = 0 ∨ errL c L = 8 ∨ errL c L = 50 := by
  unfold errL
  rcases errC_vals c with h | h
  · rw [if_pos h]; split <;> simp
  · rw [h]; simp
theorem bad_all {c : Cfg} {L : Lv} (he : errL c L ≠ 0) (k key val : Int) : veD c L k = errL c L ∧ upE (putE0 c L key) L (putY key val) = errL c L ∧ upE (veD c L key) L (delY key) = errL c L := by
  have hv : ∀ k, veD c L k = errL c L := fun k => by unfold veD; rw [if_neg he]
  have h6 : errL c L ≠ 6 := by rcases errL_vals c L with h | h | h <;> rw [h] <;> decide
  refine ⟨hv k, ?_, ?_⟩
  · unfold upE putE0
    rw [hv key, if_neg h6, if_neg he]
  · unfold upE
    rw [hv key, if_neg he]
end Go.Proofs.YtolclahkfmplfaaGreatDoor

/- Plain facts: neighbours in levels. No program in sight. -/
namespace Go.Proofs.YtolclahkfmplfaaGreatDoor
open Go
/-- an order of keys, upward or downward -/
structure Ord (lt : Int → Int → Bool) : Prop where
  tr : ∀ a b c, lt a b = true → lt b c = true → lt a c = true
  tr2 : ∀ a b c, lt a b = true → lt c b = false → lt a c = true
  irr : ∀ a, lt a a = false
def ltN (a b : Int) : Bool := decide (a < b)
def ltL (a b : Int) : Bool := decide (b < a)
theorem ord_N : Ord ltN := ⟨fun a b c h1 h2 => by unfold ltN at *; rw [decide_eq_true_iff] at *; omega, fun a b c h1 h2 => by unfold ltN at *; rw [decide_eq_true_iff] at *; rw [decide_eq_false_iff_not] at h2; omega, fun a => by unfold ltN; rw [decide_eq_false_iff_not]; omega⟩
theorem ord_L : Ord ltL := ⟨fun a b c h1 h2 => by unfold ltL at *; rw [decide_eq_true_iff] at *; omega, fun a b c h1 h2 => by unfold ltL at *; rw [decide_eq_true_iff] at *; rw [decide_eq_false_iff_not] at h2; omega, fun a => by unfold ltL; rw [decide_eq_false_iff_not]; omega⟩
/-- what a run has next, on a side -/
structure AskOk (ok : Int → Bool) (lt : Int → Int → Bool) (l : List Ent) (E : Int) (X : Ent) : Prop where
  vals : E = 0 ∨ E = 6
  mem : E = 0 → X ∈ l ∧ ok X.key = true
  best : E = 0 → ∀ e ∈ l, ok e.key = true → lt e.key X.key = false
  none : E = 6 → ∀ e ∈ l, ok e.key = false
def stepB (lt : Int → Int → Bool) (o : Option Ent) (E : Int) (X : Ent) : Option Ent := if E = 0 ∧ (o = none ∨ lt X.key (o.getD zeroE).key = true) then some X else o
structure BestOk (ok : Int → Bool) (lt : Int → Int → Bool) (rs : Lv) (o : Option Ent) : Prop where
  none : o = none → ∀ l ∈ rs, ∀ e ∈ l, ok e.key = false
  mem : ∀ x, o = some x → ok x.key = true ∧ ∃ l ∈ rs, x ∈ l
  best : ∀ x, o = some x → ∀ l ∈ rs, ∀ e ∈ l, ok e.key = true → lt e.key x.key = false
theorem best_nil (ok : Int → Bool) (lt : Int → Int → Bool) : BestOk ok lt [] none := ⟨fun _ l hl => absurd hl (by simp), fun x hx => (by cases hx), fun x hx => (by cases hx)⟩
theorem best_step {ok : Int → Bool} {lt : Int → Int → Bool} (ho : Ord lt) {rs : Lv} {o : Option Ent} {l : List Ent} {E : Int} {X : Ent} (h : BestOk ok lt rs o) (ha : AskOk ok lt l E X) : BestOk ok lt (rs ++ [l]) (stepB lt o E X) := by
  unfold stepB
  rcases ha.vals with h0 | h6
  · obtain ⟨m1, m2⟩ := ha.mem h0
    have hb := ha.best h0
    cases o with
    | none =>
      rw [if_pos ⟨h0, .inl rfl⟩]
      refine ⟨fun h => (by cases h), fun x hx => ?_, fun x hx q hq e he hok => ?_⟩
      · cases hx; exact ⟨m2, l, by simp, m1⟩
      · cases hx
        rcases List.mem_append.1 hq with hq | hq
        · rw [h.none rfl q hq e he] at hok; cases hok
        · obtain rfl : q = l := by simpa using hq
          exact hb e he hok
    | some b =>
      by_cases hlt : lt X.key b.key = true
      · rw [if_pos ⟨h0, .inr hlt⟩]
        refine ⟨fun h => (by cases h), fun x hx => ?_, fun x hx q hq e he hok => ?_⟩
        · cases hx; exact ⟨m2, l, by simp, m1⟩
        · cases hx
          rcases List.mem_append.1 hq with hq | hq
          · cases hc : lt e.key X.key with
            | false => rfl
            | true =>
              have h1 := h.best b rfl q hq e he hok
              rw [ho.tr _ _ _ hc hlt] at h1; cases h1
          · obtain rfl : q = l := by simpa using hq
            exact hb e he hok
      · have hlf : lt X.key b.key = false := by simpa using hlt
        rw [if_neg (fun h => by rcases h.2 with h | h; · cases h
                                · exact hlt h)]
        refine ⟨fun h => (by cases h), fun x hx => ?_, fun x hx q hq e he hok => ?_⟩
        · cases hx
          obtain ⟨k1, q, k2, k3⟩ := h.mem b rfl
          exact ⟨k1, q, by simp [k2], k3⟩
        · cases hx
          rcases List.mem_append.1 hq with hq | hq
          · exact h.best b rfl q hq e he hok
          · obtain rfl : q = l := by simpa using hq
            cases hc : lt e.key b.key with
            | false => rfl
            | true =>
              have h1 := hb e he hok
              rw [ho.tr2 _ _ _ hc hlf] at h1; cases h1
  · rw [if_neg (fun h => by rw [h6] at h; exact absurd h.1 (by decide))]
    refine ⟨fun hn q hq e he => ?_, fun x hx => ?_, fun x hx q hq e he hok => ?_⟩
    · rcases List.mem_append.1 hq with hq | hq
      · exact h.none hn q hq e he
      · obtain rfl : q = l := by simpa using hq
        exact ha.none h6 e he
    · obtain ⟨k1, q, k2, k3⟩ := h.mem x hx
      exact ⟨k1, q, by simp [k2], k3⟩
    · rcases List.mem_append.1 hq with hq | hq
      · exact h.best x hx q hq e he hok
      · obtain rfl : q = l := by simpa using hq
        rw [ha.none h6 e he] at hok; cases hok
theorem ask_next {l : List Ent} (h : chkE l = 0) (key : Int) : AskOk (fun k => decide (key ≤ k)) ltN l (nxE l key) (nxX l key) := by
  have hr := chk_ris h
  have hp := inL_perm l
  by_cases hB : belK (inL l) key < (inL l).length
  · obtain ⟨h1, h2⟩ := nx_yes h hB
    rw [h1, h2]
    refine ⟨.inl rfl, fun _ => ⟨hp.mem_iff.1 (List.getElem_mem hB), decide_eq_true (ris_at hr hB)⟩, fun _ e he hok => ?_, fun h => (by cases h)⟩
    obtain ⟨j, hj, he2⟩ := List.getElem_of_mem (hp.mem_iff.2 he)
    have h3 := ris_count key hr j hj
    have h4 := of_decide_eq_true hok
    rw [he2] at h3
    have h5 : belK (inL l) key ≤ j := by
      by_cases hx : j < belK (inL l) key
      · have := h3.2 hx; omega
      · omega
    have h6 := ris_le hr h5 hj
    rw [he2] at h6
    unfold ltN
    exact decide_eq_false (by omega)
  · rw [(nx_no h hB).1]
    refine ⟨.inr rfl, fun h => (by cases h), fun h => (by cases h), fun _ e he => ?_⟩
    obtain ⟨j, hj, he2⟩ := List.getElem_of_mem (hp.mem_iff.2 he)
    have h3 := (ris_count key hr j hj).2 (by omega)
    rw [he2] at h3
    exact decide_eq_false (by omega)
theorem ask_last {l : List Ent} (h : chkE l = 0) (key : Int) : AskOk (fun k => decide (k < key)) ltL l (lsE l key) (lsX l key) := by
  have hr := chk_ris h
  have hp := inL_perm l
  have hBl := belK_le (inL l) key
  by_cases hB : 0 < belK (inL l) key
  · obtain ⟨h1, h2⟩ := ls_yes h hB
    have hlt : belK (inL l) key - 1 < (inL l).length := by omega
    rw [h1, h2]
    refine ⟨.inl rfl, fun _ => ⟨hp.mem_iff.1 (List.getElem_mem hlt), decide_eq_true ((ris_count key hr _ hlt).2 (by omega))⟩, fun _ e he hok => ?_, fun h => (by cases h)⟩
    obtain ⟨j, hj, he2⟩ := List.getElem_of_mem (hp.mem_iff.2 he)
    have h3 := ris_count key hr j hj
    rw [he2] at h3
    have h4 := h3.1 (of_decide_eq_true hok)
    have h6 := ris_le hr (show j ≤ belK (inL l) key - 1 by omega) hlt
    rw [he2] at h6
    unfold ltL
    exact decide_eq_false (by omega)
  · rw [ls_no h hB]
    refine ⟨.inr rfl, fun h => (by cases h), fun h => (by cases h), fun _ e he => ?_⟩
    obtain ⟨j, hj, he2⟩ := List.getElem_of_mem (hp.mem_iff.2 he)
    have h3 := ris_count key hr j hj
    rw [he2] at h3
    refine decide_eq_false fun h4 => ?_
    have := h3.1 h4
    omega
theorem near_find {ok : Int → Bool} {lt : Int → Int → Bool} : ∀ {l : List Ent} {z : Ent}, l.Pairwise (fun a b => lt a.key b.key = true) → z ∈ l → ok z.key = true → (∀ e ∈ l, ok e.key = true → lt e.key z.key = false) → l.find? (fun e => ok e.key) = some z
  | [], z, _, hz, _, _ => by simp at hz
  | a :: t, z, hp, hz, hok, h => by
    rcases List.mem_cons.1 hz with rfl | hz
    · rw [List.find?_cons, hok]
    · have h1 := (List.pairwise_cons.1 hp).1 z hz
      have h2 : ok a.key = false := by
        cases hc : ok a.key with
        | false => rfl
        | true =>
          have h3 := h a (by simp) hc
          rw [h1] at h3; cases h3
      rw [List.find?_cons, h2]
      exact near_find (List.pairwise_cons.1 hp).2 hz hok (fun e he => h e (by simp [he]))
theorem find_congr {p q : Ent → Bool} : ∀ {l : List Ent}, (∀ e ∈ l, p e = q e) → l.find? p = l.find? q
  | [], _ => rfl
  | a :: t, h => by
    rw [List.find?_cons, List.find?_cons, h a (by simp), find_congr (fun e he => h e (by simp [he]))]
theorem newest_lv : ∀ {rs : Lv} {k : Int} {e : Ent}, newest rs k = some e → e.key = k ∧ ∃ l ∈ rs, e ∈ l
  | [], k, e, h => by cases h
  | r :: rs, k, e, h => by
    unfold newest at h
    rw [List.findSome?_cons] at h
    cases hl : look r k with
    | some y =>
      rw [hl] at h
      cases h
      exact ⟨(look_key hl).1, r, by simp, (look_key hl).2⟩
    | none =>
      rw [hl] at h
      obtain ⟨h1, l, h2, h3⟩ := newest_lv (rs := rs) h
      exact ⟨h1, l, by simp [h2], h3⟩
theorem newest_of {rs : Lv} {e : Ent} {l : List Ent} (hl : l ∈ rs) (he : e ∈ l) : ∃ z, newest rs e.key = some z ∧ z.key = e.key := by
  cases h : newest rs e.key with
  | some z => exact ⟨z, rfl, (newest_lv h).1⟩
  | none =>
    unfold newest at h
    rw [List.findSome?_eq_none_iff] at h
    exact absurd rfl (look_isNone (h l hl) e he)
/-- the nearest live entry -/
def nxO (L : Lv) (key : Int) : Option Ent := (allL L).find? (fun e => decide (key ≤ e.key))
def lsO (L : Lv) (key : Int) : Option Ent := (allL L).reverse.find? (fun e => decide (e.key < key))
theorem all_in {L : Lv} (h : May L) {e : Ent} (he : e ∈ allL L) : ∃ l ∈ L, e ∈ l := by
  have h1 := look_mem (allL_ris h) he
  rw [allL_look h.mE] at h1
  exact (newest_lv (lv_some h1).1).2
theorem all_live_in {L : Lv} (h : May L) {z : Ent} {k : Int} (hz : newest L k = some z) (hd : z.dead = false) : z ∈ allL L ∧ z.key = k := by
  have h1 := allL_look h.mE k
  rw [hz] at h1
  have h2 : lvO (some z) = some z := by unfold lvO; simp [hd]
  rw [h2] at h1
  exact ⟨(look_key h1).2, (look_key h1).1⟩
theorem all_dead_no {L : Lv} (h : May L) {z : Ent} {k : Int} (hz : newest L k = some z) (hd : z.dead = true) {e : Ent} (he : e ∈ allL L) : e.key ≠ k := by
  intro hk
  have h1 := look_mem (allL_ris h) he
  rw [hk, allL_look h.mE, hz] at h1
  have h2 : lvO (some z) = none := by unfold lvO; simp [hd]
  rw [h2] at h1
  cases h1
theorem nx_none {L : Lv} (h : May L) {key : Int} (hb : BestOk (fun k => decide (key ≤ k)) ltN L none) : nxO L key = none := by
  unfold nxO
  rw [List.find?_eq_none]
  intro e he
  obtain ⟨l, hl, he2⟩ := all_in h he
  have := hb.none rfl l hl e he2
  simpa using this
theorem nx_some {L : Lv} (h : May L) {key : Int} {x z : Ent} (hb : BestOk (fun k => decide (key ≤ k)) ltN L (some x)) (hz : newest L x.key = some z) (hd : z.dead = false) : nxO L key = some z := by
  obtain ⟨h1, h2⟩ := all_live_in h hz hd
  refine near_find (lt := ltN) (ok := fun k => decide (key ≤ k)) ?_ h1 ?_ ?_
  · exact (allL_ris h).imp (fun {a b} hab => decide_eq_true hab)
  · rw [h2]; exact (hb.mem x rfl).1
  · intro e he hok
    obtain ⟨l, hl, he2⟩ := all_in h he
    rw [h2]
    exact hb.best x rfl l hl e he2 hok
theorem nx_skip {L : Lv} (h : May L) {key : Int} {x z : Ent} (hb : BestOk (fun k => decide (key ≤ k)) ltN L (some x)) (hz : newest L x.key = some z) (hd : z.dead = true) : nxO L key = nxO L (x.key + 1) := by
  unfold nxO
  refine find_congr fun e he => ?_
  have h1 := all_dead_no h hz hd he
  obtain ⟨l, hl, he2⟩ := all_in h he
  have h3 := of_decide_eq_true (hb.mem x rfl).1
  by_cases hk : key ≤ e.key
  · have h2 := hb.best x rfl l hl e he2 (decide_eq_true hk)
    unfold ltN at h2
    have h4 := of_decide_eq_false h2
    rw [decide_eq_true hk, decide_eq_true (by omega)]
  · rw [decide_eq_false hk, decide_eq_false (by omega)]
theorem ls_none {L : Lv} (h : May L) {key : Int} (hb : BestOk (fun k => decide (k < key)) ltL L none) : lsO L key = none := by
  unfold lsO
  rw [List.find?_eq_none]
  intro e he
  obtain ⟨l, hl, he2⟩ := all_in h (List.mem_reverse.1 he)
  have := hb.none rfl l hl e he2
  simpa using this
theorem ls_some {L : Lv} (h : May L) {key : Int} {x z : Ent} (hb : BestOk (fun k => decide (k < key)) ltL L (some x)) (hz : newest L x.key = some z) (hd : z.dead = false) : lsO L key = some z := by
  obtain ⟨h1, h2⟩ := all_live_in h hz hd
  refine near_find (lt := ltL) (ok := fun k => decide (k < key)) ?_ (List.mem_reverse.2 h1) ?_ ?_
  · rw [List.pairwise_reverse]
    exact (allL_ris h).imp (fun {a b} hab => decide_eq_true hab)
  · rw [h2]; exact (hb.mem x rfl).1
  · intro e he hok
    obtain ⟨l, hl, he2⟩ := all_in h (List.mem_reverse.1 he)
    rw [h2]
    exact hb.best x rfl l hl e he2 hok
theorem ls_skip {L : Lv} (h : May L) {key : Int} {x z : Ent} (hb : BestOk (fun k => decide (k < key)) ltL L (some x)) (hz : newest L x.key = some z) (hd : z.dead = true) : lsO L key = lsO L x.key := by
  unfold lsO
  refine find_congr fun e he => ?_
  have he' := List.mem_reverse.1 he
  have h1 := all_dead_no h hz hd he'
  obtain ⟨l, hl, he2⟩ := all_in h he'
  have h3 := of_decide_eq_true (hb.mem x rfl).1
  by_cases hk : e.key < key
  · have h2 := hb.best x rfl l hl e he2 (decide_eq_true hk)
    unfold ltL at h2
    have h4 := of_decide_eq_false h2
    rw [decide_eq_true hk, decide_eq_true (by omega)]
  · rw [decide_eq_false hk, decide_eq_false (by omega)]
/-- how many entries lie on the side: it falls from round to round -/
def sideN (L : Lv) (ok : Int → Bool) : Nat := L.flatten.countP (fun e => ok e.key)
theorem side_lt {L : Lv} {p q : Int → Bool} (hpq : ∀ k, p k = true → q k = true) {l : List Ent} {x : Ent} (hl : l ∈ L) (hx : x ∈ l) (h1 : q x.key = true) (h2 : p x.key = false) : sideN L p < sideN L q := by
  have hm : x ∈ L.flatten := List.mem_flatten.2 ⟨l, hl, hx⟩
  unfold sideN
  revert hm
  generalize L.flatten = F
  intro hm
  induction F with
  | nil => exact absurd hm (by simp)
  | cons a t ih =>
    have hle : t.countP (fun e => p e.key) ≤ t.countP (fun e => q e.key) := List.countP_mono_left (fun e _ he => hpq e.key he)
    rw [List.countP_cons, List.countP_cons]
    rcases List.mem_cons.1 hm with rfl | hm
    · rw [h1, h2]
      simp
      omega
    · have := ih hm
      by_cases hp : p a.key = true
      · rw [if_pos hp, if_pos (hpq _ hp)]; omega
      · rw [if_neg hp]; split <;> omega
end Go.Proofs.YtolclahkfmplfaaGreatDoor

/- Contracts: what ladder.Next and Last ask of a run; beside. -/
namespace Go.Proofs.YtolclahkfmplfaaGreatDoor
open Go Go.RowKit
set_option maxRecDepth 100000
theorem tab_below2 {g : Nat} {w w' : World} (h : TabAt g Lib.deBruijn64tab w) (hb : Below w.heap.size w w') : TabAt g Lib.deBruijn64tab w' := tab_below (tab_lt h) h hb
structure BesI (w : World) (ok : Int → Bool) (lt : Int → Int → Bool) (Rs : List Rm) (k : Nat) (o : Option Ent) (wr : World) : Prop where
  bel : Below w.heap.size w wr
  bb : Blk wr w.heap.size 46 #[.int .i64 (o.getD zeroE).key, .int .i64 (o.getD zeroE).val, .bool (o.getD zeroE).dead]
  best : BestOk ok lt ((lvs Rs).take k) o
set_option maxHeartbeats 4000000 in
theorem next1_any (A : Option Addr) (l : List Ent) (cl gk : Nat) (key : Int) (w : World) (hA : Sl w A (l.flatMap Ent.cells)) (hl : l.length ≤ 4611686018427387903) (hK : w.cell? ⟨gk, 0, none⟩ = some (.int .i64 key)) (hT : TabAt 1 Lib.deBruijn64tab w) :
    Calls Tryz.prog 30 #[.agg #[.slice A l.length cl], .pointer (some ⟨gk, 0, none⟩)] w (GivesX (nxX l key) (nxE l key) w) := by
  obtain ⟨W0, hW0⟩ : ∃ W0, (w.alloc (.cells #[.slice A l.length cl] 49)).alloc (.cells #[.int .i64 0, .int .i64 0, .bool false] 46) = W0 := ⟨_, rfl⟩
  have hb0 : Below w.heap.size w W0 := by rw [← hW0]; exact ((Below.refl _ _).alloc (Nat.le_refl _) _).alloc (by simp) _
  have bX0 : Blk W0 w.heap.size 49 #[.slice A l.length cl] := by rw [← hW0]; exact (Blk.new _ _ _).alloc _
  have bR0 : Blk W0 (w.heap.size + 1) 46 #[.int .i64 0, .int .i64 0, .bool false] := by
    rw [← hW0]
    have := Blk.new (w.alloc (.cells #[.slice A l.length cl] 49)) 46 #[.int .i64 0, .int .i64 0, .bool false]
    rwa [World.size_alloc] at this
  have cX0 : W0.cell? ⟨w.heap.size, 0, none⟩ = some (.slice A l.length cl) := bX0.cell 0
  have hkl := World.block_lt_of_cell? w _ hK
  have cK0 : W0.cell? ⟨gk, 0, none⟩ = some (.int .i64 key) := (hb0.cell (p := ⟨gk, 0, none⟩) hkl).trans hK
  have HC := Lib.hid (runNext_any A l cl key W0 (hA.below hb0) hl (tab_below2 hT hb0))
  obtain ⟨p, hp⟩ : ∃ p, nxX l key = p := ⟨_, rfl⟩
  obtain ⟨G, hG⟩ : ∃ p, nxE l key = p := ⟨_, rfl⟩
  have hc := HC.out
  rw [hp, hG] at hc
  rw [hp, hG]
  have HC2 := Lib.hid hc
  have HW0 := Lib.hid hW0
  clear hW0 hc HC hp hG hA hT hK hkl
  go_enter Tryz.func30, Tryz.ntmps30
  go_upto_region 1 with fail
  rw [HW0.out]
  go_wp2_with fail
  refine HC2.out.mono ?_
  rintro e w1 ⟨rfl, hb1⟩
  have bR1 := bR0.below hb1 bR0.lt
  have hb01 := bext hb0 hb1
  have d0 : w1.cell? ⟨w.heap.size + 1, 0, none⟩ = some (.int .i64 0) := bR1.cell 0
  have d1 : w1.cell? ⟨w.heap.size + 1, 1, none⟩ = some (.int .i64 0) := bR1.cell 1
  have d2 : w1.cell? ⟨w.heap.size + 1, 2, none⟩ = some (.bool false) := bR1.cell 2
  have f0 := bR1.frozen 0
  have f1 := bR1.frozen 1
  have f2 := bR1.frozen 2
  clear cX0 cK0
  go_wp2_with fail
  have bFy := put3 bR1 (.int .i64 p.key) (.int .i64 p.val) (.bool p.dead)
  have e0y := bFy.cell 0
  have e1y := bFy.cell 1
  have e2y := bFy.cell 2
  simp only [List.getElem?_toArray, List.getElem?_cons_zero, List.getElem?_cons_succ] at e0y e1y e2y
  refine bodyPost_ret (v := .tuple #[.agg #[.int .i64 p.key, .int .i64 p.val, .bool p.dead], .int .i64 G]) (by simp [results, Tryz.results30, go_sem, e0y, e1y, e2y]) rfl ?_
  exact ⟨rfl, below3 hb01 (Nat.le_succ _) _ _ _⟩
theorem next2_any (a b : Int) (w : World) : Calls Tryz.prog 32 #[.int .i64 a, .int .i64 b] w fun r w' => r = .returned (.bool (ltN a b)) ∧ w' = w := by
  go_enter Tryz.func32, Tryz.ntmps32
  go_wp2
  go_ret
  exact ⟨rfl, rfl⟩
set_option maxHeartbeats 16000000 in
theorem besideNext_any (B : Option Addr) (Rs : List Rm) (k gu gk : Nat) (c : Cfg) (n key : Int) (w : World) (hB : RunsAt w B Rs) (hM : May (lvs Rs)) (hU : Blk w gu 60 (lrow c B Rs.length k n)) (hK : w.cell? ⟨gk, 0, none⟩ = some (.int .i64 key)) (hT : TabAt 1 Lib.deBruijn64tab w) :
    Calls Tryz.prog 29 #[.pointer (some ⟨gu, 0, none⟩), .func (.func 30) #[] #[.pointer (some ⟨gk, 0, none⟩)], .func (.func 32) #[] #[]] w fun r w' =>
      ∃ o : Option Ent, r = .returned (.tuple #[.agg #[.int .i64 (o.getD zeroE).key, .int .i64 (o.getD zeroE).val, .bool (o.getD zeroE).dead], .int .i64 (isE o)]) ∧ BestOk (fun q => decide (key ≤ q)) ltN (lvs Rs) o ∧ Below w.heap.size w w' := by
  obtain ⟨W0, hW0⟩ : ∃ W0, w.alloc (.cells #[.int .i64 0, .int .i64 0, .bool false] 46) = W0 := ⟨_, rfl⟩
  have hb0 : Below w.heap.size w W0 := by rw [← hW0]; exact (Below.refl _ _).alloc (Nat.le_refl _) _
  have bb0 : Blk W0 w.heap.size 46 #[.int .i64 0, .int .i64 0, .bool false] := by rw [← hW0]; exact Blk.new _ _ _
  have bu := hU.below hb0 hU.lt
  have hkl := World.block_lt_of_cell? w _ hK
  have q9 : W0.cell? ⟨gu, 9, none⟩ = some (.slice B Rs.length k) := bu.cell 9
  have HI0 : Hid (BesI w (fun q => decide (key ≤ q)) ltN Rs 0 none W0) := ⟨hb0, bb0, by rw [List.take_zero]; exact best_nil _ _⟩
  have HB := Lib.hid hB
  have HM := Lib.hid hM
  have HK := Lib.hid hK
  have HKL := Lib.hid hkl
  have HT := Lib.hid hT
  have HQ := Lib.hid (rm_le hM)
  have hl17 : Rs.length ≤ 17 := HQ.out.2.1
  have HW0 := Lib.hid hW0
  clear hB hM hU hK hT hW0 hb0 bb0 hkl
  go_enter Tryz.func29, Tryz.ntmps29
  go_upto_region 1 with fail
  rw [HW0.out]
  go_wp2_with fail
  clear q9 bu
  go_loopw [7, 19] (fun v i wr => ∃ (j : Nat) (o : Option Ent), j ≤ Rs.length ∧ i = .int .i64 j ∧ v = .int .i64 (isE o) ∧ Hid (BesI w (fun q => decide (key ≤ q)) ltN Rs j o wr)) (fun _ i _ => Rs.length - (intOf i).toNat)
  case atStart => exact ⟨0, none, Nat.zero_le _, rfl, rfl, HI0.out⟩
  case round =>
    clear HI0
    obtain ⟨j, o, hj, rfl, rfl, hI⟩ := hrel
    by_cases hlt : j < Rs.length
    case pos =>
      obtain ⟨b, off, rfl, hbl, cp⟩ := HB.out.sl.oneB hI.out.bel j hlt
      have hok := (HB.out.ok _ (List.getElem_mem hlt)).below hI.out.bel
      have hrl := HQ.out.1 _ (List.getElem_mem hlt)
      have hlv : lev (lvs Rs) j = (Rs[j]'hlt).l := lvs_lev hlt
      have hck := HM.out.chk j
      rw [hlv] at hck
      have htk : (lvs Rs).take (j + 1) = (lvs Rs).take j ++ [(Rs[j]'hlt).l] := by
        rw [List.take_succ_eq_append_getElem (by rw [lvs_len]; exact hlt)]
        congr 2
        simp [lvs]
      obtain ⟨r, hr⟩ : ∃ r, Rs[j]'hlt = r := ⟨_, rfl⟩
      rw [hr] at cp hok hrl hck htk
      obtain ⟨l, Al, cl⟩ := r
      have cp1 : wr.cell? ⟨b, off + j, none⟩ = some (.slice Al l.length cl) := cp
      dsimp only at hrl hck htk
      have hAsk := ask_next hck key
      have hst := best_step ord_N hI.out.best hAsk
      rw [← htk] at hst
      have hcall : ∀ W, Below wr.heap.size wr W → Calls Tryz.prog 30 #[.agg #[.slice Al l.length cl], .pointer (some ⟨gk, 0, none⟩)] W (GivesX (nxX l key) (nxE l key) W) := fun W hW =>
        next1_any Al l cl gk key W (hok.sl.below hW) (by omega) ((hW.cell (p := ⟨gk, 0, none⟩) (Nat.lt_of_lt_of_le HKL.out hI.out.bel.size)).trans ((hI.out.bel.cell (p := ⟨gk, 0, none⟩) HKL.out).trans HK.out)) (tab_below2 (tab_below2 HT.out hI.out.bel) hW)
      have hv := hAsk.vals
      obtain ⟨X, hX⟩ : ∃ X, nxX l key = X := ⟨_, rfl⟩
      obtain ⟨G, hG⟩ : ∃ X, nxE l key = X := ⟨_, rfl⟩
      rw [hX, hG] at hst hcall
      rw [hG] at hv
      have HST := Lib.hid hst
      have HCA := Lib.hid hcall
      have HV := Lib.hid hv
      have ha1 : Below wr.heap.size wr (wr.alloc (.cells #[.slice Al l.length cl] 49)) := (Below.refl _ _).alloc (Nat.le_refl _) _
      have HA1 := Lib.hid ha1
      have i0 : (0 : Int) ≤ (j : Int) := by omega
      have i1 : (j : Int) < (Rs.length : Int) := by omega
      clear cp hr hok hck hlv htk hAsk hst hcall hv hX hG ha1 hbl
      go_wp2_with fail
      refine (HCA.out _ HA1.out).mono ?_
      rintro e w2 ⟨rfl, hb2⟩
      clear cp1
      have HB2 := Lib.hid (bext HA1.out hb2)
      go_upto_region 6 with fail
      obtain ⟨W3, hW3⟩ : ∃ W, w2.alloc (.cells #[.int .i64 X.key, .int .i64 X.val, .bool X.dead] 46) = W := ⟨_, rfl⟩
      have b3 : Blk W3 w2.heap.size 46 #[.int .i64 X.key, .int .i64 X.val, .bool X.dead] := by rw [← hW3]; exact Blk.new _ _ _
      have HB3 : Hid (Below wr.heap.size wr W3) := by show Below _ _ _; rw [← hW3]; exact bext HB2.out ((Below.refl _ _).alloc (Nat.le_refl _) _)
      try rw [hW3]
      have HBW := Lib.hid (bext hI.out.bel HB3.out)
      have bb3 := hI.out.bb.below HB3.out hI.out.bb.lt
      have HBB := Lib.hid bb3
      obtain ⟨x, hx⟩ : ∃ x, o.getD zeroE = x := ⟨_, rfl⟩
      have HXX := Lib.hid hx
      rw [hx] at bb3
      have y0 : W3.cell? ⟨w2.heap.size, 0, none⟩ = some (.int .i64 X.key) := b3.cell 0
      have y1 : W3.cell? ⟨w2.heap.size, 1, none⟩ = some (.int .i64 X.val) := b3.cell 1
      have y2 : W3.cell? ⟨w2.heap.size, 2, none⟩ = some (.bool X.dead) := b3.cell 2
      have x0 : W3.cell? ⟨w.heap.size, 0, none⟩ = some (.int .i64 x.key) := bb3.cell 0
      have x1 : W3.cell? ⟨w.heap.size, 1, none⟩ = some (.int .i64 x.val) := bb3.cell 1
      have x2 : W3.cell? ⟨w.heap.size, 2, none⟩ = some (.bool x.dead) := bb3.cell 2
      have fx0 := bb3.frozen 0
      have fx1 := bb3.frozen 1
      have fx2 := bb3.frozen 2
      clear hW3 b3 bb3 hx hb2
      have H2 := Lib.hid (fun w => next2_any X.key x.key w)
      rcases HV.out with hg | hg
      · subst hg
        cases o with
        | none =>
          have HS : Hid (stepB ltN none 0 X = some X) := by show _ = _; unfold stepB; rw [if_pos ⟨rfl, .inl rfl⟩]
          have hz : isE none = 6 := rfl
          clear H2
          go_wp2_with fail
          go_roundw
          case rel => exact ⟨j + 1, some X, by omega, by go_num, rfl, below3 HBW.out (Nat.le_refl _) _ _ _, put3 HBB.out _ _ _, by rw [← HS.out]; exact HST.out⟩
          case measure => simp [intOf]; omega
        | some b0 =>
          have hz : isE (some b0) = 0 := rfl
          obtain ⟨V, hV⟩ : ∃ V, ltN X.key x.key = V := ⟨_, rfl⟩
          have h2 := H2.out
          rw [hV] at h2
          have HV2 := Lib.hid hV
          have H3 := Lib.hid h2
          clear H2 h2 hV
          go_wp2_with fail
          refine (H3.out _).mono ?_
          rintro e w4 ⟨rfl, hw4⟩
          subst hw4
          have HQX : Hid (x = b0) := HXX.out.symm
          cases V with
          | true =>
            have HS : Hid (stepB ltN (some b0) 0 X = some X) := by
              show _ = _
              unfold stepB
              rw [if_pos ⟨rfl, .inr (by rw [show (some b0).getD zeroE = b0 from rfl, ← HQX.out]; exact HV2.out)⟩]
            go_wp2_with fail
            go_roundw
            case rel => exact ⟨j + 1, some X, by omega, by go_num, rfl, below3 HBW.out (Nat.le_refl _) _ _ _, put3 HBB.out _ _ _, by rw [← HS.out]; exact HST.out⟩
            case measure => simp [intOf]; omega
          | false =>
            have HS : Hid (stepB ltN (some b0) 0 X = some b0) := by
              show _ = _
              unfold stepB
              rw [if_neg (fun h => by rcases h.2 with h | h; · cases h
                                      · rw [show (some b0).getD zeroE = b0 from rfl, ← HQX.out, HV2.out] at h; cases h)]
            go_wp2_with fail
            go_roundw
            case rel => exact ⟨j + 1, some b0, by omega, by go_num, by first | rfl | simp [isE], HBW.out, HBB.out, by rw [← HS.out]; exact HST.out⟩
            case measure => simp [intOf]; omega
      · subst hg
        have HS : Hid (stepB ltN o 6 X = o) := by show _ = _; unfold stepB; rw [if_neg (fun h => absurd h.1 (by decide))]
        clear H2
        go_wp2_with fail
        go_roundw
        case rel => exact ⟨j + 1, o, by omega, by go_num, by first | rfl | trivial, HBW.out, HBB.out, by rw [← HS.out]; exact HST.out⟩
        case measure => simp [intOf]; omega
    case neg =>
      have hfin := hI.out.best
      rw [List.take_of_length_le (by rw [lvs_len]; omega)] at hfin
      have HFI := Lib.hid hfin
      obtain ⟨x, hx⟩ : ∃ x, o.getD zeroE = x := ⟨_, rfl⟩
      have HXX := Lib.hid hx
      have bb := hI.out.bb
      rw [hx] at bb
      have x0 : wr.cell? ⟨w.heap.size, 0, none⟩ = some (.int .i64 x.key) := bb.cell 0
      have x1 : wr.cell? ⟨w.heap.size, 1, none⟩ = some (.int .i64 x.val) := bb.cell 1
      have x2 : wr.cell? ⟨w.heap.size, 2, none⟩ = some (.bool x.dead) := bb.cell 2
      have fx0 := bb.frozen 0
      have fx1 := bb.frozen 1
      have fx2 := bb.frozen 2
      have HBB := Lib.hid bb
      obtain ⟨G, hG⟩ : ∃ G, isE o = G := ⟨_, rfl⟩
      rw [hG]
      have HG := Lib.hid hG
      clear hfin hx bb hG
      go_wp2_with fail
      have bFy := put3 HBB.out (.int .i64 x.key) (.int .i64 x.val) (.bool x.dead)
      have e0y := bFy.cell 0
      have e1y := bFy.cell 1
      have e2y := bFy.cell 2
      simp only [List.getElem?_toArray, List.getElem?_cons_zero, List.getElem?_cons_succ] at e0y e1y e2y
      refine bodyPost_ret (v := .tuple #[.agg #[.int .i64 x.key, .int .i64 x.val, .bool x.dead], .int .i64 G]) (by simp [results, Tryz.results29, go_sem, e0y, e1y, e2y]) rfl ?_
      exact ⟨o, by rw [HXX.out, HG.out], HFI.out, below3 hI.out.bel (Nat.le_refl _) _ _ _⟩
set_option maxHeartbeats 4000000 in
theorem last1_any (A : Option Addr) (l : List Ent) (cl gk : Nat) (key : Int) (w : World) (hA : Sl w A (l.flatMap Ent.cells)) (hl : l.length ≤ 4611686018427387903) (hK : w.cell? ⟨gk, 0, none⟩ = some (.int .i64 key)) (hT : TabAt 1 Lib.deBruijn64tab w) :
    Calls Tryz.prog 34 #[.agg #[.slice A l.length cl], .pointer (some ⟨gk, 0, none⟩)] w (GivesX (lsX l key) (lsE l key) w) := by
  obtain ⟨W0, hW0⟩ : ∃ W0, (w.alloc (.cells #[.slice A l.length cl] 49)).alloc (.cells #[.int .i64 0, .int .i64 0, .bool false] 46) = W0 := ⟨_, rfl⟩
  have hb0 : Below w.heap.size w W0 := by rw [← hW0]; exact ((Below.refl _ _).alloc (Nat.le_refl _) _).alloc (by simp) _
  have bX0 : Blk W0 w.heap.size 49 #[.slice A l.length cl] := by rw [← hW0]; exact (Blk.new _ _ _).alloc _
  have bR0 : Blk W0 (w.heap.size + 1) 46 #[.int .i64 0, .int .i64 0, .bool false] := by
    rw [← hW0]
    have := Blk.new (w.alloc (.cells #[.slice A l.length cl] 49)) 46 #[.int .i64 0, .int .i64 0, .bool false]
    rwa [World.size_alloc] at this
  have cX0 : W0.cell? ⟨w.heap.size, 0, none⟩ = some (.slice A l.length cl) := bX0.cell 0
  have hkl := World.block_lt_of_cell? w _ hK
  have cK0 : W0.cell? ⟨gk, 0, none⟩ = some (.int .i64 key) := (hb0.cell (p := ⟨gk, 0, none⟩) hkl).trans hK
  have HC := Lib.hid (runLast_any A l cl key W0 (hA.below hb0) hl (tab_below2 hT hb0))
  obtain ⟨p, hp⟩ : ∃ p, lsX l key = p := ⟨_, rfl⟩
  obtain ⟨G, hG⟩ : ∃ p, lsE l key = p := ⟨_, rfl⟩
  have hc := HC.out
  rw [hp, hG] at hc
  rw [hp, hG]
  have HC2 := Lib.hid hc
  have HW0 := Lib.hid hW0
  clear hW0 hc HC hp hG hA hT hK hkl
  go_enter Tryz.func34, Tryz.ntmps34
  go_upto_region 1 with fail
  rw [HW0.out]
  go_wp2_with fail
  refine HC2.out.mono ?_
  rintro e w1 ⟨rfl, hb1⟩
  have bR1 := bR0.below hb1 bR0.lt
  have hb01 := bext hb0 hb1
  have d0 : w1.cell? ⟨w.heap.size + 1, 0, none⟩ = some (.int .i64 0) := bR1.cell 0
  have d1 : w1.cell? ⟨w.heap.size + 1, 1, none⟩ = some (.int .i64 0) := bR1.cell 1
  have d2 : w1.cell? ⟨w.heap.size + 1, 2, none⟩ = some (.bool false) := bR1.cell 2
  have f0 := bR1.frozen 0
  have f1 := bR1.frozen 1
  have f2 := bR1.frozen 2
  clear cX0 cK0
  go_wp2_with fail
  have bFy := put3 bR1 (.int .i64 p.key) (.int .i64 p.val) (.bool p.dead)
  have e0y := bFy.cell 0
  have e1y := bFy.cell 1
  have e2y := bFy.cell 2
  simp only [List.getElem?_toArray, List.getElem?_cons_zero, List.getElem?_cons_succ] at e0y e1y e2y
  refine bodyPost_ret (v := .tuple #[.agg #[.int .i64 p.key, .int .i64 p.val, .bool p.dead], .int .i64 G]) (by simp [results, Tryz.results34, go_sem, e0y, e1y, e2y]) rfl ?_
  exact ⟨rfl, below3 hb01 (Nat.le_succ _) _ _ _⟩
theorem last2_any (a b : Int) (w : World) : Calls Tryz.prog 36 #[.int .i64 a, .int .i64 b] w fun r w' => r = .returned (.bool (ltL a b)) ∧ w' = w := by
  go_enter Tryz.func36, Tryz.ntmps36
  go_wp2
  go_ret
  exact ⟨rfl, rfl⟩
set_option maxHeartbeats 16000000 in
theorem besideLast_any (B : Option Addr) (Rs : List Rm) (k gu gk : Nat) (c : Cfg) (n key : Int) (w : World) (hB : RunsAt w B Rs) (hM : May (lvs Rs)) (hU : Blk w gu 60 (lrow c B Rs.length k n)) (hK : w.cell? ⟨gk, 0, none⟩ = some (.int .i64 key)) (hT : TabAt 1 Lib.deBruijn64tab w) :
    Calls Tryz.prog 29 #[.pointer (some ⟨gu, 0, none⟩), .func (.func 34) #[] #[.pointer (some ⟨gk, 0, none⟩)], .func (.func 36) #[] #[]] w fun r w' =>
      ∃ o : Option Ent, r = .returned (.tuple #[.agg #[.int .i64 (o.getD zeroE).key, .int .i64 (o.getD zeroE).val, .bool (o.getD zeroE).dead], .int .i64 (isE o)]) ∧ BestOk (fun q => decide (q < key)) ltL (lvs Rs) o ∧ Below w.heap.size w w' := by
  obtain ⟨W0, hW0⟩ : ∃ W0, w.alloc (.cells #[.int .i64 0, .int .i64 0, .bool false] 46) = W0 := ⟨_, rfl⟩
  have hb0 : Below w.heap.size w W0 := by rw [← hW0]; exact (Below.refl _ _).alloc (Nat.le_refl _) _
  have bb0 : Blk W0 w.heap.size 46 #[.int .i64 0, .int .i64 0, .bool false] := by rw [← hW0]; exact Blk.new _ _ _
  have bu := hU.below hb0 hU.lt
  have hkl := World.block_lt_of_cell? w _ hK
  have q9 : W0.cell? ⟨gu, 9, none⟩ = some (.slice B Rs.length k) := bu.cell 9
  have HI0 : Hid (BesI w (fun q => decide (q < key)) ltL Rs 0 none W0) := ⟨hb0, bb0, by rw [List.take_zero]; exact best_nil _ _⟩
  have HB := Lib.hid hB
  have HM := Lib.hid hM
  have HK := Lib.hid hK
  have HKL := Lib.hid hkl
  have HT := Lib.hid hT
  have HQ := Lib.hid (rm_le hM)
  have hl17 : Rs.length ≤ 17 := HQ.out.2.1
  have HW0 := Lib.hid hW0
  clear hB hM hU hK hT hW0 hb0 bb0 hkl
  go_enter Tryz.func29, Tryz.ntmps29
  go_upto_region 1 with fail
  rw [HW0.out]
  go_wp2_with fail
  clear q9 bu
  go_loopw [7, 19] (fun v i wr => ∃ (j : Nat) (o : Option Ent), j ≤ Rs.length ∧ i = .int .i64 j ∧ v = .int .i64 (isE o) ∧ Hid (BesI w (fun q => decide (q < key)) ltL Rs j o wr)) (fun _ i _ => Rs.length - (intOf i).toNat)
  case atStart => exact ⟨0, none, Nat.zero_le _, rfl, rfl, HI0.out⟩
  case round =>
    clear HI0
    obtain ⟨j, o, hj, rfl, rfl, hI⟩ := hrel
    by_cases hlt : j < Rs.length
    case pos =>
      obtain ⟨b, off, rfl, hbl, cp⟩ := HB.out.sl.oneB hI.out.bel j hlt
      have hok := (HB.out.ok _ (List.getElem_mem hlt)).below hI.out.bel
      have hrl := HQ.out.1 _ (List.getElem_mem hlt)
      have hlv : lev (lvs Rs) j = (Rs[j]'hlt).l := lvs_lev hlt
      have hck := HM.out.chk j
      rw [hlv] at hck
      have htk : (lvs Rs).take (j + 1) = (lvs Rs).take j ++ [(Rs[j]'hlt).l] := by
        rw [List.take_succ_eq_append_getElem (by rw [lvs_len]; exact hlt)]
        congr 2
        simp [lvs]
      obtain ⟨r, hr⟩ : ∃ r, Rs[j]'hlt = r := ⟨_, rfl⟩
      rw [hr] at cp hok hrl hck htk
      obtain ⟨l, Al, cl⟩ := r
      have cp1 : wr.cell? ⟨b, off + j, none⟩ = some (.slice Al l.length cl) := cp
      dsimp only at hrl hck htk
      have hAsk := ask_last hck key
      have hst := best_step ord_L hI.out.best hAsk
      rw [← htk] at hst
      have hcall : ∀ W, Below wr.heap.size wr W → Calls Tryz.prog 34 #[.agg #[.slice Al l.length cl], .pointer (some ⟨gk, 0, none⟩)] W (GivesX (lsX l key) (lsE l key) W) := fun W hW =>
        last1_any Al l cl gk key W (hok.sl.below hW) (by omega) ((hW.cell (p := ⟨gk, 0, none⟩) (Nat.lt_of_lt_of_le HKL.out hI.out.bel.size)).trans ((hI.out.bel.cell (p := ⟨gk, 0, none⟩) HKL.out).trans HK.out)) (tab_below2 (tab_below2 HT.out hI.out.bel) hW)
      have hv := hAsk.vals
      obtain ⟨X, hX⟩ : ∃ X, lsX l key = X := ⟨_, rfl⟩
      obtain ⟨G, hG⟩ : ∃ X, lsE l key = X := ⟨_, rfl⟩
      rw [hX, hG] at hst hcall
      rw [hG] at hv
      have HST := Lib.hid hst
      have HCA := Lib.hid hcall
      have HV := Lib.hid hv
      have ha1 : Below wr.heap.size wr (wr.alloc (.cells #[.slice Al l.length cl] 49)) := (Below.refl _ _).alloc (Nat.le_refl _) _
      have HA1 := Lib.hid ha1
      have i0 : (0 : Int) ≤ (j : Int) := by omega
      have i1 : (j : Int) < (Rs.length : Int) := by omega
      clear cp hr hok hck hlv htk hAsk hst hcall hv hX hG ha1 hbl
      go_wp2_with fail
      refine (HCA.out _ HA1.out).mono ?_
      rintro e w2 ⟨rfl, hb2⟩
      clear cp1
      have HB2 := Lib.hid (bext HA1.out hb2)
      go_upto_region 6 with fail
      obtain ⟨W3, hW3⟩ : ∃ W, w2.alloc (.cells #[.int .i64 X.key, .int .i64 X.val, .bool X.dead] 46) = W := ⟨_, rfl⟩
      have b3 : Blk W3 w2.heap.size 46 #[.int .i64 X.key, .int .i64 X.val, .bool X.dead] := by rw [← hW3]; exact Blk.new _ _ _
      have HB3 : Hid (Below wr.heap.size wr W3) := by show Below _ _ _; rw [← hW3]; exact bext HB2.out ((Below.refl _ _).alloc (Nat.le_refl _) _)
      try rw [hW3]
      have HBW := Lib.hid (bext hI.out.bel HB3.out)
      have bb3 := hI.out.bb.below HB3.out hI.out.bb.lt
      have HBB := Lib.hid bb3
      obtain ⟨x, hx⟩ : ∃ x, o.getD zeroE = x := ⟨_, rfl⟩
      have HXX := Lib.hid hx
      rw [hx] at bb3
      have y0 : W3.cell? ⟨w2.heap.size, 0, none⟩ = some (.int .i64 X.key) := b3.cell 0
      have y1 : W3.cell? ⟨w2.heap.size, 1, none⟩ = some (.int .i64 X.val) := b3.cell 1
      have y2 : W3.cell? ⟨w2.heap.size, 2, none⟩ = some (.bool X.dead) := b3.cell 2
      have x0 : W3.cell? ⟨w.heap.size, 0, none⟩ = some (.int .i64 x.key) := bb3.cell 0
      have x1 : W3.cell? ⟨w.heap.size, 1, none⟩ = some (.int .i64 x.val) := bb3.cell 1
      have x2 : W3.cell? ⟨w.heap.size, 2, none⟩ = some (.bool x.dead) := bb3.cell 2
      have fx0 := bb3.frozen 0
      have fx1 := bb3.frozen 1
      have fx2 := bb3.frozen 2
      clear hW3 b3 bb3 hx hb2
      have H2 := Lib.hid (fun w => last2_any X.key x.key w)
      rcases HV.out with hg | hg
      · subst hg
        cases o with
        | none =>
          have HS : Hid (stepB ltL none 0 X = some X) := by show _ = _; unfold stepB; rw [if_pos ⟨rfl, .inl rfl⟩]
          have hz : isE none = 6 := rfl
          clear H2
          go_wp2_with fail
          go_roundw
          case rel => exact ⟨j + 1, some X, by omega, by go_num, rfl, below3 HBW.out (Nat.le_refl _) _ _ _, put3 HBB.out _ _ _, by rw [← HS.out]; exact HST.out⟩
          case measure => simp [intOf]; omega
        | some b0 =>
          have hz : isE (some b0) = 0 := rfl
          obtain ⟨V, hV⟩ : ∃ V, ltL X.key x.key = V := ⟨_, rfl⟩
          have h2 := H2.out
          rw [hV] at h2
          have HV2 := Lib.hid hV
          have H3 := Lib.hid h2
          clear H2 h2 hV
          go_wp2_with fail
          refine (H3.out _).mono ?_
          rintro e w4 ⟨rfl, hw4⟩
          subst hw4
          have HQX : Hid (x = b0) := HXX.out.symm
          cases V with
          | true =>
            have HS : Hid (stepB ltL (some b0) 0 X = some X) := by
              show _ = _
              unfold stepB
              rw [if_pos ⟨rfl, .inr (by rw [show (some b0).getD zeroE = b0 from rfl, ← HQX.out]; exact HV2.out)⟩]
            go_wp2_with fail
            go_roundw
            case rel => exact ⟨j + 1, some X, by omega, by go_num, rfl, below3 HBW.out (Nat.le_refl _) _ _ _, put3 HBB.out _ _ _, by rw [← HS.out]; exact HST.out⟩
            case measure => simp [intOf]; omega
          | false =>
            have HS : Hid (stepB ltL (some b0) 0 X = some b0) := by
              show _ = _
              unfold stepB
              rw [if_neg (fun h => by rcases h.2 with h | h; · cases h
                                      · rw [show (some b0).getD zeroE = b0 from rfl, ← HQX.out, HV2.out] at h; cases h)]
            go_wp2_with fail
            go_roundw
            case rel => exact ⟨j + 1, some b0, by omega, by go_num, by first | rfl | simp [isE], HBW.out, HBB.out, by rw [← HS.out]; exact HST.out⟩
            case measure => simp [intOf]; omega
      · subst hg
        have HS : Hid (stepB ltL o 6 X = o) := by show _ = _; unfold stepB; rw [if_neg (fun h => absurd h.1 (by decide))]
        clear H2
        go_wp2_with fail
        go_roundw
        case rel => exact ⟨j + 1, o, by omega, by go_num, by first | rfl | trivial, HBW.out, HBB.out, by rw [← HS.out]; exact HST.out⟩
        case measure => simp [intOf]; omega
    case neg =>
      have hfin := hI.out.best
      rw [List.take_of_length_le (by rw [lvs_len]; omega)] at hfin
      have HFI := Lib.hid hfin
      obtain ⟨x, hx⟩ : ∃ x, o.getD zeroE = x := ⟨_, rfl⟩
      have HXX := Lib.hid hx
      have bb := hI.out.bb
      rw [hx] at bb
      have x0 : wr.cell? ⟨w.heap.size, 0, none⟩ = some (.int .i64 x.key) := bb.cell 0
      have x1 : wr.cell? ⟨w.heap.size, 1, none⟩ = some (.int .i64 x.val) := bb.cell 1
      have x2 : wr.cell? ⟨w.heap.size, 2, none⟩ = some (.bool x.dead) := bb.cell 2
      have fx0 := bb.frozen 0
      have fx1 := bb.frozen 1
      have fx2 := bb.frozen 2
      have HBB := Lib.hid bb
      obtain ⟨G, hG⟩ : ∃ G, isE o = G := ⟨_, rfl⟩
      rw [hG]
      have HG := Lib.hid hG
      clear hfin hx bb hG
      go_wp2_with fail
      have bFy := put3 HBB.out (.int .i64 x.key) (.int .i64 x.val) (.bool x.dead)
      have e0y := bFy.cell 0
      have e1y := bFy.cell 1
      have e2y := bFy.cell 2
      simp only [List.getElem?_toArray, List.getElem?_cons_zero, List.getElem?_cons_succ] at e0y e1y e2y
      refine bodyPost_ret (v := .tuple #[.agg #[.int .i64 x.key, .int .i64 x.val, .bool x.dead], .int .i64 G]) (by simp [results, Tryz.results29, go_sem, e0y, e1y, e2y]) rfl ?_
      exact ⟨o, by rw [HXX.out, HG.out], HFI.out, below3 hI.out.bel (Nat.le_refl _) _ _ _⟩
end Go.Proofs.YtolclahkfmplfaaGreatDoor
