/- G3 Ro Rp Ri: texts of the claim, in this order. -/
import Derived.Test.YtolclahkfmplfaaGreatDoorWg8
import Derived.Test.YtolclahkfmplfaaGreatDoorWg6
import Derived.LoopIn
import Derived.Test.YtolclahkfmplfaaGreatDoorWg1
import Derived.Orders
import Derived.RegionTactic
/- Plain facts: what levels have behind an entry was let in. No program in sight. -/
namespace Go.Proofs.YtolclahkfmplfaaGreatDoor
open Go

/-- an entry that is not dead -/
def lvO (o : Option Ent) : Option Ent := o.bind (fun e => if e.dead then none else some e)
theorem lvO_none : lvO none = none := rfl
theorem lvO_or {a : Option Ent} : lvO ((lvO a).or none) = lvO a := by
  cases a with
  | none => rfl
  | some e => unfold lvO; cases h : e.dead <;> simp [h]
theorem lvO_idem (a : Option Ent) : lvO (lvO a) = lvO a := by
  cases a with
  | none => rfl
  | some e => unfold lvO; cases h : e.dead <;> simp [h]
/-! ### the newest of levels goes by the levels alone -/
theorem newest_pad (rs : Lv) (m : Nat) (k : Int) : newest (padTo rs m) k = newest rs k := by
  unfold padTo
  rw [newest_append]
  have h : newest (List.replicate (m - rs.length) ([] : List Ent)) k = none := by
    generalize m - rs.length = n
    induction n with
    | zero => rfl
    | succ n ih => rw [List.replicate_succ, newest_cons, ih]; rfl
  rw [h]
  cases newest rs k <;> rfl
theorem newest_congr {a b : Lv} (h : ∀ j, lev a j = lev b j) (k : Int) : newest a k = newest b k := by
  rw [← newest_pad a (max a.length b.length) k, ← newest_pad b (max a.length b.length) k]
  congr 1
  refine List.ext_getElem (by rw [pad_len, pad_len]; omega) fun i h1 h2 => ?_
  rw [← lev_lt h1, ← lev_lt h2, lev_pad, lev_pad, h]
theorem newest_split : ∀ (m : Nat) (rs : Lv) (k : Int), (∀ j, j < m → lev rs j = []) → newest rs k = (look (lev rs m) k).or (newest (rs.set m []) k)
  | m, [], k, _ => by rw [lev_nil]; rfl
  | 0, l :: rs, k, _ => by
    show newest (l :: rs) k = (look l k).or (newest ([] :: rs) k)
    rw [newest_cons, newest_cons]; rfl
  | m + 1, l :: rs, k, h => by
    have h0 : l = [] := by simpa [lev] using h 0 (by omega)
    subst h0
    have h1 : lev ([] :: rs) (m + 1) = lev rs m := by simp [lev]
    rw [h1, List.set_cons_succ, newest_cons, newest_cons, newest_split m rs k (fun j hj => by simpa [lev] using h (j + 1) (by omega))]
    rfl
theorem newest_stand {rs : Lv} {r : List Ent} (k : Int) (h0 : r ≠ []) (h : ∀ j, j < up r.length → lev rs j = []) (h1 : lev rs (up r.length) = []) : newest (standL rs r) k = (look r k).or (newest rs k) := by
  rw [newest_split (up r.length) (standL rs r) k (fun j hj => by rw [lev_stand, if_neg (fun x => by omega)]; exact h j hj), lev_stand, if_pos ⟨h0, rfl⟩]
  congr 1
  refine newest_congr (fun j => ?_) k
  rw [lev_set_nil, lev_stand]
  by_cases e : j = up r.length
  · rw [if_pos e, e, h1]
  · rw [if_neg e, if_neg (fun x => e x.2)]
theorem newest_empty {rs : Lv} (h : ∀ j, lev rs j = []) (k : Int) : newest rs k = none := by
  rw [newest_congr (b := []) (fun j => by rw [h, lev_nil]) k]; rfl
theorem mergeR_look {rs : Lv} {r : List Ent} (h : Climbs rs r) (k : Int) : look (mergeR rs r) k = if heldB rs (up r.length) = true then (look r k).or (look (lev rs (up r.length)) k) else lvO ((look r k).or (look (lev rs (up r.length)) k)) := by
  have hn : newest [r, lev rs (up r.length)] k = (look r k).or (look (lev rs (up r.length)) k) := by
    rw [newest_cons, newest_cons, newest_nil]
    cases look (lev rs (up r.length)) k <;> simp
  unfold mergeR
  cases heldB rs (up r.length) with
  | true => rw [if_pos rfl, ← hn]; exact mL_look (h.mE _) k
  | false => rw [if_neg (by decide), ← hn]; exact mL_look_bare (h.mE _) k
theorem mL_live {rs : Lv} (h : mE rs = 0) : deadE (mL rs true) = false := by
  unfold deadE
  rw [List.any_eq_false]
  intro e he
  have h1 : e ∈ inL (mL rs true) := (inL_perm _).mem_iff.2 he
  rw [mL_in true h] at h1
  have h2 : e ∈ liveE (allE (rs.map inL)) := h1
  unfold liveE at h2
  have := (List.mem_filter.1 h2).2
  simpa using this
/-- what stands besides: below a run that goes up all is empty; the uppermost run has no dead entry -/
structure Rises (rs : Lv) (r : List Ent) : Prop where
  low : ∀ j, j < up r.length → lev rs j = []
  top : ∀ j, lev rs j ≠ [] → (∀ i, j < i → lev rs i = []) → deadE (lev rs j) = false
  dead : deadE r = true → ∃ j, up r.length ≤ j ∧ lev rs j ≠ []
theorem rises_step {rs : Lv} {r : List Ent} (hc : Climbs rs r) (h : Rises rs r) (h0 : r ≠ []) : Rises (rs.set (up r.length) []) (mergeR rs r) := by
  have hk : up (mergeR rs r).length ≤ up r.length + 1 := by
    refine up_le ?_
    have h1 := hc.len
    have h2 := (up_spec (n := r.length) (List.length_pos_iff.2 h0)).1
    have h3 : (lev rs (up r.length)).length ≤ 2 ^ up r.length := by
      rcases hc.stood (up r.length) with e | e
      · rw [e]; simp
      · have := List.eq_nil_or_concat (lev rs (up r.length))
        rcases Nat.eq_zero_or_pos (lev rs (up r.length)).length with e2 | e2
        · omega
        · have := (up_spec e2).1; rwa [e] at this
    rw [Nat.pow_succ]; omega
  have hlow : ∀ j, j ≤ up r.length → lev (rs.set (up r.length) []) j = [] := by
    intro j hj
    rw [lev_set_nil]
    split
    · rfl
    · exact h.low j (by omega)
  refine ⟨fun j hj => hlow j (by omega), fun j hj hup => ?_, fun hd => ?_⟩
  · have hjk : up r.length < j := by
      rcases Nat.lt_or_ge (up r.length) j with h1 | h1
      · exact h1
      · exact absurd (hlow j h1) hj
    rw [lev_set_nil, if_neg (by omega)] at hj ⊢
    refine h.top j hj fun i hi => ?_
    have := hup i hi
    rwa [lev_set_nil, if_neg (by omega)] at this
  · cases hh : heldB rs (up r.length) with
    | false =>
      exfalso
      unfold mergeR at hd
      rw [hh] at hd
      have := mL_live (hc.mE (up r.length))
      simp at hd
      rw [this] at hd
      cases hd
    | true =>
      have : ¬ ∀ j, up r.length < j → lev rs j = [] := fun x => by rw [held_false.2 x] at hh; cases hh
      obtain ⟨j, hj⟩ := Classical.not_forall.1 this
      have hj1 : up r.length < j := Classical.byContradiction fun x => hj fun y => absurd y x
      have hj2 : lev rs j ≠ [] := fun x => hj fun _ => x
      exact ⟨j, by omega, by rw [lev_set_nil, if_neg (by omega)]; exact hj2⟩
theorem climb_view : ∀ (m : Nat) {rs : Lv} {r : List Ent} {n : Int} (k : Int), cnt rs ≤ m → Climbs rs r → Rises rs r → Rises (climb rs r n).1 (climb rs r n).2.1 ∧ lvO ((look (climb rs r n).2.1 k).or (newest (climb rs r n).1 k)) = lvO ((look r k).or (newest rs k)) := by
  intro m
  induction m with
  | zero =>
    intro rs r n k hm hc h
    have h0 := cnt_zero (rs := rs) (by omega) (up r.length)
    rw [climb_end (.inr h0)]
    exact ⟨h, rfl⟩
  | succ m ih =>
    intro rs r n k hm hc h
    by_cases e : r = [] ∨ lev rs (up r.length) = []
    · rw [climb_end e]
      exact ⟨h, rfl⟩
    · have e1 : r ≠ [] := fun x => e (.inl x)
      have e2 : lev rs (up r.length) ≠ [] := fun x => e (.inr x)
      rw [climb_up e1 e2]
      have h1 := cnt_set rs (up r.length) e2
      obtain ⟨a, b⟩ := ih (n := IntKind.u64.wrap (n + (mergeR rs r).length)) k (by omega) hc.step (rises_step hc h e1)
      refine ⟨a, ?_⟩
      rw [b, mergeR_look hc, newest_split (up r.length) rs k h.low]
      cases hh : heldB rs (up r.length) with
      | true => rw [if_pos rfl, Option.or_assoc]
      | false =>
        rw [if_neg (by decide)]
        have hn : newest (rs.set (up r.length) []) k = none := by
          refine newest_empty (fun j => ?_) k
          rw [lev_set_nil]
          by_cases e3 : j = up r.length
          · rw [if_pos e3]
          · rw [if_neg e3]
            rcases Nat.lt_or_ge j (up r.length) with h2 | h2
            · exact h.low j h2
            · exact held_false.1 hh j (by omega)
        rw [hn, lvO_or]
        cases look (lev rs (up r.length)) k <;> simp
theorem May.rises {rs : Lv} (h : May rs) {y : Ent} (hy : ¬ (y.dead = true ∧ rs = [])) : Rises rs [y] := by
  have u0 : up ([y] : List Ent).length = 0 := rfl
  refine ⟨fun j hj => by omega, fun j hj hup => ?_, fun hd => ?_⟩
  · have hj1 := (lev_mem hj).1
    refine h.last j ?_
    rcases h.top with e | e
    · subst e; simp at hj1
    · rcases Nat.lt_or_ge j (rs.length - 1) with h1 | h1
      · exact absurd (hup _ h1) e
      · omega
  · have hd2 : y.dead = true := by simpa [deadE] using hd
    rcases h.top with e | e
    · exact absurd ⟨hd2, e⟩ hy
    · exact ⟨_, Nat.zero_le _, e⟩
theorem look_one (y : Ent) (k : Int) : look [y] k = if y.key = k then some y else none := by rw [look_cons]; rfl
/-- what was let in is had; other keys stay -/
theorem let_view {rs : Lv} (h : May rs) {y : Ent} (hy : badEnt y = false) (ht : tot rs ≠ 65536) (n : Int) (k : Int) : lvO (newest (letL rs n y) k) = if y.key = k then lvO (some y) else lvO (newest rs k) := by
  obtain ⟨_, b, _⟩ := climbE_ok h hy ht n
  by_cases hd : y.dead = true ∧ rs = []
  · have h1 : letL rs n y = [] := by
      unfold letL climbE
      rw [if_pos hd]
      dsimp only
      rw [stand_nil, hd.2]; rfl
    rw [h1, newest_nil, hd.2, newest_nil, lvO_none]
    split
    · unfold lvO; simp [hd.1]
    · rfl
  · have hR := h.rises hd
    obtain ⟨c, d⟩ := climb_view (cnt rs) (n := IntKind.u64.wrap (n + 1)) k (Nat.le_refl _) (h.climbs hy ht) hR
    have e1 : climbE rs n y = climb rs [y] (IntKind.u64.wrap (n + 1)) := by unfold climbE; rw [if_neg hd]
    rw [← e1] at c d
    have h2 : newest (letL rs n y) k = (look (climbE rs n y).2.1 k).or (newest (climbE rs n y).1 k) := by
      unfold letL
      rw [newest_congr (lev_cut _) k]
      by_cases e2 : (climbE rs n y).2.1 = []
      · rw [e2, stand_nil]; rfl
      · rcases b with b | b
        · exact absurd b e2
        · exact newest_stand k e2 c.low b
    rw [h2, d, look_one]
    split <;> rfl
theorem let_may {rs : Lv} (h : May rs) {y : Ent} (hy : badEnt y = false) (ht : tot rs ≠ 65536) (n : Int) : May (letL rs n y) := by
  have hs := letL_stood h hy ht n
  have htop : Top (letL rs n y) := cut_top _
  have htot := (letL_tot h hy ht n).2
  refine ⟨?_, htop, letL_chk h hy ht n, hs, fun j hj => ?_, htot⟩
  · rcases htop with e | e
    · rw [e]; simp
    · rcases hs ((letL rs n y).length - 1) with e2 | e2
      · exact absurd e2 e
      · have := up_16 (Nat.le_trans (tot_lev (letL rs n y) ((letL rs n y).length - 1)) htot)
        omega
  · obtain ⟨_, b, _⟩ := climbE_ok h hy ht n
    by_cases hd : y.dead = true ∧ rs = []
    · have h1 : letL rs n y = [] := by
        unfold letL climbE
        rw [if_pos hd]
        dsimp only
        rw [stand_nil, hd.2]; rfl
      rw [h1] at hj; simp at hj
    · obtain ⟨c, _⟩ := climb_view (cnt rs) (n := IntKind.u64.wrap (n + 1)) 0 (Nat.le_refl _) (h.climbs hy ht) (h.rises hd)
      have e1 : climbE rs n y = climb rs [y] (IntKind.u64.wrap (n + 1)) := by unfold climbE; rw [if_neg hd]
      rw [← e1] at c
      have hne : lev (letL rs n y) j ≠ [] := by
        rcases htop with e | e
        · rw [e] at hj; simp at hj
        · rwa [show j = (letL rs n y).length - 1 by omega]
      have habove : ∀ i, j < i → lev (letL rs n y) i = [] := fun i hi => lev_ge (by omega)
      rw [letL_lev] at hne ⊢
      split
      · rename_i e
        rw [if_pos e] at hne
        cases hdd : deadE (climbE rs n y).2.1 with
        | false => rfl
        | true =>
          obtain ⟨i, h1, h2⟩ := c.dead hdd
          rcases b with b | b
          · exact absurd b e.1
          · by_cases h3 : i = up (climbE rs n y).2.1.length
            · subst h3; exact absurd b h2
            · have h4 := habove i (by omega)
              rw [letL_lev, if_neg (fun x => h3 x.2)] at h4
              exact absurd h4 h2
      · rename_i e
        rw [if_neg e] at hne
        refine c.top j hne fun i hi => ?_
        have h4 := habove i hi
        rw [letL_lev] at h4
        split at h4
        · rename_i e2; exact absurd h4 e2.1
        · exact h4
/-! ### levels laid anew -/
theorem all_live {rs : Lv} (h : mE rs = 0) : buildE (allL rs) = 0 ∧ laid (allL rs) = mL rs true := ⟨mL_build true h, (mL_is true h).symm⟩
theorem allL_look {rs : Lv} (h : mE rs = 0) (k : Int) : look (allL rs) k = lvO (newest rs k) := by
  have h1 := mL_look_bare h k
  rw [look_in (mL_chk true h), mL_in true h] at h1
  exact h1
theorem allL_le {rs : Lv} : (allL rs).length ≤ tot rs := by
  unfold allL
  refine Nat.le_trans (live_le _) ?_
  have h1 := fold_len (rs.map inL) []
  have h2 : ((rs.map inL).map List.length).sum = tot rs := by
    unfold tot
    rw [List.map_map]
    congr 1
    refine List.map_congr_left fun l _ => ?_
    simp [inL_length]
  rw [h2] at h1
  simpa [allE] using h1
theorem lev_alone (r : List Ent) (j : Nat) : lev (standL [] r) j = if r ≠ [] ∧ j = up r.length then r else [] := by rw [lev_stand, lev_nil]
theorem alone_top (r : List Ent) : Top (standL [] r) := stand_top (.inl rfl)
theorem alone_tot (r : List Ent) : tot (standL [] r) = r.length := by rw [tot_stand (.inr (lev_nil _))]; simp [tot]
theorem alone_newest (r : List Ent) (k : Int) : newest (standL [] r) k = look r k := by
  by_cases h : r = []
  · subst h; rw [stand_nil]; rfl
  · rw [newest_stand k h (fun j _ => lev_nil j) (lev_nil _), newest_nil]
    cases look r k <;> rfl
theorem alone_may {r : List Ent} (h : chkE r = 0) (hd : deadE r = false) : May (standL [] r) := by
  have hl := (chk_ok h).2.2
  refine ⟨?_, alone_top r, fun j => ?_, fun j => ?_, fun j hj => ?_, by rw [alone_tot]; exact hl⟩
  · rw [stand_len]
    have := up_16 hl
    split
    · simp
    · simp; omega
  · rw [lev_alone]
    split
    · exact h
    · exact chk_nil
  · rw [lev_alone]
    split
    · rename_i e; exact .inr e.2.symm
    · exact .inl rfl
  · rw [lev_alone]
    split
    · exact hd
    · rfl
theorem alone_all {r : List Ent} (h : chkE r = 0) (hd : deadE r = false) : allL (standL [] r) = inL r := by
  have hm := alone_may h hd
  refine look_ext (live_ris (all_ris fun x hx => ?_)) (chk_ris h) fun k => ?_
  · obtain ⟨l, hl, rfl⟩ := List.mem_map.1 hx
    obtain ⟨j, _, e⟩ := lev_of_mem hl
    rw [← e]
    exact chk_ris (hm.chk j)
  · rw [allL_look hm.mE, alone_newest, ← look_in h]
    cases hk : look r k with
    | none => rfl
    | some e =>
      have h1 := (look_key hk).2
      unfold deadE at hd
      rw [List.any_eq_false] at hd
      have h2 := hd e h1
      unfold lvO
      simp at h2
      simp [h2]
theorem slim_alone {rs : Lv} (h : mE rs = 0) : chkE (laid (allL rs)) = 0 ∧ deadE (laid (allL rs)) = false ∧ (laid (allL rs)).length = (allL rs).length := by
  rw [(all_live h).2]
  refine ⟨mL_chk true h, mL_live h, ?_⟩
  rw [← (all_live h).2, laid_length]
/-- few entries -/
theorem slim_may {rs : Lv} (h : May rs) : May (slimL rs) ∧ tot (slimL rs) ≤ 2 * (allL (slimL rs)).length + 2 ∧ ∀ k, lvO (newest (slimL rs) k) = lvO (newest rs k) := by
  obtain ⟨a, b, c⟩ := slim_alone h.mE
  unfold slimL
  split
  · refine ⟨alone_may a b, ?_, fun k => ?_⟩
    · rw [alone_tot, alone_all a b, inL_length]; omega
    · rw [alone_newest, (all_live h.mE).2, mL_look_bare h.mE]
      exact lvO_idem _
  · rename_i e
    refine ⟨h, ?_, fun _ => rfl⟩
    unfold fat at e
    simp at e
    omega
theorem add_may {rs : Lv} {y : Ent} (h : addE rs y = 0) (n : Int) : May (addL rs n y) ∧ tot (addL rs n y) ≤ 2 * (allL (addL rs n y)).length + 2 ∧ ∀ k, lvO (newest (addL rs n y) k) = if y.key = k then lvO (some y) else lvO (newest rs k) := by
  obtain ⟨h1, h2, h3⟩ := addE_zero.1 h
  unfold addL
  rw [if_pos h]
  obtain ⟨a, b, c⟩ := slim_may (let_may h1 h3 h2 n)
  exact ⟨a, b, fun k => by rw [c, let_view h1 h3 h2 n k]⟩
end Go.Proofs.YtolclahkfmplfaaGreatDoor

/- Contracts: eytz.Next, eytz.Place, and what run's inOrder yields. -/
namespace Go.Proofs.YtolclahkfmplfaaGreatDoor
open Go Go.RowKit Go.Shelf
set_option maxRecDepth 100000

attribute [local go_sem] Oper.semAt_some
/-- the end of a function that has held one range over a function: any results -/
theorem postM_gen {F : Fence} {P : Program} {fn : Func} {R : Ending → World → Prop} {tmps : Array Value} {D : Nat} {w : World} {v : Value}
    (hD : w.heap[D]? = some (.deferred (some []))) (hr : (results fn tmps).run P (w.putObj D (.deferred none)) = .ok v (w.putObj D (.deferred none))) (hR : R (.returned v) (w.putObj D (.deferred none))) :
    bodyPostM F 0 P fn R .ret { tmps := tmps, defers := [{ target := .collected D, args := #[] }] } w :=
  ⟨by simp, .inl ⟨_, _, rfl, run_takeDeferred hD, ⟨_, hr, hR⟩⟩⟩

set_option maxHeartbeats 1000000 in
theorem eytzNext_some (n x y k : Nat) (w : World) (hn : n ≤ 65536) (hx : (inord n 0)[k]? = some x) (hy : (inord n 0)[k + 1]? = some y) :
    Calls Tryz.prog 96 #[.int .i64 (n : Nat), .int .i64 (x : Nat)] w fun r w' => r = .returned (.tuple #[.int .i64 (y : Nat), .int .i64 0]) ∧ w = w' := by
  have hxn := inord_lt (List.mem_of_getElem? hx)
  have H := Lib.hid (nxI_some hx hy)
  have hy1 : ((y : Int) == -1) = false := beq_eq_false_iff_ne.2 (by omega)
  clear hx hy
  go_enter Tryz.func96, Tryz.ntmps96
  go_wp2_with fail
  refine (within_ok n x _ hn hxn).mono ?_
  rintro e w1 ⟨rfl, rfl⟩
  go_wp2_with fail
  refine (next_any n x _ _ rfl rfl hn hxn _).mono ?_
  rw [H.out]
  rintro e w2 ⟨rfl, rfl⟩
  go_wp2
  refine bodyPost_ret (v := .tuple #[.int .i64 (y : Nat), .int .i64 0]) (by simp [results, Tryz.results96, go_sem]) rfl ?_
  exact ⟨rfl, rfl⟩
set_option maxHeartbeats 1000000 in
theorem eytzNext_none (n x k : Nat) (w : World) (hn : n ≤ 65536) (hx : (inord n 0)[k]? = some x) (hy : (inord n 0)[k + 1]? = none) :
    Calls Tryz.prog 96 #[.int .i64 (n : Nat), .int .i64 (x : Nat)] w fun r w' => r = .returned (.tuple #[.int .i64 0, .int .i64 6]) ∧ w = w' := by
  have hxn := inord_lt (List.mem_of_getElem? hx)
  have H := Lib.hid (nxI_none hx hy)
  clear hx hy
  go_enter Tryz.func96, Tryz.ntmps96
  go_wp2_with fail
  refine (within_ok n x _ hn hxn).mono ?_
  rintro e w1 ⟨rfl, rfl⟩
  go_wp2_with fail
  refine (next_any n x _ _ rfl rfl hn hxn _).mono ?_
  rw [H.out]
  rintro e w2 ⟨rfl, rfl⟩
  go_wp2
  refine bodyPost_ret (v := .tuple #[.int .i64 0, .int .i64 6]) (by simp [results, Tryz.results96, go_sem]) rfl ?_
  exact ⟨rfl, rfl⟩

set_option maxHeartbeats 1000000 in
theorem place_zero (w : World) :
    Calls Tryz.prog 60 #[.int .i64 0, .int .i64 0] w fun r w' => r = .returned (.tuple #[.int .i64 0, .int .i64 2]) ∧ Below w.heap.size w w' := by
  refine calls_of_in (_F := Fence.wide) ?_
  have hdd : ∀ k : Nat, (Fence.wide.depth.isSome = true → 1 ≤ k) := fun k h => by cases h
  have hwf : ∀ f, Fence.wide.fn f := fun _ => trivial
  have hdp : Fence.wide.depth = none := rfl
  have hro : Fence.wide.round = none := rfl
  have hwz : ∀ W : World, Calls Tryz.prog 81 #[.int .i64 0, .int .i64 0] W fun r w' => r = .returned (.int .i64 2) ∧ W = w' := by
    intro W
    have H0 : Hid (askedE (0 : Nat) = 0) := rfl
    go_enter Tryz.func81, Tryz.ntmps81
    go_wp2_with fail
    refine (asked_any (0 : Nat) _).mono ?_
    rw [H0.out]
    rintro e w1 ⟨rfl, rfl⟩
    go_wp2
    go_ret
    exact ⟨rfl, rfl⟩
  refine callsIn_of_wp_marks Tryz.func60 rfl (hwf _) ?_ hro
  simp only [Tryz.ntmps60, List.size_toArray, List.length_cons, List.length_nil, Nat.reduceAdd, Nat.reduceSub, Array.replicate_succ, Array.replicate_zero, List.push_toArray, List.append_toArray, List.nil_append, List.cons_append]
  gi_wp2_with ((try first | refine ⟨hdp, ?_⟩ | refine ⟨hdd _, ?_⟩); gi_at_call 81; refine (callsIn_wide.2 (hwz _)).mono ?_; rintro e w1 ⟨rfl, rfl⟩)
  refine ⟨.tuple #[.int .i64 0, .int .i64 2], by simp [results, Tryz.results60, go_sem], rfl, ?_⟩
  exact (((Below.refl _ _).alloc (Nat.le_refl _) _).alloc (by simp) _).alloc (by simp; omega) _

set_option maxHeartbeats 2000000 in
theorem place_ok (n k : Nat) (hn : n ≤ 65536) (hk : k < n) (w : World) :
    Calls Tryz.prog 60 #[.int .i64 (n : Nat), .int .i64 (k : Nat)] w fun r w' => r = .returned (.tuple #[.int .i64 ((inord n 0).getD k 0 : Nat), .int .i64 0]) ∧ Below w.heap.size w w' := by
  obtain ⟨at_, hat⟩ : ∃ at_, (inord n 0).getD k 0 = at_ := ⟨_, rfl⟩
  rw [hat]
  have HAT := Lib.hid hat
  clear hat
  refine calls_of_in (_F := Fence.wide) ?_
  have hdd : ∀ k : Nat, (Fence.wide.depth.isSome = true → 1 ≤ k) := fun k h => by cases h
  have hwf : ∀ f, Fence.wide.fn f := fun _ => trivial
  have hdp : Fence.wide.depth = none := rfl
  have hro : Fence.wide.round = none := rfl
  refine callsIn_of_wp_marks Tryz.func60 rfl (hwf _) ?_ hro
  simp only [Tryz.ntmps60, List.size_toArray, List.length_cons, List.length_nil, Nat.reduceAdd, Nat.reduceSub, Array.replicate_succ, Array.replicate_zero, List.push_toArray, List.append_toArray, List.nil_append, List.cons_append]
  gi_wp2_with (first
    | ((try first | refine ⟨hdp, ?_⟩ | refine ⟨hdd _, ?_⟩); gi_at_call 81; refine (callsIn_wide.2 (within_ok n k _ hn hk)).mono ?_; rintro e w1 ⟨rfl, rfl⟩)
    | ((try first | refine ⟨hdp, ?_⟩ | refine ⟨hdd _, ?_⟩); gi_at_call 82; refine (callsIn_wide.2 (places_any _ _)).mono ?_; rintro e w1 ⟨rfl, rfl⟩))
  obtain ⟨g, hg⟩ : ∃ g, w.heap.size = g := ⟨_, rfl⟩
  obtain ⟨W0, hW0⟩ : ∃ W0, ((((w.alloc (.cells #[.int .i64 (k : Nat)] 3)).alloc (.cells #[.int .i64 0] 3)).alloc (.cells #[.int .i64 0] 30)).alloc (.cells #[.int .i64 (n : Nat)] 3)) = W0 := ⟨_, rfl⟩
  rw [hW0]
  have b0 : Blk W0 w.heap.size 3 #[.int .i64 (k : Nat)] := by rw [← hW0]; exact (((Blk.new w _ _).alloc _).alloc _).alloc _
  have b1 : Blk W0 (w.heap.size + 1) 3 #[.int .i64 0] := by
    rw [← hW0]; have := Blk.new (w.alloc (.cells #[.int .i64 (k : Nat)] 3)) 3 #[.int .i64 0]
    rw [World.size_alloc] at this
    exact (this.alloc _).alloc _
  have b2 : Blk W0 (w.heap.size + 1 + 1) 30 #[.int .i64 0] := by
    rw [← hW0]; have := Blk.new ((w.alloc (.cells #[.int .i64 (k : Nat)] 3)).alloc (.cells #[.int .i64 0] 3)) 30 #[.int .i64 0]
    rw [World.size_alloc, World.size_alloc] at this
    exact this.alloc _
  have b3 : Blk W0 (w.heap.size + 1 + 1 + 1) 3 #[.int .i64 (n : Nat)] := by
    rw [← hW0]; have := Blk.new (((w.alloc (.cells #[.int .i64 (k : Nat)] 3)).alloc (.cells #[.int .i64 0] 3)).alloc (.cells #[.int .i64 0] 30)) 3 #[.int .i64 (n : Nat)]
    rwa [World.size_alloc, World.size_alloc, World.size_alloc] at this
  have hb0 : Below w.heap.size w W0 := by
    rw [← hW0]; exact ((((Below.refl _ w).alloc (Nat.le_refl _) _).alloc (by simp) _).alloc (by simp; omega) _).alloc (by simp; omega) _
  have hs0 : W0.heap.size = w.heap.size + 4 := by rw [← hW0]; simp
  clear hW0
  rw [hg] at b0 b1 b2 b3 hb0 hs0 ⊢
  refine wpIn_rangeS hdp hwf hro rfl (enters_of Tryz.func99 (by kernel_rfl) rfl)
    (places1_in n (g + 1 + 1 + 1) hn W0 (b3.cell 0)) (by rintro b rfl; omega) (fun _ h => h.elim) (fun _ => rfl)
    (fun j W => j ≤ k ∧ Blk W g 3 #[.int .i64 (k : Nat)] ∧ Blk W (g + 1) 3 #[.int .i64 0] ∧ Blk W (g + 1 + 1) 30 #[.int .i64 0] ∧ Below g w W)
    (fun c W => c = .ret ∧ Blk W (g + 1) 3 #[.int .i64 (at_ : Nat)] ∧ Blk W (g + 1 + 1) 30 #[.int .i64 0] ∧ Below g w W)
    (fun j => [(17, .int .i64 (j : Nat)), (18, .int .i64 ((inord n 0).getD j 0 : Nat)), (7, .int .i64 (j : Nat)), (8, .int .i64 ((inord n 0).getD j 0 : Nat))])
    ?stab ?stabx ⟨Nat.zero_le _, b0, b1, b2, hb0⟩ ?assign ?body ?done ?stop
  case stab =>
    rintro j A B ⟨hj, hB0, hB1, hB2, hbl⟩ hm
    exact ⟨hj, hB0.mod hm (by simp; omega), hB1.mod hm (by simp; omega), hB2.mod hm (by simp; omega), hbl.trans (hm.below (by have := hB0.lt; omega) (by rintro k (h | h | h) <;> first | exact h.elim | omega))⟩
  case stabx =>
    rintro j A B ⟨hj, hB1, hB2, hbl⟩ hm
    exact ⟨hj, hB1.mod hm (by simp; omega), hB2.mod hm (by simp; omega), hbl.trans (hm.below (by have := hB1.lt; omega) (by rintro k (h | h | h) <;> first | exact h.elim | omega))⟩
  case assign =>
    intro l j hj A C hC
    simp only [placesX]
    gi_wp2
    exact hC
  case body =>
    rintro l j hj A ⟨hjk, hB0, hB1, hB2, hbl⟩ hsA
    have c0 : A.cell? ⟨g, 0, none⟩ = some (.int .i64 (k : Nat)) := hB0.cell 0
    simp only [rt, List.foldl_cons, List.foldl_nil]
    by_cases hjk2 : j = k
    · subst hjk2
      rw [HAT.out]
      have hq : ((j : Int) == (j : Int)) = true := beq_self_eq_true _
      have c1 : A.cell? ⟨g + 1, 0, none⟩ = some (.int .i64 0) := hB1.cell 0
      have c2 : A.cell? ⟨g + 1 + 1, 0, none⟩ = some (.int .i64 0) := hB2.cell 0
      have f1 := hB1.frozen 0
      have f2 := hB2.frozen 0
      gi_wp2
      refine ⟨((Mod.refl _ _).setCell (p := ⟨g + 1, 0, none⟩) (by simp; omega) _).setCell (p := ⟨g + 1 + 1, 0, none⟩) (by simp; omega) _, rfl, ?_, ?_, ?_⟩
      · exact (hB1.set_ 0 _).far (p := ⟨g + 1 + 1, 0, none⟩) (by simp) _
      · have := (hB2.far (p := ⟨g + 1, 0, none⟩) (by simp) (.int .i64 (at_ : Nat))).set_ 0 (.int .i64 0)
        simpa using this
      · exact (hbl.setCell (p := ⟨g + 1, 0, none⟩) (Nat.le_succ _) _).setCell (p := ⟨g + 1 + 1, 0, none⟩) (by show g ≤ g + 1 + 1; omega) _
    · have hq : ((j : Int) == (k : Int)) = false := beq_eq_false_iff_ne.2 (by omega)
      have hjlt : j + 1 ≤ k := by omega
      clear hjk2
      gi_wp2
      exact ⟨Mod.refl _ _, hjlt, hB0, hB1, hB2, hbl⟩
  case done =>
    rintro W ⟨hj, _⟩ hD
    omega
  case stop =>
    rintro c W ⟨rfl, hB1, hB2, hbl⟩ hD
    have hlt1 := hB1.lt
    have hB1' : Blk (W.putObj W0.heap.size (.deferred none)) (g + 1) 3 #[.int .i64 (at_ : Nat)] := hB1.of (World.putObj_heap_other (by omega))
    have hB2' : Blk (W.putObj W0.heap.size (.deferred none)) (g + 1 + 1) 30 #[.int .i64 0] := hB2.of (World.putObj_heap_other (by omega))
    have c1 : (W.putObj W0.heap.size (.deferred none)).cell? ⟨g + 1, 0, none⟩ = some (.int .i64 (at_ : Nat)) := hB1'.cell 0
    have c2 : (W.putObj W0.heap.size (.deferred none)).cell? ⟨g + 1 + 1, 0, none⟩ = some (.int .i64 0) := hB2'.cell 0
    gi_wp2
    subst hg
    refine postM_gen (v := .tuple #[.int .i64 (at_ : Nat), .int .i64 0]) hD (by simp [results, Tryz.results60, go_sem, c1, c2]) ⟨rfl, ?_⟩
    exact hbl.trans ⟨rfl, rfl, rfl, by simp [World.putObj], fun k hk => World.putObj_heap_other (by omega)⟩
end Go.Proofs.YtolclahkfmplfaaGreatDoor

/- What run's inOrder yields. -/
namespace Go.Proofs.YtolclahkfmplfaaGreatDoor
open Go Go.RowKit Go.Shelf
set_option maxRecDepth 100000
attribute [local go_sem] Oper.semAt_some

def inAt (l : List Ent) (k : Nat) : Ent := (inL l).getD k zeroE
def entX (l : List Ent) (k : Nat) : Array Value := #[.agg #[.int .i64 (inAt l k).key, .int .i64 (inAt l k).val, .bool (inAt l k).dead]]
theorem inAt_get {l : List Ent} {k x : Nat} (hx : (inord l.length 0)[k]? = some x) (hl : x < l.length) : inAt l k = l[x]'hl := by
  unfold inAt inL
  rw [List.getD_eq_getElem?_getD, List.getElem?_map, hx]
  simp [entAt_get hl]
/-- how far the iterator has come -/
def atOf (w : World) (B n : Nat) : Nat := match w.cell? ⟨B, 0, none⟩ with | some (.int _ x) => n - (inord n 0).idxOf x.toNat | _ => 0
def goOn (e : Value) (m : Nat) : Nat := match e with | .int _ x => if x = 0 then m + 1 else 0 | _ => 0

set_option maxHeartbeats 2000000 in
theorem inOrder1_in (B1 B2 : Nat) (A : Option Addr) (l : List Ent) (c : Nat) (hl : l.length ≤ 65536) (w : World)
    (hc1 : w.cell? ⟨B1, 0, none⟩ = some (.slice A l.length c)) (hb2 : Blk w B2 3 #[.int .i64 ((inord l.length 0).getD 0 0 : Nat)]) (h12 : B1 ≠ B2) (hA : Sl w A (l.flatMap Ent.cells)) (hA2 : l.length ≠ 0 → ∀ a, A = some a → a.block ≠ B2) :
    Yields Fence.wide Tryz.prog 95 #[.pointer (some ⟨B1, 0, none⟩), .pointer (some ⟨B2, 0, none⟩)] l.length (entX l) (fun b => b = B1 ∨ b = B2 ∨ (l.length ≠ 0 ∧ ∃ a, A = some a ∧ b = a.block)) (fun b => b = B2) w := by
  intro y I X W hsz hKp hI hX hY h0
  have hcW : W.cell? ⟨B1, 0, none⟩ = some (.slice A l.length c) := (World.cell?_of_block (hKp B1 (.inl rfl))).trans hc1
  have hbW : Blk W B2 3 #[.int .i64 ((inord l.length 0).getD 0 0 : Nat)] := hb2.of (hKp B2 (.inr (.inl rfl)))
  have hAW : Sl W A (l.flatMap Ent.cells) := by
    by_cases h0l : l.length = 0
    · left; rw [List.eq_nil_of_length_eq_zero h0l]; rfl
    rcases hA with h | ⟨b, off, hA1, hlt, hc⟩
    · exact .inl h
    · exact .inr ⟨b, off, hA1, Nat.lt_of_lt_of_le hlt hsz, fun j u hu => (World.cell?_of_block (a := ⟨b, off + j, none⟩) (hKp b (.inr (.inr ⟨h0l, _, hA1, rfl⟩)))).trans (hc j u hu)⟩
  have hdd : ∀ k : Nat, (Fence.wide.depth.isSome = true → 1 ≤ k) := fun k h => by cases h
  have hwf : ∀ f, Fence.wide.fn f := fun _ => trivial
  have hdp : Fence.wide.depth = none := rfl
  have hro : Fence.wide.round = none := rfl
  have HH := Lib.hid (And.intro hI (And.intro hX hY))
  clear hI hX hY hKp hb2 hc1 hA
  refine callsIn_of_wp Tryz.func95 rfl (hwf _) ?_ hro
  simp only [Tryz.ntmps95, List.size_toArray, List.length_cons, List.length_nil, Nat.reduceAdd, Nat.reduceSub, Array.replicate_succ, Array.replicate_zero, List.push_toArray, List.append_toArray, List.nil_append, List.cons_append]
  gi_wp2
  gi_loopw [4] (fun e wr => ∃ k : Nat, I k wr ∧ Hid (wr.cell? ⟨B1, 0, none⟩ = some (.slice A l.length c) ∧ Sl wr A (l.flatMap Ent.cells)) ∧
    ((k < l.length ∧ e = .int .i64 0 ∧ Hid (Blk wr B2 3 #[.int .i64 ((inord l.length 0).getD k 0 : Nat)])) ∨ (k = l.length ∧ (l.length = 0 ∧ e = .int .i64 0 ∨ e = .int .i64 6)))) (fun e wr => goOn e (atOf wr B2 l.length))
  case atStart =>
    refine ⟨0, h0, ⟨hcW, hAW⟩, ?_⟩
    by_cases hz : l.length = 0
    · exact .inr ⟨hz.symm, .inl ⟨hz, rfl⟩⟩
    · exact .inl ⟨by omega, rfl, hbW⟩
  case round =>
    clear hcW hbW hAW h0
    obtain ⟨k, hi, hcs, hcase⟩ := hrel
    rcases hcase with ⟨hk, rfl, hb⟩ | ⟨hk, ⟨hz, rfl⟩ | rfl⟩
    · have hkl : k < (inord l.length 0).length := by rw [inord_length]; exact hk
      obtain ⟨x, hx⟩ : ∃ x, (inord l.length 0)[k]? = some x := ⟨_, List.getElem?_eq_getElem hkl⟩
      have hxn : x < l.length := inord_lt (List.mem_of_getElem? hx)
      have hgd : (inord l.length 0).getD k 0 = x := by simp [List.getD, hx]
      have hbx := hb.out
      rw [hgd] at hbx
      have hat := inAt_get hx hxn
      have hcx := hcs.out.1
      obtain ⟨b, off, hAe, hbl, e1, e2, e3⟩ := hcs.out.2.ent x hxn
      rw [← hat] at e1 e2 e3
      subst hAe
      have hne := hA2 (by omega) _ rfl
      have c2 : wr.cell? ⟨B2, 0, none⟩ = some (.int .i64 (x : Nat)) := hbx.cell 0
      have n0 : (0 : Int) < (l.length : Int) := by omega
      have i0 : (0 : Int) ≤ (x : Int) := by omega
      have i1 : (x : Int) < (l.length : Int) := by omega
      have hY' := HH.out.2.2 k wr hk hi
      unfold entX at hY'
      obtain ⟨fn, tmps, assign, body, hy, hR⟩ := hY'
      have HXX := Lib.hid hx
      have HBX := Lib.hid hbx
      have HMW := Lib.hid c2
      have HIDX : Hid ((inord l.length 0).idxOf x = k) := by
        show _ = _
        have := idx_inord hkl
        rw [(List.getElem?_eq_some_iff.1 hx).2] at this
        exact this
      clear hx hat hbx hgd hb
      gi_wp2
      first | refine hR.mono ?_ | refine ⟨rfl, hR.mono ?_⟩ | refine ⟨hwf _, hR.mono ?_⟩
      clear hR hy
      rintro e W2 (⟨rfl, hi2, hs2, hk2⟩ | ⟨rfl, hx2⟩)
      · have hcw2 : W2.cell? ⟨B1, 0, none⟩ = some (.slice (some ⟨b, off, none⟩) l.length c) := (World.cell?_of_block (hk2 B1 (.inl rfl))).trans hcs.out.1
        have hbw2 : Blk W2 B2 3 #[.int .i64 (x : Nat)] := HBX.out.of (hk2 B2 (.inr (.inl rfl)))
        have hAw2 : Sl W2 (some ⟨b, off, none⟩) (l.flatMap Ent.cells) := by
          rcases hcs.out.2 with h | ⟨b', off', hA1, hlt, hc⟩
          · exact .inl h
          · exact .inr ⟨b', off', hA1, Nat.lt_of_lt_of_le hlt hs2, fun j u hu => (World.cell?_of_block (a := ⟨b', off' + j, none⟩) (hk2 b' (.inr (.inr ⟨by omega, _, hA1, rfl⟩)))).trans (hc j u hu)⟩
        have HCS := Lib.hid (And.intro hcw2 hAw2)
        have c2' : W2.cell? ⟨B2, 0, none⟩ = some (.int .i64 (x : Nat)) := hbw2.cell 0
        have f2' : W2.frozen? ⟨B2, 0, none⟩ = false := hbw2.frozen 0
        have HBW := Lib.hid hbw2
        clear hk2 hcw2 hAw2 hbw2 e1 e2 e3 c2 hcx
        have hmd : ∀ v, Mod (fun b => b = B2) W2 (W2.setCell ⟨B2, 0, none⟩ v) := fun v => Mod.setCell (S := fun b => b = B2) (Mod.refl _ _) (p := ⟨B2, 0, none⟩) rfl v
        rcases hnext : (inord l.length 0)[k + 1]? with _ | z
        · have hlen : k + 1 = l.length := by
            have h1 := (List.getElem?_eq_none_iff.1 hnext)
            rw [inord_length] at h1
            omega
          have HLN := Lib.hid hlen
          have HNX := Lib.hid hnext
          have HMD := Lib.hid hmd
          clear hnext hlen hmd
          gi_wp2_with ((try first | refine ⟨hdp, ?_⟩ | refine ⟨hdd _, ?_⟩); gi_at_call 96; refine (callsIn_wide.2 (eytzNext_none l.length x k _ hl HXX.out HNX.out)).mono ?_; rintro e w1 ⟨rfl, rfl⟩)
          go_roundw
          case rel =>
            have hm := HMD.out (.int .i64 0)
            refine ⟨k + 1, HH.out.1 _ _ _ hi2 hm, ⟨(hm.cell (p := ⟨B1, 0, none⟩) (World.block_lt_of_cell? _ _ HCS.out.1) h12).trans HCS.out.1, HCS.out.2.mod hm (fun a ha => by cases ha; exact hne)⟩, .inr ⟨HLN.out, .inr rfl⟩⟩
          case measure => simp [goOn]
        · have HNX := Lib.hid hnext
          have hkn : k + 1 < l.length := by have := (List.getElem?_eq_some_iff.1 hnext).1; rwa [inord_length] at this
          have HMD := Lib.hid hmd
          have HID2 : Hid ((inord l.length 0).idxOf z = k + 1) := by
            show _ = _
            have hh : k + 1 < (inord l.length 0).length := by rw [inord_length]; exact hkn
            have := idx_inord hh
            rw [(List.getElem?_eq_some_iff.1 hnext).2] at this
            exact this
          clear hnext hmd
          gi_wp2_with ((try first | refine ⟨hdp, ?_⟩ | refine ⟨hdd _, ?_⟩); gi_at_call 96; refine (callsIn_wide.2 (eytzNext_some l.length x z k _ hl HXX.out HNX.out)).mono ?_; rintro e w1 ⟨rfl, rfl⟩)
          have hbz : Blk (W2.setCell ⟨B2, 0, none⟩ (.int .i64 (z : Nat))) B2 3 #[.int .i64 (z : Nat)] := by
            have := HBW.out.set_ 0 (.int .i64 (z : Nat))
            simpa using this
          go_roundw
          case rel =>
            have hm := HMD.out (.int .i64 (z : Nat))
            refine ⟨k + 1, HH.out.1 _ _ _ hi2 hm, ⟨(hm.cell (p := ⟨B1, 0, none⟩) (World.block_lt_of_cell? _ _ HCS.out.1) h12).trans HCS.out.1, HCS.out.2.mod hm (fun a ha => by cases ha; exact hne)⟩, .inl ⟨hkn, rfl, ?_⟩⟩
            show Blk _ _ _ _
            rw [show (inord l.length 0).getD (k + 1) 0 = z by simp [List.getD, HNX.out]]
            exact hbz
          case measure =>
            have h1 : atOf (W2.setCell ⟨B2, 0, none⟩ (.int .i64 (z : Nat))) B2 l.length = l.length - (k + 1) := by
              unfold atOf
              rw [hbz.cell 0]
              simp [HID2.out]
            have h2 : atOf wr B2 l.length = l.length - k := by
              unfold atOf
              rw [show wr.cell? ⟨B2, 0, none⟩ = some (.int .i64 (x : Nat)) from HMW.out]
              simp [HIDX.out]
            show goOn _ _ < goOn _ _
            rw [h1, h2]
            simp [goOn]
            omega
      · gi_wp2
        first | refine bodyPost_ret (results_none rfl _ _ _) rfl ?_ | refine bodyPost_end (results_none rfl _ _ _) rfl ?_
        exact ⟨⟨_, rfl⟩, .inr hx2⟩
    · subst hk
      have hz2 : ((l.length : Int) ≤ 0) := by omega
      have HI2 := Lib.hid hi
      clear hz
      gi_wp2
      refine bodyPost_end (results_none rfl _ _ _) rfl ?_
      exact ⟨⟨_, rfl⟩, .inl HI2.out⟩
    · subst hk
      have HI2 := Lib.hid hi
      by_cases hz : l.length = 0
      · have hz2 : ((l.length : Int) ≤ 0) := by omega
        clear hz
        gi_wp2
        refine bodyPost_end (results_none rfl _ _ _) rfl ?_
        exact ⟨⟨_, rfl⟩, .inl HI2.out⟩
      · have hz2 : (0 : Int) < (l.length : Int) := by omega
        clear hz
        gi_wp2
        refine bodyPost_end (results_none rfl _ _ _) rfl ?_
        exact ⟨⟨_, rfl⟩, .inl HI2.out⟩
end Go.Proofs.YtolclahkfmplfaaGreatDoor

/- A region that draws its order, by what holds behind each operation, whichever have come up. No program in sight. -/
namespace Go.Proofs.YtolclahkfmplfaaGreatDoor
open Go Go.RowKit

theorem inv_any {P : Program} {ops : Array Oper} {Q : Exit → Act → World → Prop} {md : Region.Mode} (I : (Nat → Bool) → Act → World → Prop)
    (hwf : ∀ (i : Nat) (o : Oper), ops[i]? = some o → ∀ e ∈ o.after, Region.binds md e = true → e.on < i)
    (hstep : ∀ (L : Nat → Bool) (a : Act) (w : World) (i : Nat) (o : Oper), ops[i]? = some o → L i = false → (∀ e ∈ o.after, Region.binds md e = true → L e.on = true) → I L a w → wpOp P ops Q i (fun a' w' => I (fun j => if j = i then true else L j) a' w') a w)
    (hend : ∀ L a w, (∀ i, i < ops.size → L i = true) → I L a w → Q .normal a w) :
    ∀ (fuel : Nat) (listed : Array Bool) a w, listed.size = ops.size → listed.toList.countP (· = false) ≤ fuel → I (fun j => listed.getD j false) a w → wpAny P md ops Q fuel listed a w := by
  have hfull : ∀ (listed : Array Bool), listed.size = ops.size → Region.ready md ops listed = [] → ∀ i, i < ops.size → listed.getD i false = true := by
    intro listed hsz hr i
    induction i using Nat.strongRecOn with
    | _ i ih =>
      intro hi
      have hmem : i ∉ Region.ready md ops listed := by rw [hr]; simp
      have ho : ops[i]? = some ops[i] := Array.getElem?_eq_getElem hi
      rw [mem_ready] at hmem
      have hall : ∀ e ∈ (ops[i]).after, Region.binds md e = true → listed.getD e.on false = true := fun e he hb => ih e.on (hwf i _ ho e he hb) (by have := hwf i _ ho e he hb; omega)
      have h2 : ¬ listed.getD i true = false := fun h => hmem ⟨h, _, ho, hall⟩
      have hl : i < listed.size := by omega
      simp [Array.getD, hl] at h2 ⊢
      exact h2
  intro fuel
  induction fuel with
  | zero =>
    intro listed a w hsz hc hI
    have hall : ∀ i, i < ops.size → listed.getD i false = true := by
      intro i hi
      have hl : i < listed.size := by omega
      have hz : listed.toList.countP (· = false) = 0 := by omega
      rw [List.countP_eq_zero] at hz
      have := hz (listed[i]) (by simp)
      simp [Array.getD, hl]
      simpa using this
    refine ⟨?_, hend _ a w hall hI⟩
    cases hr : Region.ready md ops listed with
    | nil => rfl
    | cons x xs =>
      have hx : x ∈ Region.ready md ops listed := by rw [hr]; simp
      rw [mem_ready] at hx
      obtain ⟨h1, o, ho, _⟩ := hx
      have hxs : x < ops.size := (Array.getElem?_eq_some_iff.1 ho).1
      have h2 := hall x hxs
      have hl : x < listed.size := by omega
      simp [Array.getD, hl] at h1 h2
      rw [h1] at h2
      cases h2
  | succ fuel ih =>
    intro listed a w hsz hc hI
    refine ⟨fun hr => hend _ a w (hfull listed hsz hr) hI, fun i hi => ?_⟩
    rw [mem_ready] at hi
    obtain ⟨h1, o, ho, hall⟩ := hi
    have his : i < listed.size := by have := (Array.getElem?_eq_some_iff.1 ho).1; omega
    have hLi : listed.getD i false = false := by simpa [Array.getD, his] using h1
    refine wpOp_mono (fun a' w' h => ih (listed.setIfInBounds i true) a' w' (by simpa using hsz) ?_ ?_) (hstep _ a w i o ho hLi hall hI)
    · have hcnt : ∀ (l : List Bool) (i : Nat) (hi : i < l.length), l[i]'hi = false → (l.set i true).countP (· = false) + 1 = l.countP (· = false) := by
        intro l
        induction l with
        | nil => intro i hi; simp at hi
        | cons x l ihl =>
          intro i hi hx
          cases i with
          | zero => simp at hx; subst hx; simp
          | succ i =>
            have := ihl i (by simpa using hi) (by simpa using hx)
            simp only [List.set_cons_succ, List.countP_cons]
            omega
      have hb : listed[i]'his = false := by simpa [Array.getD, his] using hLi
      have := hcnt listed.toList i (by simpa using his) (by simpa using hb)
      rw [Array.toList_setIfInBounds]
      omega
    · have hfun : (fun j => (listed.setIfInBounds i true).getD j false) = (fun j => if j = i then true else listed.getD j false) := by
        funext j
        by_cases hj : j = i
        · subst hj; simp [Array.getD, his]
        · rw [if_neg hj]; exact getD_set_ne false (fun e => hj e.symm)
      rw [hfun]
      exact h

/-- a region that draws its order -/
theorem region_inv {P : Program} {id : Nat} {ops : Array Oper} {Q : Exit → Act → World → Prop} {a0 : Act} {w0 : World} (hm : P.follows .mixedOrders = true)
    (hwf : (List.range ops.size).all (fun i => ((ops[i]?).map fun o => o.after.all fun e => !Region.binds .any e || decide (e.on < i)).getD true) = true)
    (I : (Nat → Bool) → Act → World → Prop) (h0 : I (fun _ => false) a0 w0.drew)
    (hstep : ∀ (L : Nat → Bool) (a : Act) (w : World) (i : Nat) (o : Oper), ops[i]? = some o → L i = false → (∀ e ∈ o.after, Region.binds .any e = true → L e.on = true) → I L a w → wpOp P ops Q i (fun a' w' => I (fun j => if j = i then true else L j) a' w') a w)
    (hend : ∀ L a w, (∀ i, i < ops.size → L i = true) → I L a w → Q .normal a w) : (Code.region id ops true).wp P Q a0 w0 := by
  refine wp_region_any hm ?_
  refine inv_any I ?_ hstep hend ops.size (Array.replicate ops.size false) a0 _ (by simp) (Nat.le_trans List.countP_le_length (by simp)) ?_
  · intro i o ho e he hb
    rw [List.all_eq_true] at hwf
    have := hwf i (by simpa using (Array.getElem?_eq_some_iff.1 ho).1)
    rw [ho] at this
    simp [Array.all_eq_true] at this
    obtain ⟨k, hk, rfl⟩ := Array.mem_iff_getElem.1 he
    have h := this k hk
    rw [hb] at h
    simpa using h
  · have : (fun j => (Array.replicate ops.size false).getD j false) = fun _ => false := by
      funext j
      by_cases hj : j < ops.size <;> simp [Array.getD, hj]
    rw [this]
    exact h0
end Go.Proofs.YtolclahkfmplfaaGreatDoor
