/- Dj Dl Dm Dn Dp ArgsW: texts of the claim, in this order. -/
import Derived.Test.YthbppblmecdekaaDoorWb23
/- Plain facts for the law LadderNear. No program in sight. -/
namespace Go.Proofs.YthbppblmecdekaaDoor
open Go
def toP (e : Ent) : Pr := ⟨e.key, e.val⟩
theorem prR_map {L : Lv} (h : chkR L = 0) : prR L = (allL L).map toP := by
  unfold prR plainE
  rw [if_pos h]
  have : liveE (allL L) = allL L := by unfold allL; exact live_live _
  rw [this]
  rfl
theorem nx_at {L : Lv} (hM : May L) {key : Int} {n : Nat} (hn : n ≤ (allL L).length) (h1 : ∀ j (h : j < (allL L).length), j < n → ((allL L)[j]'h).key < key) (h2 : ∀ h : n < (allL L).length, ¬ ((allL L)[n]'h).key < key) :
    nxO L key = (allL L)[n]? ∧ lsO L key = if n = 0 then none else (allL L)[n - 1]? := by
  have hr := allL_ris hM
  unfold nxO lsO
  generalize allL L = Q at *
  have hlt : ∀ e ∈ Q.take n, e.key < key := fun e he => by
    obtain ⟨i, hi, rfl⟩ := List.getElem_of_mem he
    rw [List.length_take] at hi
    rw [List.getElem_take]
    exact h1 i (by omega) (by omega)
  have hge : ∀ e ∈ Q.drop n, ¬ e.key < key := fun e he => by
    obtain ⟨i, hi, rfl⟩ := List.getElem_of_mem he
    rw [List.length_drop] at hi
    rw [List.getElem_drop]
    have h0 := h2 (by omega)
    by_cases h9 : i = 0
    · subst h9; exact h0
    · have := List.pairwise_iff_getElem.1 hr n (n + i) (by omega) (by omega) (by omega)
      omega
  have hQ : Q = Q.take n ++ Q.drop n := (List.take_append_drop n Q).symm
  have hR : Q.reverse = (Q.drop n).reverse ++ (Q.take n).reverse := by rw [← List.reverse_append, List.take_append_drop]
  constructor
  · rw [show Q.find? (fun e => decide (key ≤ e.key)) = (Q.take n ++ Q.drop n).find? (fun e => decide (key ≤ e.key)) from by rw [← hQ], List.find?_append]
    rw [List.find?_eq_none.2 (fun e he => by have := hlt e he; simp; omega), Option.none_or]
    by_cases hl : n < Q.length
    · rw [List.drop_eq_getElem_cons hl, List.find?_cons_of_pos (by have := h2 hl; simp; omega), List.getElem?_eq_getElem hl]
    · rw [List.drop_eq_nil_of_le (by omega), List.getElem?_eq_none (by omega)]
      rfl
  · rw [hR, List.find?_append]
    rw [List.find?_eq_none.2 (fun e he => by have := hge e (List.mem_reverse.1 he); simp; omega), Option.none_or]
    by_cases hz : n = 0
    · subst hz; simp
    · rw [if_neg hz]
      have hl : n - 1 < Q.length := by omega
      have ht : Q.take n = Q.take (n - 1) ++ [Q[n - 1]'hl] := by
        have h7 := List.take_append_getElem hl
        rw [show n - 1 + 1 = n from by omega] at h7
        exact h7.symm
      rw [ht, List.reverse_append, List.reverse_singleton, List.singleton_append, List.find?_cons_of_pos (by have := h1 (n - 1) hl (by omega); simpa using this), List.getElem?_eq_getElem hl]
structure NearOk (P : List Pr) (n : Nat) (o l : Option Ent) : Prop where
  nx : ∀ h : n < P.length, isE o = 0 ∧ toP (o.getD zeroE) = P[n]'h
  nn : ¬ n < P.length → isE o = 6
  ls : ∀ (h : n - 1 < P.length), 0 < n → isE l = 0 ∧ toP (l.getD zeroE) = P[n - 1]'h
  ln : ¬ 0 < n → isE l = 6
theorem near_ok {c : Cfg} {L : Lv} (he : errL c L = 0) {key : Int} {n : Nat} (hn : n ≤ (prD c L).length) (h1 : ∀ j (h : j < (prD c L).length), j < n → ((prD c L)[j]'h).key < key) (h2 : ∀ h : n < (prD c L).length, ¬ ((prD c L)[n]'h).key < key) :
    NearOk (prD c L) n (nxO L key) (lsO L key) := by
  have hR := (errL_zero he).2.1
  have hP : prD c L = (allL L).map toP := by unfold prD; rw [if_pos he, prR_map hR]
  generalize prD c L = P at *
  subst hP
  rw [List.length_map] at hn
  obtain ⟨g1, g2⟩ := nx_at (chkR_zero.1 hR) (key := key) hn (fun j h hj => by have := h1 j (by simpa using h) hj; simpa [toP] using this) (fun h => by have := h2 (by simpa using h); simpa [toP] using this)
  rw [g1, g2]
  refine ⟨fun h => ?_, fun h => ?_, fun h h0 => ?_, fun h => ?_⟩
  · rw [List.length_map] at h
    rw [List.getElem?_eq_getElem h]
    exact ⟨rfl, by simp⟩
  · rw [List.length_map] at h
    rw [List.getElem?_eq_none (by omega)]
    rfl
  · rw [List.length_map] at h
    rw [if_neg (by omega), List.getElem?_eq_getElem h]
    exact ⟨rfl, by simp⟩
  · rw [if_pos (by omega)]
    rfl
end Go.Proofs.YthbppblmecdekaaDoor

/- Plain facts for the law LadderWalks: the potential of a run. No program in sight. -/
namespace Go.Proofs.YthbppblmecdekaaDoor
open Go
/-- the potential of l entries at level j, below the height H -/
def phi (H : Int) (j l : Nat) : Int := if l = 0 then 0 else (l : Int) * (H - j) + ((2 ^ j : Nat) - (l : Int))
/-- the merge stays at its level -/
theorem rel_same {H : Int} {j a b m : Nat} (ha : 2 ^ j < 2 * a) (ha2 : a ≤ 2 ^ j) (hb : 2 ^ j < 2 * b) (hb2 : b ≤ 2 ^ j) (hm : m ≤ 2 ^ j) (h0 : 0 < m) (hv : m ≤ a + b) (hH : (j : Int) + 2 ≤ H) :
    phi H j m + m ≤ phi H j a + phi H j b := by
  unfold phi
  rw [if_neg (by omega), if_neg (by omega), if_neg (by omega)]
  obtain ⟨D, hD⟩ : ∃ D, H - j = D := ⟨_, rfl⟩
  obtain ⟨p, hp⟩ : ∃ p, 2 ^ j = p := ⟨_, rfl⟩
  rw [hD, hp]
  rw [hp] at ha ha2 hb hb2 hm
  have h1 : ((a : Int) + b - m) * 1 ≤ ((a : Int) + b - m) * D := Int.mul_le_mul_of_nonneg_left (by omega) (by omega)
  simp only [Int.sub_mul, Int.add_mul, Int.mul_one] at h1
  omega
/-- the merge goes up by one level -/
theorem rel_up {H : Int} {j a b m : Nat} (ha : 2 ^ j < 2 * a) (ha2 : a ≤ 2 ^ j) (hb : 2 ^ j < 2 * b) (hb2 : b ≤ 2 ^ j) (hm : 2 ^ j < m) (hv : m ≤ a + b) (hH : (j : Int) + 2 ≤ H) :
    phi H (j + 1) m + m ≤ phi H j a + phi H j b := by
  unfold phi
  rw [if_neg (by omega), if_neg (by omega), if_neg (by omega)]
  obtain ⟨D, hD⟩ : ∃ D, H - j = D := ⟨_, rfl⟩
  obtain ⟨p, hp⟩ : ∃ p, 2 ^ j = p := ⟨_, rfl⟩
  have hD1 : H - ((j + 1 : Nat) : Int) = D - 1 := by omega
  have hp1 : 2 ^ (j + 1) = 2 * p := by rw [Nat.pow_succ, hp]; omega
  rw [hD1, hD, hp1, hp]
  rw [hp] at ha ha2 hb hb2 hm
  have h1 : ((a : Int) + b - m) * 1 ≤ ((a : Int) + b - m) * D := Int.mul_le_mul_of_nonneg_left (by omega) (by omega)
  simp only [Int.sub_mul, Int.add_mul, Int.mul_one] at h1
  rw [Int.mul_sub, Int.mul_one]
  omega
/-- the merge falls to a lower level -/
theorem rel_down {H : Int} {i j a b m : Nat} (ha : 2 ^ j < 2 * a) (hb : 2 ^ j < 2 * b) (hm : m ≤ 2 ^ i) (h0 : 0 < m) (hij : i < j) (hH : (j : Int) + 2 ≤ H) :
    phi H i m + m ≤ phi H j a + phi H j b := by
  have h9 := Nat.two_pow_pos j
  have ha0 : a ≠ 0 := fun h => by rw [h] at ha; omega
  have hb0 : b ≠ 0 := fun h => by rw [h] at hb; omega
  unfold phi
  rw [if_neg (by omega), if_neg ha0, if_neg hb0]
  clear h9
  obtain ⟨t, rfl⟩ : ∃ t, j = i + t := ⟨j - i, by omega⟩
  obtain ⟨D, hD⟩ : ∃ D, H - ((i + t : Nat) : Int) = D := ⟨_, rfl⟩
  have hDi : H - (i : Int) = D + t := by omega
  obtain ⟨q, hq⟩ : ∃ q, 2 ^ i = q := ⟨_, rfl⟩
  obtain ⟨p, hp⟩ : ∃ p, 2 ^ (i + t) = p := ⟨_, rfl⟩
  have hpq : q * 2 ^ t = p := by rw [← hp, ← hq, Nat.pow_add]
  have h2 : 2 * q ≤ p := by
    rw [← hpq, Nat.mul_comm 2 q]
    exact Nat.mul_le_mul_left q (by rw [show t = (t - 1) + 1 from by omega, Nat.pow_succ]; have := Nat.two_pow_pos (t - 1); omega)
  have h3 : m * t ≤ p := by
    rw [← hpq]
    exact Nat.mul_le_mul (by omega) (Nat.le_of_lt Nat.lt_two_pow_self)
  have h4 : (m : Int) * (t : Int) ≤ (p : Int) := by exact_mod_cast h3
  rw [hDi, hD, hp, hq]
  rw [hp] at ha hb
  rw [hq] at hm
  have h1 : ((a : Int) + b - m) * 2 ≤ ((a : Int) + b - m) * D := Int.mul_le_mul_of_nonneg_left (by omega) (by omega)
  simp only [Int.sub_mul, Int.add_mul] at h1
  rw [Int.mul_add]
  omega
/-- the potential of all levels, from level i on -/
def pot (H : Int) : Nat → Lv → Int
  | _, [] => 0
  | i, l :: rs => phi H i l.length + pot H (i + 1) rs
theorem pot_set (H : Int) : ∀ (rs : Lv) (i j : Nat) (l : List Ent) (h : j < rs.length), pot H i (rs.set j l) + phi H (i + j) (rs[j]'h).length = pot H i rs + phi H (i + j) l.length
  | [], _, j, _, h => absurd h (Nat.not_lt_zero j)
  | r :: rs, i, 0, l, _ => by
    rw [List.set_cons_zero]
    unfold pot
    simp only [Nat.add_zero, List.getElem_cons_zero]
    omega
  | r :: rs, i, j + 1, l, h => by
    rw [List.set_cons_succ]
    have ih := pot_set H rs (i + 1) j l (by simpa using h)
    unfold pot
    rw [List.getElem_cons_succ, show i + (j + 1) = i + 1 + j from by omega]
    omega
theorem up_two {a : Nat} (h0 : 0 < a) : 2 ^ up a < 2 * a ∧ a ≤ 2 ^ up a := by
  obtain ⟨h1, h2⟩ := up_spec h0
  refine ⟨?_, h1⟩
  by_cases hz : up a = 0
  · rw [hz]; omega
  · have h3 := h2 (by omega)
    have h4 : 2 ^ up a = 2 ^ (up a - 1) * 2 := by rw [← Nat.pow_succ, show (up a - 1).succ = up a from by omega]
    omega
theorem phi_nonneg {H : Int} {j l : Nat} (h1 : (l : Int) ≤ (2 ^ j : Nat)) (hH : (j : Int) ≤ H) : 0 ≤ phi H j l := by
  unfold phi
  split
  · omega
  · have h2 : (0 : Int) ≤ (l : Int) * (H - j) := Int.mul_nonneg (by omega) (by omega)
    omega
theorem merge_phi {H : Int} {a b m : Nat} (ha : 0 < a) (hb : 0 < b) (hab : up b = up a) (hv : m ≤ a + b) (hH : (up a : Int) + 2 ≤ H) :
    phi H (up m) m + m ≤ phi H (up a) a + phi H (up a) b := by
  obtain ⟨a1, a2⟩ := up_two ha
  obtain ⟨b1, b2⟩ := up_two hb
  rw [hab] at b1 b2
  by_cases h0 : m = 0
  · subst h0
    have p1 := phi_nonneg (H := H) (j := up a) (l := a) (by exact_mod_cast a2) (by omega)
    have p2 := phi_nonneg (H := H) (j := up a) (l := b) (by exact_mod_cast b2) (by omega)
    have p3 : phi H (up 0) 0 = 0 := by unfold phi; rw [if_pos rfl]
    rw [p3]
    omega
  · obtain ⟨m1, m2⟩ := up_two (a := m) (by omega)
    rcases Nat.lt_trichotomy (up m) (up a) with h | h | h
    · exact rel_down a1 b1 m2 (by omega) h hH
    · rw [h] at m1 m2 ⊢
      exact rel_same a1 a2 b1 b2 m2 (by omega) hv hH
    · have h5 : up m = up a + 1 := by
        rcases Nat.lt_or_ge (up a + 1) (up m) with h6 | h6
        · exfalso
          have h7 : 2 ^ (up a + 2) ≤ 2 ^ up m := Nat.pow_le_pow_right (by omega) (by omega)
          have h8 : 2 ^ (up a + 2) = 2 ^ up a * 4 := by rw [Nat.pow_add]
          omega
        · omega
      have h9 : 2 ^ up a < m := by
        rw [h5, Nat.pow_succ] at m1
        omega
      rw [h5]
      exact rel_up a1 a2 b1 b2 h9 hv hH
theorem pot_nonneg {H : Int} : ∀ (rs : Lv) (i : Nat), (∀ j (h : j < rs.length), 0 ≤ phi H (i + j) (rs[j]'h).length) → 0 ≤ pot H i rs
  | [], _, _ => by unfold pot; omega
  | l :: rs, i, h => by
    have h1 := h 0 (by simp)
    have h2 := pot_nonneg rs (i + 1) fun j hj => by
      have h3 := h (j + 1) (by simpa using hj)
      rw [List.getElem_cons_succ, show i + (j + 1) = i + 1 + j from by omega] at h3
      exact h3
    unfold pot
    rw [List.getElem_cons_zero, Nat.add_zero] at h1
    omega
theorem phi_zero (H : Int) (j : Nat) : phi H j 0 = 0 := by unfold phi; rw [if_pos rfl]
theorem stood_phi {H : Int} {rs : Lv} (h : Stood rs) {T : Nat} (ht : tot rs ≤ T) (hT : (up T : Int) ≤ H) (hm : ∀ a b : Nat, a ≤ b → up a ≤ up b) : ∀ j (hj : j < rs.length), 0 ≤ phi H (0 + j) (rs[j]'hj).length := fun j hj => by
  have h1 := h j
  have h2 := tot_lev rs j
  rw [lev_lt hj] at h1 h2
  rw [Nat.zero_add]
  rcases h1 with h1 | h1
  · rw [h1]; exact Int.le_of_eq (phi_zero H j).symm
  · by_cases h0 : (rs[j]'hj).length = 0
    · rw [h0]; exact Int.le_of_eq (phi_zero H j).symm
    · have h3 := (up_two (a := (rs[j]'hj).length) (by omega)).2
      rw [h1] at h3
      have h4 := hm _ _ (show (rs[j]'hj).length ≤ T by omega)
      rw [h1] at h4
      exact phi_nonneg (by exact_mod_cast h3) (by omega)
end Go.Proofs.YthbppblmecdekaaDoor

/- Plain facts for the law LadderWalks: climbing pays by the potential. No program in sight. -/
namespace Go.Proofs.YthbppblmecdekaaDoor
open Go
theorem climb_pot {H : Int} {T : Nat} (hT : (up T : Int) + 2 ≤ H) : ∀ (m : Nat) {rs : Lv} {r : List Ent} {n : Int}, cnt rs ≤ m → Climbs rs r → r.length + tot rs ≤ T → 0 ≤ n → n + pot H 0 rs + phi H (up r.length) r.length ≤ 4611686018427387904 →
    0 ≤ (climb rs r n).2.2 ∧ (climb rs r n).2.2 + pot H 0 (climb rs r n).1 + phi H (up (climb rs r n).2.1.length) (climb rs r n).2.1.length ≤ n + pot H 0 rs + phi H (up r.length) r.length := by
  intro m
  induction m with
  | zero =>
    intro rs r n hm h ht hn hb
    rw [climb_end (.inr (cnt_zero (rs := rs) (by omega) (up r.length)))]
    exact ⟨hn, Int.le_refl _⟩
  | succ m ih =>
    intro rs r n hm h ht hn hb
    by_cases e : r = [] ∨ lev rs (up r.length) = []
    · rw [climb_end e]
      exact ⟨hn, Int.le_refl _⟩
    · have e1 : r ≠ [] := fun x => e (.inl x)
      have e2 : lev rs (up r.length) ≠ [] := fun x => e (.inr x)
      rw [climb_up e1 e2]
      have hj : up r.length < rs.length := by
        rcases Nat.lt_or_ge (up r.length) rs.length with h9 | h9
        · exact h9
        · exact absurd (lev_ge h9) e2
      have h1 := cnt_set rs (up r.length) e2
      have h2 := tot_set_nil rs (up r.length)
      have h3 := h.len
      have hs := (h.stood (up r.length)).resolve_left e2
      have hup := up_mono (show r.length ≤ T by omega)
      have hp := merge_phi (H := H) (a := r.length) (b := (lev rs (up r.length)).length) (m := (mergeR rs r).length) (List.length_pos_iff.2 e1) (List.length_pos_iff.2 e2) hs h3 (by omega)
      have hq := pot_set H rs 0 (up r.length) [] hj
      rw [← lev_lt hj, Nat.zero_add] at hq
      have h0 := phi_zero H (up r.length)
      rw [show ([] : List Ent).length = 0 from rfl, h0] at hq
      have hst := h.step
      have hpn := pot_nonneg (H := H) _ 0 (stood_phi hst.stood (T := T) (by omega) (by omega) (fun _ _ => up_mono))
      have hpm : 0 ≤ phi H (up (mergeR rs r).length) (mergeR rs r).length := by
        by_cases hz : (mergeR rs r).length = 0
        · rw [hz, phi_zero]; exact Int.le_refl _
        · have h8 := up_mono (show (mergeR rs r).length ≤ T by omega)
          exact phi_nonneg (by exact_mod_cast (up_two (by omega)).2) (by omega)
      have hw : IntKind.u64.wrap (n + (mergeR rs r).length) = n + (mergeR rs r).length := IntWalk.u64_in _ (by omega)
      rw [hw]
      obtain ⟨g1, g2⟩ := ih (n := n + (mergeR rs r).length) (by omega) hst (by omega) (by omega) (by omega)
      exact ⟨g1, by omega⟩
end Go.Proofs.YthbppblmecdekaaDoor

/- Plain facts for the law LadderWalks: the potential hangs on the levels alone. No program in sight. -/
namespace Go.Proofs.YthbppblmecdekaaDoor
open Go
theorem pot_none (H : Int) : ∀ (rs : Lv) (i : Nat), (∀ j, lev rs j = []) → pot H i rs = 0
  | [], _, _ => rfl
  | l :: rs, i, h => by
    have h0 : l = [] := by have := h 0; simpa [lev] using this
    have h1 := pot_none H rs (i + 1) fun j => by have := h (j + 1); simpa [lev] using this
    unfold pot
    rw [h0, h1, show ([] : List Ent).length = 0 from rfl, phi_zero]
    rfl
theorem pot_congr (H : Int) : ∀ (a b : Lv) (i : Nat), (∀ j, lev a j = lev b j) → pot H i a = pot H i b
  | [], b, i, h => by rw [pot_none H b i fun j => by rw [← h j, lev_nil]]; rfl
  | a, [], i, h => by rw [pot_none H a i fun j => by rw [h j, lev_nil]]; rfl
  | x :: a, y :: b, i, h => by
    have h0 : x = y := by have := h 0; simpa [lev] using this
    have h1 := pot_congr H a b (i + 1) fun j => by have := h (j + 1); simpa [lev] using this
    unfold pot
    rw [h0, h1]
theorem pot_cut (H : Int) (rs : Lv) : pot H 0 (cutL rs) = pot H 0 rs := pot_congr H _ _ 0 fun j => lev_cut rs j
theorem pot_stand (H : Int) {rs : Lv} {r : List Ent} (h : r = [] ∨ lev rs (up r.length) = []) : pot H 0 (standL rs r) = pot H 0 rs + phi H (up r.length) r.length := by
  by_cases hr : r = []
  · subst hr
    rw [stand_nil, show ([] : List Ent).length = 0 from rfl, phi_zero]
    omega
  · have h1 := h.resolve_left hr
    unfold standL
    rw [if_neg hr]
    have hl : up r.length < (padTo rs (up r.length + 1)).length := by rw [pad_len]; omega
    have h2 := pot_set H (padTo rs (up r.length + 1)) 0 (up r.length) r hl
    rw [← lev_lt hl, lev_pad, h1, show ([] : List Ent).length = 0 from rfl, Nat.zero_add, phi_zero, pot_congr H _ rs 0 (fun j => lev_pad rs _ j)] at h2
    omega
end Go.Proofs.YthbppblmecdekaaDoor

/- Plain facts for the law LadderWalks: what an update lays is paid by the potential. No program in sight. -/
namespace Go.Proofs.YthbppblmecdekaaDoor
open Go Go.RowKit
theorem up_one : up 1 = 0 := rfl
theorem phi_one (H : Int) : phi H 0 1 = H := by simp [phi]
theorem let_pot {H : Int} {T : Nat} (hT : (up T : Int) + 2 ≤ H) {rs : Lv} (h : May rs) {y : Ent} (hy : badEnt y = false) (ht : tot rs ≠ 65536) (hs : 1 + tot rs ≤ T) {n : Int} (h0 : 0 ≤ n) (hb : n + 1 + H + pot H 0 rs ≤ 4611686018427387904) :
    0 ≤ letN rs n y ∧ letN rs n y + pot H 0 (letL rs n y) ≤ n + 1 + H + pot H 0 rs := by
  obtain ⟨a, b, c, d⟩ := climbE_ok h hy ht n
  unfold letN letL
  rw [pot_cut, pot_stand H b]
  clear a b c d
  have hpn := pot_nonneg (H := H) rs 0 (stood_phi h.stood (T := T) (by omega) (by omega) (fun _ _ => up_mono))
  unfold climbE
  split
  · simp only
    rw [show ([] : List Ent).length = 0 from rfl, phi_zero]
    exact ⟨h0, by omega⟩
  · have hw : IntKind.u64.wrap (n + 1) = n + 1 := IntWalk.u64_in _ (by omega)
    rw [hw]
    obtain ⟨g1, g2⟩ := climb_pot hT (cnt rs) (rs := rs) (r := [y]) (n := n + 1) (Nat.le_refl _) (h.climbs hy ht) (by simpa using hs) (by omega) (by rw [show [y].length = 1 from rfl, up_one, phi_one]; omega)
    rw [show [y].length = 1 from rfl, up_one, phi_one] at g2
    exact ⟨g1, by omega⟩
theorem phi_half {H : Int} {j l : Nat} (h1 : (l : Int) ≤ (2 ^ j : Nat)) (hH : 2 * (j : Int) + 2 ≤ H) : (l : Int) * (H + 2) ≤ 2 * phi H j l := by
  unfold phi
  split
  · rename_i h; subst h; simp
  · have h2 : (l : Int) * (H + 2) ≤ (l : Int) * (2 * (H - j)) := Int.mul_le_mul_of_nonneg_left (by omega) (by omega)
    have h3 : (l : Int) * (2 * (H - j)) = 2 * ((l : Int) * (H - j)) := by rw [Int.mul_left_comm]
    omega
theorem pot_half {H : Int} : ∀ (rs : Lv) (i : Nat), (∀ j (hj : j < rs.length), ((rs[j]'hj).length : Int) * (H + 2) ≤ 2 * phi H (i + j) (rs[j]'hj).length) → (tot rs : Int) * (H + 2) ≤ 2 * pot H i rs
  | [], i, _ => by simp [tot, pot]
  | l :: rs, i, h => by
    have h1 := h 0 (by simp)
    have h2 := pot_half rs (i + 1) fun j hj => by
      have h3 := h (j + 1) (by simpa using hj)
      rw [List.getElem_cons_succ, show i + (j + 1) = i + 1 + j from by omega] at h3
      exact h3
    rw [List.getElem_cons_zero, Nat.add_zero] at h1
    rw [tot_cons]
    unfold pot
    rw [Int.natCast_add, Int.add_mul]
    omega
theorem phi_few {H : Int} (v : Nat) (_hH : 0 ≤ H) : phi H (up v) v + v ≤ (v : Int) * (H + 2) := by
  by_cases h0 : v = 0
  · subst h0; rw [phi_zero]; simp
  · obtain ⟨h1, h2⟩ := up_two (a := v) (by omega)
    unfold phi
    rw [if_neg h0]
    have h3 : (v : Int) * (H - (up v : Nat)) ≤ (v : Int) * H := Int.mul_le_mul_of_nonneg_left (by omega) (by omega)
    rw [Int.mul_add]
    omega
theorem slim_pot {H : Int} {T : Nat} (hT : 2 * (up T : Int) + 2 ≤ H) {rs : Lv} (h : May rs) (ht : tot rs ≤ T) {n : Int} (h0 : 0 ≤ n) (hb : n + pot H 0 rs ≤ 4611686018427387904) :
    0 ≤ slimN rs n ∧ slimN rs n + pot H 0 (slimL rs) ≤ n + pot H 0 rs := by
  unfold slimN slimL
  split
  · rename_i e
    unfold fat at e
    have e2 : 2 * (allL rs).length + 2 < tot rs := of_decide_eq_true e
    have hz := h.size
    have c := (slim_alone h.mE).2.2
    rw [pot_stand H (.inr (lev_nil _)), c]
    have hh := pot_half (H := H) rs 0 fun j hj => by
      rw [Nat.zero_add]
      have h1 := h.stood j
      have h2 := tot_lev rs j
      rw [lev_lt hj] at h1 h2
      rcases h1 with h1 | h1
      · rw [h1, show ([] : List Ent).length = 0 from rfl, phi_zero]; simp
      · by_cases h3 : (rs[j]'hj).length = 0
        · rw [h3, phi_zero]; simp
        · have h4 := (up_two (a := (rs[j]'hj).length) (by omega)).2
          have h5 := up_mono (show (rs[j]'hj).length ≤ T by omega)
          rw [h1] at h4 h5
          exact phi_half (by exact_mod_cast h4) (by omega)
    obtain ⟨v, hv⟩ : ∃ v, (allL rs).length = v := ⟨_, rfl⟩
    rw [hv] at e2 ⊢
    have p0 : pot H 0 [] = 0 := rfl
    have p1 := phi_few (H := H) v (by omega)
    have p2 : ((2 * v : Nat) : Int) * (H + 2) ≤ (tot rs : Int) * (H + 2) := Int.mul_le_mul_of_nonneg_right (by omega) (by omega)
    have p3 : ((2 * v : Nat) : Int) * (H + 2) = 2 * ((v : Int) * (H + 2)) := by rw [Int.natCast_mul, Int.mul_assoc]; rfl
    have p4 : (0 : Int) ≤ (tot rs : Int) * (H + 2) := Int.mul_nonneg (by omega) (by omega)
    have hw : IntKind.u64.wrap (n + v) = n + v := IntWalk.u64_in _ (by omega)
    rw [hw, p0]
    omega
  · exact ⟨h0, Int.le_refl _⟩
theorem add_pot {H : Int} {T : Nat} (hT : 2 * (up T : Int) + 2 ≤ H) {rs : Lv} {y : Ent} (h : addE rs y = 0) (hs : 1 + tot rs ≤ T) {n : Int} (h0 : 0 ≤ n) (hb : n + 1 + H + pot H 0 rs ≤ 4611686018427387904) :
    0 ≤ addN rs n y ∧ addN rs n y + pot H 0 (addL rs n y) ≤ n + 1 + H + pot H 0 rs := by
  obtain ⟨h1, h2, h3⟩ := addE_zero.1 h
  unfold addN addL
  rw [if_pos h, if_pos h]
  obtain ⟨a, b⟩ := let_pot (T := T) (by omega) h1 h3 h2 hs h0 hb
  have c := (letL_tot h1 h3 h2 n).1
  obtain ⟨d, e⟩ := slim_pot hT (let_may h1 h3 h2 n) (by omega) a (by omega)
  exact ⟨d, by omega⟩
/-- behind i updates, with at most M keys: few entries were laid -/
structure Paid (i M : Nat) (L : Lv) (n : Int) : Prop where
  may : May L
  few : tot L ≤ 2 * (allL L).length + 2
  most : (allL L).length ≤ M
  lim : M ≤ 65536
  pos : 0 ≤ n
  paid : ∀ H : Int, 2 * (up (2 * M + 3) : Int) + 2 ≤ H → H ≤ 1000 → n + pot H 0 L ≤ i * (H + 1)
theorem paid_zero (h : May []) : Paid 0 0 [] 0 := ⟨h, by simp [tot], by simp [allL, allE, liveE], by omega, Int.le_refl _, fun H _ _ => by simp [pot]⟩
theorem Paid.same {i M : Nat} {L : Lv} {n : Int} (h : Paid i M L n) : Paid (i + 1) (max M (allL L).length) L n := by
  have hm : max M (allL L).length = M := by have := h.most; omega
  rw [hm]
  refine ⟨h.may, h.few, h.most, h.lim, h.pos, fun H h1 h2 => ?_⟩
  have h4 := h.paid H (by omega) h2
  rw [Int.natCast_add, Int.add_mul]
  omega
theorem Paid.add {i M : Nat} {L : Lv} {n : Int} {y : Ent} (h : Paid i M L n) (hi : i ≤ 1000) (hy : addE L y = 0) : Paid (i + 1) (max M (allL (addL L n y)).length) (addL L n y) (addN L n y) := by
  obtain ⟨a, b, _⟩ := add_may hy n
  have hlim := h.lim
  have hlv := allL_le (rs := addL L n y)
  have hsz := a.size
  obtain ⟨M2, hM2⟩ : ∃ M2, max M (allL (addL L n y)).length = M2 := ⟨_, rfl⟩
  rw [hM2]
  have hM : M ≤ M2 := by omega
  have hl : (allL (addL L n y)).length ≤ M2 := by omega
  have h3 := up_mono (show 2 * M + 3 ≤ 2 * M2 + 3 by omega)
  have hf := h.few
  have hm := h.most
  have key : ∀ H : Int, 2 * (up (2 * M + 3) : Int) + 2 ≤ H → H ≤ 1000 → 0 ≤ addN L n y ∧ addN L n y + pot H 0 (addL L n y) ≤ n + 1 + H + pot H 0 L := fun H h1 h2 => by
    have h4 := h.paid H h1 h2
    have h5 : (i : Int) * (H + 1) ≤ 1000 * (H + 1) := Int.mul_le_mul_of_nonneg_right (by omega) (by omega)
    exact add_pot (T := 2 * M + 3) h1 hy (by omega) h.pos (by omega)
  refine ⟨a, b, hl, by omega, ?_, fun H h1 h2 => ?_⟩
  · have h6 : up (2 * M + 3) ≤ 18 := up_le (by omega)
    exact (key 1000 (by omega) (Int.le_refl _)).1
  · have h4 := h.paid H (by omega) h2
    have h5 := (key H (by omega) h2).2
    rw [Int.natCast_add, Int.add_mul]
    omega
theorem Paid.end {i M b : Nat} {L : Lv} {n : Int} (h : Paid i M L n) (hb : M + 2 ≤ 2 ^ b) (hb2 : b ≤ 20) : n ≤ 12 * ((b : Int) + 2) * ((i : Int) + 1) := by
  have h1 : up (2 * M + 3) ≤ b + 1 := up_le (by rw [Nat.pow_succ]; omega)
  have h2 := h.paid (2 * b + 4) (by omega) (by omega)
  have hs := pot_nonneg (H := 2 * (b : Int) + 4) L 0 (stood_phi h.may.stood (T := 2 * M + 3) (by have := h.few; have := h.most; omega) (by omega) (fun _ _ => up_mono))
  have h3 : (i : Int) * (2 * b + 4 + 1) ≤ i * (12 * (b + 2)) := Int.mul_le_mul_of_nonneg_left (by omega) (by omega)
  have h4 : 12 * ((b : Int) + 2) * ((i : Int) + 1) = i * (12 * (b + 2)) + 12 * (b + 2) := by rw [Int.mul_add, Int.mul_one, Int.mul_comm]
  omega
theorem bits_end {z M : Nat} (hz : z ≤ 20) (hM : M ≤ 65536) (hno : ¬ (wrap64 ((2 : Int) ^ z) < (M : Int) + 2 ∧ (z : Int) < 20)) : M + 2 ≤ 2 ^ z := by
  by_cases hz2 : z = 20
  · have h1 : 2 ^ 17 ≤ 2 ^ z := Nat.pow_le_pow_right (by omega) (by omega)
    have h2 : (2 : Nat) ^ 17 = 131072 := by decide
    rw [h2] at h1
    omega
  · have hp20 : 2 ^ z ≤ 2 ^ 20 := Nat.pow_le_pow_right (by omega) hz
    have h2 : (2 : Nat) ^ 20 = 1048576 := by decide
    rw [h2] at hp20
    have hpc : ((2 : Int) ^ z) = ((2 ^ z : Nat) : Int) := by simp
    rw [hpc] at hno
    obtain ⟨p, hp⟩ : ∃ p, 2 ^ z = p := ⟨_, rfl⟩
    rw [hp] at hno hp20 ⊢
    clear hp hpc h2
    rw [IntWalk.wrap64_in (p : Int) (by omega)] at hno
    omega
theorem bits_no {z M : Nat} (hz : z ≤ 20) (h : (decide (2 ^ z < M + 2) && decide (z < 20)) = false) : ¬ (wrap64 ((2 : Int) ^ z) < (M : Int) + 2 ∧ (z : Int) < 20) := by
  rintro ⟨h1, h2⟩
  have hpc : ((2 : Int) ^ z) = ((2 ^ z : Nat) : Int) := by simp
  have hp20 : 2 ^ z ≤ 2 ^ 20 := Nat.pow_le_pow_right (by omega) hz
  have h3 : (2 : Nat) ^ 20 = 1048576 := by decide
  rw [h3] at hp20
  rw [hpc] at h1
  obtain ⟨p, hp⟩ : ∃ p, 2 ^ z = p := ⟨_, rfl⟩
  rw [hp] at h1 hp20 h
  clear hp hpc h3
  rw [IntWalk.wrap64_in (p : Int) (by omega)] at h1
  rw [decide_eq_true (show p < M + 2 by omega), decide_eq_true (show z < 20 by omega)] at h
  cases h
theorem Paid.walks {i M z : Nat} {L : Lv} {n : Int} (h : Paid i M L n) (hi : i ≤ 150) (hz : z ≤ 20) (hno : ¬ (wrap64 ((2 : Int) ^ z) < (M : Int) + 2 ∧ (z : Int) < 20)) :
    decide (n ≤ IntKind.u64.wrap (wrap64 (12 * ((z : Int) + 2) * ((i : Int) + 1)))) = true := by
  have hend := h.end (b := z) (bits_end hz h.lim hno) hz
  have hX1 : 0 ≤ 12 * ((z : Int) + 2) := by omega
  have hX2 : 12 * ((z : Int) + 2) ≤ 264 := by omega
  have hX3 := Int.mul_le_mul hX2 (show (i : Int) + 1 ≤ 151 by omega) (by omega) (by omega)
  have hX4 := Int.mul_nonneg hX1 (show 0 ≤ (i : Int) + 1 by omega)
  clear hno
  rw [IntWalk.wrap64_in _ (by omega), IntWalk.u64_in _ (by omega)]
  exact decide_eq_true hend
theorem upE_zero {e0 : Int} {L : Lv} {y : Ent} (h : upE e0 L y = 0) (n : Int) : addE L y = 0 ∧ upL e0 L n y = addL L n y ∧ upN e0 L n y = addN L n y := by
  unfold upE at h
  unfold upL upN
  by_cases h0 : e0 = 0
  · rw [if_pos h0] at h
    rw [if_pos h0, if_pos h0]
    exact ⟨h, rfl, rfl⟩
  · rw [if_neg h0] at h
    exact absurd h h0
end Go.Proofs.YthbppblmecdekaaDoor

/- Configs, and lists of int8, read as data. -/
namespace Go.Proofs.YthbppblmecdekaaDoor
open Go Go.ChangeShapes Go.WideShapes Go.ChangeAt Go.RowKit
set_option maxRecDepth 100000
def i8V (x : Int) : Value := .int .i8 x
theorem read_cfg {H : Type} {enc : TypeId × Value → H} {w : World} {base : Nat} {v : Value} {d : DataW H} {p : List MemPlace} (hok : Value.okWide Tryd.prog w .any base 63 v)
    (h : DataW.Trod enc Tryd.prog w 0 (fun _ => true) true 63 v d p) : ∃ c : Cfg, v = .agg c.row := by
  obtain ⟨cs, rfl, _⟩ := okWide_struct Tryd.underlying63 hok
  obtain ⟨fuel, hf⟩ := h
  obtain ⟨cl⟩ := cs
  obtain ⟨c, e⟩ := dec_cfg _ _ _ hf
  have e2 : cl = c.row.toList := e
  subst e2
  exact ⟨c, rfl⟩
theorem read_i8s {H : Type} {enc : TypeId × Value → H} {w : World} {base : Nat} {v : Value} {d : DataW H} {p : List MemPlace} (hok : Value.okWide Tryd.prog w .any base 78 v)
    (h : DataW.Trod enc Tryd.prog w 0 (fun _ => true) true 78 v d p) : ∃ (A : Option Addr) (l : List Int) (c : Nat), v = .slice A l.length c ∧ Sl w A (l.map i8V) := by
  obtain ⟨a, len, cap, rfl⟩ := okWide_slice Tryd.underlying78 hok
  obtain ⟨fuel, hf⟩ := h
  obtain ⟨A, l, c, h1, h2, h3, h4, h5⟩ := read_slice (v := .slice a len cap) (s := 1) (fun x : Int => [i8V x]) (fun _ => True) (fun _ => rfl) (by omega) Tryd.underlying78 (by kernel_rfl)
    (fun fuel cs y h => by
      obtain ⟨n, e, _⟩ := DataW.trod_int Tryd.underlying80 h
      exact ⟨n, e, trivial⟩) ⟨_, _, _, rfl⟩ hf
  have hm : l.flatMap (fun x => [i8V x]) = l.map i8V := by
    clear h1 h2 h3 h4 h5
    induction l with
    | nil => rfl
    | cons r l ih => rw [List.flatMap_cons, ih]; rfl
  rw [hm] at h4
  exact ⟨A, l, c, h1, h4⟩
end Go.Proofs.YthbppblmecdekaaDoor
