/- Na Eq Dg: texts of the claim, in this order. -/
import Derived.Test.YtolclahkfmplfaaGreatDoorWn2
import Derived.Test.YtolclahkfmplfaaGreatDoorWn3
import Derived.Test.YtolclahkfmplfaaGreatDoorWn6
import Derived.Test.YtolclahkfmplfaaGreatDoorWg10
import Derived.Test.YtolclahkfmplfaaGreatDoorWg15
import Derived.Test.YtolclahkfmplfaaGreatDoorWg12
import Derived.Test.YtolclahkfmplfaaGreatDoorWg6
/- Plain facts for the law LadderNames: what maps hold behind puts. No program in sight. -/
namespace Go.Proofs.YtolclahkfmplfaaGreatDoor
open Go
/-- the keys in runs -/
def KeysQ (q : Int → Prop) (L : Lv) : Prop := ∀ l ∈ L, ∀ e ∈ l, q e.key
theorem bothE_mem : ∀ (n : Nat) (a b : List Ent), a.length + b.length ≤ n → ∀ e ∈ bothE a b, e ∈ a ∨ e ∈ b := by
  intro n
  induction n with
  | zero => intro a b h e he; cases a <;> cases b <;> simp at h; simp [bothE] at he
  | succ n ih =>
    intro a b h e he
    match a, b with
    | [], b => rw [bothE] at he; exact .inr he
    | x :: a, [] => rw [bothE] at he; exact .inl he
    | x :: a, y :: b =>
      simp only [List.length_cons] at h
      rw [bothE] at he
      split at he
      · rcases List.mem_cons.1 he with k | k
        · exact .inl (k ▸ List.mem_cons_self)
        · rcases ih a (y :: b) (by simp; omega) e k with j | j
          · exact .inl (List.mem_cons_of_mem _ j)
          · exact .inr j
      · split at he
        · rcases List.mem_cons.1 he with k | k
          · exact .inl (k ▸ List.mem_cons_self)
          · rcases ih a b (by omega) e k with j | j
            · exact .inl (List.mem_cons_of_mem _ j)
            · exact .inr (List.mem_cons_of_mem _ j)
        · rcases List.mem_cons.1 he with k | k
          · exact .inr (k ▸ List.mem_cons_self)
          · rcases ih (x :: a) b (by simp; omega) e k with j | j
            · exact .inl j
            · exact .inr (List.mem_cons_of_mem _ j)
theorem lev_in {q : Int → Prop} {L : Lv} (h : KeysQ q L) (j : Nat) : ∀ e ∈ lev L j, q e.key := by
  intro e he
  unfold lev at he
  rw [List.getD_eq_getElem?_getD] at he
  by_cases hj : j < L.length
  · rw [List.getElem?_eq_getElem hj] at he
    exact h _ (List.getElem_mem hj) e he
  · rw [List.getElem?_eq_none (by omega)] at he
    cases he
theorem mL_in2 {q : Int → Prop} {a b : List Ent} (bare : Bool) (ha : ∀ e ∈ a, q e.key) (hb : ∀ e ∈ b, q e.key) : ∀ e ∈ mL [a, b] bare, q e.key := by
  intro e he
  unfold mL at he
  split at he
  · have h1 := laid_mem he
    have h2 : e ∈ allE [inL a, inL b] := by
      unfold bareE at h1
      split at h1
      · exact (List.mem_filter.1 h1).1
      · exact h1
    rw [all_two] at h2
    rcases bothE_mem _ _ _ (Nat.le_refl _) e h2 with k | k
    · exact ha e (inL_mem k)
    · exact hb e (inL_mem k)
  · cases he
theorem set_in {q : Int → Prop} {L : Lv} (h : KeysQ q L) (j : Nat) {r : List Ent} (hr : ∀ e ∈ r, q e.key) : KeysQ q (L.set j r) := by
  intro l hl e he
  rcases List.mem_or_eq_of_mem_set hl with k | k
  · exact h l k e he
  · exact hr e (k ▸ he)
theorem climb_in {q : Int → Prop} : ∀ (m : Nat) {rs : Lv} {r : List Ent} {n : Int}, cnt rs ≤ m → KeysQ q rs → (∀ e ∈ r, q e.key) → KeysQ q (climb rs r n).1 ∧ ∀ e ∈ (climb rs r n).2.1, q e.key := by
  intro m
  induction m with
  | zero =>
    intro rs r n hm h hr
    have h0 := cnt_zero (rs := rs) (by omega) (up r.length)
    rw [climb_end (.inr h0)]
    exact ⟨h, hr⟩
  | succ m ih =>
    intro rs r n hm h hr
    by_cases h1 : r ≠ [] ∧ lev rs (up r.length) ≠ []
    · rw [climb_up h1.1 h1.2]
      have hc := cnt_set rs (up r.length) h1.2
      exact ih (by omega) (set_in h _ (by simp)) (by unfold mergeR; exact mL_in2 _ hr (lev_in h _))
    · rw [climb_end (by
        by_cases h2 : r = []
        · exact .inl h2
        · by_cases h3 : lev rs (up r.length) = []
          · exact .inr h3
          · exact absurd ⟨h2, h3⟩ h1)]
      exact ⟨h, hr⟩
theorem stand_in {q : Int → Prop} {L : Lv} (h : KeysQ q L) {r : List Ent} (hr : ∀ e ∈ r, q e.key) : KeysQ q (standL L r) := by
  unfold standL
  split
  · exact h
  · refine set_in ?_ _ hr
    intro l hl e he
    obtain ⟨j, _, rfl⟩ := lev_of_mem hl
    rw [lev_pad] at he
    exact lev_in h _ e he
theorem addL_in {q : Int → Prop} {L : Lv} (h : KeysQ q L) (n : Int) (y : Ent) (hy : q y.key) : KeysQ q (addL L n y) := by
  unfold addL
  split
  case isFalse => intro l hl; cases hl
  case isTrue ha =>
  have hc : KeysQ q (climbE L n y).1 ∧ ∀ e ∈ (climbE L n y).2.1, q e.key := by
    unfold climbE
    split
    · exact ⟨h, by simp⟩
    · exact climb_in _ (Nat.le_refl _) h (by intro e he; rw [List.mem_singleton.1 he]; exact hy)
  have hl : KeysQ q (letL L n y) := by
    unfold letL cutL
    intro l hl e he
    exact stand_in hc.1 hc.2 l (List.mem_of_mem_take hl) e he
  unfold slimL
  split
  · refine stand_in (by intro l hl; cases hl) fun e he => ?_
    obtain ⟨h1, h2, h3⟩ := addE_zero.1 ha
    obtain ⟨l, k1, k2⟩ := all_in (let_may h1 h3 h2 n) (laid_mem he)
    exact hl l k1 e k2
  · exact hl
/-- a map of the chapter's config that has these live entries -/
structure PM (L : Lv) (A : List Ent) : Prop where
  err : errL chap L = 0
  all : allL L = A
  key : KeysQ (fun k => 0 ≤ k ∧ k ≤ 7) L
theorem PM.may {L : Lv} {A : List Ent} (h : PM L A) : May L := chkR_zero.1 (errL_zero h.err).2.1
theorem PM.pr {L : Lv} {A : List Ent} (h : PM L A) : prD chap L = A.map toP := by
  unfold prD
  rw [if_pos h.err, prR_map (errL_zero h.err).2.1, h.all]
theorem PM.size {L : Lv} {A : List Ent} (h : PM L A) : tot L ≤ 2 * A.length + 2 := by
  have h1 := (errL_zero h.err).2.2.2
  rw [prR_len (errL_zero h.err).2.1, h.all] at h1
  exact h1
theorem pm_nil : PM [] [] := ⟨e0, by unfold allL; rfl, fun l hl => by cases hl⟩
theorem look_app (a b : List Ent) (k : Int) : look (a ++ b) k = (look a k).or (look b k) := by
  unfold look
  rw [List.find?_append]
theorem put_look {L : Lv} {key val : Int} (ha : addE L (putY key val) = 0) (n k : Int) : look (allL (addL L n (putY key val))) k = if key = k then some (putY key val) else look (allL L) k := by
  obtain ⟨h1, _, h3⟩ := add_may ha n
  have h4 := (addE_zero.1 ha).1
  rw [allL_look h1.mE, h3 k, allL_look h4.mE]
  rfl
theorem pm_put {L : Lv} {B T : List Ent} {key val : Int} (h : PM L (B ++ T)) (hT : (T = [] ∧ B.length < 8) ∨ ∃ v, T = [⟨key, v, false⟩]) (hr : RisE (B ++ [putY key val])) (hk : 0 ≤ key ∧ key ≤ 7) (hl : (B ++ T).length ≤ 8) (n : Int) :
    upE (putE0 chap L key) L (putY key val) = 0 ∧ PM (upL (putE0 chap L key) L n (putY key val)) (B ++ [putY key val]) := by
  have hsz := h.size
  have hg : upE (putE0 chap L key) L (putY key val) = 0 := by
    rw [put_iff h.err (by omega)]
    rcases hT with ⟨rfl, hB⟩ | ⟨v, rfl⟩
    · right
      rw [h.pr, List.length_map, List.append_nil]
      show ((B.length : Nat) : Int) < 8
      omega
    · left
      rw [isB_ve h.err, ← key_in h.may, h.all]
      simp
  obtain ⟨h0, ha, hL⟩ := up_zero hg n
  have hG := put_gets (n := n) key h.err hg
  refine ⟨hg, hG.err, ?_, ?_⟩
  · rw [hL]
    refine look_ext (allL_ris (add_may ha n).1) hr fun k => ?_
    rw [put_look ha, h.all, look_app, look_app, look_one, show (putY key val).key = key from rfl]
    have hb : look B key = none := by
      unfold look
      rw [List.find?_eq_none]
      intro e he
      have := (List.pairwise_append.1 hr).2.2 e he (putY key val) (by simp)
      rw [show (putY key val).key = key from rfl] at this
      simp
      omega
    by_cases hkk : key = k
    · subst hkk
      rw [if_pos rfl, if_pos rfl, hb]
      rfl
    · rw [if_neg hkk, if_neg hkk]
      congr 1
      rcases hT with ⟨rfl, _⟩ | ⟨v, rfl⟩
      · rfl
      · rw [look_one, if_neg hkk]
  · rw [hL]
    exact addL_in h.key n _ hk
theorem pm_new {P : List Pr} (hr : Ris P) (hl : P.length ≤ 8) (hk : ∀ p ∈ P, 0 ≤ p.key ∧ p.key ≤ 7) : PM (newL P) (P.map aliveE) := by
  have hb := alive_build hr (by omega)
  have hc := build_chk hb
  have hd : deadE (laid (P.map aliveE)) = false := by
    unfold deadE
    rw [List.any_eq_false]
    intro e he
    obtain ⟨p, _, rfl⟩ := List.mem_map.1 (laid_mem he)
    simp [aliveE]
  have hal : allL (newL P) = P.map aliveE := by unfold newL; rw [alone_all hc hd, in_laid]
  have hto : tot (newL P) = P.length := by unfold newL; rw [alone_tot, laid_length, List.length_map]
  have hm : May (newL P) := by unfold newL; exact alone_may hc hd
  refine ⟨errL_ok chap_ok hm (by rw [hal, List.length_map]; show ((P.length : Nat) : Int) ≤ 8; omega) (by rw [hal, hto, List.length_map]; omega), hal, ?_⟩
  unfold newL
  refine stand_in (by intro l hl; cases hl) fun e he => ?_
  obtain ⟨p, hp, rfl⟩ := List.mem_map.1 (laid_mem he)
  exact hk p hp
/-- the entries that the loop lays -/
def puts (j : Nat) : List Ent := (List.range j).map (fun i : Nat => putY (i : Int) 7)
theorem puts_succ (j : Nat) : puts (j + 1) = puts j ++ [putY (j : Int) 7] := by unfold puts; rw [List.range_succ, List.map_append]; rfl
theorem puts_len (j : Nat) : (puts j).length = j := by unfold puts; simp
theorem puts_ris (j : Nat) : RisE (puts j) := by
  unfold puts RisE
  rw [List.pairwise_map]
  refine List.Pairwise.imp_of_mem ?_ (List.pairwise_lt_range (n := j))
  intro a b _ _ h
  show (a : Int) < (b : Int)
  omega
theorem puts_put {L : Lv} {j : Nat} (h : PM L (puts j)) (hj : j < 8) (n : Int) : upE (putE0 chap L (j : Int)) L (putY (j : Int) 7) = 0 ∧ PM (upL (putE0 chap L (j : Int)) L n (putY (j : Int) 7)) (puts (j + 1)) := by
  rw [puts_succ]
  exact pm_put (B := puts j) (T := []) (by rw [List.append_nil]; exact h) (.inl ⟨rfl, by rw [puts_len]; exact hj⟩) (by rw [← puts_succ]; exact puts_ris _) (by omega) (by rw [List.append_nil, puts_len]; omega) n
def xA : List Ent := puts 7 ++ [putY 7 1]
theorem xA_ris : RisE xA := by unfold xA RisE; decide
theorem x_put {L : Lv} (h : PM L (puts 8)) (n : Int) : upE (putE0 chap L 7) L (putY 7 1) = 0 ∧ PM (upL (putE0 chap L 7) L n (putY 7 1)) xA := by
  unfold xA
  exact pm_put (B := puts 7) (T := [putY 7 7]) h (.inr ⟨7, rfl⟩) xA_ris (by omega) (by decide) n
theorem m_not {L : Lv} (h : PM L (puts 8)) : veD chap L 8 = 6 := by
  have := (val_is h.err 8).2.2
  rw [h.pr] at this
  rw [this]
  decide
theorem m_full {L : Lv} (h : PM L (puts 8)) (n val : Int) : upE (putE0 chap L 8) L (putY 8 val) = 9 ∧ upL (putE0 chap L 8) L n (putY 8 val) = [] ∧ upN (putE0 chap L 8) L n (putY 8 val) = 0 := by
  have h0 : putE0 chap L 8 = 9 := by
    unfold putE0
    rw [m_not h, if_pos rfl, prR_len (errL_zero h.err).2.1, h.all]
    decide
  unfold upE upL upN
  rw [h0]
  exact ⟨rfl, rfl, rfl⟩
theorem m_gone {L : Lv} (h : PM L (puts 8)) (n : Int) : upE (veD chap L 8) L (delY 8) = 6 ∧ upL (veD chap L 8) L n (delY 8) = [] ∧ upN (veD chap L 8) L n (delY 8) = 0 := by
  unfold upE upL upN
  rw [m_not h]
  exact ⟨rfl, rfl, rfl⟩
def yP : List Pr := [⟨0, 7⟩]
theorem yP_ris : Ris yP := by decide
theorem y_rg {L : Lv} (h : PM L xA) (n : Int) : rgL chap L 1 7 = newL yP ∧ rgC chap L 1 7 = 7 := by
  have hw : withoutL (prD chap L) 1 7 = yP := by rw [h.pr]; decide
  unfold rgL rgC
  rw [hw, if_pos h.err, if_pos h.err, h.pr]
  exact ⟨rfl, by decide⟩
theorem y_pm : PM (newL yP) (yP.map aliveE) := pm_new yP_ris (by decide) (by decide)
theorem y_pr : prD chap (newL yP) = yP := by rw [y_pm.pr]; rfl
theorem z_me (n : Int) : meE chap (newL yP) chap (newL yP) = 0 ∧ meL chap (newL yP) chap (newL yP) = newL yP := by
  have hb : mgP yP yP = yP := by
    rw [mg_both yP_ris yP_ris (by decide)]
    unfold yP
    simp [bothL]
  obtain ⟨a1, a2, _⟩ := anew_ok (c := chap) (L := newL yP) (l := yP) n y_pm.err (by rw [y_pr]; exact Nat.le_refl _) yP_ris (by decide)
  unfold meE meL
  rw [if_pos y_pm.err, if_pos y_pm.err, if_pos y_pm.err, if_pos y_pm.err, y_pr, hb]
  exact ⟨a1, a2⟩
theorem cz_bad : errC cz = 50 := by unfold errC; rw [if_neg (by decide +kernel)]
theorem cz_err (L : Lv) : errL cz L = 50 := by unfold errL; rw [cz_bad]; rfl
theorem x_me {L : Lv} (h : PM L xA) (n : Int) : meE chap L cz [] = 50 ∧ meL chap L cz [] = [] ∧ meN chap L n cz [] = 0 := by
  unfold meE meL meN
  rw [if_pos h.err, if_pos h.err, if_pos h.err, cz_err]
  exact ⟨rfl, rfl, rfl⟩
theorem m_next {L : Lv} (h : PM L (puts 8)) : resE (errL chap L) (nxO L 8) = 6 ∧ resP (errL chap L) (nxO L 8) = ⟨0, 0⟩ := by
  have : nxO L 8 = none := by unfold nxO; rw [h.all]; decide
  unfold resE resP
  rw [h.err, this]
  exact ⟨rfl, rfl⟩
theorem m_last {L : Lv} (h : PM L (puts 8)) : resE (errL chap L) (lsO L 0) = 6 ∧ resP (errL chap L) (lsO L 0) = ⟨0, 0⟩ := by
  have : lsO L 0 = none := by unfold lsO; rw [h.all]; decide
  unfold resE resP
  rw [h.err, this]
  exact ⟨rfl, rfl⟩
theorem lo_no {L : Lv} {A : List Ent} (h : PM L A) {l : List Pr} (hr : ¬ Ris l) (n : Int) : loE chap L l = 130 ∧ loL chap L l = [] ∧ loN chap L n l = 0 := by
  unfold loE loL loN
  rw [if_pos h.err, if_pos h.err, if_pos h.err, if_neg hr, if_neg hr, if_neg hr]
  exact ⟨rfl, rfl, rfl⟩
def c0 : Cfg := { chap with most := 0 }
theorem c0_err (L : Lv) : errL c0 L = 50 := by
  have : errC c0 = 50 := by unfold errC; rw [if_neg (by decide +kernel)]
  unfold errL
  rw [this]
  rfl
theorem one_bad : errL chap [[]] = 8 := by
  have : chkR [[]] ≠ 0 := by
    intro h
    have := (chkR_zero.1 h).top
    revert this
    unfold Top
    simp [lev]
  unfold errL
  rw [chap_ok, if_pos rfl, if_neg (fun h => this h.1)]
end Go.Proofs.YtolclahkfmplfaaGreatDoor

/- Structs compared: entries and pairs. No walk. -/
namespace Go.Proofs.YtolclahkfmplfaaGreatDoor
open Go Go.RowKit
set_option maxRecDepth 100000
def eqX (a b : Ent) : Bool := decide (a = b)
theorem eqX_self (a : Ent) : eqX a a = true := decide_eq_true rfl
theorem run_eql_ent (a b : Ent) (w : World) :
    (binOp .eql 46 (.agg #[.int .i64 a.key, .int .i64 a.val, .bool a.dead]) (.agg #[.int .i64 b.key, .int .i64 b.val, .bool b.dead])).run Tryz.prog w = .ok (.bool (eqX a b)) w := by
  have h3 := Tryz.underlying46
  obtain ⟨k, v, d⟩ := a
  obtain ⟨k', v', d'⟩ := b
  simp only [go_sem, h3]
  simp [go_sem, eqX]
  by_cases hk : k = k' <;> by_cases hv : v = v' <;> by_cases hd : d = d' <;> simp [hk, hv, hd]
theorem tab_below' {g : Nat} {w w' : World} (h : TabAt g Lib.deBruijn64tab w) (hb : Below w.heap.size w w') : TabAt g Lib.deBruijn64tab w' := tab_below (tab_lt h) h hb
def eqP (a b : Pr) : Bool := decide (a = b)
theorem run_eql_pr (a b : Pr) (w : World) :
    (binOp .eql 40 (.agg #[.int .i64 a.key, .int .i64 a.val]) (.agg #[.int .i64 b.key, .int .i64 b.val])).run Tryz.prog w = .ok (.bool (eqP a b)) w := by
  have h3 := Tryz.underlying40
  obtain ⟨k, v⟩ := a
  obtain ⟨k', v'⟩ := b
  simp only [go_sem, h3]
  simp [go_sem, eqP]
  by_cases hk : k = k' <;> by_cases hv : v = v' <;> simp [hk, hv]
theorem met_succ {m : List Pr} {k : Nat} (h : k < m.length) (q : Pr) : decide (q ∈ m.take (k + 1)) = (decide (q ∈ m.take k) || eqP (m[k]'h) q) := by
  have h0 : q ∈ m.take (k + 1) ↔ q ∈ m.take k ∨ q = m[k]'h := by rw [List.take_succ_eq_append_getElem h, List.mem_append, List.mem_singleton]
  unfold eqP
  rw [Bool.eq_iff_iff, decide_eq_true_iff, h0, Bool.or_eq_true, decide_eq_true_iff, decide_eq_true_iff]
  exact ⟨fun h => h.imp id Eq.symm, fun h => h.imp id Eq.symm⟩
end Go.Proofs.YtolclahkfmplfaaGreatDoor

/- Contracts: the helpers of chapter 27's laws. -/
namespace Go.Proofs.YtolclahkfmplfaaGreatDoor
open Go Go.RowKit
set_option maxRecDepth 100000
theorem chapter27_any (w : World) : Calls Tryz.prog 5 #[] w fun r w' => r = .returned (.agg chap.row) ∧ Below w.heap.size w w' := by
  go_enter Tryz.func5, Tryz.ntmps5
  go_wp2
  have b := Blk.new w 23 #[.int .u8 3, .int .i64 8, .int .i64 4, .int .i64 16, .int .i64 8, .int .i64 0, .int .i64 1, .int .i64 4, .int .i64 8]
  have z0 : (w.alloc (.cells #[.int .u8 3, .int .i64 8, .int .i64 4, .int .i64 16, .int .i64 8, .int .i64 0, .int .i64 1, .int .i64 4, .int .i64 8] 23)).cell? ⟨w.heap.size, 0, none⟩ = some (.int .u8 3) := b.cell 0
  have z1 : (w.alloc (.cells #[.int .u8 3, .int .i64 8, .int .i64 4, .int .i64 16, .int .i64 8, .int .i64 0, .int .i64 1, .int .i64 4, .int .i64 8] 23)).cell? ⟨w.heap.size, 1, none⟩ = some (.int .i64 8) := b.cell 1
  have z2 : (w.alloc (.cells #[.int .u8 3, .int .i64 8, .int .i64 4, .int .i64 16, .int .i64 8, .int .i64 0, .int .i64 1, .int .i64 4, .int .i64 8] 23)).cell? ⟨w.heap.size, 2, none⟩ = some (.int .i64 4) := b.cell 2
  have z3 : (w.alloc (.cells #[.int .u8 3, .int .i64 8, .int .i64 4, .int .i64 16, .int .i64 8, .int .i64 0, .int .i64 1, .int .i64 4, .int .i64 8] 23)).cell? ⟨w.heap.size, 3, none⟩ = some (.int .i64 16) := b.cell 3
  have z4 : (w.alloc (.cells #[.int .u8 3, .int .i64 8, .int .i64 4, .int .i64 16, .int .i64 8, .int .i64 0, .int .i64 1, .int .i64 4, .int .i64 8] 23)).cell? ⟨w.heap.size, 4, none⟩ = some (.int .i64 8) := b.cell 4
  have z5 : (w.alloc (.cells #[.int .u8 3, .int .i64 8, .int .i64 4, .int .i64 16, .int .i64 8, .int .i64 0, .int .i64 1, .int .i64 4, .int .i64 8] 23)).cell? ⟨w.heap.size, 5, none⟩ = some (.int .i64 0) := b.cell 5
  have z6 : (w.alloc (.cells #[.int .u8 3, .int .i64 8, .int .i64 4, .int .i64 16, .int .i64 8, .int .i64 0, .int .i64 1, .int .i64 4, .int .i64 8] 23)).cell? ⟨w.heap.size, 6, none⟩ = some (.int .i64 1) := b.cell 6
  have z7 : (w.alloc (.cells #[.int .u8 3, .int .i64 8, .int .i64 4, .int .i64 16, .int .i64 8, .int .i64 0, .int .i64 1, .int .i64 4, .int .i64 8] 23)).cell? ⟨w.heap.size, 7, none⟩ = some (.int .i64 4) := b.cell 7
  have z8 : (w.alloc (.cells #[.int .u8 3, .int .i64 8, .int .i64 4, .int .i64 16, .int .i64 8, .int .i64 0, .int .i64 1, .int .i64 4, .int .i64 8] 23)).cell? ⟨w.heap.size, 8, none⟩ = some (.int .i64 8) := b.cell 8
  refine bodyPost_ret (v := .agg #[.int .u8 3, .int .i64 8, .int .i64 4, .int .i64 16, .int .i64 8, .int .i64 0, .int .i64 1, .int .i64 4, .int .i64 8]) (by simp [results, Tryz.results5, go_sem, z0, z1, z2, z3, z4, z5, z6, z7, z8]) rfl ?_
  exact ⟨rfl, (Below.refl _ _).alloc (Nat.le_refl _) _⟩
theorem is27_yes (p : Pr) (w : World) : Calls Tryz.prog 38 #[.agg #[.int .i64 p.key, .int .i64 p.val], .int .i64 0, .int .i64 p.key, .int .i64 p.val] w fun r w' => r = .returned (.bool true) ∧ Below w.heap.size w w' := by
  have hp := fun w => run_eql_pr p p w
  have hq : eqP p p = true := decide_eq_true rfl
  have hb0 : Below w.heap.size w (w.alloc (.cells #[.int .i64 p.key, .int .i64 p.val] 40)) := (Below.refl _ _).alloc (Nat.le_refl _) _
  go_enter Tryz.func38, Tryz.ntmps38
  go_wp2
  go_ret
  exact ⟨rfl, hb0⟩
set_option maxHeartbeats 4000000 in
theorem has27_yes (B A : Option Addr) (Rs : List Rm) (k cq : Nat) (c : Cfg) (n : Int) (l : List Pr) (w : World) (hB : RunsAt w B Rs) (hT : tot (lvs Rs) ≤ 1000000) (hl : Rs.length ≤ 1000000) (hA : Sl w A (l.flatMap Pr.cells)) (hl1 : l.length ≤ 1000) (he : errL c (lvs Rs) = 0) (hp : prD c (lvs Rs) = l) :
    Calls Tryz.prog 13 #[.agg (lrow c B Rs.length k n), .slice A l.length cq] w fun r w' => r = .returned (.bool true) ∧ Below w.heap.size w w' := by
  obtain ⟨W0, hW0⟩ : ∃ W0, w.alloc (.cells #[.int .u8 c.tag, .int .i64 c.most, .int .i64 c.seg, .int .i64 c.least, .int .i64 c.den, .int .i64 c.leafLow, .int .i64 c.rootLow, .int .i64 c.rootHigh, .int .i64 c.leafHigh, .slice B Rs.length k, .int .u64 n] 29) = W0 := ⟨_, rfl⟩
  have hb0 : Below w.heap.size w W0 := by rw [← hW0]; exact (Below.refl _ _).alloc (Nat.le_refl _) _
  have b0 : Blk W0 w.heap.size 29 #[.int .u8 c.tag, .int .i64 c.most, .int .i64 c.seg, .int .i64 c.least, .int .i64 c.den, .int .i64 c.leafLow, .int .i64 c.rootLow, .int .i64 c.rootHigh, .int .i64 c.leafHigh, .slice B Rs.length k, .int .u64 n] := by rw [← hW0]; exact Blk.new _ _ _
  have HW0 := Lib.hid hW0
  have HB := Lib.hid (hB.below hb0)
  have HB0 := Lib.hid hb0
  have HC0 := Lib.hid b0
  have hcn := pairsD_any B Rs k c n W0 HB.out hT hl
  rw [he, hp] at hcn
  have HCN := Lib.hid hcn
  have HA := Lib.hid (hA.below hb0)
  clear hW0 hB hcn he hp hA
  have q0 : W0.cell? ⟨w.heap.size, 0, none⟩ = some (.int .u8 c.tag) := b0.cell 0
  have q1 : W0.cell? ⟨w.heap.size, 1, none⟩ = some (.int .i64 c.most) := b0.cell 1
  have q2 : W0.cell? ⟨w.heap.size, 2, none⟩ = some (.int .i64 c.seg) := b0.cell 2
  have q3 : W0.cell? ⟨w.heap.size, 3, none⟩ = some (.int .i64 c.least) := b0.cell 3
  have q4 : W0.cell? ⟨w.heap.size, 4, none⟩ = some (.int .i64 c.den) := b0.cell 4
  have q5 : W0.cell? ⟨w.heap.size, 5, none⟩ = some (.int .i64 c.leafLow) := b0.cell 5
  have q6 : W0.cell? ⟨w.heap.size, 6, none⟩ = some (.int .i64 c.rootLow) := b0.cell 6
  have q7 : W0.cell? ⟨w.heap.size, 7, none⟩ = some (.int .i64 c.rootHigh) := b0.cell 7
  have q8 : W0.cell? ⟨w.heap.size, 8, none⟩ = some (.int .i64 c.leafHigh) := b0.cell 8
  have q9 : W0.cell? ⟨w.heap.size, 9, none⟩ = some (.slice B Rs.length k) := b0.cell 9
  have q10 : W0.cell? ⟨w.heap.size, 10, none⟩ = some (.int .u64 n) := b0.cell 10
  clear b0
  go_enter Tryz.func13, Tryz.ntmps13
  go_upto_region 1 with fail
  rw [HW0.out]
  go_wp2_with fail
  refine HCN.out.mono ?_
  rintro e w1 ⟨A2, c2, rfl, ho2, hb1⟩
  have HO2 := Lib.hid (own_sl ho2)
  have HB1 := Lib.hid (bext HB0.out hb1)
  have HA1 := Lib.hid (HA.out.below hb1)
  clear ho2 hb1 q0 q1 q2 q3 q4 q5 q6 q7 q8 q9 q10
  go_wp2_with fail
  refine (samePairs_any A2 A l l c2 cq _ HO2.out HA1.out (by omega) (by omega)).mono ?_
  rw [decide_eq_true rfl]
  rintro e w3 ⟨rfl, hb3⟩
  go_wp2
  go_ret
  exact ⟨rfl, bext HB1.out hb3⟩
set_option maxHeartbeats 16000000 in
theorem alive27_any (w : World) (hTb : TabAt 1 Lib.deBruijn64tab w) : Calls Tryz.prog 14 #[] w fun r w' => r = .returned (.bool true) ∧ Below w.heap.size w w' := by
  have HT := Lib.hid hTb
  clear hTb
  go_enter Tryz.func14, Tryz.ntmps14
  go_wp2_with fail
  refine (chapter27_any _).mono ?_
  rintro e w1 ⟨rfl, hb1⟩
  have HF1 := Lib.hid hb1
  clear hb1
  go_wp2_with fail
  have hnew := newD_any chap w1
  rw [chap_ok] at hnew
  refine hnew.mono ?_
  clear hnew
  rintro e w2 ⟨B0, k0, R0, rfl, hl0, ho0, hb2⟩
  have hn0 : R0.length = 0 := by rw [rs_len hl0]; rfl
  rw [hn0]
  have hld : ldC chap 0 = chap := rfl
  rw [hld]
  go_upto_region 2 with fail
  obtain ⟨U0, hU0⟩ : ∃ U, w2.alloc (.cells #[.int .u8 3, .int .i64 8, .int .i64 4, .int .i64 16, .int .i64 8, .int .i64 0, .int .i64 1, .int .i64 4, .int .i64 8, .slice B0 0 k0, .int .u64 0] 29) = U := ⟨_, rfl⟩
  have ha : Below w2.heap.size w2 U0 := by rw [← hU0]; exact (Below.refl _ _).alloc (Nat.le_refl _) _
  have HM0 : Hid (Blk U0 w2.heap.size 29 (lrow chap B0 0 k0 0)) := by show Blk _ _ _ _; rw [← hU0]; exact Blk.new _ _ _
  have hU0' : w2.alloc (.cells #[.int .u8 chap.tag, .int .i64 chap.most, .int .i64 chap.seg, .int .i64 chap.least, .int .i64 chap.den, .int .i64 chap.leafLow, .int .i64 chap.rootLow, .int .i64 chap.rootHigh, .int .i64 chap.leafHigh, .slice B0 0 k0, .int .u64 0] 29) = U0 := hU0
  first | rw [hU0] | rw [hU0']
  have HS2 := Lib.hid (bext HF1.out hb2).size
  have HF0 := Lib.hid (bext (bext HF1.out hb2) ha)
  have HO0 := Lib.hid (((ho0.mono HF1.out.size).belowB ha))
  have HL0 := Lib.hid hl0
  have HN0 := Lib.hid hn0
  obtain ⟨g, hg⟩ : ∃ g, w2.heap.size = g := ⟨_, rfl⟩
  rw [hg] at HM0 HS2
  try rw [hg]
  clear hU0 hU0' ha hl0 ho0 hb2 hn0 hld hg
  have bm0 := HM0.out
  have q0 : U0.cell? ⟨g, 0, none⟩ = some (.int .u8 3) := bm0.cell 0
  have q1 : U0.cell? ⟨g, 1, none⟩ = some (.int .i64 8) := bm0.cell 1
  have q2 : U0.cell? ⟨g, 2, none⟩ = some (.int .i64 4) := bm0.cell 2
  have q3 : U0.cell? ⟨g, 3, none⟩ = some (.int .i64 16) := bm0.cell 3
  have q4 : U0.cell? ⟨g, 4, none⟩ = some (.int .i64 8) := bm0.cell 4
  have q5 : U0.cell? ⟨g, 5, none⟩ = some (.int .i64 0) := bm0.cell 5
  have q6 : U0.cell? ⟨g, 6, none⟩ = some (.int .i64 1) := bm0.cell 6
  have q7 : U0.cell? ⟨g, 7, none⟩ = some (.int .i64 4) := bm0.cell 7
  have q8 : U0.cell? ⟨g, 8, none⟩ = some (.int .i64 8) := bm0.cell 8
  have q9 : U0.cell? ⟨g, 9, none⟩ = some (.slice B0 0 k0) := bm0.cell 9
  have q10 : U0.cell? ⟨g, 10, none⟩ = some (.int .u64 0) := bm0.cell 10
  have lg := bm0.lt
  have hput := putD_any B0 R0 k0 chap 0 5 50 U0 HO0.out.runsAt (by rw [HL0.out]; decide) (by rw [HN0.out]; decide) (tab_below2 HT.out HF0.out)
  have hup := up_z chap (n := 0) u1 (show addE [] (putY 5 50) = 0 from a1E)
  rw [HL0.out, hup.2.2.2, hup.1, hup.2.1, hup.2.2.1, show addL [] 0 (putY 5 50) = L1 from a1A.1, show addN [] 0 (putY 5 50) = 1 from a1A.2, HN0.out] at hput
  have HPUT := Lib.hid hput
  clear bm0 hput hup
  go_wp2_with fail
  refine HPUT.out.mono ?_
  rintro e v1 ⟨B1, k1, R1, rfl, hl1, ho1, hb1⟩
  have hn1 : R1.length = 1 := by rw [rs_len hl1]; rfl
  rw [hn1]
  have bv1 := HM0.out.below hb1 HM0.out.lt
  clear HPUT lg q0 q1 q2 q3 q4 q5 q6 q7 q8 q9 q10
  have q0 : v1.cell? ⟨g, 0, none⟩ = some (.int .u8 3) := bv1.cell 0
  have q1 : v1.cell? ⟨g, 1, none⟩ = some (.int .i64 8) := bv1.cell 1
  have q2 : v1.cell? ⟨g, 2, none⟩ = some (.int .i64 4) := bv1.cell 2
  have q3 : v1.cell? ⟨g, 3, none⟩ = some (.int .i64 16) := bv1.cell 3
  have q4 : v1.cell? ⟨g, 4, none⟩ = some (.int .i64 8) := bv1.cell 4
  have q5 : v1.cell? ⟨g, 5, none⟩ = some (.int .i64 0) := bv1.cell 5
  have q6 : v1.cell? ⟨g, 6, none⟩ = some (.int .i64 1) := bv1.cell 6
  have q7 : v1.cell? ⟨g, 7, none⟩ = some (.int .i64 4) := bv1.cell 7
  have q8 : v1.cell? ⟨g, 8, none⟩ = some (.int .i64 8) := bv1.cell 8
  have q9 : v1.cell? ⟨g, 9, none⟩ = some (.slice B0 0 k0) := bv1.cell 9
  have q10 : v1.cell? ⟨g, 10, none⟩ = some (.int .u64 0) := bv1.cell 10
  have fr0 := bv1.frozen 0
  have fr1 := bv1.frozen 1
  have fr2 := bv1.frozen 2
  have fr3 := bv1.frozen 3
  have fr4 := bv1.frozen 4
  have fr5 := bv1.frozen 5
  have fr6 := bv1.frozen 6
  have fr7 := bv1.frozen 7
  have fr8 := bv1.frozen 8
  have fr9 := bv1.frozen 9
  have fr10 := bv1.frozen 10
  have lg := bv1.lt
  go_upto_region 3 with fail
  obtain ⟨U1, hU1⟩ : ∃ U, (((((((((((v1.setCell ⟨g, 0, none⟩ (.int .u8 3)).setCell ⟨g, 1, none⟩ (.int .i64 8)).setCell ⟨g, 2, none⟩ (.int .i64 4)).setCell ⟨g, 3, none⟩ (.int .i64 16)).setCell ⟨g, 4, none⟩ (.int .i64 8)).setCell ⟨g, 5, none⟩ (.int .i64 0)).setCell ⟨g, 6, none⟩ (.int .i64 1)).setCell ⟨g, 7, none⟩ (.int .i64 4)).setCell ⟨g, 8, none⟩ (.int .i64 8)).setCell ⟨g, 9, none⟩ (.slice B1 1 k1)).setCell ⟨g, 10, none⟩ (.int .u64 1)) = U := ⟨_, rfl⟩
  have hU' : (((((((((((v1.setCell ⟨g, 0, none⟩ (.int .u8 chap.tag)).setCell ⟨g, 1, none⟩ (.int .i64 chap.most)).setCell ⟨g, 2, none⟩ (.int .i64 chap.seg)).setCell ⟨g, 3, none⟩ (.int .i64 chap.least)).setCell ⟨g, 4, none⟩ (.int .i64 chap.den)).setCell ⟨g, 5, none⟩ (.int .i64 chap.leafLow)).setCell ⟨g, 6, none⟩ (.int .i64 chap.rootLow)).setCell ⟨g, 7, none⟩ (.int .i64 chap.rootHigh)).setCell ⟨g, 8, none⟩ (.int .i64 chap.leafHigh)).setCell ⟨g, 9, none⟩ (.slice B1 1 k1)).setCell ⟨g, 10, none⟩ (.int .u64 1)) = U1 := hU1
  first | rw [hU1] | rw [hU']
  have HM1 : Hid (Blk U1 g 29 (lrow chap B1 1 k1 1)) := by show Blk _ _ _ _; rw [← hU1]; exact put11 bv1 _ _ _ _ _ _ _ _ _ _ _
  have HO1 : Hid (OwnRs U1 w.heap.size B1 k1 R1) := by show OwnRs _ _ _ _ _; rw [← hU1]; exact (ho1.mono HF0.out.size).set11 bv1 (by decide) (by decide) _ _ _ _ _ _ _ _ _ _ _
  have HF1 : Hid (Below w.heap.size w U1) := by show Below _ _ _; rw [← hU1]; exact below11 (bext HF0.out hb1) HS2.out _ _ _ _ _ _ _ _ _ _ _
  have HL1 := Lib.hid hl1
  have HN1 := Lib.hid hn1
  clear hU1 hU' hl1 ho1 hb1 hn1 bv1 HM0 HO0 lg q0 q1 q2 q3 q4 q5 q6 q7 q8 q9 q10 fr0 fr1 fr2 fr3 fr4 fr5 fr6 fr7 fr8 fr9 fr10
  have bm1 := HM1.out
  have q0 : U1.cell? ⟨g, 0, none⟩ = some (.int .u8 3) := bm1.cell 0
  have q1 : U1.cell? ⟨g, 1, none⟩ = some (.int .i64 8) := bm1.cell 1
  have q2 : U1.cell? ⟨g, 2, none⟩ = some (.int .i64 4) := bm1.cell 2
  have q3 : U1.cell? ⟨g, 3, none⟩ = some (.int .i64 16) := bm1.cell 3
  have q4 : U1.cell? ⟨g, 4, none⟩ = some (.int .i64 8) := bm1.cell 4
  have q5 : U1.cell? ⟨g, 5, none⟩ = some (.int .i64 0) := bm1.cell 5
  have q6 : U1.cell? ⟨g, 6, none⟩ = some (.int .i64 1) := bm1.cell 6
  have q7 : U1.cell? ⟨g, 7, none⟩ = some (.int .i64 4) := bm1.cell 7
  have q8 : U1.cell? ⟨g, 8, none⟩ = some (.int .i64 8) := bm1.cell 8
  have q9 : U1.cell? ⟨g, 9, none⟩ = some (.slice B1 1 k1) := bm1.cell 9
  have q10 : U1.cell? ⟨g, 10, none⟩ = some (.int .u64 1) := bm1.cell 10
  have lg := bm1.lt
  have hput := putD_any B1 R1 k1 chap 1 9 90 U1 HO1.out.runsAt (by rw [HL1.out]; decide) (by rw [HN1.out]; decide) (tab_below2 HT.out HF1.out)
  have hup := up_z chap (n := 1) u2 (show addE L1 (putY 9 90) = 0 from a2E)
  rw [HL1.out, hup.2.2.2, hup.1, hup.2.1, hup.2.2.1, show addL L1 1 (putY 9 90) = L2 from a2A.1, show addN L1 1 (putY 9 90) = 4 from a2A.2, HN1.out] at hput
  have HPUT := Lib.hid hput
  clear bm1 hput hup
  go_wp2_with fail
  refine HPUT.out.mono ?_
  rintro e v2 ⟨B2, k2, R2, rfl, hl2, ho2, hb2⟩
  have hn2 : R2.length = 2 := by rw [rs_len hl2]; rfl
  rw [hn2]
  have bv2 := HM1.out.below hb2 HM1.out.lt
  clear HPUT lg q0 q1 q2 q3 q4 q5 q6 q7 q8 q9 q10
  have q0 : v2.cell? ⟨g, 0, none⟩ = some (.int .u8 3) := bv2.cell 0
  have q1 : v2.cell? ⟨g, 1, none⟩ = some (.int .i64 8) := bv2.cell 1
  have q2 : v2.cell? ⟨g, 2, none⟩ = some (.int .i64 4) := bv2.cell 2
  have q3 : v2.cell? ⟨g, 3, none⟩ = some (.int .i64 16) := bv2.cell 3
  have q4 : v2.cell? ⟨g, 4, none⟩ = some (.int .i64 8) := bv2.cell 4
  have q5 : v2.cell? ⟨g, 5, none⟩ = some (.int .i64 0) := bv2.cell 5
  have q6 : v2.cell? ⟨g, 6, none⟩ = some (.int .i64 1) := bv2.cell 6
  have q7 : v2.cell? ⟨g, 7, none⟩ = some (.int .i64 4) := bv2.cell 7
  have q8 : v2.cell? ⟨g, 8, none⟩ = some (.int .i64 8) := bv2.cell 8
  have q9 : v2.cell? ⟨g, 9, none⟩ = some (.slice B1 1 k1) := bv2.cell 9
  have q10 : v2.cell? ⟨g, 10, none⟩ = some (.int .u64 1) := bv2.cell 10
  have fr0 := bv2.frozen 0
  have fr1 := bv2.frozen 1
  have fr2 := bv2.frozen 2
  have fr3 := bv2.frozen 3
  have fr4 := bv2.frozen 4
  have fr5 := bv2.frozen 5
  have fr6 := bv2.frozen 6
  have fr7 := bv2.frozen 7
  have fr8 := bv2.frozen 8
  have fr9 := bv2.frozen 9
  have fr10 := bv2.frozen 10
  have lg := bv2.lt
  go_upto_region 4 with fail
  obtain ⟨U2, hU2⟩ : ∃ U, (((((((((((v2.setCell ⟨g, 0, none⟩ (.int .u8 3)).setCell ⟨g, 1, none⟩ (.int .i64 8)).setCell ⟨g, 2, none⟩ (.int .i64 4)).setCell ⟨g, 3, none⟩ (.int .i64 16)).setCell ⟨g, 4, none⟩ (.int .i64 8)).setCell ⟨g, 5, none⟩ (.int .i64 0)).setCell ⟨g, 6, none⟩ (.int .i64 1)).setCell ⟨g, 7, none⟩ (.int .i64 4)).setCell ⟨g, 8, none⟩ (.int .i64 8)).setCell ⟨g, 9, none⟩ (.slice B2 2 k2)).setCell ⟨g, 10, none⟩ (.int .u64 4)) = U := ⟨_, rfl⟩
  have hU' : (((((((((((v2.setCell ⟨g, 0, none⟩ (.int .u8 chap.tag)).setCell ⟨g, 1, none⟩ (.int .i64 chap.most)).setCell ⟨g, 2, none⟩ (.int .i64 chap.seg)).setCell ⟨g, 3, none⟩ (.int .i64 chap.least)).setCell ⟨g, 4, none⟩ (.int .i64 chap.den)).setCell ⟨g, 5, none⟩ (.int .i64 chap.leafLow)).setCell ⟨g, 6, none⟩ (.int .i64 chap.rootLow)).setCell ⟨g, 7, none⟩ (.int .i64 chap.rootHigh)).setCell ⟨g, 8, none⟩ (.int .i64 chap.leafHigh)).setCell ⟨g, 9, none⟩ (.slice B2 2 k2)).setCell ⟨g, 10, none⟩ (.int .u64 4)) = U2 := hU2
  first | rw [hU2] | rw [hU']
  have HM2 : Hid (Blk U2 g 29 (lrow chap B2 2 k2 4)) := by show Blk _ _ _ _; rw [← hU2]; exact put11 bv2 _ _ _ _ _ _ _ _ _ _ _
  have HO2 : Hid (OwnRs U2 w.heap.size B2 k2 R2) := by show OwnRs _ _ _ _ _; rw [← hU2]; exact (ho2.mono HF1.out.size).set11 bv2 (by decide) (by decide) _ _ _ _ _ _ _ _ _ _ _
  have HF2 : Hid (Below w.heap.size w U2) := by show Below _ _ _; rw [← hU2]; exact below11 (bext HF1.out hb2) HS2.out _ _ _ _ _ _ _ _ _ _ _
  have HL2 := Lib.hid hl2
  have HN2 := Lib.hid hn2
  clear hU2 hU' hl2 ho2 hb2 hn2 bv2 HM1 HO1 lg q0 q1 q2 q3 q4 q5 q6 q7 q8 q9 q10 fr0 fr1 fr2 fr3 fr4 fr5 fr6 fr7 fr8 fr9 fr10
  have bm2 := HM2.out
  have q0 : U2.cell? ⟨g, 0, none⟩ = some (.int .u8 3) := bm2.cell 0
  have q1 : U2.cell? ⟨g, 1, none⟩ = some (.int .i64 8) := bm2.cell 1
  have q2 : U2.cell? ⟨g, 2, none⟩ = some (.int .i64 4) := bm2.cell 2
  have q3 : U2.cell? ⟨g, 3, none⟩ = some (.int .i64 16) := bm2.cell 3
  have q4 : U2.cell? ⟨g, 4, none⟩ = some (.int .i64 8) := bm2.cell 4
  have q5 : U2.cell? ⟨g, 5, none⟩ = some (.int .i64 0) := bm2.cell 5
  have q6 : U2.cell? ⟨g, 6, none⟩ = some (.int .i64 1) := bm2.cell 6
  have q7 : U2.cell? ⟨g, 7, none⟩ = some (.int .i64 4) := bm2.cell 7
  have q8 : U2.cell? ⟨g, 8, none⟩ = some (.int .i64 8) := bm2.cell 8
  have q9 : U2.cell? ⟨g, 9, none⟩ = some (.slice B2 2 k2) := bm2.cell 9
  have q10 : U2.cell? ⟨g, 10, none⟩ = some (.int .u64 4) := bm2.cell 10
  have lg := bm2.lt
  have hput := putD_any B2 R2 k2 chap 4 5 51 U2 HO2.out.runsAt (by rw [HL2.out]; decide) (by rw [HN2.out]; decide) (tab_below2 HT.out HF2.out)
  have hup := up_z chap (n := 4) u3 (show addE L2 (putY 5 51) = 0 from a3E)
  rw [HL2.out, hup.2.2.2, hup.1, hup.2.1, hup.2.2.1, show addL L2 4 (putY 5 51) = L3 from a3A.1, show addN L2 4 (putY 5 51) = 5 from a3A.2, HN2.out] at hput
  have HPUT := Lib.hid hput
  clear bm2 hput hup
  go_wp2_with fail
  refine HPUT.out.mono ?_
  rintro e v3 ⟨B3, k3, R3, rfl, hl3, ho3, hb3⟩
  have hn3 : R3.length = 2 := by rw [rs_len hl3]; rfl
  rw [hn3]
  have bv3 := HM2.out.below hb3 HM2.out.lt
  clear HPUT lg q0 q1 q2 q3 q4 q5 q6 q7 q8 q9 q10
  have q0 : v3.cell? ⟨g, 0, none⟩ = some (.int .u8 3) := bv3.cell 0
  have q1 : v3.cell? ⟨g, 1, none⟩ = some (.int .i64 8) := bv3.cell 1
  have q2 : v3.cell? ⟨g, 2, none⟩ = some (.int .i64 4) := bv3.cell 2
  have q3 : v3.cell? ⟨g, 3, none⟩ = some (.int .i64 16) := bv3.cell 3
  have q4 : v3.cell? ⟨g, 4, none⟩ = some (.int .i64 8) := bv3.cell 4
  have q5 : v3.cell? ⟨g, 5, none⟩ = some (.int .i64 0) := bv3.cell 5
  have q6 : v3.cell? ⟨g, 6, none⟩ = some (.int .i64 1) := bv3.cell 6
  have q7 : v3.cell? ⟨g, 7, none⟩ = some (.int .i64 4) := bv3.cell 7
  have q8 : v3.cell? ⟨g, 8, none⟩ = some (.int .i64 8) := bv3.cell 8
  have q9 : v3.cell? ⟨g, 9, none⟩ = some (.slice B2 2 k2) := bv3.cell 9
  have q10 : v3.cell? ⟨g, 10, none⟩ = some (.int .u64 4) := bv3.cell 10
  have fr0 := bv3.frozen 0
  have fr1 := bv3.frozen 1
  have fr2 := bv3.frozen 2
  have fr3 := bv3.frozen 3
  have fr4 := bv3.frozen 4
  have fr5 := bv3.frozen 5
  have fr6 := bv3.frozen 6
  have fr7 := bv3.frozen 7
  have fr8 := bv3.frozen 8
  have fr9 := bv3.frozen 9
  have fr10 := bv3.frozen 10
  have lg := bv3.lt
  go_upto_region 5 with fail
  obtain ⟨U3, hU3⟩ : ∃ U, (((((((((((v3.setCell ⟨g, 0, none⟩ (.int .u8 3)).setCell ⟨g, 1, none⟩ (.int .i64 8)).setCell ⟨g, 2, none⟩ (.int .i64 4)).setCell ⟨g, 3, none⟩ (.int .i64 16)).setCell ⟨g, 4, none⟩ (.int .i64 8)).setCell ⟨g, 5, none⟩ (.int .i64 0)).setCell ⟨g, 6, none⟩ (.int .i64 1)).setCell ⟨g, 7, none⟩ (.int .i64 4)).setCell ⟨g, 8, none⟩ (.int .i64 8)).setCell ⟨g, 9, none⟩ (.slice B3 2 k3)).setCell ⟨g, 10, none⟩ (.int .u64 5)) = U := ⟨_, rfl⟩
  have hU' : (((((((((((v3.setCell ⟨g, 0, none⟩ (.int .u8 chap.tag)).setCell ⟨g, 1, none⟩ (.int .i64 chap.most)).setCell ⟨g, 2, none⟩ (.int .i64 chap.seg)).setCell ⟨g, 3, none⟩ (.int .i64 chap.least)).setCell ⟨g, 4, none⟩ (.int .i64 chap.den)).setCell ⟨g, 5, none⟩ (.int .i64 chap.leafLow)).setCell ⟨g, 6, none⟩ (.int .i64 chap.rootLow)).setCell ⟨g, 7, none⟩ (.int .i64 chap.rootHigh)).setCell ⟨g, 8, none⟩ (.int .i64 chap.leafHigh)).setCell ⟨g, 9, none⟩ (.slice B3 2 k3)).setCell ⟨g, 10, none⟩ (.int .u64 5)) = U3 := hU3
  first | rw [hU3] | rw [hU']
  have HM3 : Hid (Blk U3 g 29 (lrow chap B3 2 k3 5)) := by show Blk _ _ _ _; rw [← hU3]; exact put11 bv3 _ _ _ _ _ _ _ _ _ _ _
  have HO3 : Hid (OwnRs U3 w.heap.size B3 k3 R3) := by show OwnRs _ _ _ _ _; rw [← hU3]; exact (ho3.mono HF2.out.size).set11 bv3 (by decide) (by decide) _ _ _ _ _ _ _ _ _ _ _
  have HF3 : Hid (Below w.heap.size w U3) := by show Below _ _ _; rw [← hU3]; exact below11 (bext HF2.out hb3) HS2.out _ _ _ _ _ _ _ _ _ _ _
  have HL3 := Lib.hid hl3
  have HN3 := Lib.hid hn3
  clear hU3 hU' hl3 ho3 hb3 hn3 bv3 HM2 HO2 lg q0 q1 q2 q3 q4 q5 q6 q7 q8 q9 q10 fr0 fr1 fr2 fr3 fr4 fr5 fr6 fr7 fr8 fr9 fr10
  have HY1 := Lib.hid (HO3.out.runsAt)
  have HY2 := Lib.hid ((tab_below2 HT.out HF3.out))
  have hgt := fun W hR hq => getD_any B3 R3 k3 chap 5 5 W hR (by rw [HL3.out]; decide) (by rw [HN3.out]; decide) hq
  rw [HL3.out, HN3.out, g4.1, g4.2] at hgt
  have Hhgt := Lib.hid hgt
  clear hgt
  have c3 : U3.cell? ⟨g, 0, none⟩ = some (.int .u8 3) := HM3.out.cell 0
  have c4 : U3.cell? ⟨g, 1, none⟩ = some (.int .i64 8) := HM3.out.cell 1
  have c5 : U3.cell? ⟨g, 2, none⟩ = some (.int .i64 4) := HM3.out.cell 2
  have c6 : U3.cell? ⟨g, 3, none⟩ = some (.int .i64 16) := HM3.out.cell 3
  have c7 : U3.cell? ⟨g, 4, none⟩ = some (.int .i64 8) := HM3.out.cell 4
  have c8 : U3.cell? ⟨g, 5, none⟩ = some (.int .i64 0) := HM3.out.cell 5
  have c9 : U3.cell? ⟨g, 6, none⟩ = some (.int .i64 1) := HM3.out.cell 6
  have c10 : U3.cell? ⟨g, 7, none⟩ = some (.int .i64 4) := HM3.out.cell 7
  have c11 : U3.cell? ⟨g, 8, none⟩ = some (.int .i64 8) := HM3.out.cell 8
  have c12 : U3.cell? ⟨g, 9, none⟩ = some (.slice B3 2 k3) := HM3.out.cell 9
  have c13 : U3.cell? ⟨g, 10, none⟩ = some (.int .u64 5) := HM3.out.cell 10
  have l14 : g < U3.heap.size := HM3.out.lt
  go_wp2_with fail
  clear c3 c4 c5 c6 c7 c8 c9 c10 c11 c12 c13 l14
  refine (Hhgt.out _ HY1.out HY2.out).mono ?_
  rintro e w15 ⟨rfl, hb16⟩
  have HF17 := Lib.hid (bext HF3.out hb16)
  have HX18 := Lib.hid (HM3.out.below hb16 HM3.out.lt)
  have HY19 := Lib.hid (RunsAt.below HY1.out hb16)
  have HY20 := Lib.hid (tab_below2 HY2.out hb16)
  clear HF3 HM3 HY1 HY2
  clear hb16
  have hnx : ∀ W, RunsAt W B3 R3 → TabAt 1 Lib.deBruijn64tab W → Calls Tryz.prog 11 #[.agg (lrow chap B3 2 k3 5), .int .i64 6] W fun r w' => r = .returned (.tuple #[.agg #[.int .i64 9, .int .i64 90], .int .i64 0]) ∧ Below W.heap.size W w' := by
    intro W hR hq
    have h := nextD_any B3 R3 k3 chap 5 6 W hR (by rw [HL3.out]; decide) (by rw [HN3.out]; decide) (by rw [HL3.out]; decide) hq
    rw [HL3.out, HN3.out, e3e, nx6] at h
    exact h
  have Hhnx := Lib.hid hnx
  clear hnx
  have c21 : w15.cell? ⟨g, 0, none⟩ = some (.int .u8 3) := HX18.out.cell 0
  have c22 : w15.cell? ⟨g, 1, none⟩ = some (.int .i64 8) := HX18.out.cell 1
  have c23 : w15.cell? ⟨g, 2, none⟩ = some (.int .i64 4) := HX18.out.cell 2
  have c24 : w15.cell? ⟨g, 3, none⟩ = some (.int .i64 16) := HX18.out.cell 3
  have c25 : w15.cell? ⟨g, 4, none⟩ = some (.int .i64 8) := HX18.out.cell 4
  have c26 : w15.cell? ⟨g, 5, none⟩ = some (.int .i64 0) := HX18.out.cell 5
  have c27 : w15.cell? ⟨g, 6, none⟩ = some (.int .i64 1) := HX18.out.cell 6
  have c28 : w15.cell? ⟨g, 7, none⟩ = some (.int .i64 4) := HX18.out.cell 7
  have c29 : w15.cell? ⟨g, 8, none⟩ = some (.int .i64 8) := HX18.out.cell 8
  have c30 : w15.cell? ⟨g, 9, none⟩ = some (.slice B3 2 k3) := HX18.out.cell 9
  have c31 : w15.cell? ⟨g, 10, none⟩ = some (.int .u64 5) := HX18.out.cell 10
  have l32 : g < w15.heap.size := HX18.out.lt
  go_wp2_with fail
  clear c21 c22 c23 c24 c25 c26 c27 c28 c29 c30 c31 l32
  refine (Hhnx.out _ HY19.out HY20.out).mono ?_
  rintro e w33 ⟨rfl, hb34⟩
  have HF35 := Lib.hid (bext HF17.out hb34)
  have HX36 := Lib.hid (HX18.out.below hb34 HX18.out.lt)
  have HY37 := Lib.hid (RunsAt.below HY19.out hb34)
  have HY38 := Lib.hid (tab_below2 HY20.out hb34)
  clear HF17 HX18 HY19 HY20
  clear hb34
  go_upto_region 7 with fail
  obtain ⟨U39, h41⟩ : ∃ U, w33.alloc (.cells #[.int .i64 9, .int .i64 90] 40) = U := ⟨_, rfl⟩
  have ba42 : Below w33.heap.size w33 U39 := by rw [← h41]; exact (Below.refl _ _).alloc (Nat.le_refl _) _
  have bn43 : Blk U39 w33.heap.size 40 #[.int .i64 9, .int .i64 90] := by rw [← h41]; exact Blk.new _ _ _
  try rw [h41]
  have HF44 := Lib.hid (bext HF35.out ba42)
  have HX45 := Lib.hid (HX36.out.below ba42 HX36.out.lt)
  have HY46 := Lib.hid (RunsAt.below HY37.out ba42)
  have HY47 := Lib.hid (tab_below2 HY38.out ba42)
  clear HF35 HX36 HY37 HY38
  obtain ⟨g40, h48⟩ : ∃ g, w33.heap.size = g := ⟨_, rfl⟩
  rw [h48] at bn43
  try rw [h48]
  have HX49 := Lib.hid bn43
  clear h41 ba42 bn43 h48
  have hls : ∀ W, RunsAt W B3 R3 → TabAt 1 Lib.deBruijn64tab W → Calls Tryz.prog 12 #[.agg (lrow chap B3 2 k3 5), .int .i64 9] W fun r w' => r = .returned (.tuple #[.agg #[.int .i64 5, .int .i64 51], .int .i64 0]) ∧ Below W.heap.size W w' := by
    intro W hR hq
    have h := lastD_any B3 R3 k3 chap 5 9 W hR (by rw [HL3.out]; decide) (by rw [HN3.out]; decide) hq
    rw [HL3.out, HN3.out, e3e, ls9] at h
    exact h
  have Hhls := Lib.hid hls
  clear hls
  have c50 : U39.cell? ⟨g, 0, none⟩ = some (.int .u8 3) := HX45.out.cell 0
  have c51 : U39.cell? ⟨g, 1, none⟩ = some (.int .i64 8) := HX45.out.cell 1
  have c52 : U39.cell? ⟨g, 2, none⟩ = some (.int .i64 4) := HX45.out.cell 2
  have c53 : U39.cell? ⟨g, 3, none⟩ = some (.int .i64 16) := HX45.out.cell 3
  have c54 : U39.cell? ⟨g, 4, none⟩ = some (.int .i64 8) := HX45.out.cell 4
  have c55 : U39.cell? ⟨g, 5, none⟩ = some (.int .i64 0) := HX45.out.cell 5
  have c56 : U39.cell? ⟨g, 6, none⟩ = some (.int .i64 1) := HX45.out.cell 6
  have c57 : U39.cell? ⟨g, 7, none⟩ = some (.int .i64 4) := HX45.out.cell 7
  have c58 : U39.cell? ⟨g, 8, none⟩ = some (.int .i64 8) := HX45.out.cell 8
  have c59 : U39.cell? ⟨g, 9, none⟩ = some (.slice B3 2 k3) := HX45.out.cell 9
  have c60 : U39.cell? ⟨g, 10, none⟩ = some (.int .u64 5) := HX45.out.cell 10
  have l61 : g < U39.heap.size := HX45.out.lt
  go_wp2_with fail
  clear c50 c51 c52 c53 c54 c55 c56 c57 c58 c59 c60 l61
  refine (Hhls.out _ HY46.out HY47.out).mono ?_
  rintro e w62 ⟨rfl, hb63⟩
  have HF64 := Lib.hid (bext HF44.out hb63)
  have HX65 := Lib.hid (HX45.out.below hb63 HX45.out.lt)
  have HX66 := Lib.hid (HX49.out.below hb63 HX49.out.lt)
  have HY67 := Lib.hid (RunsAt.below HY46.out hb63)
  have HY68 := Lib.hid (tab_below2 HY47.out hb63)
  clear HF44 HX45 HX49 HY46 HY47
  clear hb63
  go_upto_region 8 with fail
  obtain ⟨U69, h71⟩ : ∃ U, w62.alloc (.cells #[.int .i64 5, .int .i64 51] 40) = U := ⟨_, rfl⟩
  have ba72 : Below w62.heap.size w62 U69 := by rw [← h71]; exact (Below.refl _ _).alloc (Nat.le_refl _) _
  have bn73 : Blk U69 w62.heap.size 40 #[.int .i64 5, .int .i64 51] := by rw [← h71]; exact Blk.new _ _ _
  try rw [h71]
  have HF74 := Lib.hid (bext HF64.out ba72)
  have HX75 := Lib.hid (HX65.out.below ba72 HX65.out.lt)
  have HX76 := Lib.hid (HX66.out.below ba72 HX66.out.lt)
  have HY77 := Lib.hid (RunsAt.below HY67.out ba72)
  have HY78 := Lib.hid (tab_below2 HY68.out ba72)
  clear HF64 HX65 HX66 HY67 HY68
  obtain ⟨g70, h79⟩ : ∃ g, w62.heap.size = g := ⟨_, rfl⟩
  rw [h79] at bn73
  try rw [h79]
  have HX80 := Lib.hid bn73
  clear h71 ba72 bn73 h79
  have hdl := fun W hR hq => delD_any B3 R3 k3 chap 5 5 W hR (by rw [HL3.out]; decide) (by rw [HN3.out]; decide) hq
  have hup := up_z chap (n := 5) g4.1 (show addE L3 (delY 5) = 0 from a4E)
  rw [HL3.out, hup.2.2.2, hup.1, hup.2.1, hup.2.2.1, show addL L3 5 (delY 5) = L4 from a4A.1, show addN L3 5 (delY 5) = 7 from a4A.2, HN3.out] at hdl
  clear hup
  have Hhdl := Lib.hid hdl
  clear hdl
  have c81 : U69.cell? ⟨g, 0, none⟩ = some (.int .u8 3) := HX75.out.cell 0
  have c82 : U69.cell? ⟨g, 1, none⟩ = some (.int .i64 8) := HX75.out.cell 1
  have c83 : U69.cell? ⟨g, 2, none⟩ = some (.int .i64 4) := HX75.out.cell 2
  have c84 : U69.cell? ⟨g, 3, none⟩ = some (.int .i64 16) := HX75.out.cell 3
  have c85 : U69.cell? ⟨g, 4, none⟩ = some (.int .i64 8) := HX75.out.cell 4
  have c86 : U69.cell? ⟨g, 5, none⟩ = some (.int .i64 0) := HX75.out.cell 5
  have c87 : U69.cell? ⟨g, 6, none⟩ = some (.int .i64 1) := HX75.out.cell 6
  have c88 : U69.cell? ⟨g, 7, none⟩ = some (.int .i64 4) := HX75.out.cell 7
  have c89 : U69.cell? ⟨g, 8, none⟩ = some (.int .i64 8) := HX75.out.cell 8
  have c90 : U69.cell? ⟨g, 9, none⟩ = some (.slice B3 2 k3) := HX75.out.cell 9
  have c91 : U69.cell? ⟨g, 10, none⟩ = some (.int .u64 5) := HX75.out.cell 10
  have l92 : g < U69.heap.size := HX75.out.lt
  go_wp2_with fail
  clear c81 c82 c83 c84 c85 c86 c87 c88 c89 c90 c91 l92
  refine (Hhdl.out _ HY77.out HY78.out).mono ?_
  rintro e w93 ⟨B4, k4, R4, rfl, hl4, ho4, hb94⟩
  have hn4 : R4.length = 2 := by rw [rs_len hl4]; rfl
  rw [hn4]
  have HL4 := Lib.hid hl4
  have HN4 := Lib.hid hn4
  have hr4 := ho4.runsAt
  clear hl4 ho4 hn4
  have HF95 := Lib.hid (bext HF74.out hb94)
  have HX96 := Lib.hid (HX75.out.below hb94 HX75.out.lt)
  have HX97 := Lib.hid (HX76.out.below hb94 HX76.out.lt)
  have HX98 := Lib.hid (HX80.out.below hb94 HX80.out.lt)
  have HY99 := Lib.hid (RunsAt.below HY77.out hb94)
  have HY100 := Lib.hid (tab_below2 HY78.out hb94)
  clear HF74 HX75 HX76 HX80 HY77 HY78
  clear hb94
  have HY101 := Lib.hid (hr4)
  clear hr4
  go_upto_region 9 with fail
  obtain ⟨UX, hUX⟩ : ∃ U, w93.alloc (.cells #[.int .u8 3, .int .i64 8, .int .i64 4, .int .i64 16, .int .i64 8, .int .i64 0, .int .i64 1, .int .i64 4, .int .i64 8, .slice B4 2 k4, .int .u64 7] 29) = U := ⟨_, rfl⟩
  have hUX' : w93.alloc (.cells #[.int .u8 chap.tag, .int .i64 chap.most, .int .i64 chap.seg, .int .i64 chap.least, .int .i64 chap.den, .int .i64 chap.leafLow, .int .i64 chap.rootLow, .int .i64 chap.rootHigh, .int .i64 chap.leafHigh, .slice B4 2 k4, .int .u64 7] 29) = UX := hUX
  have hax : Below w93.heap.size w93 UX := by rw [← hUX]; exact (Below.refl _ _).alloc (Nat.le_refl _) _
  have bxx : Blk UX w93.heap.size 29 #[.int .u8 3, .int .i64 8, .int .i64 4, .int .i64 16, .int .i64 8, .int .i64 0, .int .i64 1, .int .i64 4, .int .i64 8, .slice B4 2 k4, .int .u64 7] := by rw [← hUX]; exact Blk.new _ _ _
  first | rw [hUX] | rw [hUX']
  have HF102 := Lib.hid (bext HF95.out hax)
  have HX103 := Lib.hid (HX96.out.below hax HX96.out.lt)
  have HX104 := Lib.hid (HX97.out.below hax HX97.out.lt)
  have HX105 := Lib.hid (HX98.out.below hax HX98.out.lt)
  have HY106 := Lib.hid (RunsAt.below HY99.out hax)
  have HY107 := Lib.hid (tab_below2 HY100.out hax)
  have HY108 := Lib.hid (RunsAt.below HY101.out hax)
  clear HF95 HX96 HX97 HX98 HY99 HY100 HY101
  obtain ⟨gx, hgx⟩ : ∃ g, w93.heap.size = g := ⟨_, rfl⟩
  rw [hgx] at bxx
  try rw [hgx]
  have HXX := Lib.hid bxx
  clear hUX hUX' hax bxx hgx
  have c109 : UX.cell? ⟨g40, 0, none⟩ = some (.int .i64 9) := HX104.out.cell 0
  have c110 : UX.cell? ⟨g40, 1, none⟩ = some (.int .i64 90) := HX104.out.cell 1
  have l111 : g40 < UX.heap.size := HX104.out.lt
  go_wp2_with fail
  clear c109 c110 l111
  refine (is27_yes ⟨9, 90⟩ _).mono ?_
  rintro e w112 ⟨rfl, hb113⟩
  have HF114 := Lib.hid (bext HF102.out hb113)
  have HX115 := Lib.hid (HX103.out.below hb113 HX103.out.lt)
  have HX116 := Lib.hid (HX104.out.below hb113 HX104.out.lt)
  have HX117 := Lib.hid (HX105.out.below hb113 HX105.out.lt)
  have HX118 := Lib.hid (HXX.out.below hb113 HXX.out.lt)
  have HY119 := Lib.hid (RunsAt.below HY106.out hb113)
  have HY120 := Lib.hid (tab_below2 HY107.out hb113)
  have HY121 := Lib.hid (RunsAt.below HY108.out hb113)
  clear HF102 HX103 HX104 HX105 HXX HY106 HY107 HY108
  clear hb113
  have c122 : w112.cell? ⟨g70, 0, none⟩ = some (.int .i64 5) := HX117.out.cell 0
  have c123 : w112.cell? ⟨g70, 1, none⟩ = some (.int .i64 51) := HX117.out.cell 1
  have l124 : g70 < w112.heap.size := HX117.out.lt
  go_wp2_with fail
  clear c122 c123 l124
  refine (is27_yes ⟨5, 51⟩ _).mono ?_
  rintro e w125 ⟨rfl, hb126⟩
  have HF127 := Lib.hid (bext HF114.out hb126)
  have HX128 := Lib.hid (HX115.out.below hb126 HX115.out.lt)
  have HX129 := Lib.hid (HX116.out.below hb126 HX116.out.lt)
  have HX130 := Lib.hid (HX117.out.below hb126 HX117.out.lt)
  have HX131 := Lib.hid (HX118.out.below hb126 HX118.out.lt)
  have HY132 := Lib.hid (RunsAt.below HY119.out hb126)
  have HY133 := Lib.hid (tab_below2 HY120.out hb126)
  have HY134 := Lib.hid (RunsAt.below HY121.out hb126)
  clear HF114 HX115 HX116 HX117 HX118 HY119 HY120 HY121
  clear hb126
  have c135 : w125.cell? ⟨gx, 0, none⟩ = some (.int .u8 3) := HX131.out.cell 0
  have c136 : w125.cell? ⟨gx, 1, none⟩ = some (.int .i64 8) := HX131.out.cell 1
  have c137 : w125.cell? ⟨gx, 2, none⟩ = some (.int .i64 4) := HX131.out.cell 2
  have c138 : w125.cell? ⟨gx, 3, none⟩ = some (.int .i64 16) := HX131.out.cell 3
  have c139 : w125.cell? ⟨gx, 4, none⟩ = some (.int .i64 8) := HX131.out.cell 4
  have c140 : w125.cell? ⟨gx, 5, none⟩ = some (.int .i64 0) := HX131.out.cell 5
  have c141 : w125.cell? ⟨gx, 6, none⟩ = some (.int .i64 1) := HX131.out.cell 6
  have c142 : w125.cell? ⟨gx, 7, none⟩ = some (.int .i64 4) := HX131.out.cell 7
  have c143 : w125.cell? ⟨gx, 8, none⟩ = some (.int .i64 8) := HX131.out.cell 8
  have c144 : w125.cell? ⟨gx, 9, none⟩ = some (.slice B4 2 k4) := HX131.out.cell 9
  have c145 : w125.cell? ⟨gx, 10, none⟩ = some (.int .u64 7) := HX131.out.cell 10
  have l146 : gx < w125.heap.size := HX131.out.lt
  go_wp2_with fail
  clear c135 c136 c137 c138 c139 c140 c141 c142 c143 c144 c145 l146
  obtain ⟨U147, h148⟩ : ∃ U, w125.alloc (.cells #[.int .i64 9, .int .i64 90] 40) = U := ⟨_, rfl⟩
  have ba149 : Below w125.heap.size w125 U147 := by rw [← h148]; exact (Below.refl _ _).alloc (Nat.le_refl _) _
  have sl150 : Sl U147 (some ⟨w125.heap.size, 0, none⟩) (([⟨9, 90⟩] : List Pr).flatMap Pr.cells) := by rw [← h148]; exact sl_new1 _ _ _
  try rw [h148]
  have HF153 := Lib.hid (bext HF127.out ba149)
  have HX154 := Lib.hid (HX128.out.below ba149 HX128.out.lt)
  have HX155 := Lib.hid (HX129.out.below ba149 HX129.out.lt)
  have HX156 := Lib.hid (HX130.out.below ba149 HX130.out.lt)
  have HX157 := Lib.hid (HX131.out.below ba149 HX131.out.lt)
  have HY158 := Lib.hid (RunsAt.below HY132.out ba149)
  have HY159 := Lib.hid (tab_below2 HY133.out ba149)
  have HY160 := Lib.hid (RunsAt.below HY134.out ba149)
  clear HF127 HX128 HX129 HX130 HX131 HY132 HY133 HY134
  obtain ⟨g151, h152⟩ : ∃ g, w125.heap.size = g := ⟨_, rfl⟩
  rw [h152] at sl150
  try rw [h152]
  have HY161 := Lib.hid (sl150)
  clear h148 ba149 sl150 h152
  have hhs := has27_yes B4 (some ⟨g151, 0, none⟩) R4 k4 1 chap 7 [⟨9, 90⟩] _ HY160.out (by rw [HL4.out]; decide) (by rw [HN4.out]; decide) HY161.out (by decide) (by rw [HL4.out]; exact e4e) (by rw [HL4.out]; exact pr4)
  rw [HN4.out] at hhs
  have HHS := Lib.hid hhs
  clear hhs
  refine (HHS.out).mono ?_
  rintro e w162 ⟨rfl, hb163⟩
  have HF164 := Lib.hid (bext HF153.out hb163)
  have HX165 := Lib.hid (HX154.out.below hb163 HX154.out.lt)
  have HX166 := Lib.hid (HX155.out.below hb163 HX155.out.lt)
  have HX167 := Lib.hid (HX156.out.below hb163 HX156.out.lt)
  have HX168 := Lib.hid (HX157.out.below hb163 HX157.out.lt)
  have HY169 := Lib.hid (RunsAt.below HY158.out hb163)
  have HY170 := Lib.hid (tab_below2 HY159.out hb163)
  have HY171 := Lib.hid (RunsAt.below HY160.out hb163)
  have HY172 := Lib.hid (HY161.out.below hb163)
  clear HF153 HX154 HX155 HX156 HX157 HY158 HY159 HY160 HY161
  clear hb163
  go_wp2_with fail
  go_ret
  refine ⟨?_, HF164.out⟩
  rfl
end Go.Proofs.YtolclahkfmplfaaGreatDoor
