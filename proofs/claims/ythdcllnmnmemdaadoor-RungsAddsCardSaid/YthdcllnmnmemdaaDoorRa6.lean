/- Ko Kq Tw Kr: texts of the claim, in this order. -/
import Derived.Test.YthdcllnmnmemdaaDoorRa4
import Derived.Test.YthdcllnmnmemdaaDoorRa5
/- Contracts of the references of chapter 25: shelfmarkref25 Check, Both, All, Alive, and of shelfmarkref24 Plain, Alive. -/
namespace Go.Proofs.YthdcllnmnmemdaaDoor
open Go Go.RowKit
set_option maxRecDepth 100000

theorem bothE_nil_right (a : List Ent) : bothE a [] = a := by cases a <;> simp [bothE]
theorem bothE_lt {x y : Ent} {a b : List Ent} (h : x.key < y.key) : bothE (x :: a) (y :: b) = x :: bothE a (y :: b) := by rw [bothE, if_pos h]
theorem bothE_eq {x y : Ent} {a b : List Ent} (h : x.key = y.key) : bothE (x :: a) (y :: b) = x :: bothE a b := by rw [bothE, if_neg (by omega), if_pos h]
theorem bothE_gt2 {x y : Ent} {a b : List Ent} (h : y.key < x.key) : bothE (x :: a) (y :: b) = y :: bothE (x :: a) b := by rw [bothE, if_neg (by omega), if_neg (by omega)]
theorem drop_at {l : List Ent} {i : Nat} (h : i < l.length) : l.drop i = l[i] :: l.drop (i + 1) := (List.getElem_cons_drop h).symm

set_option maxHeartbeats 4000000 in
theorem both_any (A B : Option Addr) (a b : List Ent) (c d : Nat) (w : World) (hA : Sl w A (a.flatMap Ent.cells)) (hB : Sl w B (b.flatMap Ent.cells)) (hl : a.length + b.length ≤ 1099511627776) :
    Calls Tryd.prog 119 #[.slice A a.length c, .slice B b.length d] w (GivesOwn 27 3 (bothE a b).length ((bothE a b).flatMap Ent.cells) w) := by
  obtain ⟨te0, hI⟩ := info_parts ent_info
  have HI := Lib.hid hI
  clear hI
  go_enter Tryd.func119, Tryd.ntmps119
  go_wp2
  go_loopw [5, 6, 7] (fun v x y wr => ∃ (o : List Ent) (i k : Nat) (Ao : Option Addr) (co : Nat), v = .slice Ao o.length co ∧ x = .int .i64 i ∧ y = .int .i64 k ∧ i ≤ a.length ∧ k ≤ b.length ∧
      wr.ownsRow w.heap.size 27 3 (.slice Ao o.length co) o.length (o.flatMap Ent.cells) ∧ Below w.heap.size w wr ∧ Hid (o ++ bothE (a.drop i) (b.drop k) = bothE a b)) (fun _ x y _ => a.length + b.length - (intOf x).toNat - (intOf y).toNat)
  case atStart => exact ⟨[], 0, 0, none, 0, rfl, rfl, rfl, Nat.zero_le _, Nat.zero_le _, World.ownsRow_nil _ _ _ _, Below.refl _ _, by show _ = _; simp⟩
  case round =>
    obtain ⟨o, i, k, Ao, co, rfl, rfl, rfl, hi, hk, hown, hb, hrest⟩ := hrel
    have hol : o.length ≤ 1099511627776 := by
      have h1 := congrArg List.length hrest.out
      have h2 := bothE_len _ a b (Nat.le_refl _)
      rw [List.length_append] at h1
      omega
    have HOW := Lib.hid hown
    have HB := Lib.hid hb
    have hbs := hb.size
    have i0 : (0 : Int) ≤ (i : Int) := by omega
    have k0 : (0 : Int) ≤ (k : Int) := by omega
    have HA := Lib.hid hA
    have HBB := Lib.hid hB
    clear hown hb
    by_cases hka : k = b.length
    · have HKA := Lib.hid hka
      have hkz : ((k : Int) == (b.length : Int)) = true := by simp [hka]
      have hkd : decide ((k : Int) < (b.length : Int)) = false := decide_eq_false (by omega)
      have hkd2 : decide (k < b.length) = false := decide_eq_false (by omega)
      by_cases hia : i < a.length
      · have hid : decide ((i : Int) < (a.length : Int)) = true := decide_eq_true (by omega)
        have hid2 : decide (i < a.length) = true := decide_eq_true hia
        have i1 : (i : Int) < (a.length : Int) := by omega
        obtain ⟨ba, oa, rfl, hbl, e1, e2, e3⟩ := HA.out.entB HB.out i hia
        obtain ⟨x, hx⟩ : ∃ x, a[i]'hia = x := ⟨_, rfl⟩
        rw [hx] at e1 e2 e3
        have heq : Hid ((o ++ [x]) ++ bothE (a.drop (i + 1)) (b.drop k) = bothE a b) := by
          show _ = _
          have h := hrest.out
          rw [List.drop_eq_nil_of_le (by omega : b.length ≤ k), bothE_nil_right, drop_at hia, hx] at h
          rw [List.drop_eq_nil_of_le (by omega : b.length ≤ k), bothE_nil_right, ← h]
          simp
        clear hka hx hA hB
        go_wp2_with fail
        go_quiet (fail)
        go_wp2_with fail
        go_quiet (fail)
        go_wp2_with (at_builtin; refine wpList_append_sl _ rfl (.tmp 60) (.tmp 65) _ rfl w.heap.size 27 te0 _ 3 24 Tryd.underlying59 HI.out.1 HI.out.2.1 HI.out.2.2.1 HI.out.2.2.2 rfl (by omega) (.slice Ao o.length co) o.length _ rfl (HOW.out.alloc _) _ 1 _ [.int .i64 x.key, .int .i64 x.val, .bool x.dead] rfl (by exact sl_new1 _ _ _) rfl (by simp [Value.oneCell']) (by unfold maxLen; omega) (by omega) (by simp; omega) ?_; intro v2 w2 hown2 hg2; obtain ⟨A2, q2, rfl, hle2, hmx2⟩ := own_form hown2; have HO2 := Lib.hid hown2; clear hown2)
        go_roundw
        case rel =>
          refine ⟨o ++ [x], i + 1, k, A2, q2, by simp, by go_num, by go_num, by omega, by omega, ?_, ?_, heq⟩
          · simpa [Ent.cells] using HO2.out
          · exact ((by first | exact HB.out | exact bdrew HB.out _ | exact bdrew (bdrew HB.out _) _ : Below w.heap.size w _).alloc (by simp; omega) _).grown hg2 (by simp; omega) (fun q hq => (HOW.out.lt q hq).1)
        case measure => simp [intOf]; omega
      · have hid : decide ((i : Int) < (a.length : Int)) = false := decide_eq_false (by omega)
        have HIA := Lib.hid (show i = a.length by omega)
        have heq : Hid (o = bothE a b) := by
          show _ = _
          have h := hrest.out
          rw [List.drop_eq_nil_of_le (by omega : b.length ≤ k), List.drop_eq_nil_of_le (by omega : a.length ≤ i), bothE_nil_right, List.append_nil] at h
          exact h
        clear hka
        go_wp2
        go_ret
        exact ⟨Ao, co, by rw [heq.out]; rfl, by rw [← heq.out]; exact HOW.out, HB.out⟩
    · have hkb : k < b.length := by omega
      have hkz : ((k : Int) == (b.length : Int)) = false := beq_eq_false_iff_ne.2 (by omega)
      have hkd : decide ((k : Int) < (b.length : Int)) = true := decide_eq_true (by omega)
      have hkd2 : decide (k < b.length) = true := decide_eq_true hkb
      have k1 : (k : Int) < (b.length : Int) := by omega
      obtain ⟨bb, ob, rfl, hbl2, f1, f2, f3⟩ := HBB.out.entB HB.out k hkb
      obtain ⟨y, hy⟩ : ∃ y, b[k]'hkb = y := ⟨_, rfl⟩
      rw [hy] at f1 f2 f3
      by_cases hia : i < a.length
      · have hid : decide ((i : Int) < (a.length : Int)) = true := decide_eq_true (by omega)
        have hid2 : decide (i < a.length) = true := decide_eq_true hia
        have i1 : (i : Int) < (a.length : Int) := by omega
        obtain ⟨ba, oa, rfl, hbl, e1, e2, e3⟩ := HA.out.entB HB.out i hia
        obtain ⟨x, hx⟩ : ∃ x, a[i]'hia = x := ⟨_, rfl⟩
        rw [hx] at e1 e2 e3
        have hr := hrest.out
        rw [drop_at hia, drop_at hkb, hx, hy] at hr
        have hda := drop_at hia
        have hdb := drop_at hkb
        rw [hx] at hda
        rw [hy] at hdb
        rcases Int.lt_trichotomy x.key y.key with hlt | hkeq | hgt
        · have hc1 : decide (x.key ≤ y.key) = true := decide_eq_true (by omega)
          have hc2 : (x.key == y.key) = false := beq_eq_false_iff_ne.2 (by omega)
          have heq : Hid ((o ++ [x]) ++ bothE (a.drop (i + 1)) (b.drop k) = bothE a b) := by
            show _ = _
            rw [bothE_lt hlt] at hr
            rw [hdb, ← hr]; simp
          clear hr hda hdb hx hy hA hB hka hlt
          go_wp2_with fail
          go_quiet (fail)
          go_wp2_with fail
          go_quiet (fail)
          go_wp2_with (at_builtin; refine wpList_append_sl _ rfl (.tmp 60) (.tmp 65) _ rfl w.heap.size 27 te0 _ 3 24 Tryd.underlying59 HI.out.1 HI.out.2.1 HI.out.2.2.1 HI.out.2.2.2 rfl (by omega) (.slice Ao o.length co) o.length _ rfl (HOW.out.alloc _) _ 1 _ [.int .i64 x.key, .int .i64 x.val, .bool x.dead] rfl (by exact sl_new1 _ _ _) rfl (by simp [Value.oneCell']) (by unfold maxLen; omega) (by omega) (by simp; omega) ?_; intro v2 w2 hown2 hg2; obtain ⟨A2, q2, rfl, hle2, hmx2⟩ := own_form hown2; have HO2 := Lib.hid hown2; clear hown2)
          go_roundw
          case rel =>
            refine ⟨o ++ [x], i + 1, k, A2, q2, by simp, by go_num, by go_num, by omega, by omega, ?_, ?_, heq⟩
            · simpa [Ent.cells] using HO2.out
            · exact ((by first | exact HB.out | exact bdrew HB.out _ | exact bdrew (bdrew HB.out _) _ : Below w.heap.size w _).alloc (by simp; omega) _).grown hg2 (by simp; omega) (fun q hq => (HOW.out.lt q hq).1)
          case measure => simp [intOf]; omega
        · have hc1 : decide (x.key ≤ y.key) = true := decide_eq_true (by omega)
          have hc2 : (x.key == y.key) = true := beq_iff_eq.2 hkeq
          have heq : Hid ((o ++ [x]) ++ bothE (a.drop (i + 1)) (b.drop (k + 1)) = bothE a b) := by
            show _ = _
            rw [bothE_eq hkeq] at hr
            rw [← hr]; simp
          clear hr hda hdb hx hy hA hB hka hkeq
          go_wp2_with fail
          go_quiet (fail)
          go_wp2_with fail
          go_quiet (fail)
          go_wp2_with (at_builtin; refine wpList_append_sl _ rfl (.tmp 60) (.tmp 65) _ rfl w.heap.size 27 te0 _ 3 24 Tryd.underlying59 HI.out.1 HI.out.2.1 HI.out.2.2.1 HI.out.2.2.2 rfl (by omega) (.slice Ao o.length co) o.length _ rfl (HOW.out.alloc _) _ 1 _ [.int .i64 x.key, .int .i64 x.val, .bool x.dead] rfl (by exact sl_new1 _ _ _) rfl (by simp [Value.oneCell']) (by unfold maxLen; omega) (by omega) (by simp; omega) ?_; intro v2 w2 hown2 hg2; obtain ⟨A2, q2, rfl, hle2, hmx2⟩ := own_form hown2; have HO2 := Lib.hid hown2; clear hown2)
          go_roundw
          case rel =>
            refine ⟨o ++ [x], i + 1, k + 1, A2, q2, by simp, by go_num, by go_num, by omega, by omega, ?_, ?_, heq⟩
            · simpa [Ent.cells] using HO2.out
            · exact ((by first | exact HB.out | exact bdrew HB.out _ | exact bdrew (bdrew HB.out _) _ : Below w.heap.size w _).alloc (by simp; omega) _).grown hg2 (by simp; omega) (fun q hq => (HOW.out.lt q hq).1)
          case measure => simp [intOf]; omega
        · have hc1 : decide (x.key ≤ y.key) = false := decide_eq_false (by omega)
          have heq : Hid ((o ++ [y]) ++ bothE (a.drop i) (b.drop (k + 1)) = bothE a b) := by
            show _ = _
            rw [bothE_gt2 hgt] at hr
            rw [hda, ← hr]; simp
          clear hr hda hdb hx hy hA hB hka hgt
          go_wp2_with fail
          go_quiet (fail)
          go_wp2_with (at_builtin; refine wpList_append_sl _ rfl (.tmp 69) (.tmp 74) _ rfl w.heap.size 27 te0 _ 3 24 Tryd.underlying59 HI.out.1 HI.out.2.1 HI.out.2.2.1 HI.out.2.2.2 rfl (by omega) (.slice Ao o.length co) o.length _ rfl (HOW.out.alloc _) _ 1 _ [.int .i64 y.key, .int .i64 y.val, .bool y.dead] rfl (by exact sl_new1 _ _ _) rfl (by simp [Value.oneCell']) (by unfold maxLen; omega) (by omega) (by simp; omega) ?_; intro v2 w2 hown2 hg2; obtain ⟨A2, q2, rfl, hle2, hmx2⟩ := own_form hown2; have HO2 := Lib.hid hown2; clear hown2)
          go_roundw
          case rel =>
            refine ⟨o ++ [y], i, k + 1, A2, q2, by simp, by go_num, by go_num, by omega, by omega, ?_, ?_, heq⟩
            · simpa [Ent.cells] using HO2.out
            · exact ((by first | exact HB.out | exact bdrew HB.out _ | exact bdrew (bdrew HB.out _) _ : Below w.heap.size w _).alloc (by simp; omega) _).grown hg2 (by simp; omega) (fun q hq => (HOW.out.lt q hq).1)
          case measure => simp [intOf]; omega
      · have hid : decide ((i : Int) < (a.length : Int)) = false := decide_eq_false (by omega)
        have hid2 : decide (i < a.length) = false := decide_eq_false hia
        have heq : Hid ((o ++ [y]) ++ bothE (a.drop i) (b.drop (k + 1)) = bothE a b) := by
          show _ = _
          have hr := hrest.out
          rw [List.drop_eq_nil_of_le (by omega : a.length ≤ i), drop_at hkb, hy, bothE] at hr
          rw [List.drop_eq_nil_of_le (by omega : a.length ≤ i), bothE, ← hr]; simp
        clear hy hA hB hka
        go_wp2_with fail
        go_quiet (fail)
        go_wp2_with (at_builtin; refine wpList_append_sl _ rfl (.tmp 69) (.tmp 74) _ rfl w.heap.size 27 te0 _ 3 24 Tryd.underlying59 HI.out.1 HI.out.2.1 HI.out.2.2.1 HI.out.2.2.2 rfl (by omega) (.slice Ao o.length co) o.length _ rfl (HOW.out.alloc _) _ 1 _ [.int .i64 y.key, .int .i64 y.val, .bool y.dead] rfl (by exact sl_new1 _ _ _) rfl (by simp [Value.oneCell']) (by unfold maxLen; omega) (by omega) (by simp; omega) ?_; intro v2 w2 hown2 hg2; obtain ⟨A2, q2, rfl, hle2, hmx2⟩ := own_form hown2; have HO2 := Lib.hid hown2; clear hown2)
        go_roundw
        case rel =>
          refine ⟨o ++ [y], i, k + 1, A2, q2, by simp, by go_num, by go_num, by omega, by omega, ?_, ?_, heq⟩
          · simpa [Ent.cells] using HO2.out
          · exact ((by first | exact HB.out | exact bdrew HB.out _ | exact bdrew (bdrew HB.out _) _ : Below w.heap.size w _).alloc (by simp; omega) _).grown hg2 (by simp; omega) (fun q hq => (HOW.out.lt q hq).1)
        case measure => simp [intOf]; omega

/-! ### the live ones -/
def liveE (l : List Ent) : List Ent := l.filter (fun e => !e.dead)
def plainE (l : List Ent) : List Pr := (liveE l).map (fun e => ⟨e.key, e.val⟩)
theorem plain_alive (l : List Ent) : (plainE l).map aliveE = liveE l := by
  unfold plainE
  rw [List.map_map]
  have : ∀ e ∈ liveE l, (aliveE ∘ fun e : Ent => (⟨e.key, e.val⟩ : Pr)) e = e := by
    intro e he
    have hd : e.dead = false := by simpa using (List.mem_filter.1 he).2
    obtain ⟨k, v, d⟩ := e
    dsimp at hd
    subst hd
    rfl
  rw [List.map_congr_left this, List.map_id']
theorem live_succ {l : List Ent} {k : Nat} (h : k < l.length) : liveE (l.take (k + 1)) = liveE (l.take k) ++ (if (l[k]'h).dead = true then [] else [l[k]'h]) := by
  unfold liveE
  rw [List.take_succ_eq_append_getElem h, List.filter_append]
  cases hd : (l[k]'h).dead <;> simp [List.filter, hd]
theorem live_le (l : List Ent) : (liveE l).length ≤ l.length := List.length_filter_le _ _
theorem live_ris {l : List Ent} (h : RisE l) : RisE (liveE l) := List.Pairwise.filter _ h
theorem pair_info2 : (Tryd.prog.info? 56).map (fun i => (i.zero, i.size, i.bytes)) = some (some (.agg #[.int .i64 0, .int .i64 0]), 2, 16) := by kernel_rfl

set_option maxHeartbeats 2000000 in
theorem refPlain_any (A : Option Addr) (l : List Ent) (c : Nat) (w : World) (hA : Sl w A (l.flatMap Ent.cells)) (hn : l.length ≤ 1099511627776) :
    Calls Tryd.prog 91 #[.slice A l.length c] w (GivesOwn 56 2 (plainE l).length ((plainE l).flatMap Pr.cells) w) := by
  obtain ⟨i0, hi, hz0, hz1, hz2⟩ := info_parts pair_info2
  go_enter Tryd.func91, Tryd.ntmps91
  go_wp2
  go_loopw [3, 4] (fun v i wr => ∃ (k : Nat) (o : List Pr) (A' : Option Addr) (c' : Nat), k ≤ l.length ∧ i = .int .i64 k ∧ Below w.heap.size w wr ∧ v = .slice A' o.length c' ∧
      wr.ownsRow w.heap.size 56 2 (.slice A' o.length c') o.length (o.flatMap Pr.cells) ∧ Hid (o = plainE (l.take k))) (fun _ i _ => l.length - (intOf i).toNat)
  case atStart => exact ⟨0, [], none, 0, Nat.zero_le _, rfl, Below.refl _ _, rfl, World.ownsRow_nil _ _ _ _, rfl⟩
  case round =>
    obtain ⟨k, o, A', c', hk, rfl, hb, rfl, hown, ho⟩ := hrel
    have hbs := hb.size
    by_cases hlt : k < l.length
    · obtain ⟨b, off, rfl, hbl, c1, c2, c3⟩ := hA.entB hb k hlt
      have hol : o.length ≤ k := by rw [ho.out]; unfold plainE; rw [List.length_map]; have := live_le (l.take k); simp at this; omega
      have hki : (0 : Int) ≤ (k : Int) := by omega
      have hki2 : (k : Int) < (l.length : Int) := by omega
      have hs := live_succ hlt
      obtain ⟨x, hx⟩ : ∃ x, l[k]'hlt = x := ⟨_, rfl⟩
      rw [hx] at c1 c2 c3 hs
      cases hd : x.dead
      · rw [hd] at c3 hs
        have hnew : Hid (o ++ [⟨x.key, x.val⟩] = plainE (l.take (k + 1))) := by
          show _ = _
          rw [ho.out]; unfold plainE; rw [hs]; simp
        have HOW := Lib.hid hown
        clear hd hs hx
        go_wp2_with fail
        go_region_law (
          (refine step_append_sl _ (by rfl) _ _ _ (by rfl) w.heap.size 56 i0 _ 2 16 Tryd.underlying38 hi hz0 hz1 hz2 rfl (by omega) (.slice A' o.length c') o.length _ (by rfl) ((HOW.out.alloc _).drew) _ 1 _ [.int .i64 x.key, .int .i64 x.val] (by rfl) ((Blk.new wr _ _).sl 0 _ (by intro j u hu; simpa using hu)) (by rfl) (by simp [Value.oneCell']) (by unfold maxLen; omega) (by omega) (by simp; omega) ?_; intro v2 w2 hown2 hg2; obtain ⟨A2, z2, rfl, hle2, hmx2⟩ := own_form hown2; have HO2 := Lib.hid hown2; clear hown2))
        all_goals
          go_wp2
          go_roundw
          case rel =>
            exact ⟨k + 1, o ++ [⟨x.key, x.val⟩], A2, z2, by omega, by go_num, ((hb.alloc hbs _).drew).grown hg2 (by simp; omega) (fun k hk => (HOW.out.lt k hk).1), by simp, by simpa [Pr.cells] using HO2.out, hnew⟩
          case measure => simp [intOf]; omega
      · rw [hd] at c3 hs
        have hnew : Hid (o = plainE (l.take (k + 1))) := by
          show _ = _
          rw [ho.out]; unfold plainE; rw [hs]; simp
        clear hd hs hx
        go_wp2_with fail
        go_roundw
        case rel => exact ⟨k + 1, o, A', c', by omega, by go_num, hb, rfl, hown, hnew⟩
        case measure => simp [intOf]; omega
    · have hkn := Lib.hid (show k = l.length by omega)
      go_wp2
      go_ret
      have h := hown
      have ho2 := ho.out
      rw [hkn.out, List.take_of_length_le (Nat.le_refl _)] at ho2
      rw [ho2] at h ⊢
      exact ⟨A', c', rfl, h, hb⟩


/-! ### runs -/
def chkAllE : List (List Ent) → Int
  | [] => 0
  | r :: rs => if chkE r = 0 then chkAllE rs else chkE r
theorem chkAll_ok : ∀ {rs : List (List Ent)}, chkAllE rs = 0 → ∀ r ∈ rs, chkE r = 0
  | [], _, _, h => by simp at h
  | r0 :: rs, h, r, hr => by
    rw [chkAllE] at h
    by_cases h0 : chkE r0 = 0
    · rw [if_pos h0] at h
      rcases List.mem_cons.1 hr with rfl | hr
      · exact h0
      · exact chkAll_ok h r hr
    · rw [if_neg h0] at h; exact absurd h h0
theorem chkAll_drop {rs : List (List Ent)} {k : Nat} (h : k < rs.length) : chkAllE (rs.drop k) = if chkE (rs[k]'h) = 0 then chkAllE (rs.drop (k + 1)) else chkE (rs[k]'h) := by
  rw [← List.getElem_cons_drop h, chkAllE]
/-- runs in memory -/
structure RunsAt (w : World) (B : Option Addr) (Rs : List Rm) : Prop where
  sl : Sl w B (Rs.map Rm.v)
  ok : ∀ r ∈ Rs, r.Ok w
theorem Rm.Ok.below {w w' : World} {r : Rm} (h : r.Ok w) (hb : Below w.heap.size w w') : r.Ok w' := ⟨h.sl.below hb, h.lc, h.c⟩
theorem RunsAt.below {w w' : World} {B : Option Addr} {Rs : List Rm} (h : RunsAt w B Rs) (hb : Below w.heap.size w w') : RunsAt w' B Rs := ⟨h.sl.below hb, fun r hr => (h.ok r hr).below hb⟩


theorem all_take_len : ∀ (rs : List (List Ent)) (k T : Nat), (rs.map List.length).sum ≤ T → (allE (rs.take k)).length + ((rs.drop k).map List.length).sum ≤ T := by
  intro rs k T h
  have h1 := fold_len (rs.take k) []
  have h2 : ((rs.take k).map List.length).sum + ((rs.drop k).map List.length).sum = (rs.map List.length).sum := by
    rw [← List.sum_append, ← List.map_append, List.take_append_drop]
  unfold allE
  rw [List.length_nil, Nat.zero_add] at h1
  omega
theorem all_succ {rs : List (List Ent)} {k : Nat} (h : k < rs.length) : allE (rs.take (k + 1)) = bothE (allE (rs.take k)) (rs[k]'h) := by
  unfold allE
  rw [List.take_succ_eq_append_getElem h, List.foldl_append]; rfl
/-- what the runs are, in order -/
def inS (Rs : List Rm) : List (List Ent) := Rs.map (fun r => inL r.l)
theorem inS_sum (Rs : List Rm) : ((inS Rs).map List.length).sum = (Rs.map (fun r => r.l.length)).sum := by
  unfold inS
  rw [List.map_map]
  congr 1
  exact List.map_congr_left (fun r _ => inL_length r.l)

set_option maxHeartbeats 1000000 in
theorem refAll_any (B : Option Addr) (Rs : List Rm) (c T : Nat) (w : World) (hB : RunsAt w B Rs) (hl : Rs.length ≤ 4611686018427387903) (hsm : ∀ r ∈ Rs, r.l.length ≤ 65536) (hT : (Rs.map (fun r => r.l.length)).sum ≤ T) (hT2 : T ≤ 1099511627776) :
    Calls Tryd.prog 92 #[.slice B Rs.length c] w (GivesOwn 27 3 (allE (inS Rs)).length ((allE (inS Rs)).flatMap Ent.cells) w) := by
  rw [← inS_sum] at hT
  have HT := Lib.hid hT
  clear hT
  go_enter Tryd.func92, Tryd.ntmps92
  go_wp2
  go_loopw [3, 4] (fun v i wr => ∃ (k : Nat) (o : List Ent) (A' : Option Addr) (c' : Nat), k ≤ Rs.length ∧ i = .int .i64 k ∧ Below w.heap.size w wr ∧ v = .slice A' o.length c' ∧
      wr.ownsRow w.heap.size 27 3 (.slice A' o.length c') o.length (o.flatMap Ent.cells) ∧ Hid (o = allE ((inS Rs).take k))) (fun _ i _ => Rs.length - (intOf i).toNat)
  case atStart => exact ⟨0, [], none, 0, Nat.zero_le _, rfl, Below.refl _ _, rfl, World.ownsRow_nil _ _ _ _, rfl⟩
  case round =>
    obtain ⟨k, o, A', c', hk, rfl, hb, rfl, hown, ho⟩ := hrel
    by_cases hlt : k < Rs.length
    · have hlt2 : k < (inS Rs).length := by unfold inS; simpa using hlt
      obtain ⟨b, off, rfl, hbl, cp⟩ := hB.sl.oneB hb k hlt
      have hok := (hB.ok _ (List.getElem_mem hlt)).below hb
      have hs := all_succ hlt2
      have hlen := all_take_len (inS Rs) k T HT.out
      rw [List.drop_eq_getElem_cons hlt2, List.map_cons, List.sum_cons] at hlen
      have hgi : (inS Rs)[k]'hlt2 = inL (Rs[k]'hlt).l := by simp [inS]
      have hsmr := hsm _ (List.getElem_mem hlt)
      rw [hgi] at hs hlen
      rw [← ho.out] at hlen hs
      obtain ⟨r, hr⟩ : ∃ r, Rs[k]'hlt = r := ⟨_, rfl⟩
      rw [hr] at cp hok hs hlen hsmr
      obtain ⟨l, A, cl⟩ := r
      have cp1 : wr.cell? ⟨b, off + k, none⟩ = some (.slice A l.length cl) := cp
      dsimp only at hs hlen hsmr
      rw [inL_length] at hlen
      have hki : (0 : Int) ≤ (k : Int) := by omega
      have hki2 : (k : Int) < (Rs.length : Int) := by omega
      have HS := Lib.hid hs
      have HOK := Lib.hid hok.sl
      have HL := Lib.hid (inL_length l)
      have HOW := Lib.hid hown
      have hol : o.length + l.length ≤ 1099511627776 := by omega
      clear cp hr hs hok hgi hlen hown
      go_wp2_with fail
      refine (refIn_any A l cl _ HOK.out hsmr).mono ?_
      rintro e w1 ⟨A1, c1, rfl, ho1, hb1⟩
      have hs1 := own_sl ho1
      have HSO := Lib.hid ((own_sl HOW.out).below hb1)
      clear ho1
      go_wp2_with fail
      rw [← HL.out]
      refine (both_any A' A1 o (inL l) c' c1 _ HSO.out hs1 (by rw [HL.out]; omega)).mono ?_
      rw [← HS.out]
      rintro e w2 ⟨A2, c2, rfl, ho2, hb2⟩
      have HO2 := Lib.hid (own_mono (B' := w.heap.size) ho2 (Nat.le_trans hb.size hb1.size))
      clear ho2
      go_wp2
      go_roundw
      case rel => exact ⟨k + 1, _, A2, c2, by omega, by go_num, bext hb (bext hb1 hb2), rfl, HO2.out, rfl⟩
      case measure => simp [intOf]; omega
    · have hkn : k = Rs.length := by omega
      have h : o = allE (inS Rs) := by rw [ho.out, List.take_of_length_le (by unfold inS; simp; omega)]
      have H := Lib.hid h
      clear h hkn
      go_wp2
      go_ret
      exact ⟨A', c', by rw [H.out]; rfl, by rw [← H.out]; exact hown, hb⟩

def mrgE (Rs : List Rm) : Int := if chkAllE (Rs.map Rm.l) = 0 then (if (allE (inS Rs)).length > 65536 then 4 else 0) else chkAllE (Rs.map Rm.l)
def bareE (bare : Bool) (l : List Ent) : List Ent := if bare = true then liveE l else l
def mrgL (Rs : List Rm) (bare : Bool) : List Ent := if mrgE Rs = 0 then laid (bareE bare (allE (inS Rs))) else []
theorem chk_len {l : List Ent} (h : chkE l = 0) : l.length ≤ 65536 := (chk_ok h).2.2
end Go.Proofs.YthdcllnmnmemdaaDoor

/- Contracts of kway.Merge and kway.Two, and of the references'. -/
namespace Go.Proofs.YthdcllnmnmemdaaDoor
open Go Go.RowKit
set_option maxRecDepth 100000

/-! ### what is merged may be built -/
theorem rises_ris {l : List Ent} (h : rises (l.map Ent.key) = true) : RisE l := by
  unfold rises at h
  have := of_decide_eq_true h
  exact List.pairwise_map.1 this
theorem ris_rises {l : List Ent} (h : RisE l) : rises (l.map Ent.key) = true := decide_eq_true (List.pairwise_map.2 h)
theorem chk_ris {l : List Ent} (h : chkE l = 0) : RisE (inL l) := rises_ris (chk_ok h).2.1
theorem inS_ris {Rs : List Rm} (h : chkAllE (Rs.map Rm.l) = 0) : ∀ r ∈ inS Rs, RisE r := by
  intro r hr
  obtain ⟨q, hq, rfl⟩ := List.mem_map.1 hr
  exact chk_ris (chkAll_ok h q.l (List.mem_map.2 ⟨q, hq, rfl⟩))
theorem all_ris {rs : List (List Ent)} (h : ∀ r ∈ rs, RisE r) : RisE (allE rs) := (fold_law rs RisE.nil h).1
theorem all_mem {rs : List (List Ent)} (h : ∀ r ∈ rs, RisE r) {e : Ent} (he : e ∈ allE rs) : ∃ r ∈ rs, e ∈ r := by
  have h1 := look_mem (all_ris h) he
  have h2 := (fold_law rs RisE.nil h).2 e.key
  have h3 : newest rs e.key = some e := by
    rw [← h1]
    have : look (allE rs) e.key = (look [] e.key).or (newest rs e.key) := h2
    rw [this]; simp [look]
  obtain ⟨a, r, hr, her, _⟩ := newest_mem h3
  exact ⟨r, List.mem_of_getElem? hr, her⟩
theorem chk_good {l : List Ent} (h : chkE l = 0) : ∀ e ∈ l, badEnt e = false := by
  have hf := (chk_ok h).1
  have h1 : ¬ l.length > 65536 := by have := (chk_ok h).2.2; omega
  have h2 : l.any badEnt = false := by
    cases hb : l.any badEnt with
    | false => rfl
    | true => unfold fairE at hf; rw [if_neg h1, hb] at hf; cases hf
  intro e he
  have := List.any_eq_false.1 h2 e he
  simpa using this
theorem mrg_build {Rs : List Rm} (bare : Bool) (h : mrgE Rs = 0) : buildE (bareE bare (allE (inS Rs))) = 0 ∧ chkAllE (Rs.map Rm.l) = 0 ∧ (allE (inS Rs)).length ≤ 65536 := by
  have hC : chkAllE (Rs.map Rm.l) = 0 := by
    unfold mrgE at h
    split at h
    · assumption
    · exact absurd h (by assumption)
  have hlen : (allE (inS Rs)).length ≤ 65536 := by
    unfold mrgE at h
    rw [if_pos hC] at h
    split at h
    · cases h
    · omega
  have hr := inS_ris hC
  have hmem : ∀ e ∈ bareE bare (allE (inS Rs)), e ∈ allE (inS Rs) := by
    intro e he
    unfold bareE at he
    split at he
    · exact (List.mem_filter.1 he).1
    · exact he
  have hle : (bareE bare (allE (inS Rs))).length ≤ 65536 := by
    unfold bareE
    split
    · have := live_le (allE (inS Rs)); omega
    · exact hlen
  have hris : RisE (bareE bare (allE (inS Rs))) := by
    unfold bareE
    split
    · exact live_ris (all_ris hr)
    · exact all_ris hr
  have hbad : (bareE bare (allE (inS Rs))).any badEnt = false := by
    rw [List.any_eq_false]
    intro e he
    obtain ⟨r, hrm, her⟩ := all_mem hr (hmem e he)
    obtain ⟨q, hq, rfl⟩ := List.mem_map.1 hrm
    have := chk_good (chkAll_ok hC q.l (List.mem_map.2 ⟨q, hq, rfl⟩)) e (inL_mem her)
    simp [this]
  refine ⟨?_, hC, hlen⟩
  unfold buildE
  rw [if_neg (by omega), hbad, ris_rises hris]
  rfl

theorem own_grow {w w' : World} {base base' s s' n n' : Nat} {e t : TypeId} {v v' : Value} {xs xs' : List Value} (hg : w.grownBy w' v.ownBlock) (ho : w.ownsRow base e s v n xs) (hb : w.ownsRow base' t s' v' n' xs') (hne : e ≠ t) : w'.ownsRow base' t s' v' n' xs' := by
  refine ⟨hb.1, ?_⟩
  rcases hb.2 with h1 | ⟨g, cap, cur, h1, h2, h3, h4⟩
  · exact .inl h1
  · refine .inr ⟨g, cap, cur, h1, h2, ?_, h4⟩
    have h5 : Blk w g t cur := h3
    refine h5.of (hg.block g h5.lt ?_)
    intro h
    rcases ho.2 with ⟨rfl, _⟩ | ⟨k, cap, cur, rfl, _, hk, _⟩
    · simp [Value.ownBlock] at h
    · simp [Value.ownBlock] at h
      subst h
      have := hk.symm.trans h3
      simp at this
      exact hne this.2

theorem ents_info : (Tryd.prog.info? 59).map (fun i => (i.zero, i.size, i.bytes)) = some (some (.slice none 0 0), 1, 24) := by kernel_rfl
theorem flat_one {α : Type} (f : α → Value) : ∀ l : List α, l.flatMap (fun x => [f x]) = l.map f
  | [] => rfl
  | x :: l => by rw [List.flatMap_cons, flat_one f l]; rfl

set_option maxHeartbeats 4000000 in
theorem merge_any (B : Option Addr) (Rs : List Rm) (c T : Nat) (bare : Bool) (w : World) (hB : RunsAt w B Rs) (hl : Rs.length ≤ 1099511627775) (hrs : ∀ r ∈ Rs, r.l.length ≤ 4611686018427387903)
    (hT : (Rs.map (fun r => r.l.length)).sum ≤ T) (hT2 : T ≤ 1099511627776) :
    Calls Tryd.prog 44 #[.slice B Rs.length c, .bool bare] w (GivesRun 27 (mrgL Rs bare) (mrgE Rs) w) := by
  obtain ⟨te0, hI1⟩ := info_parts ents_info
  obtain ⟨ti0, hI2⟩ := info_parts ent_info
  have HI1 := Lib.hid hI1
  have HI2 := Lib.hid hI2
  clear hI1 hI2
  obtain ⟨W0, hW0⟩ : ∃ W0, w.alloc (.cells #[.slice none 0 0] 61) = W0 := ⟨_, rfl⟩
  have hb0 : Below w.heap.size w W0 := by rw [← hW0]; exact (Below.refl _ _).alloc (Nat.le_refl _) _
  have hr0 : Blk W0 w.heap.size 61 #[.slice none 0 0] := by rw [← hW0]; exact Blk.new _ _ _
  have hs0 : W0.heap.size = w.heap.size + 1 := by rw [← hW0]; simp
  go_enter Tryd.func44, Tryd.ntmps44
  go_wp2
  try rw [hW0]
  clear hW0
  go_loopw [6, 17] (fun v i wr => ∃ (k : Nat) (Ss : List Rm) (A' : Option Addr) (c' : Nat), k ≤ Rs.length ∧ i = .int .i64 k ∧ Below W0.heap.size W0 wr ∧ v = .slice A' k c' ∧ Hid (Ss.length = k) ∧
      wr.ownsRow W0.heap.size 59 1 (.slice A' k c') k (Ss.map Rm.v) ∧ (∀ s ∈ Ss, wr.ownsRow W0.heap.size 27 3 s.v s.l.length (s.l.flatMap Ent.cells)) ∧
      Hid (Ss.map Rm.l = (inS Rs).take k) ∧ Hid (chkAllE ((Rs.map Rm.l).drop k) = chkAllE (Rs.map Rm.l))) (fun _ i _ => Rs.length - (intOf i).toNat)
  case atStart => exact ⟨0, [], none, 0, Nat.zero_le _, rfl, Below.refl _ _, rfl, rfl, World.ownsRow_nil _ _ _ _, by simp, rfl, rfl⟩
  case round =>
    obtain ⟨k, Ss, A', c', hk, rfl, hb, rfl, hSk, hown, hS, hin, hd⟩ := hrel
    have hbw : Below w.heap.size w wr := bext hb0 hb
    by_cases hlt : k < Rs.length
    · obtain ⟨b, off, rfl, hbl, cp⟩ := hB.sl.oneB hbw k hlt
      have hok := (hB.ok _ (List.getElem_mem hlt)).below hbw
      have hs := chkAll_drop (rs := Rs.map Rm.l) (k := k) (by simpa using hlt)
      rw [List.getElem_map] at hs
      have hrl := hrs _ (List.getElem_mem hlt)
      have hin2 : (inS Rs).take (k + 1) = (inS Rs).take k ++ [inL (Rs[k]'hlt).l] := by
        rw [List.take_succ_eq_append_getElem (by unfold inS; simpa using hlt)]; simp [inS]
      obtain ⟨r, hr⟩ : ∃ r, Rs[k]'hlt = r := ⟨_, rfl⟩
      rw [hr] at cp hok hs hrl hin2
      obtain ⟨l, A, cl⟩ := r
      have cp1 : wr.cell? ⟨b, off + k, none⟩ = some (.slice A l.length cl) := cp
      dsimp only at hs hrl hin2
      have hki : (0 : Int) ≤ (k : Int) := by omega
      have hki2 : (k : Int) < (Rs.length : Int) := by omega
      obtain ⟨E, hE⟩ : ∃ E, chkE l = E := ⟨_, rfl⟩
      rw [hE] at hs
      have HE := Lib.hid hE
      have HS := Lib.hid hs
      have HOK := Lib.hid hok.sl
      have HIN := Lib.hid hin2
      have HOW := Lib.hid hown
      have HSS := Lib.hid hS
      clear cp hr hE hs hok hin2 hown hS
      have hbX : Below wr.heap.size wr (wr.alloc (.cells #[.slice A l.length cl] 61)) := (Below.refl _ _).alloc (Nat.le_refl _) _
      have hbs := hb.size
      by_cases h0 : E = 0
      · subst h0
        have hsl : sortL l = inL l := by unfold sortL; rw [if_pos HE.out]
        have HSL := Lib.hid hsl
        have hll : l.length ≤ 65536 := (chk_ok HE.out).2.2
        have HIL := Lib.hid (inL_length l)
        clear hsl
        go_wp2_with fail
        refine (sortedE_any A l cl _ (HOK.out.below hbX) hrl).mono ?_
        rw [HSL.out, HE.out]
        rintro e w1 ⟨A1, c1, rfl, ho1, hb1⟩
        have hb2 : Below wr.heap.size wr w1 := bext hbX hb1
        have HO1 := Lib.hid (own_mono (B' := W0.heap.size) ho1 (by simp; omega))
        have HOW1 := Lib.hid (own_below HOW.out hb2)
        have hs1 := hb2.size
        clear ho1 hb1
        go_wp2_with (at_builtin; refine wpList_append_sl _ rfl (.tmp 30) (.tmp 32) _ rfl W0.heap.size 59 te0 _ 1 24 Tryd.underlying125 HI1.out.1 HI1.out.2.1 HI1.out.2.2.1 HI1.out.2.2.2 rfl (by omega) (.slice A' k c') k _ rfl (HOW1.out.alloc _) _ 1 _ [.slice A1 (inL l).length c1] rfl (by exact sl_new1 _ _ _) rfl (by simp [Value.oneCell']) (by unfold maxLen; omega) (by omega) (by simp; omega) ?_; intro v2 w2 hown2 hg2; obtain ⟨A2, q2, rfl, hle2, hmx2⟩ := own_form hown2; have HO2 := Lib.hid hown2; clear hown2)
        go_roundw
        case rel =>
          refine ⟨k + 1, Ss ++ [⟨inL l, A1, c1⟩], A2, q2, by omega, by go_num, ?_, rfl, ?_, ?_, ?_, ?_, ?_⟩
          · exact ((bext hb hb2).alloc (by omega) _).grown hg2 (by simp; omega) (fun q hq => (HOW1.out.lt q hq).1)
          · show _ = _
            rw [List.length_append, hSk.out]; rfl
          · rw [List.map_append]; exact HO2.out
          · intro s hs
            refine own_grow hg2 (HOW1.out.alloc _) ?_ (by decide)
            rcases List.mem_append.1 hs with hs | hs
            · exact (own_below (HSS.out s hs) hb2).alloc _
            · obtain rfl : s = ⟨inL l, A1, c1⟩ := by simpa using hs
              exact HO1.out.alloc _
          · show _ = _
            rw [List.map_append, hin.out, HIN.out]; rfl
          · show _ = _
            rw [← hd.out, HS.out]; simp
        case measure => simp [intOf]; omega
      · have h1 : (E != 0) = true := by simpa using h0
        have hsl : sortL l = [] := by unfold sortL; rw [if_neg (by rw [HE.out]; exact h0)]
        have HSL := Lib.hid hsl
        have hE2 : chkAllE (Rs.map Rm.l) = E := by rw [← hd.out, HS.out, if_neg h0]
        have hE3 : mrgE Rs = E := by unfold mrgE; rw [hE2, if_neg h0]
        have hL3 : mrgL Rs bare = [] := by unfold mrgL; rw [hE3, if_neg h0]
        have HE3 := Lib.hid hE3
        have HL3 := Lib.hid hL3
        have hrw := hr0.below hb hr0.lt
        have HRW := Lib.hid hrw
        have hrl2 := hrw.lt
        clear hsl h0 hE2 hE3 hL3 hrw
        go_wp2_with fail
        refine (sortedE_any A l cl _ (HOK.out.below hbX) hrl).mono ?_
        rw [HSL.out, HE.out]
        rintro e w1 ⟨A1, c1, rfl, ho1, hb1⟩
        have hb2 : Below wr.heap.size wr w1 := bext hbX hb1
        have hrw1 := HRW.out.below hb2 hrl2
        have hc1 : w1.cell? ⟨w.heap.size, 0, none⟩ = some (.slice none 0 0) := hrw1.cell 0
        have hf1 : w1.frozen? ⟨w.heap.size, 0, none⟩ = false := hrw1.frozen 0
        clear ho1 hb1 hrw1
        go_wp2
        refine bodyPost_ret (v := .tuple #[.agg #[.slice none 0 0], .int .i64 E]) (by simp [results, Tryd.results44, go_sem, hc1]) rfl ?_
        rw [HE3.out]
        exact gives_none ((bext hbw hb2).setCell (p := ⟨w.heap.size, 0, none⟩) (Nat.le_refl _) _) HL3.out
    · have hkn : k = Rs.length := by omega
      have hC : chkAllE (Rs.map Rm.l) = 0 := by rw [← hd.out, List.drop_eq_nil_of_le (by simp; omega)]; rfl
      have hinS : Ss.map Rm.l = inS Rs := by rw [hin.out, List.take_of_length_le (by unfold inS; simp; omega)]
      have hSok : ∀ s ∈ Ss, s.Ok wr := by
        intro s hs
        have h1 := hS s hs
        obtain ⟨A3, c3, h3, h4, h5⟩ := own_form h1
        obtain ⟨ls, As, cs⟩ := s
        have h6 : As = A3 ∧ cs = c3 := by simpa [Rm.v] using h3
        obtain ⟨rfl, rfl⟩ := h6
        exact ⟨own_sl h1, h4, h5⟩
      have hSsum : (Ss.map (fun r => r.l.length)).sum ≤ T := by
        have : Ss.map (fun r => r.l.length) = (inS Rs).map List.length := by rw [← hinS, List.map_map]; rfl
        rw [this, inS_sum]; exact hT
      have hSris : ∀ s ∈ Ss, RisE s.l := fun s hs => inS_ris hC _ (hinS ▸ List.mem_map.2 ⟨s, hs, rfl⟩)
      have hSl := own_sl hown
      have HSL := Lib.hid hSl
      have HSO := Lib.hid hSok
      have HSS := Lib.hid hSsum
      have HSR := Lib.hid hSris
      have HC := Lib.hid hC
      have HIN := Lib.hid hinS
      have hrw := hr0.below hb hr0.lt
      have HRW := Lib.hid hrw
      have hrl2 := hrw.lt
      have hSn : Ss.length = k := hSk.out
      have HSN := Lib.hid hSn
      have HKN := Lib.hid hkn
      clear hC hinS hSok hSsum hSris hSl hown hS hrw hSn hkn
      have hmg := merged_any wr A' Ss c' T HSL.out HSO.out HSR.out (by have := HSN.out; omega) HSS.out hT2
      rw [HSN.out, HIN.out] at hmg
      obtain ⟨O, hO⟩ : ∃ O, allE (inS Rs) = O := ⟨_, rfl⟩
      rw [hO] at hmg
      have hOT : O.length ≤ T := by
        rw [← hO]
        have h1 := fold_len (inS Rs) []
        rw [inS_sum] at h1
        unfold allE
        simp at h1
        omega
      have HO := Lib.hid hO
      have HMG := Lib.hid hmg
      have HEq : Hid (mrgE Rs = if O.length > 65536 then 4 else 0) := by
        show _ = _
        unfold mrgE
        rw [if_pos HC.out, hO]
      have HLq : Hid (mrgE Rs = 0 → mrgL Rs bare = laid (bareE bare O)) := by
        show _ → _
        intro h
        unfold mrgL
        rw [if_pos h, hO]
      clear hmg hO
      by_cases hbig : O.length > 65536
      · have hE3 : mrgE Rs = 4 := by rw [HEq.out, if_pos hbig]
        have hL3 : mrgL Rs bare = [] := by unfold mrgL; rw [hE3]; rfl
        have HE3 := Lib.hid hE3
        have HL3 := Lib.hid hL3
        clear hE3 hL3
        go_wp2_with fail
        refine HMG.out.mono ?_
        rintro e w1 ⟨A1, c1, rfl, ho1, hb1⟩
        have hrw1 := HRW.out.below hb1 hrl2
        have hc1 : w1.cell? ⟨w.heap.size, 0, none⟩ = some (.slice none 0 0) := hrw1.cell 0
        have hf1 : w1.frozen? ⟨w.heap.size, 0, none⟩ = false := hrw1.frozen 0
        clear ho1 hrw1
        go_wp2
        refine bodyPost_ret (v := .tuple #[.agg #[.slice none 0 0], .int .i64 4]) (by simp [results, Tryd.results44, go_sem, hc1]) rfl ?_
        rw [HE3.out]
        exact gives_none ((bext hbw hb1).setCell (p := ⟨w.heap.size, 0, none⟩) (Nat.le_refl _) _) HL3.out
      · have hE3 : mrgE Rs = 0 := by rw [HEq.out, if_neg hbig]
        have hL3 : mrgL Rs bare = laid (bareE bare O) := HLq.out hE3
        have hbe : buildE (bareE bare O) = 0 := by have := (mrg_build bare hE3).1; rwa [HO.out] at this
        have hbl : buildL (bareE bare O) = laid (bareE bare O) := by unfold buildL; rw [if_pos hbe]
        have HE3 := Lib.hid hE3
        have HL3 := Lib.hid hL3
        have HBE := Lib.hid hbe
        have HBL := Lib.hid hbl
        have hol : O.length ≤ 65536 := by omega
        clear hE3 hL3 hbe hbl
        cases bare with
        | false =>
          go_wp2_with fail
          refine HMG.out.mono ?_
          rintro e w1 ⟨A1, c1, rfl, ho1, hb1⟩
          have hs1 := own_sl ho1
          have HW1 := Lib.hid (HRW.out.below hb1 hrl2)
          clear ho1
          go_wp2_with fail
          refine (build_any A1 O c1 _ hs1 (by omega)).mono ?_
          rw [show O = bareE false O from rfl, HBE.out, HBL.out]
          rintro e w2 ⟨A2, c2, rfl, ho2, hb2⟩
          have hrw1 := HW1.out.below hb2 HW1.out.lt
          have hc1 : w2.cell? ⟨w.heap.size, 0, none⟩ = some (.slice none 0 0) := hrw1.cell 0
          have hf1 : w2.frozen? ⟨w.heap.size, 0, none⟩ = false := hrw1.frozen 0
          have HO2 := Lib.hid ho2
          have hlw : w.heap.size < w1.heap.size := HW1.out.lt
          clear ho2 hrw1
          go_wp2
          refine bodyPost_ret (v := .tuple #[.agg #[.slice A2 (laid (bareE false O)).length c2], .int .i64 0]) (by simp [results, Tryd.results44, go_sem, hc1]) rfl ?_
          rw [HE3.out, HL3.out]
          refine ⟨A2, c2, rfl, own_far (own_mono HO2.out (by omega)) ?_ _, (bext hbw (bext hb1 hb2)).setCell (p := ⟨w.heap.size, 0, none⟩) (Nat.le_refl _) _⟩
          intro e
          have := (HO2.out.lt _ e).1
          dsimp only at this
          omega
        | true =>
          go_wp2_with fail
          refine HMG.out.mono ?_
          rintro e w1 ⟨A1, c1, rfl, ho1, hb1⟩
          have HS1 := Lib.hid (own_sl ho1)
          have HW1 := Lib.hid (HRW.out.below hb1 hrl2)
          clear ho1
          go_wp2
          go_loopw [12, 44] (fun v i wr2 => ∃ (j : Nat) (o : List Ent) (A3 : Option Addr) (c3 : Nat), j ≤ O.length ∧ i = .int .i64 j ∧ Below w1.heap.size w1 wr2 ∧ v = .slice A3 o.length c3 ∧
            wr2.ownsRow w1.heap.size 27 3 (.slice A3 o.length c3) o.length (o.flatMap Ent.cells) ∧ Hid (o = liveE (O.take j))) (fun _ i _ => O.length - (intOf i).toNat)
          case atStart => exact ⟨0, [], none, 0, Nat.zero_le _, rfl, Below.refl _ _, rfl, World.ownsRow_nil _ _ _ _, rfl⟩
          case round =>
            obtain ⟨j, o, A3, c3, hj, rfl, hb3, rfl, hown3, ho3⟩ := hrel
            have hbs3 := hb3.size
            by_cases hlt2 : j < O.length
            · obtain ⟨b, off, rfl, hbl, e1, e2, e3⟩ := HS1.out.entB hb3 j hlt2
              have hol3 : o.length ≤ j := by rw [ho3.out]; have := live_le (O.take j); simp at this; omega
              have hki : (0 : Int) ≤ (j : Int) := by omega
              have hki2 : (j : Int) < (O.length : Int) := by omega
              have hs := live_succ hlt2
              obtain ⟨x, hx⟩ : ∃ x, O[j]'hlt2 = x := ⟨_, rfl⟩
              rw [hx] at e1 e2 e3 hs
              have HOW3 := Lib.hid hown3
              cases hd2 : x.dead
              · rw [hd2] at hs e3
                obtain ⟨wa, hwa⟩ : ∃ wa, wr.alloc (.cells #[.int .i64 x.key, .int .i64 x.val, .bool false] 27) = wa := ⟨_, rfl⟩
                have hba : Below wr.heap.size wr wa := by rw [← hwa]; exact (Below.refl _ _).alloc (Nat.le_refl _) _
                have bxa : Blk wa wr.heap.size 27 #[.int .i64 x.key, .int .i64 x.val, .bool false] := by rw [← hwa]; exact Blk.new _ _ _
                have x0 : wa.cell? ⟨wr.heap.size, 0, none⟩ = some (.int .i64 x.key) := bxa.cell 0
                have x1 : wa.cell? ⟨wr.heap.size, 1, none⟩ = some (.int .i64 x.val) := bxa.cell 1
                have x2 : wa.cell? ⟨wr.heap.size, 2, none⟩ = some (.bool false) := bxa.cell 2
                have hsa := hba.size
                have HD := Lib.hid hd2
                have HWA := Lib.hid hwa
                clear bxa hd2 hwa
                have hnew : Hid (o ++ [x] = liveE (O.take (j + 1))) := by
                  show _ = _
                  rw [ho3.out, hs]; simp
                have HOA := Lib.hid (own_below HOW3.out hba)
                clear hs hx
                go_upto_region 18 with fail
                rw [HWA.out]
                clear HWA
                go_wp2_with (at_builtin; refine wpList_append_sl _ rfl (.tmp 51) (.tmp 53) _ rfl w1.heap.size 27 ti0 _ 3 24 Tryd.underlying59 HI2.out.1 HI2.out.2.1 HI2.out.2.2.1 HI2.out.2.2.2 rfl (by omega) (.slice A3 o.length c3) o.length _ rfl (HOA.out.alloc _) _ 1 _ [.int .i64 x.key, .int .i64 x.val, .bool false] rfl (by exact sl_new1 _ _ _) rfl (by simp [Value.oneCell']) (by unfold maxLen; omega) (by omega) (by simp; omega) ?_; intro v2 w2 hown2 hg2; obtain ⟨A4, q4, rfl, hle4, hmx4⟩ := own_form hown2; have HO2 := Lib.hid hown2; clear hown2)
                go_roundw
                case rel =>
                  refine ⟨j + 1, o ++ [x], A4, q4, by omega, by go_num, ((bext hb3 hba).alloc (by omega) _).grown hg2 (by simp; omega) (fun q hq => (HOA.out.lt q hq).1), by simp, ?_, hnew⟩
                  rw [List.flatMap_append, List.length_append]
                  simpa [Ent.cells, HD.out] using HO2.out
                case measure => simp [intOf]; omega
              · rw [hd2] at hs e3
                obtain ⟨wa, hwa⟩ : ∃ wa, wr.alloc (.cells #[.int .i64 x.key, .int .i64 x.val, .bool true] 27) = wa := ⟨_, rfl⟩
                have hba : Below wr.heap.size wr wa := by rw [← hwa]; exact (Below.refl _ _).alloc (Nat.le_refl _) _
                have bxa : Blk wa wr.heap.size 27 #[.int .i64 x.key, .int .i64 x.val, .bool true] := by rw [← hwa]; exact Blk.new _ _ _
                have x0 : wa.cell? ⟨wr.heap.size, 0, none⟩ = some (.int .i64 x.key) := bxa.cell 0
                have x1 : wa.cell? ⟨wr.heap.size, 1, none⟩ = some (.int .i64 x.val) := bxa.cell 1
                have x2 : wa.cell? ⟨wr.heap.size, 2, none⟩ = some (.bool true) := bxa.cell 2
                have hsa := hba.size
                have HD := Lib.hid hd2
                have HWA := Lib.hid hwa
                clear bxa hd2 hwa
                have hnew : Hid (o = liveE (O.take (j + 1))) := by
                  show _ = _
                  rw [ho3.out, hs]; simp
                clear hs hx
                go_upto_region 18 with fail
                rw [HWA.out]
                clear HWA
                go_wp2_with fail
                go_roundw
                case rel => exact ⟨j + 1, o, A3, c3, by omega, by go_num, bext hb3 hba, rfl, own_below HOW3.out hba, hnew⟩
                case measure => simp [intOf]; omega
            · have hjn : j = O.length := by omega
              have ho4 : o = bareE true O := by rw [ho3.out, hjn, List.take_of_length_le (Nat.le_refl _)]; rfl
              have hs3 := own_sl hown3
              have hol4 : o.length ≤ 65536 := by rw [ho4]; have := live_le O; unfold bareE; simp; omega
              have HO4 := Lib.hid ho4
              have HW3 := Lib.hid (HW1.out.below hb3 HW1.out.lt)
              have hlw : w.heap.size < w1.heap.size := HW1.out.lt
              clear hjn ho4 hown3
              go_wp2_with fail
              refine (build_any A3 o c3 _ hs3 (by omega)).mono ?_
              rw [HO4.out, HBE.out, HBL.out]
              rintro e w2 ⟨A2, c2, rfl, ho2, hb2⟩
              have hrw1 := HW3.out.below hb2 HW3.out.lt
              have hc1 : w2.cell? ⟨w.heap.size, 0, none⟩ = some (.slice none 0 0) := hrw1.cell 0
              have hf1 : w2.frozen? ⟨w.heap.size, 0, none⟩ = false := hrw1.frozen 0
              have HO2 := Lib.hid ho2
              clear ho2 hrw1
              go_wp2
              refine bodyPost_ret (v := .tuple #[.agg #[.slice A2 (laid (bareE true O)).length c2], .int .i64 0]) (by simp [results, Tryd.results44, go_sem, hc1]) rfl ?_
              rw [HE3.out, HL3.out]
              refine ⟨A2, c2, rfl, own_far (own_mono HO2.out (by omega)) ?_ _, (bext hbw (bext hb1 (bext hb3 hb2))).setCell (p := ⟨w.heap.size, 0, none⟩) (Nat.le_refl _) _⟩
              intro e
              have := (HO2.out.lt _ e).1
              dsimp only at this
              omega
end Go.Proofs.YthdcllnmnmemdaaDoor

/- Contracts: copies of runs. -/
namespace Go.Proofs.YthdcllnmnmemdaaDoor
open Go Go.RowKit
set_option maxRecDepth 100000

theorem one_ents (l : List Ent) : ∀ u ∈ l.flatMap Ent.cells, u.oneCell' = true := by
  intro u hu; obtain ⟨e, _, he⟩ := List.mem_flatMap.1 hu; simp [Ent.cells] at he; rcases he with rfl | rfl | rfl <;> rfl
theorem ents_length (l : List Ent) : (l.flatMap Ent.cells).length = l.length * 3 := flat_length Ent.cells 3 Ent.cells_length l
theorem eql_nilE (A : Option Addr) (n c : Nat) (w : World) : (binOp .eql 59 (.slice A n c) (.slice none 0 0)).run Tryd.prog w = .ok (.bool A.isNone) w := Lib.run_eql_slice_nil w _ _ A n c _ _ Tryd.underlying59
theorem own_zeroE {w : World} {g B : Nat} (h : Blk w g 27 #[]) (hB : B ≤ g) : w.ownsRow B 27 3 (.slice (some ⟨g, 0, none⟩) 0 0) 0 [] :=
  ⟨rfl, .inr ⟨g, 0, _, rfl, hB, h, Nat.le_refl _, Nat.zero_le _, rfl, rfl⟩⟩
/-- hands back a run whose entries lie in new memory -/
def GivesTwin (l : List Ent) (w : World) (r : Ending) (w' : World) : Prop :=
  ∃ A c, r = .returned (.agg #[.slice A l.length c]) ∧ w'.ownsRow w.heap.size 27 3 (.slice A l.length c) l.length (l.flatMap Ent.cells) ∧ Below w.heap.size w w'

set_option maxHeartbeats 1000000 in
theorem cloneE_any (A : Option Addr) (l : List Ent) (c : Nat) (w : World) (hA : Sl w A (l.flatMap Ent.cells)) (hl : l.length ≤ 1000000) :
    Calls Tryd.prog 84 #[.slice A l.length c] w (GivesOwn 27 3 l.length (l.flatMap Ent.cells) w) := by
  obtain ⟨i0, hi, hz0, hz1, hz2⟩ := info_parts ent_info
  have hn := eql_nilE A l.length c w
  cases A with
  | none =>
    have hnil : l = [] := by
      rcases hA with h | ⟨b, off, h, _⟩
      · cases l with
        | nil => rfl
        | cons a l => simp [Ent.cells] at h
      · cases h
    subst hnil
    have hn2 : ∀ n, (binOp .eql 59 (.slice none n c) (.slice none 0 0)).run Tryd.prog w = .ok (.bool true) w := fun n => eql_nilE none n c w
    clear hn
    go_enter Tryd.func84, Tryd.ntmps84
    go_wp2
    go_ret
    exact ⟨none, 0, rfl, World.ownsRow_nil _ _ _ _, Below.refl _ _⟩
  | some a =>
    have hb0 : Below w.heap.size w (w.alloc (.cells #[] 27)) := (Below.refl _ _).alloc (Nat.le_refl _) _
    have hown0 : (w.alloc (.cells #[] 27)).ownsRow w.heap.size 27 3 (.slice (some ⟨w.heap.size, 0, none⟩) 0 0) 0 [] := own_zeroE (Blk.new _ _ _) (Nat.le_refl _)
    go_enter Tryd.func84, Tryd.ntmps84
    go_wp2_with (at_builtin; refine wpList_append_sl _ rfl (.tmp 5) (.tmp 6) _ rfl w.heap.size 27 i0 _ 3 24 Tryd.underlying59 hi hz0 hz1 hz2 rfl (by omega) (.slice (some ⟨w.heap.size, 0, none⟩) 0 0) 0 [] rfl hown0 (some a) l.length c (l.flatMap Ent.cells) rfl (hA.below hb0) (ents_length l) (one_ents l) (by unfold maxLen; omega) (by omega) (by simp) ?_; intro v1 w1 hown1 hg1; simp only [Nat.zero_add, List.nil_append] at hown1; obtain ⟨A1, c1, rfl, hlc1, hcm1⟩ := own_form hown1)
    go_ret
    exact ⟨A1, c1, rfl, hown1, hb0.grown hg1 (by simp) (fun k hk => (hown0.lt k hk).1)⟩
set_option maxHeartbeats 1000000 in
theorem twin_any (A : Option Addr) (l : List Ent) (c : Nat) (w : World) (hA : Sl w A (l.flatMap Ent.cells)) (hl : l.length ≤ 1000000) :
    Calls Tryd.prog 50 #[.agg #[.slice A l.length c]] w (GivesTwin l w) := by
  have hb0 : Below w.heap.size w ((w.alloc (.cells #[.slice A l.length c] 61)).alloc (.cells #[.slice none 0 0] 61)) := ((Below.refl _ _).alloc (Nat.le_refl _) _).alloc (by simp) _
  have bR : Blk ((w.alloc (.cells #[.slice A l.length c] 61)).alloc (.cells #[.slice none 0 0] 61)) (w.heap.size + 1) 61 #[.slice none 0 0] := by
    have := Blk.new (w.alloc (.cells #[.slice A l.length c] 61)) 61 #[.slice none 0 0]
    rwa [World.size_alloc] at this
  go_enter Tryd.func50, Tryd.ntmps50
  go_wp2_with fail
  refine (cloneE_any A l c _ (hA.below hb0) hl).mono ?_
  rintro e w1 ⟨A1, c1, rfl, ho1, hb1⟩
  have hb01 := bext hb0 hb1
  have bR1 := bR.below hb1 bR.lt
  have ho1 := own_mono ho1 (show w.heap.size + 1 + 1 ≤ _ by simp)
  have c0 : w1.cell? ⟨w.heap.size + 1, 0, none⟩ = some (.slice none 0 0) := bR1.cell 0
  have f0 : w1.frozen? ⟨w.heap.size + 1, 0, none⟩ = false := bR1.frozen 0
  go_wp2
  have e1 : (w1.setCell ⟨w.heap.size + 1, 0, none⟩ (.slice A1 l.length c1)).cell? ⟨w.heap.size + 1, 0, none⟩ = some (.slice A1 l.length c1) := (bR1.set_ 0 (.slice A1 l.length c1)).cell 0
  refine bodyPost_ret (v := .agg #[.slice A1 l.length c1]) (by simp [results, Tryd.results50, go_sem, e1]) rfl ?_
  refine ⟨A1, c1, rfl, own_far (own_mono ho1 (by omega)) ?_ _, hb01.setCell (p := ⟨w.heap.size + 1, 0, none⟩) (Nat.le_succ _) _⟩
  intro h
  have := (ho1.lt _ h).1
  simp at this
  omega
set_option maxHeartbeats 1000000 in
theorem refTwin_any (A : Option Addr) (l : List Ent) (c : Nat) (w : World) (hA : Sl w A (l.flatMap Ent.cells)) (hl : l.length ≤ 1000000) :
    Calls Tryd.prog 83 #[.agg #[.slice A l.length c]] w (GivesTwin l w) := by
  obtain ⟨ti0, hi, hz0, hz1, hz2⟩ := info_parts ent_info
  have HI := Lib.hid (And.intro hi (And.intro hz0 (And.intro hz1 hz2)))
  clear hi hz0 hz1 hz2
  obtain ⟨W, hW⟩ : ∃ W, ((w.alloc (.cells #[.slice A l.length c] 61)).alloc (.cells #[.slice none 0 0] 61)).alloc (.cells #[] 27) = W := ⟨_, rfl⟩
  have hb0 : Below w.heap.size w W := by rw [← hW]; exact (((Below.refl _ _).alloc (Nat.le_refl _) _).alloc (by simp) _).alloc (by simp; omega) _
  have hown0 : W.ownsRow (w.heap.size + 1 + 1) 27 3 (.slice (some ⟨w.heap.size + 1 + 1, 0, none⟩) 0 0) 0 [] := by
    rw [← hW]
    have := Blk.new ((w.alloc (.cells #[.slice A l.length c] 61)).alloc (.cells #[.slice none 0 0] 61)) 27 #[]
    rw [World.size_alloc, World.size_alloc] at this
    exact own_zeroE this (Nat.le_refl _)
  have bX : Blk W w.heap.size 61 #[.slice A l.length c] := by rw [← hW]; exact ((Blk.new _ _ _).alloc _).alloc _
  have bR : Blk W (w.heap.size + 1) 61 #[.slice none 0 0] := by
    rw [← hW]
    have := Blk.new (w.alloc (.cells #[.slice A l.length c] 61)) 61 #[.slice none 0 0]
    rw [World.size_alloc] at this
    exact this.alloc _
  have c5 : W.cell? ⟨w.heap.size, 0, none⟩ = some (.slice A l.length c) := bX.cell 0
  have hsz : W.heap.size = w.heap.size + 1 + 1 + 1 := by rw [← hW]; simp
  have HSZ := Lib.hid hsz
  clear hsz
  go_enter Tryd.func83, Tryd.ntmps83
  go_wp2_with (at_builtin; refine wpList_append_sl _ rfl (.tmp 3) (.tmp 5) _ rfl (w.heap.size + 1 + 1) 27 ti0 _ 3 24 Tryd.underlying59 HI.out.1 HI.out.2.1 HI.out.2.2.1 HI.out.2.2.2 rfl (by omega) (.slice (some ⟨w.heap.size + 1 + 1, 0, none⟩) 0 0) 0 [] rfl hown0 A l.length c (l.flatMap Ent.cells) rfl (hA.below hb0) (ents_length _) (one_ents _) (by unfold maxLen; omega) (by omega) (by have := HSZ.out; omega) ?_; intro v1 w1 hown1 hg1; simp only [Nat.zero_add, List.nil_append] at hown1; obtain ⟨A1, c1, rfl, hlc1, hcm1⟩ := own_form hown1; have bR1 : Blk w1 (w.heap.size + 1) 61 #[.slice none 0 0] := bR.of (hg1.block _ bR.lt (by simp [Value.ownBlock])); have r0 : w1.cell? ⟨w.heap.size + 1, 0, none⟩ = some (.slice none 0 0) := bR1.cell 0; have fr0 : w1.frozen? ⟨w.heap.size + 1, 0, none⟩ = false := bR1.frozen 0)
  have hb1 : Below w.heap.size w w1 := hb0.grown hg1 (by have := HSZ.out; omega) (fun k hk => by have := (hown0.lt k hk).1; omega)
  have e1 : (w1.setCell ⟨w.heap.size + 1, 0, none⟩ (.slice A1 l.length c1)).cell? ⟨w.heap.size + 1, 0, none⟩ = some (.slice A1 l.length c1) := (bR1.set_ 0 (.slice A1 l.length c1)).cell 0
  refine bodyPost_ret (v := .agg #[.slice A1 l.length c1]) (by simp [results, Tryd.results83, go_sem, e1]) rfl ?_
  refine ⟨A1, c1, rfl, own_far (own_mono hown1 (by omega)) ?_ _, hb1.setCell (p := ⟨w.heap.size + 1, 0, none⟩) (Nat.le_succ _) _⟩
  intro h
  have := (hown1.lt _ h).1
  simp at this
  omega

/-! ### keys that are written over -/
def Ki3 (w : World) (B h : Nat) (A : Option Addr) (n : Nat) : Prop := n = 0 ∨ ∃ g t cs, A = some ⟨g, 0, none⟩ ∧ B ≤ g ∧ g ≠ h ∧ Blk w g t cs ∧ ∀ j, j < n → ∃ k, cs[j * 3]? = some (.int .i64 k)
section
variable {w w' : World} {B h : Nat} {A : Option Addr} {n : Nat}
theorem Ki3.get (hk : Ki3 w B h A n) {j : Nat} (hj : j < n) : ∃ g k, A = some ⟨g, 0, none⟩ ∧ B ≤ g ∧ g ≠ h ∧ w.cell? ⟨g, j * 3, none⟩ = some (.int .i64 k) ∧ w.frozen? ⟨g, j * 3, none⟩ = false := by
  rcases hk with h0 | ⟨g, t, cs, h1, h2, h3, h4, h5⟩
  · omega
  · obtain ⟨k, hk⟩ := h5 j hj
    exact ⟨g, k, h1, h2, h3, (h4.cell _).trans hk, h4.frozen _⟩
theorem Ki3.set (hk : Ki3 w B h A n) (g i : Nat) (k : Int) : Ki3 (w.setCell ⟨g, i, none⟩ (.int .i64 k)) B h A n := by
  rcases hk with h0 | ⟨g', t, cs, h1, h2, h3, h4, h5⟩
  · exact .inl h0
  · by_cases e : g' = g
    · subst e
      refine .inr ⟨g', t, _, h1, h2, h3, h4.set_ i _, fun j hj => ?_⟩
      obtain ⟨k', hk'⟩ := h5 j hj
      rw [Array.getElem?_setIfInBounds]
      by_cases e2 : i = j * 3
      · rw [if_pos e2]
        have hlt : i < cs.size := by rw [e2]; exact (Array.getElem?_eq_some_iff.1 hk').1
        rw [if_pos hlt]
        exact ⟨k, rfl⟩
      · rw [if_neg e2]
        exact ⟨k', hk'⟩
    · exact .inr ⟨g', t, cs, h1, h2, h3, h4.far (p := ⟨g, i, none⟩) e _, h5⟩
theorem Ki3.of_own {B' c : Nat} {l : List Ent} {cs : Array Value} (hf : w.ownsRow B' 27 3 (.slice A l.length c) l.length (l.flatMap Ent.cells)) (hB : B ≤ B') (hh : Blk w h 61 cs) : Ki3 w B h A l.length := by
  by_cases h0 : l.length = 0
  · exact .inl h0
  · obtain ⟨g, cap, cur, hv, hg, hb, hn, _, hs, ht⟩ := own_blk hf (by omega)
    injection hv with h1 h2 h3
    have hne : g ≠ h := by
      rintro rfl
      have := hb.symm.trans hh
      simp at this
    refine .inr ⟨g, _, cur, h1, Nat.le_trans hB hg, hne, hb, fun j hj => ⟨(l[j]'hj).key, ?_⟩⟩
    have hc := flat_get Ent.cells 3 Ent.cells_length l j 0 hj (by omega)
    rw [← ht, List.getElem?_take, if_pos (by omega)] at hc
    simpa [Ent.cells] using hc
theorem Ki3.belowS (hb : Below w.heap.size w w') (hk : Ki3 w B h A n) : Ki3 w' B h A n := by
  rcases hk with h0 | ⟨g, t, cs, h1, h2, h3, h4, h5⟩
  · exact .inl h0
  · exact .inr ⟨g, t, cs, h1, h2, h3, h4.below hb h4.lt, h5⟩
end
end Go.Proofs.YthdcllnmnmemdaaDoor

/- Contracts: shelfmarkref25.Merge and Two, kway.Two. -/
namespace Go.Proofs.YthdcllnmnmemdaaDoor
open Go Go.RowKit
set_option maxRecDepth 100000

theorem GivesRun.re {t : TypeId} {m : List Ent} {e : Int} {w W : World} {r : Ending} {w' : World} (hb : Below w.heap.size w W) (h : GivesRun t m e W r w') : GivesRun t m e w r w' := by
  obtain ⟨A, c, h1, h2, h3⟩ := h
  exact ⟨A, c, h1, own_mono h2 hb.size, bext hb h3⟩
end Go.Proofs.YthdcllnmnmemdaaDoor
