/- Ga Gu G9 Hb Ha Hm Hn: texts of the claim, in this order. -/
import Derived.Test.YthdcllnmnmemdaaDoorRa10
import Derived.Maps.AppendAt
import Derived.Test.YthdcllnmnmemdaaDoorRa9
import Derived.Test.YthdcllnmnmemdaaDoorRa1
import Derived.Deep.RegionHeld3
import Derived.Deep.LoopGhost
import Derived.Test.YthdcllnmnmemdaaDoorRa7
import Derived.Test.YthdcllnmnmemdaaDoorRa6
import Derived.Deep.CutBlock
import Derived.Deep.RegionWith
/- append onto a row of the call's own: where the new row lies. -/
namespace Go.Proofs.YthdcllnmnmemdaaDoor
open Go Go.RowKit
set_option maxRecDepth 100000
section
variable {P : Program} (w : World)
theorem wpList_append_at {ops : Array Oper} {rest : List Oper} {o : Oper} {a : Act} {Q : Exit → Act → World → Prop} (hgd : o.guard = none) (s x : Operand) (t : TypeId)
    (ho : o.op = .call { callee := .builtin .append, args := #[s, x], argTypes := #[t, t] })
    (base : Nat) (e : TypeId) (i : TypeInfo) (z : Value) (size bytes : Nat) (ht : P.underlying t = some (.slice e)) (hi : P.info? e = some i) (hz : i.zero = some z)
    (hsize : i.size = size) (hby : i.bytes = bytes) (hzs : z.cells.size = size) (hsz : 0 < size)
    (v : Value) (n : Nat) (xs : List Value) (hs : a.eval s = v) (hown : w.ownsRow base e size v n xs)
    (g m c : Nat) (news : List Value) (hx : a.eval x = .slice (some ⟨g, 0, none⟩) m c) (hr : ∀ j u, news[j]? = some u → w.cell? ⟨g, j, none⟩ = some u) (hl : news.length = m * size) (h1 : ∀ u ∈ news, u.oneCell' = true)
    (h63 : n + m ≤ maxLen) (hbytes : (n + m) * bytes ≤ 140737488355328) (hbase : base ≤ w.heap.size)
    (h : ∀ v' w', w'.ownsRow base e size v' (n + m) (xs ++ news) → w.grownBy w' v.ownBlock → (v'.ownBlock = v.ownBlock ∨ v'.ownBlock = some w.heap.size) → wpList P ops Q rest (a.put o.dst v') w') : wpList P ops Q (o :: rest) a w := by
  refine wpList_plain hgd fun K hK => ?_
  obtain ⟨v', w', hrun, h2, h3, _, h4⟩ := run_append_own_at (P := P) w base t o.type e i z size bytes ht hi hz hsize hby hzs hsz v n xs hown ⟨g, 0, none⟩ m c news hl (fun j u hu => by rw [Addr.add_lit, Nat.zero_add]; exact hr j u hu) h1 h63 hbytes hbase
  unfold Oper.wp execOp
  simp only [ho, resolve, invoke, builtin, Sem.run_bind, Sem.run_pure, Result.andThen_ok, List.map_toArray, List.map_cons, List.map_nil, hs, hx, hrun]
  exact hK _ _ (h v' w' h2 h3 h4)
end
/-- a block that is not the row's stays -/
theorem Blk.grown {w w' : World} {g : Nat} {t : TypeId} {cs : Array Value} {row : Option Nat} (h : Blk w g t cs) (hg : w.grownBy w' row) (hne : row ≠ some g) : Blk w' g t cs :=
  h.of (hg.block g h.lt (fun e => hne e.symm))
theorem blk_ne {w : World} {g g' : Nat} {t t' : TypeId} {cs cs' : Array Value} (h : Blk w g t cs) (h' : Blk w g' t' cs') (hne : t ≠ t') : g ≠ g' := by
  rintro rfl
  have := h.symm.trans h'
  simp at this
  exact hne this.2
theorem own_typ {w : World} {g B s n : Nat} {t e : TypeId} {cs : Array Value} {v : Value} {xs : List Value} (h : w.ownsRow B e s v n xs) (hB : Blk w g t cs) (hne : e ≠ t) : v.ownBlock ≠ some g := by
  rcases h.2 with ⟨rfl, _⟩ | ⟨k, cap, cur, rfl, _, hk, _⟩
  · simp [Value.ownBlock]
  · intro e2
    have e3 : k = g := by simpa [Value.ownBlock] using e2
    subst e3
    have := hk.symm.trans hB
    simp at this
    exact hne this.2
end Go.Proofs.YthdcllnmnmemdaaDoor

/- Contracts: the reference's Get, Newest, kway.Find, the reference's Find; copies of runs, and whether runs are the same. -/
namespace Go.Proofs.YthdcllnmnmemdaaDoor
open Go Go.RowKit
set_option maxRecDepth 100000


theorem newest_drop {rs : List (List Ent)} {k : Nat} (h : k < rs.length) (key : Int) : newest (rs.drop k) key = (look (rs[k]'h) key).or (newest (rs.drop (k + 1)) key) := by
  rw [List.drop_eq_getElem_cons h, newest_cons]
set_option maxHeartbeats 1000000 in
theorem newest_any (B : Option Addr) (Rs : List Rm) (c : Nat) (key : Int) (w : World) (hB : RunsAt w B Rs) (hl : Rs.length ≤ 4611686018427387903) (hrs : ∀ r ∈ Rs, r.l.length ≤ 4611686018427387903) :
    Calls Tryd.prog 55 #[.slice B Rs.length c, .int .i64 key] w (GivesO (newest (Rs.map Rm.l) key) w) := by
  obtain ⟨W0, hW0⟩ : ∃ W0, w.alloc (.cells #[.int .i64 0, .int .i64 0, .bool false] 27) = W0 := ⟨_, rfl⟩
  have hb0 : Below w.heap.size w W0 := by rw [← hW0]; exact (Below.refl _ _).alloc (Nat.le_refl _) _
  have bR0 : Blk W0 w.heap.size 27 #[.int .i64 0, .int .i64 0, .bool false] := by rw [← hW0]; exact Blk.new _ _ _
  obtain ⟨rs, hrs2⟩ : ∃ rs, Rs.map Rm.l = rs := ⟨_, rfl⟩
  rw [hrs2]
  have hln : rs.length = Rs.length := by rw [← hrs2]; simp
  have HRS := Lib.hid hrs2
  have HB := Lib.hid hB
  have HLN := Lib.hid hln
  have HHR := Lib.hid hrs
  clear hB hrs2 hln hrs
  go_enter Tryd.func55, Tryd.ntmps55
  go_wp2_with fail
  try rw [hW0]
  clear hW0
  go_loopw [6] (fun i wr => ∃ k : Nat, k ≤ Rs.length ∧ i = .int .i64 k ∧ Below W0.heap.size W0 wr ∧ Hid (newest (rs.drop k) key = newest rs key)) (fun i _ => Rs.length - (intOf i).toNat)
  case atStart => exact ⟨0, Nat.zero_le _, rfl, Below.refl _ _, rfl⟩
  case round =>
    obtain ⟨k, hk, rfl, hb, hd⟩ := hrel
    have bR1 := bR0.below hb bR0.lt
    have hbw := bext hb0 hb
    by_cases hlt : k < Rs.length
    · have hltr : k < rs.length := by rw [HLN.out]; exact hlt
      have hs := newest_drop hltr key
      have hg : rs[k]'hltr = (Rs[k]'hlt).l := by have := HRS.out; subst this; simp
      rw [hg, hd.out] at hs
      obtain ⟨b, off, rfl, hbl, cp⟩ := HB.out.sl.oneB hbw k hlt
      have hok := (HB.out.ok _ (List.getElem_mem hlt)).below hbw
      have hrl := HHR.out _ (List.getElem_mem hlt)
      obtain ⟨r, hr⟩ : ∃ r, Rs[k]'hlt = r := ⟨_, rfl⟩
      rw [hr] at hs cp hok hrl
      obtain ⟨l, A, cl⟩ := r
      have cp1 : wr.cell? ⟨b, off + k, none⟩ = some (.slice A l.length cl) := cp
      dsimp only at hs hrl
      have i0 : (0 : Int) ≤ (k : Int) := by omega
      have i1 : (k : Int) < (Rs.length : Int) := by omega
      have HOK := Lib.hid hok.sl
      obtain ⟨o, ho⟩ : ∃ o, look l key = o := ⟨_, rfl⟩
      rw [ho] at hs
      have HO := Lib.hid ho
      have HS := Lib.hid hs
      clear cp hg hr hok ho hs
      go_wp2_with fail
      refine (has_any A l cl key _ HOK.out hrl).mono ?_
      rw [HO.out]
      rintro e w2 ⟨rfl, hb2⟩
      have bR1 := bR1.below hb2 bR1.lt
      obtain ⟨x, hx⟩ : ∃ x, o.getD zeroE = x := ⟨_, rfl⟩
      rw [hx]
      have HXX := Lib.hid hx
      have ba : Below w2.heap.size w2 (w2.alloc (.cells #[.int .i64 x.key, .int .i64 x.val, .bool x.dead] 27)) := (Below.refl _ _).alloc (Nat.le_refl _) _
      have bB : Blk (w2.alloc (.cells #[.int .i64 x.key, .int .i64 x.val, .bool x.dead] 27)) w2.heap.size 27 #[.int .i64 x.key, .int .i64 x.val, .bool x.dead] := Blk.new _ _ _
      have bR1 := bR1.below ba bR1.lt
      have hb3 := bext hb2 ba
      clear cp1 hx
      go_upto_region 5 with fail
      obtain ⟨W3, hW3⟩ : ∃ W3, w2.alloc (.cells #[.int .i64 x.key, .int .i64 x.val, .bool x.dead] 27) = W3 := ⟨_, rfl⟩
      rw [hW3] at ba bB bR1 hb3
      try rw [hW3]
      have d0 : W3.cell? ⟨w.heap.size, 0, none⟩ = some (.int .i64 0) := bR1.cell 0
      have d1 : W3.cell? ⟨w.heap.size, 1, none⟩ = some (.int .i64 0) := bR1.cell 1
      have d2 : W3.cell? ⟨w.heap.size, 2, none⟩ = some (.bool false) := bR1.cell 2
      have f0 := bR1.frozen 0
      have f1 := bR1.frozen 1
      have f2 := bR1.frozen 2
      have b0 : W3.cell? ⟨w2.heap.size, 0, none⟩ = some (.int .i64 x.key) := bB.cell 0
      have b1 : W3.cell? ⟨w2.heap.size, 1, none⟩ = some (.int .i64 x.val) := bB.cell 1
      have b2 : W3.cell? ⟨w2.heap.size, 2, none⟩ = some (.bool x.dead) := bB.cell 2
      clear hW3 ba
      cases o with
      | none =>
        clear b0 b1 b2 d0 d1 d2 f0 f1 f2
        go_wp2
        go_roundw
        case rel => exact ⟨k + 1, by omega, by go_num, bext hb hb3, by show _ = _; rw [HS.out, Option.none_or]⟩
        case measure => simp [intOf]; omega
      | some y =>
        have HZ : Hid (x = y) := HXX.out.symm
        go_wp2_with fail
        have bFy := put3 bR1 (.int .i64 x.key) (.int .i64 x.val) (.bool x.dead)
        have e0y := bFy.cell 0
        have e1y := bFy.cell 1
        have e2y := bFy.cell 2
        simp only [List.getElem?_toArray, List.getElem?_cons_zero, List.getElem?_cons_succ] at e0y e1y e2y
        refine bodyPost_ret (v := .tuple #[.agg #[.int .i64 x.key, .int .i64 x.val, .bool x.dead], .bool true]) (by simp [results, Tryd.results55, go_sem, e0y, e1y, e2y]) rfl ?_
        rw [HS.out, Option.some_or]
        refine ⟨by rw [HZ.out]; rfl, below3 (bext hbw hb3) (Nat.le_refl _) _ _ _⟩
    · have HN : Hid (newest rs key = none) := by show _ = _; rw [← hd.out, List.drop_eq_nil_of_le (by rw [HLN.out]; omega)]; rfl
      have d0 : wr.cell? ⟨w.heap.size, 0, none⟩ = some (.int .i64 0) := bR1.cell 0
      have d1 : wr.cell? ⟨w.heap.size, 1, none⟩ = some (.int .i64 0) := bR1.cell 1
      have d2 : wr.cell? ⟨w.heap.size, 2, none⟩ = some (.bool false) := bR1.cell 2
      have f0 := bR1.frozen 0
      have f1 := bR1.frozen 1
      have f2 := bR1.frozen 2
      go_wp2_with fail
      have bFv := put3 bR1 (.int .i64 0) (.int .i64 0) (.bool false)
      have e0v := bFv.cell 0
      have e1v := bFv.cell 1
      have e2v := bFv.cell 2
      simp only [List.getElem?_toArray, List.getElem?_cons_zero, List.getElem?_cons_succ] at e0v e1v e2v
      refine bodyPost_ret (v := .tuple #[.agg #[.int .i64 0, .int .i64 0, .bool false], .bool false]) (by simp [results, Tryd.results55, go_sem, e0v, e1v, e2v]) rfl ?_
      rw [HN.out]
      exact ⟨rfl, below3 hbw (Nat.le_refl _) _ _ _⟩


theorem run_info1 : (Tryd.prog.info? 61).map (fun i => (i.zero, i.size, i.bytes)) = some (some (.agg #[.slice none 0 0]), 1, 24) := by kernel_rfl
/-- hands back copies of runs, in new memory -/
def GivesTwins (ls : List (List Ent)) (w : World) (r : Ending) (w' : World) : Prop :=
  ∃ (A : Option Addr) (c : Nat) (Ts : List Rm), r = .returned (.slice A Ts.length c) ∧ Ts.map Rm.l = ls ∧ RunsAt w' A Ts ∧ Below w.heap.size w w'
set_option maxHeartbeats 2000000 in
theorem twins_any (B : Option Addr) (Rs : List Rm) (c : Nat) (w : World) (hB : RunsAt w B Rs) (hl : Rs.length ≤ 1000000) (hrs : ∀ r ∈ Rs, r.l.length ≤ 1000000) :
    Calls Tryd.prog 49 #[.slice B Rs.length c] w (GivesTwins (Rs.map Rm.l) w) := by
  obtain ⟨te0, hI⟩ := info_parts run_info1
  have HI := Lib.hid hI
  have HB := Lib.hid hB
  have HHR := Lib.hid hrs
  clear hI hB hrs
  go_enter Tryd.func49, Tryd.ntmps49
  go_wp2
  go_loopw [3, 4] (fun v i wr => ∃ (k : Nat) (Ts : List Rm) (A' : Option Addr) (c' : Nat), k ≤ Rs.length ∧ i = .int .i64 k ∧ Below w.heap.size w wr ∧ v = .slice A' k c' ∧ Hid (Ts.length = k) ∧
      wr.ownsRow w.heap.size 61 1 (.slice A' k c') k (Ts.map Rm.v) ∧ (∀ s ∈ Ts, wr.ownsRow w.heap.size 27 3 s.v s.l.length (s.l.flatMap Ent.cells)) ∧ Hid (Ts.map Rm.l = (Rs.map Rm.l).take k)) (fun _ i _ => Rs.length - (intOf i).toNat)
  case atStart => exact ⟨0, [], none, 0, Nat.zero_le _, rfl, Below.refl _ _, rfl, rfl, World.ownsRow_nil _ _ _ _, by simp, rfl⟩
  case round =>
    obtain ⟨k, Ts, A', c', hk, rfl, hb, rfl, hTk, hown, hS, hin⟩ := hrel
    have hbs := hb.size
    by_cases hlt : k < Rs.length
    · obtain ⟨b, off, rfl, hbl, cp⟩ := HB.out.sl.oneB hb k hlt
      have hok := (HB.out.ok _ (List.getElem_mem hlt)).below hb
      have hrl := HHR.out _ (List.getElem_mem hlt)
      have hin2 : (Rs.map Rm.l).take (k + 1) = (Rs.map Rm.l).take k ++ [(Rs[k]'hlt).l] := by
        rw [List.take_succ_eq_append_getElem (by simpa using hlt)]; simp
      obtain ⟨r, hr⟩ : ∃ r, Rs[k]'hlt = r := ⟨_, rfl⟩
      rw [hr] at cp hok hrl hin2
      obtain ⟨l, A, cl⟩ := r
      have cp1 : wr.cell? ⟨b, off + k, none⟩ = some (.slice A l.length cl) := cp
      dsimp only at hrl hin2
      have hki : (0 : Int) ≤ (k : Int) := by omega
      have hki2 : (k : Int) < (Rs.length : Int) := by omega
      have HOK := Lib.hid hok.sl
      have HIN := Lib.hid hin2
      have HOW := Lib.hid hown
      have HSS := Lib.hid hS
      clear cp hr hok hin2 hown hS
      go_wp2_with fail
      refine (refTwin_any A l cl _ HOK.out hrl).mono ?_
      rintro e w1 ⟨A1, c1, rfl, ho1, hb1⟩
      have HO1 := Lib.hid (own_mono (B' := w.heap.size) ho1 (by omega))
      have HOW1 := Lib.hid (own_below HOW.out hb1)
      have hs1 := hb1.size
      clear ho1 cp1
      go_wp2_with (at_builtin; refine wpList_append_sl _ rfl (.tmp 11) (.tmp 17) _ rfl w.heap.size 61 te0 _ 1 24 Tryd.underlying22 HI.out.1 HI.out.2.1 HI.out.2.2.1 HI.out.2.2.2 rfl (by omega) (.slice A' k c') k _ rfl (HOW1.out.alloc _) _ 1 _ [.slice A1 l.length c1] rfl (by exact sl_new1 _ _ _) rfl (by simp [Value.oneCell']) (by unfold maxLen; omega) (by omega) (by simp; omega) ?_; intro v2 w2 hown2 hg2; obtain ⟨A2, q2, rfl, hle2, hmx2⟩ := own_form hown2; have HO2 := Lib.hid hown2; clear hown2)
      go_roundw
      case rel =>
        refine ⟨k + 1, Ts ++ [⟨l, A1, c1⟩], A2, q2, by omega, by go_num, ?_, rfl, ?_, ?_, ?_, ?_⟩
        · exact ((bext hb hb1).alloc (by omega) _).grown hg2 (by simp; omega) (fun q hq => (HOW1.out.lt q hq).1)
        · show _ = _
          rw [List.length_append, hTk.out]; rfl
        · rw [List.map_append]; exact HO2.out
        · intro s hs
          refine own_grow hg2 (HOW1.out.alloc _) ?_ (by decide)
          rcases List.mem_append.1 hs with hs | hs
          · exact (own_below (HSS.out s hs) hb1).alloc _
          · obtain rfl : s = ⟨l, A1, c1⟩ := by simpa using hs
            exact HO1.out.alloc _
        · show _ = _
          rw [List.map_append, hin.out, HIN.out]; rfl
      case measure => simp [intOf]; omega
    · have hkn : k = Rs.length := by omega
      have HIN : Hid (Ts.map Rm.l = Rs.map Rm.l) := by show _ = _; rw [hin.out, List.take_of_length_le (by simp; omega)]
      have HTN : Hid (Ts.length = k) := hTk
      have hO : RunsAt wr A' Ts := by
        refine ⟨own_sl hown, fun s hs => ?_⟩
        have h1 := hS s hs
        obtain ⟨A3, c3, h3, h4, h5⟩ := own_form h1
        obtain ⟨ls, As, cs⟩ := s
        have h6 : As = A3 ∧ cs = c3 := by simpa [Rm.v] using h3
        obtain ⟨rfl, rfl⟩ := h6
        exact ⟨own_sl h1, h4, h5⟩
      have HO := Lib.hid hO
      clear hkn hO hown hS hin hTk
      go_wp2
      go_ret
      exact ⟨A', c', Ts, by rw [HTN.out]; rfl, HIN.out, HO.out, hb⟩

set_option maxHeartbeats 1000000 in
theorem sameAll_yes (B D : Option Addr) (Rs Ts : List Rm) (n c d : Nat) (w : World) (hn : Ts.length = n) (hB : RunsAt w B Rs) (hD : RunsAt w D Ts) (he : Ts.map Rm.l = Rs.map Rm.l) (hl : Rs.length ≤ 1000000) (hrs : ∀ r ∈ Rs, r.l.length ≤ 1000000) :
    Calls Tryd.prog 58 #[.slice D n d, .slice B Rs.length c] w fun r w' => r = .returned (.bool true) ∧ Below w.heap.size w w' := by
  have hlen : Ts.length = Rs.length := by have := congrArg List.length he; simpa using this
  obtain rfl : n = Rs.length := by omega
  have HB := Lib.hid hB
  have HD := Lib.hid hD
  have HE := Lib.hid he
  have HLL := Lib.hid hlen
  have HHR := Lib.hid hrs
  clear hB hD he hlen hn hrs
  go_enter Tryd.func58, Tryd.ntmps58
  go_wp2
  go_loopw [5] (fun i wr => ∃ k : Nat, k ≤ Rs.length ∧ i = .int .i64 k ∧ Below w.heap.size w wr) (fun i _ => Rs.length - (intOf i).toNat)
  case atStart => exact ⟨0, Nat.zero_le _, rfl, Below.refl _ _⟩
  case round =>
    obtain ⟨k, hk, rfl, hb⟩ := hrel
    by_cases hlt : k < Rs.length
    · have hlt2 : k < Ts.length := by rw [HLL.out]; exact hlt
      obtain ⟨b, off, rfl, hbl, cp⟩ := HB.out.sl.oneB hb k hlt
      obtain ⟨b2, off2, rfl, hbl2, cq⟩ := HD.out.sl.oneB hb k hlt2
      have hok := (HB.out.ok _ (List.getElem_mem hlt)).below hb
      have hok2 := (HD.out.ok _ (List.getElem_mem hlt2)).below hb
      have hll : (Ts[k]'hlt2).l = (Rs[k]'hlt).l := by
        have h := HE.out
        have h2 : (Ts.map Rm.l)[k]? = (Rs.map Rm.l)[k]? := by rw [h]
        simpa [hlt, hlt2] using h2
      have hrl := HHR.out _ (List.getElem_mem hlt)
      obtain ⟨r, hr⟩ : ∃ r, Rs[k]'hlt = r := ⟨_, rfl⟩
      obtain ⟨s, hs⟩ : ∃ s, Ts[k]'hlt2 = s := ⟨_, rfl⟩
      rw [hr] at cp hok hll hrl
      rw [hs] at cq hok2 hll
      obtain ⟨l, A, cl⟩ := r
      obtain ⟨l2, A2, cl2⟩ := s
      dsimp only at hll
      subst hll
      have cp1 : wr.cell? ⟨b, off + k, none⟩ = some (.slice A l2.length cl) := cp
      have cq1 : wr.cell? ⟨b2, off2 + k, none⟩ = some (.slice A2 l2.length cl2) := cq
      dsimp only at hrl
      have htw : ∀ W, Below wr.heap.size wr W → Calls Tryd.prog 95 #[.agg #[.slice A2 l2.length cl2], .agg #[.slice A l2.length cl]] W (fun r w' => r = .returned (.bool true) ∧ Below W.heap.size W w') := by
        intro W hW
        have h8 := refSame_any A2 A l2 l2 cl2 cl W (hok2.sl.below hW) (hok.sl.below hW) (by omega) (by omega)
        rw [decide_eq_true rfl] at h8
        exact h8
      have HTW := Lib.hid htw
      have lb1 : b < wr.heap.size := Nat.lt_of_lt_of_le hbl hb.size
      have lb2 : b2 < wr.heap.size := Nat.lt_of_lt_of_le hbl2 hb.size
      have hki : (0 : Int) ≤ (k : Int) := by omega
      have hki2 : (k : Int) < (Rs.length : Int) := by omega
      clear cp cq hr hs hok hok2 htw hbl hbl2
      go_upto_region 6 with fail
      go_cut [26] from 17 to 26 (fun v wx => v = .bool false ∧ Below wr.heap.size wr wx)
      case first =>
        go_region_held3 (fun w' => (∀ bq jq, bq < wr.heap.size → w'.cell? ⟨bq, jq, none⟩ = wr.cell? ⟨bq, jq, none⟩) ∧ (∀ bq jq, bq < wr.heap.size → w'.frozen? ⟨bq, jq, none⟩ = wr.frozen? ⟨bq, jq, none⟩) ∧ wr.heap.size ≤ w'.heap.size ∧ Below wr.heap.size wr w') ((with_reducible first | exact SB.init | exact SB.init0 | exact SB.below (by assumption) (by assumption) | assumption))
          (first
            | (go_at_call 95; refine (HTW.out _ (SB.bel (by assumption))).mono ?_; rintro e22 v22 ⟨rfl, hv22⟩; have hl22 := SB.le hv22 (by assumption); obtain ⟨hc22, hz22, hs22⟩ := wfacts hv22)
            | fail "no arm")
        all_goals
          go_wp2_with fail
          go_meet
          exact ⟨by simp, SB.bel (by assumption)⟩
      case rest =>
        obtain ⟨rfl, hbx⟩ := hcut
        clear cp1 cq1
        go_wp2
        go_roundw
        case rel => exact ⟨k + 1, by omega, by go_num, bext hb hbx⟩
        case measure => simp [intOf]; omega
    · go_wp2
      go_ret
      exact ⟨rfl, hb⟩
end Go.Proofs.YthdcllnmnmemdaaDoor

/- Contracts: copies of levels. -/
namespace Go.Proofs.YthdcllnmnmemdaaDoor
open Go Go.RowKit
set_option maxRecDepth 100000
set_option maxHeartbeats 2000000 in
theorem twinsO_any (B : Option Addr) (Rs : List Rm) (c : Nat) (w : World) (hB : RunsAt w B Rs) (hl : Rs.length ≤ 1000000) (hrs : ∀ r ∈ Rs, r.l.length ≤ 1000000) :
    Calls Tryd.prog 49 #[.slice B Rs.length c] w (GivesLs (lvs Rs) w) := by
  obtain ⟨te0, hI⟩ := info_parts run_info1
  have HI := Lib.hid hI
  have HB := Lib.hid hB
  have HHR := Lib.hid hrs
  clear hI hB hrs
  go_enter Tryd.func49, Tryd.ntmps49
  go_wp2
  go_loopw [3, 4] (fun v i wr => ∃ (k : Nat) (Ts : List Rm) (A' : Option Addr) (c' : Nat), k ≤ Rs.length ∧ i = .int .i64 k ∧ Below w.heap.size w wr ∧ v = .slice A' k c' ∧ Hid (Ts.length = k) ∧
      wr.ownsRow w.heap.size 61 1 (.slice A' k c') k (Ts.map Rm.v) ∧ (∀ s ∈ Ts, wr.ownsRow w.heap.size 27 3 s.v s.l.length (s.l.flatMap Ent.cells)) ∧ Hid (Ts.map Rm.l = (Rs.map Rm.l).take k)) (fun _ i _ => Rs.length - (intOf i).toNat)
  case atStart => exact ⟨0, [], none, 0, Nat.zero_le _, rfl, Below.refl _ _, rfl, rfl, World.ownsRow_nil _ _ _ _, by simp, rfl⟩
  case round =>
    obtain ⟨k, Ts, A', c', hk, rfl, hb, rfl, hTk, hown, hS, hin⟩ := hrel
    have hbs := hb.size
    by_cases hlt : k < Rs.length
    · obtain ⟨b, off, rfl, hbl, cp⟩ := HB.out.sl.oneB hb k hlt
      have hok := (HB.out.ok _ (List.getElem_mem hlt)).below hb
      have hrl := HHR.out _ (List.getElem_mem hlt)
      have hin2 : (Rs.map Rm.l).take (k + 1) = (Rs.map Rm.l).take k ++ [(Rs[k]'hlt).l] := by
        rw [List.take_succ_eq_append_getElem (by simpa using hlt)]; simp
      obtain ⟨r, hr⟩ : ∃ r, Rs[k]'hlt = r := ⟨_, rfl⟩
      rw [hr] at cp hok hrl hin2
      obtain ⟨l, A, cl⟩ := r
      have cp1 : wr.cell? ⟨b, off + k, none⟩ = some (.slice A l.length cl) := cp
      dsimp only at hrl hin2
      have hki : (0 : Int) ≤ (k : Int) := by omega
      have hki2 : (k : Int) < (Rs.length : Int) := by omega
      have HOK := Lib.hid hok.sl
      have HIN := Lib.hid hin2
      have HOW := Lib.hid hown
      have HSS := Lib.hid hS
      clear cp hr hok hin2 hown hS
      go_wp2_with fail
      refine (refTwin_any A l cl _ HOK.out hrl).mono ?_
      rintro e w1 ⟨A1, c1, rfl, ho1, hb1⟩
      have HO1 := Lib.hid (own_mono (B' := w.heap.size) ho1 (by omega))
      have HOW1 := Lib.hid (own_below HOW.out hb1)
      have hs1 := hb1.size
      clear ho1 cp1
      go_wp2_with (at_builtin; refine wpList_append_sl _ rfl (.tmp 11) (.tmp 17) _ rfl w.heap.size 61 te0 _ 1 24 Tryd.underlying22 HI.out.1 HI.out.2.1 HI.out.2.2.1 HI.out.2.2.2 rfl (by omega) (.slice A' k c') k _ rfl (HOW1.out.alloc _) _ 1 _ [.slice A1 l.length c1] rfl (by exact sl_new1 _ _ _) rfl (by simp [Value.oneCell']) (by unfold maxLen; omega) (by omega) (by simp; omega) ?_; intro v2 w2 hown2 hg2; obtain ⟨A2, q2, rfl, hle2, hmx2⟩ := own_form hown2; have HO2 := Lib.hid hown2; clear hown2)
      go_roundw
      case rel =>
        refine ⟨k + 1, Ts ++ [⟨l, A1, c1⟩], A2, q2, by omega, by go_num, ?_, rfl, ?_, ?_, ?_, ?_⟩
        · exact ((bext hb hb1).alloc (by omega) _).grown hg2 (by simp; omega) (fun q hq => (HOW1.out.lt q hq).1)
        · show _ = _
          rw [List.length_append, hTk.out]; rfl
        · rw [List.map_append]; exact HO2.out
        · intro s hs
          refine own_grow hg2 (HOW1.out.alloc _) ?_ (by decide)
          rcases List.mem_append.1 hs with hs | hs
          · exact (own_below (HSS.out s hs) hb1).alloc _
          · obtain rfl : s = ⟨l, A1, c1⟩ := by simpa using hs
            exact HO1.out.alloc _
        · show _ = _
          rw [List.map_append, hin.out, HIN.out]; rfl
      case measure => simp [intOf]; omega
    · have hkn : k = Rs.length := by omega
      have HIN : Hid (Ts.map Rm.l = Rs.map Rm.l) := by show _ = _; rw [hin.out, List.take_of_length_le (by simp; omega)]
      have HTN : Hid (Ts.length = k) := hTk
      have hO : OwnRs wr w.heap.size A' c' Ts := ⟨by rw [HTN.out]; exact hown, hS⟩
      have HO := Lib.hid hO
      clear hkn hO hown hS hin hTk
      go_wp2
      go_ret
      exact ⟨A', c', Ts, by rw [HTN.out]; rfl, HIN.out, HO.out, hb⟩
/-- a result that lies in a box of two cells -/
theorem box2 {w : World} {g : Nat} {t : TypeId} {x0 x1 : Value} (h : Blk w g t #[x0, x1]) (y0 y1 : Value) : Blk ((w.setCell ⟨g, 0, none⟩ y0).setCell ⟨g, 1, none⟩ y1) g t #[y0, y1] := by
  have := (h.set_ 0 y0).set_ 1 y1
  simpa using this
theorem below2 {B : Nat} {a w : World} {g : Nat} (h : Below B a w) (hg : B ≤ g) (y0 y1 : Value) : Below B a ((w.setCell ⟨g, 0, none⟩ y0).setCell ⟨g, 1, none⟩ y1) :=
  (h.setCell (p := ⟨g, 0, none⟩) hg _).setCell (p := ⟨g, 1, none⟩) hg _
theorem OwnRs.set2 {w : World} {B0 g : Nat} {B : Option Addr} {c : Nat} {Rs : List Rm} {t : TypeId} {x0 x1 : Value} (h : OwnRs w B0 B c Rs) (hB : Blk w g t #[x0, x1]) (h1 : 61 ≠ t) (h2 : 27 ≠ t) (y0 y1 : Value) : OwnRs ((w.setCell ⟨g, 0, none⟩ y0).setCell ⟨g, 1, none⟩ y1) B0 B c Rs :=
  (h.setT hB h1 h2 0 y0).setT (hB.set_ 0 y0) h1 h2 1 y1
set_option maxHeartbeats 2000000 in
theorem twin26_any (B : Option Addr) (Rs : List Rm) (c : Nat) (n : Int) (w : World) (hB : RunsAt w B Rs) (hl : Rs.length ≤ 1000000) (hrs : ∀ r ∈ Rs, r.l.length ≤ 1000000) :
    Calls Tryd.prog 15 #[.agg #[.slice B Rs.length c, .int .u64 n]] w (GivesRg (lvs Rs) n w) := by
  obtain ⟨W0, hW0⟩ : ∃ W0, (w.alloc (.cells #[.slice B Rs.length c, .int .u64 n] 25)).alloc (.cells #[.slice none 0 0, .int .u64 0] 25) = W0 := ⟨_, rfl⟩
  have hb0 : Below w.heap.size w W0 := by rw [← hW0]; exact ((Below.refl _ _).alloc (Nat.le_refl _) _).alloc (by simp) _
  have b1 : Blk W0 w.heap.size 25 #[.slice B Rs.length c, .int .u64 n] := by rw [← hW0]; exact (Blk.new _ _ _).alloc _
  have b2 : Blk W0 (w.heap.size + 1) 25 #[.slice none 0 0, .int .u64 0] := by
    rw [← hW0]
    have := Blk.new (w.alloc (.cells #[.slice B Rs.length c, .int .u64 n] 25)) 25 #[.slice none 0 0, .int .u64 0]
    rwa [World.size_alloc] at this
  have hs0 : W0.heap.size = w.heap.size + 2 := by rw [← hW0]; simp
  have HW0 := Lib.hid hW0
  have HS0 := Lib.hid hs0
  have HB := Lib.hid hB
  have HHR := Lib.hid hrs
  clear hW0 hB hrs hs0
  go_enter Tryd.func15, Tryd.ntmps15
  go_upto_region 1 with fail
  rw [HW0.out]
  have l1 := b1.lt
  have l2 := b2.lt
  have c10 : W0.cell? ⟨w.heap.size, 0, none⟩ = some (.slice B Rs.length c) := b1.cell 0
  have c11 : W0.cell? ⟨w.heap.size, 1, none⟩ = some (.int .u64 n) := b1.cell 1
  have c20 : W0.cell? ⟨w.heap.size + 1, 0, none⟩ = some (.slice none 0 0) := b2.cell 0
  have c21 : W0.cell? ⟨w.heap.size + 1, 1, none⟩ = some (.int .u64 0) := b2.cell 1
  have f20 := b2.frozen 0
  have f21 := b2.frozen 1
  go_region_with (go_at_call 49; refine (twinsO_any B Rs c _ (HB.out.below (bext hb0 (by first | exact (Below.refl _ _).drew | exact Below.refl _ _))) hl HHR.out).mono ?_; rintro e w5 ⟨A5, c5, Ts5, rfl, h51, h52, hb5⟩; have hb6 : Below W0.heap.size W0 w5 := (by first | exact hb5 | exact bext ((Below.refl _ _).drew) hb5); have d10 : w5.cell? ⟨w.heap.size, 0, none⟩ = some (.slice B Rs.length c) := ((bcell hb6).1 _ _ l1).trans c10; have d11 : w5.cell? ⟨w.heap.size, 1, none⟩ = some (.int .u64 n) := ((bcell hb6).1 _ _ l1).trans c11; have b25 := b2.below hb6 l2; have d20 : w5.cell? ⟨w.heap.size + 1, 0, none⟩ = some (.slice none 0 0) := b25.cell 0; have d21 : w5.cell? ⟨w.heap.size + 1, 1, none⟩ = some (.int .u64 0) := b25.cell 1; have e20 := b25.frozen 0; have e21 := b25.frozen 1; have H51 := Lib.hid h51; have H52 := Lib.hid h52; have H6 := Lib.hid hb6; clear h51 h52 hb5 hb6)
  all_goals
    go_wp2_with fail
    have hbx := box2 b25 (.slice A5 Ts5.length c5) (.int .u64 n)
    have e0 := hbx.cell 0
    have e1 := hbx.cell 1
    refine bodyPost_ret (v := .agg #[.slice A5 Ts5.length c5, .int .u64 n]) (by first | (simp [results, Tryd.results15, go_sem, e0, e1]; done) | (simp at e0 e1; simp [results, Tryd.results15, go_sem, e0, e1])) rfl ?_
    exact ⟨A5, c5, Ts5, rfl, H51.out, (H52.out.mono (by simp [HS0.out])).set2 b25 (by decide) (by decide) _ _, below2 (bext hb0 H6.out) (Nat.le_succ _) _ _⟩
end Go.Proofs.YthdcllnmnmemdaaDoor

/- Contracts: the reference's levels (stand, Alone). -/
namespace Go.Proofs.YthdcllnmnmemdaaDoor
open Go Go.RowKit
set_option maxRecDepth 100000
/-- writes in memory of the call's own -/
theorem OwnRs.belowB {w w' : World} {B0 : Nat} {B : Option Addr} {c : Nat} {Rs : List Rm} (h : OwnRs w B0 B c Rs) (hb : Below w.heap.size w w') : OwnRs w' B0 B c Rs := h.below hb
theorem pad_eq {Ts Ts3 : Lv} {U : Nat} (_h1 : Ts.length ≤ Ts3.length) (h2 : Ts3.length ≤ max Ts.length (U + 1)) (h3 : U < Ts3.length) : padTo Ts Ts3.length = padTo Ts (U + 1) := by
  by_cases h4 : Ts.length ≤ U
  · rw [show Ts3.length = U + 1 by omega]
  · rw [pad_same _ (by omega), pad_same _ (by omega)]
theorem stand_grow {w : World} {B0 n d3 : Nat} {A3 : Option Addr} {Ts3 : List Rm} {v5 : Value} {w5 : World} {g : Nat} {t : TypeId} {cs : Array Value} (o : Obj) (hr : OwnRs w B0 A3 d3 Ts3) (hB : Blk w g t cs) (hne : ∀ q, A3 = some q → q.block ≠ g)
    (hn : n = Ts3.length + 1) (ho : w5.ownsRow B0 61 1 v5 n (Ts3.map Rm.v ++ [.slice none 0 0])) (hg : (w.alloc o).grownBy w5 (Value.slice A3 Ts3.length d3).ownBlock) (hk : v5.ownBlock = (Value.slice A3 Ts3.length d3).ownBlock ∨ v5.ownBlock = some (w.alloc o).heap.size) (hlt : g < w.heap.size) :
    ∃ A5 d5, v5 = .slice A5 n d5 ∧ OwnRs w5 B0 A5 d5 (Ts3 ++ [⟨[], none, 0⟩]) ∧ Blk w5 g t cs ∧ (∀ q, A5 = some q → q.block ≠ g) := by
  subst hn
  obtain ⟨A5, d5, h1, _, _⟩ := own_form ho
  subst h1
  refine ⟨A5, d5, rfl, OwnRs.push (hr.alloc o) ⟨[], none, 0⟩ (own_empty _ _) ho hg, (hB.alloc o).grown hg ?_, fun q hq => ?_⟩
  · intro h
    cases A3 with
    | none => simp [Value.ownBlock] at h
    | some q => exact hne q rfl (by simpa [Value.ownBlock] using h)
  · subst hq
    rcases hk with h1 | h1
    · cases A3 with
      | none => simp [Value.ownBlock] at h1
      | some q3 => have := hne q3 rfl; simp [Value.ownBlock] at h1; omega
    · simp [Value.ownBlock] at h1; omega
end Go.Proofs.YthdcllnmnmemdaaDoor

/- Contracts: the reference's levels (Entries, dead, held, cut, All, Great). -/
namespace Go.Proofs.YthdcllnmnmemdaaDoor
open Go Go.RowKit
set_option maxRecDepth 100000
set_option maxHeartbeats 1000000 in
theorem entries26_any (B : Option Addr) (Rs : List Rm) (c : Nat) (n : Int) (w : World) (hB : RunsAt w B Rs) (hT : tot (lvs Rs) ≤ 1000000) (hl : Rs.length ≤ 1000000) :
    Calls Tryd.prog 54 #[.agg #[.slice B Rs.length c, .int .u64 n]] w fun r w' => r = .returned (.int .i64 (tot (lvs Rs) : Nat)) ∧ Below w.heap.size w w' := by
  obtain ⟨W0, hW0⟩ : ∃ W0, w.alloc (.cells #[.slice B Rs.length c, .int .u64 n] 25) = W0 := ⟨_, rfl⟩
  have hb0 : Below w.heap.size w W0 := by rw [← hW0]; exact (Below.refl _ _).alloc (Nat.le_refl _) _
  have b1 : Blk W0 w.heap.size 25 #[.slice B Rs.length c, .int .u64 n] := by rw [← hW0]; exact Blk.new _ _ _
  have c10 : W0.cell? ⟨w.heap.size, 0, none⟩ = some (.slice B Rs.length c) := b1.cell 0
  have HW0 := Lib.hid hW0
  have HB := Lib.hid (hB.below hb0)
  have HB0 := Lib.hid hb0
  clear hW0 hB
  go_enter Tryd.func54, Tryd.ntmps54
  go_wp2
  rw [HW0.out]
  go_loopw [3, 4] (fun a i wr => ∃ k m : Nat, k ≤ Rs.length ∧ i = .int .i64 k ∧ a = .int .i64 m ∧ wr = W0 ∧ m ≤ 1000000 ∧ Hid (m = tot ((lvs Rs).take k))) (fun _ i _ => Rs.length - (intOf i).toNat)
  case atStart => exact ⟨0, 0, Nat.zero_le _, rfl, rfl, rfl, by omega, rfl⟩
  case round =>
    obtain ⟨k, m, hk, rfl, rfl, rfl, hm, hd⟩ := hrel
    by_cases hlt : k < Rs.length
    · obtain ⟨b, off, rfl, hbl, cp⟩ := HB.out.sl.oneB (Below.refl _ _) k hlt
      have hs := tot_take_succ (rs := lvs Rs) (k := k) (by simpa using hlt)
      rw [lvs_lev hlt] at hs
      have hle := tot_take_le (lvs Rs) (k + 1)
      obtain ⟨r, hr⟩ : ∃ r, Rs[k]'hlt = r := ⟨_, rfl⟩
      rw [hr] at cp hs
      obtain ⟨l, A, cl⟩ := r
      have cp1 : wr.cell? ⟨b, off + k, none⟩ = some (.slice A l.length cl) := cp
      dsimp only at hs
      have hki : (0 : Int) ≤ (k : Int) := by omega
      have hki2 : (k : Int) < (Rs.length : Int) := by omega
      have hsum : m + l.length ≤ 1000000 := by have := hd.out; omega
      have hw : IntKind.i64.wrap ((m : Int) + (l.length : Int)) = ((m + l.length : Nat) : Int) := (IntWalk.i64_in _ (by omega)).trans (by omega)
      have HS := Lib.hid hs
      clear cp hr hs hle
      go_wp2
      go_roundw
      case rel => exact ⟨k + 1, m + l.length, by omega, by go_num, by go_num, by first | trivial | rfl, hsum, by show _ = _; rw [HS.out, hd.out]⟩
      case measure => simp [intOf]; omega
    · have hkn : k = Rs.length := by omega
      have hf : m = tot (lvs Rs) := by rw [hd.out, List.take_of_length_le (by simp; omega)]
      have HF := Lib.hid hf
      have hkf : ¬ (k : Int) < (Rs.length : Int) := by omega
      clear hkn hf
      go_wp2
      go_ret
      exact ⟨ret_int (by rw [HF.out]), HB0.out⟩
theorem dead_len (l : List Ent) : decide ((plainE l).length < l.length) = deadE l := by
  have h1 : (plainE l).length = (liveE l).length := by unfold plainE; rw [List.length_map]
  rw [h1]
  cases hd : deadE l with
  | true =>
    refine decide_eq_true ?_
    unfold deadE at hd
    unfold liveE
    refine Classical.byContradiction fun hn => ?_
    have h2 : (l.filter (fun e => !e.dead)).length = l.length := Nat.le_antisymm (List.length_filter_le _ _) (by omega)
    rw [List.length_filter_eq_length_iff] at h2
    obtain ⟨e, he, hx⟩ := List.any_eq_true.1 hd
    have := h2 e he
    rw [hx] at this
    simp at this
  | false =>
    refine decide_eq_false ?_
    unfold deadE at hd
    rw [List.any_eq_false] at hd
    unfold liveE
    rw [List.filter_eq_self.2 (fun e he => by have := hd e he; simpa using this)]
    omega
set_option maxHeartbeats 1000000 in
theorem dead26_any (A : Option Addr) (l : List Ent) (c : Nat) (w : World) (hA : Sl w A (l.flatMap Ent.cells)) (hn : l.length ≤ 1099511627776) :
    Calls Tryd.prog 90 #[.agg #[.slice A l.length c]] w fun r w' => r = .returned (.bool (deadE l)) ∧ Below w.heap.size w w' := by
  obtain ⟨W0, hW0⟩ : ∃ W0, w.alloc (.cells #[.slice A l.length c] 61) = W0 := ⟨_, rfl⟩
  have hb0 : Below w.heap.size w W0 := by rw [← hW0]; exact (Below.refl _ _).alloc (Nat.le_refl _) _
  have b1 : Blk W0 w.heap.size 61 #[.slice A l.length c] := by rw [← hW0]; exact Blk.new _ _ _
  have HW0 := Lib.hid hW0
  have HA := Lib.hid hA
  have HB0 := Lib.hid hb0
  have hpl : Hid (decide ((plainE l).length < l.length) = deadE l) := dead_len l
  have hpn : (plainE l).length ≤ l.length := by unfold plainE; rw [List.length_map]; exact live_le l
  obtain ⟨N, hN⟩ : ∃ N, (plainE l).length = N := ⟨_, rfl⟩
  rw [hN] at hpl hpn
  have HN := Lib.hid hN
  clear hW0 hA hN
  go_enter Tryd.func90, Tryd.ntmps90
  go_upto_region 1 with fail
  rw [HW0.out]
  have c10 : W0.cell? ⟨w.heap.size, 0, none⟩ = some (.slice A l.length c) := b1.cell 0
  have l1 := b1.lt
  go_region_with (go_at_call 91; refine (refPlain_any A l c _ (HA.out.below (bext HB0.out (by first | exact (Below.refl _ _).drew | exact Below.refl _ _))) hn).mono ?_; unfold GivesOwn; rw [HN.out]; rintro e w5 ⟨A5, c5, rfl, h51, hb5⟩; have hb9 : Below W0.heap.size W0 w5 := (by first | exact hb5 | exact bext ((Below.refl _ _).drew) hb5); have d10 : w5.cell? ⟨w.heap.size, 0, none⟩ = some (.slice A l.length c) := ((bcell hb9).1 _ _ l1).trans c10; have HB9 := Lib.hid hb9; clear h51 hb5 hb9)
  all_goals
    go_wp2
    go_ret
    exact ⟨ret_bool (by rw [← hpl.out]), bext HB0.out HB9.out⟩
theorem own_take {w : World} {B0 : Nat} {B : Option Addr} {c : Nat} {Rs : List Rm} (h : OwnRs w B0 B c Rs) {m : Nat} (hm : m ≤ Rs.length) (h0 : B ≠ none) : OwnRs w B0 B c (Rs.take m) := by
  refine ⟨?_, fun r hr => h.ent r (List.mem_of_mem_take hr)⟩
  rw [List.length_take, Nat.min_eq_left hm]
  rcases h.row.2 with ⟨hv, _⟩ | ⟨g, cap, cur, hv, hg, hb, h1, h2, h3, h4⟩
  · exact absurd (by simpa using hv : B = none ∧ _).1 h0
  · obtain ⟨rfl, rfl⟩ : B = some ⟨g, 0, none⟩ ∧ c = cap := by simpa using hv
    refine ⟨by simp; omega, .inr ⟨g, c, cur, rfl, hg, hb, by omega, h2, h3, ?_⟩⟩
    rw [List.map_take, ← h4, List.take_take, Nat.mul_one, Nat.mul_one, Nat.min_eq_left hm]
theorem cutN_step {rs : Lv} {n m : Nat} (h1 : cutN rs (n + 1) = m) (h2 : lev rs n = []) : cutN rs n = m := by rw [cutN, if_pos h2] at h1; exact h1
set_option maxHeartbeats 1000000 in
theorem all26_any (B : Option Addr) (Rs : List Rm) (c : Nat) (n : Int) (w : World) (hB : RunsAt w B Rs) (hl : Rs.length ≤ 1000000) (hsm : ∀ r ∈ Rs, r.l.length ≤ 65536) (hT : tot (lvs Rs) ≤ 1000000) :
    Calls Tryd.prog 53 #[.agg #[.slice B Rs.length c, .int .u64 n]] w (GivesOwn 56 2 (plainE (allE (inS Rs))).length ((plainE (allE (inS Rs))).flatMap Pr.cells) w) := by
  have hT2 : (Rs.map (fun r => r.l.length)).sum ≤ 1000000 := by rw [← tot_rs]; exact hT
  have hal : (allE (inS Rs)).length ≤ 1099511627776 := by
    have h := all_take_len (inS Rs) (inS Rs).length 1000000 (by rw [inS_sum]; exact hT2)
    rw [List.take_length] at h
    omega
  obtain ⟨L, hL⟩ : ∃ L, allE (inS Rs) = L := ⟨_, rfl⟩
  rw [hL] at hal
  have HL := Lib.hid hL
  have hb0 : Below w.heap.size w (w.alloc (.cells #[.slice B Rs.length c, .int .u64 n] 25)) := (Below.refl _ _).alloc (Nat.le_refl _) _
  have hcall := fun W (hW : Below w.heap.size w W) => refAll_any B Rs c 1000000 W (hB.below hW) (by omega) hsm hT2 (by omega)
  rw [hL] at hcall ⊢
  have HC := Lib.hid hcall
  clear hcall hL hB hsm hT hT2
  go_enter Tryd.func53, Tryd.ntmps53
  go_wp2_with fail
  refine (HC.out _ hb0).mono ?_
  rintro e w1 ⟨A1, c1, rfl, ho1, hb1⟩
  have HO1 := Lib.hid ho1
  clear ho1
  go_wp2_with fail
  refine (refPlain_any A1 L c1 _ (own_sl HO1.out) hal).mono ?_
  rintro e w2 ⟨A2, c2, rfl, ho2, hb2⟩
  have HO2 := Lib.hid ho2
  have hs1 := hb1.size
  have hs2 : w.heap.size ≤ w1.heap.size := by simp at hs1; omega
  clear ho2
  go_wp2
  go_ret
  exact ⟨A2, c2, rfl, own_mono HO2.out hs2, bext (bext hb0 hb1) hb2⟩
theorem great26_any (B : Option Addr) (Rs : List Rm) (c most : Nat) (n : Int) (w : World) (hB : RunsAt w B Rs) (hm : most ≤ 1000000) :
    Calls Tryd.prog 11 #[.agg #[.slice B Rs.length c, .int .u64 n], .int .i64 most] w fun r w' => ∃ G : Bool, r = .returned (.bool G) ∧ (G = false → Rs.length + tot (lvs Rs) ≤ most) ∧ Below w.heap.size w w' := by
  have hb0 : Below w.heap.size w (w.alloc (.cells #[.slice B Rs.length c, .int .u64 n] 25)) := (Below.refl _ _).alloc (Nat.le_refl _) _
  have HB := Lib.hid hB
  clear hB
  go_enter Tryd.func11, Tryd.ntmps11
  go_wp2_with fail
  refine (great25_any B Rs c most _ (HB.out.below hb0) hm).mono ?_
  rintro e w1 ⟨G, rfl, hG, rfl⟩
  have HG := Lib.hid hG
  clear hG
  go_wp2
  go_ret
  exact ⟨G, rfl, fun h => by rw [tot_rs]; exact HG.out h, hb0⟩
end Go.Proofs.YthdcllnmnmemdaaDoor

/- Contract: which levels may be, by the reference (May). -/
namespace Go.Proofs.YthdcllnmnmemdaaDoor
open Go Go.RowKit
set_option maxRecDepth 100000
theorem mayB_bad {rs : Lv} {k : Nat} (h : k < rs.length) (hb : okLv rs.length k (lev rs k) = false) : mayB rs = false := by
  cases hm : mayB rs with
  | false => rfl
  | true =>
    unfold mayB allOk at hm
    simp only [Bool.and_eq_true, decide_eq_true_eq] at hm
    rw [hm.1.2 k h] at hb
    cases hb
theorem mayB_end {rs : Lv} (h : endOk rs = false) : mayB rs = false := by unfold mayB; rw [h]; rfl
theorem mayB_all {rs : Lv} (h : endOk rs = true) (h2 : allOk rs rs.length = true) : mayB rs = decide (tot rs ≤ 65536) := by unfold mayB; rw [h, h2]; rfl
set_option maxHeartbeats 16000000 in
theorem may26_any (B : Option Addr) (Rs : List Rm) (c : Nat) (n : Int) (w : World) (hB : RunsAt w B Rs) (hT : tot (lvs Rs) ≤ 1000000) (hl : Rs.length ≤ 1000000) :
    Calls Tryd.prog 52 #[.agg #[.slice B Rs.length c, .int .u64 n]] w fun r w' => r = .returned (.bool (mayB (lvs Rs))) ∧ Below w.heap.size w w' := by
  obtain ⟨W0, hW0⟩ : ∃ W0, w.alloc (.cells #[.slice B Rs.length c, .int .u64 n] 25) = W0 := ⟨_, rfl⟩
  have hb0 : Below w.heap.size w W0 := by rw [← hW0]; exact (Below.refl _ _).alloc (Nat.le_refl _) _
  have b1 : Blk W0 w.heap.size 25 #[.slice B Rs.length c, .int .u64 n] := by rw [← hW0]; exact Blk.new _ _ _
  have HW0 := Lib.hid hW0
  have HB := Lib.hid hB
  have HB0 := Lib.hid hb0
  clear hW0 hB
  have c10 : W0.cell? ⟨w.heap.size, 0, none⟩ = some (.slice B Rs.length c) := b1.cell 0
  have c11 : W0.cell? ⟨w.heap.size, 1, none⟩ = some (.int .u64 n) := b1.cell 1
  by_cases hend : endOk (lvs Rs) = true
  · have hEnd := Lib.hid hend
    have hl17 : Rs.length ≤ 17 := by
      unfold endOk at hend
      simp at hend
      exact hend.1
    go_enter Tryd.func52, Tryd.ntmps52
    go_upto_region 2 with fail
    rw [HW0.out]
    go_cut [25] from 9 to 25 (fun v wx => v = .bool false ∧ wx = W0)
    case first =>
      have g1 : ¬ (17 : Int) < (Rs.length : Int) := by omega
      by_cases h0 : Rs.length = 0
      · have g2 : ¬ (0 : Int) < (Rs.length : Int) := by omega
        clear hend h0
        go_wp2
        go_meet
        exact ⟨by simp, by first | trivial | rfl⟩
      · have g2 : (0 : Int) < (Rs.length : Int) := by omega
        obtain ⟨j, hj⟩ : ∃ j, Rs.length = j + 1 := ⟨Rs.length - 1, by omega⟩
        obtain ⟨b, off, rfl, hbl, cp⟩ := HB.out.sl.oneB hb0 j (by omega)
        have hne : (Rs[j]'(by omega)).l ≠ [] := by
          unfold endOk at hend
          rw [lvs_len, hj] at hend
          simp at hend
          have h2 := hend.2
          rw [lvs_lev (by omega)] at h2
          exact h2
        obtain ⟨r, hr⟩ : ∃ r, Rs[j]'(by omega) = r := ⟨_, rfl⟩
        rw [hr] at cp hne
        obtain ⟨l, A, cl⟩ := r
        have cp1 : W0.cell? ⟨b, off + j, none⟩ = some (.slice A l.length cl) := cp
        have hne2 : ¬ l = [] := hne
        have hl0 : ¬ ((l.length : Int) = 0) := by have := List.length_pos_iff.2 hne; dsimp only at this; omega
        have g4 : IntKind.i64.wrap ((Rs.length : Int) - 1) = (j : Int) := (IntWalk.i64_in _ (by omega)).trans (by omega)
        have g5 : (0 : Int) ≤ (j : Int) := by omega
        have g6 : (j : Int) < (Rs.length : Int) := by omega
        clear cp hr hne hj hend h0
        go_wp2
        go_meet
        exact ⟨by simp [hne2], by first | trivial | rfl⟩
    case rest =>
    obtain ⟨rfl, rfl⟩ := hcut
    clear hend c10 c11
    go_wp2
    go_loopw [4] (fun i wr => ∃ k : Nat, k ≤ Rs.length ∧ i = .int .i64 k ∧ Below w.heap.size w wr ∧ Blk wr w.heap.size 25 #[.slice B Rs.length c, .int .u64 n] ∧ Hid (allOk (lvs Rs) k = true)) (fun i _ => Rs.length - (intOf i).toNat)
    case atStart => exact ⟨0, Nat.zero_le _, rfl, hb0, b1, by show _ = _; unfold allOk; simp⟩
    case round =>
      obtain ⟨k, hk, rfl, hb, bX, hA⟩ := hrel
      have x10 : wr.cell? ⟨w.heap.size, 0, none⟩ = some (.slice B Rs.length c) := bX.cell 0
      have x11 : wr.cell? ⟨w.heap.size, 1, none⟩ = some (.int .u64 n) := bX.cell 1
      by_cases hlt : k < Rs.length
      · obtain ⟨b, off, rfl, hbl, cp⟩ := HB.out.sl.oneB hb k hlt
        have hok := (HB.out.ok _ (List.getElem_mem hlt)).below hb
        have ha := allOk_succ (lvs Rs) k
        have hbad := mayB_bad (rs := lvs Rs) (k := k) (by simpa using hlt)
        have hle := tot_lev (lvs Rs) k
        rw [lvs_lev hlt, lvs_len] at ha hbad
        rw [lvs_lev hlt] at hle
        obtain ⟨r, hr⟩ : ∃ r, Rs[k]'hlt = r := ⟨_, rfl⟩
        rw [hr] at cp hok ha hbad hle
        obtain ⟨l, A, cl⟩ := r
        have cp1 : wr.cell? ⟨b, off + k, none⟩ = some (.slice A l.length cl) := cp
        dsimp only at ha hbad hle
        have hbl2 : b < wr.heap.size := Nat.lt_of_lt_of_le hbl hb.size
        have hki : (0 : Int) ≤ (k : Int) := by omega
        have hki2 : (k : Int) < (Rs.length : Int) := by omega
        have hw2 : IntKind.i64.wrap ((Rs.length : Int) - 1) = ((Rs.length - 1 : Nat) : Int) := (IntWalk.i64_in _ (by omega)).trans (by omega)
        obtain ⟨E, hE⟩ : ∃ E, chkE l = E := ⟨_, rfl⟩
        have hOK : okLv Rs.length k l = (decide (E = 0) && (decide (l = []) || decide (up l.length = k)) && (decide (k + 1 ≠ Rs.length) || !deadE l)) := by unfold okLv; rw [hE]
        have hE16 : E = 0 → l.length ≤ 65536 := by rw [← hE]; exact fun h => (chk_ok h).2.2
        have hll : l.length ≤ 1000000 := by omega
        have HOKS := Lib.hid hok.sl
        have HA := Lib.hid ha
        have HBAD := Lib.hid hbad
        have HE := Lib.hid hE
        have HE16 := Lib.hid hE16
        have HBB := Lib.hid hb
        have hbs := hb.size
        have lX := bX.lt
        clear cp hr hok ha hbad hE hE16 hle
        obtain ⟨U, hU⟩ : ∃ U, up l.length = U := ⟨_, rfl⟩
        rw [hU] at hOK
        have HU := Lib.hid hU
        obtain ⟨DD, hDD⟩ : ∃ DD, deadE l = DD := ⟨_, rfl⟩
        rw [hDD] at hOK
        have HDD := Lib.hid hDD
        have HOK := Lib.hid hOK
        clear hU hOK hDD
        obtain ⟨J, hJ⟩ : ∃ J : Nat, Rs.length - 1 = J := ⟨_, rfl⟩
        rw [hJ] at hw2
        by_cases hE0 : E = 0
        · have hl6 := HE16.out hE0
          have HL6 := Lib.hid hl6
          clear hl6
          by_cases hl0' : l.length = 0
          · have hnil : l = [] := List.eq_nil_of_length_eq_zero hl0'
            have hl00 : ¬ (0 : Int) < (l.length : Int) := by omega
            have hDF : DD = false := by rw [← HDD.out, hnil]; rfl
            clear hl0'
            have hK : okLv Rs.length k l = true := by rw [HOK.out]; rw [hE0, hnil, hDF]; simp
            have HK := Lib.hid hK
            clear hK
            clear hnil
            subst hDF
            subst hE0
            by_cases hkn : k = J
            · subst hkn
              go_wp2_with fail
              refine (refCheck_any A l cl _ HOKS.out (by omega)).mono ?_
              rw [HE.out]
              rintro e w1 ⟨rfl, hb1⟩
              have y10 : w1.cell? ⟨w.heap.size, 0, none⟩ = some (.slice (some ⟨b, off, none⟩) Rs.length c) := (bX.below hb1 lX).cell 0
              have y11 : w1.cell? ⟨w.heap.size, 1, none⟩ = some (.int .u64 n) := (bX.below hb1 lX).cell 1
              have yp1 : w1.cell? ⟨b, off + k, none⟩ = some (.slice A l.length cl) := ((bcell hb1).1 _ _ hbl2).trans cp1
              have bY := bX.below hb1 lX
              have HB1 := Lib.hid (bext HBB.out hb1)
              go_wp2_with fail
              refine (dead26_any A l cl _ (HOKS.out.below hb1) (by omega)).mono ?_
              rw [HDD.out]
              rintro e w3 ⟨rfl, hb3⟩
              have bZ := bY.below hb3 bY.lt
              have HB3 := Lib.hid (bext HB1.out hb3)
              go_wp2
              go_roundw
              case rel => exact ⟨k + 1, by omega, by go_num, HB3.out, bZ, by show _ = _; rw [HA.out, hA.out, HK.out]; rfl⟩
              case measure => simp [intOf]; omega
              
            · go_wp2_with fail
              refine (refCheck_any A l cl _ HOKS.out (by omega)).mono ?_
              rw [HE.out]
              rintro e w1 ⟨rfl, hb1⟩
              have y10 : w1.cell? ⟨w.heap.size, 0, none⟩ = some (.slice (some ⟨b, off, none⟩) Rs.length c) := (bX.below hb1 lX).cell 0
              have y11 : w1.cell? ⟨w.heap.size, 1, none⟩ = some (.int .u64 n) := (bX.below hb1 lX).cell 1
              have yp1 : w1.cell? ⟨b, off + k, none⟩ = some (.slice A l.length cl) := ((bcell hb1).1 _ _ hbl2).trans cp1
              have bY := bX.below hb1 lX
              have HB1 := Lib.hid (bext HBB.out hb1)
              go_wp2
              go_roundw
              case rel => exact ⟨k + 1, by omega, by go_num, HB1.out, bY, by show _ = _; rw [HA.out, hA.out, HK.out]; rfl⟩
              case measure => simp [intOf]; omega
              
          · have hl0 : 0 < l.length := by omega
            have hne : ¬ l = [] := List.length_pos_iff.1 hl0
            have hl00 : (0 : Int) < (l.length : Int) := by omega
            have HL0 := Lib.hid hl0
            clear hl0 hl0'
            by_cases hu : U = k
            · by_cases hkn : k = J
              · cases DD
                · have hK : okLv Rs.length k l = true := by rw [HOK.out]; rw [hE0]; simp [hu]
                  have HK := Lib.hid hK
                  clear hK
                  subst hkn
                  subst hu
                  subst hE0
                  go_wp2_with fail
                  refine (refCheck_any A l cl _ HOKS.out (by omega)).mono ?_
                  rw [HE.out]
                  rintro e w1 ⟨rfl, hb1⟩
                  have y10 : w1.cell? ⟨w.heap.size, 0, none⟩ = some (.slice (some ⟨b, off, none⟩) Rs.length c) := (bX.below hb1 lX).cell 0
                  have y11 : w1.cell? ⟨w.heap.size, 1, none⟩ = some (.int .u64 n) := (bX.below hb1 lX).cell 1
                  have yp1 : w1.cell? ⟨b, off + U, none⟩ = some (.slice A l.length cl) := ((bcell hb1).1 _ _ hbl2).trans cp1
                  have bY := bX.below hb1 lX
                  have HB1 := Lib.hid (bext HBB.out hb1)
                  go_wp2_with fail
                  refine (ceil_any l.length _ HL0.out HL6.out).mono ?_
                  rw [HU.out]
                  rintro e w2 ⟨rfl, rfl⟩
                  go_wp2_with fail
                  refine (dead26_any A l cl _ (HOKS.out.below hb1) (by omega)).mono ?_
                  rw [HDD.out]
                  rintro e w3 ⟨rfl, hb3⟩
                  have bZ := bY.below hb3 bY.lt
                  have HB3 := Lib.hid (bext HB1.out hb3)
                  go_wp2
                  go_roundw
                  case rel => exact ⟨U + 1, by omega, by go_num, HB3.out, bZ, by show _ = _; rw [HA.out, hA.out, HK.out]; rfl⟩
                  case measure => simp [intOf]; omega
                  
                · have hK : okLv Rs.length k l = false := by rw [HOK.out]; rw [hE0]; simp; omega
                  have HK := Lib.hid hK
                  clear hK
                  subst hkn
                  subst hu
                  subst hE0
                  go_wp2_with fail
                  refine (refCheck_any A l cl _ HOKS.out (by omega)).mono ?_
                  rw [HE.out]
                  rintro e w1 ⟨rfl, hb1⟩
                  have y10 : w1.cell? ⟨w.heap.size, 0, none⟩ = some (.slice (some ⟨b, off, none⟩) Rs.length c) := (bX.below hb1 lX).cell 0
                  have y11 : w1.cell? ⟨w.heap.size, 1, none⟩ = some (.int .u64 n) := (bX.below hb1 lX).cell 1
                  have yp1 : w1.cell? ⟨b, off + U, none⟩ = some (.slice A l.length cl) := ((bcell hb1).1 _ _ hbl2).trans cp1
                  have bY := bX.below hb1 lX
                  have HB1 := Lib.hid (bext HBB.out hb1)
                  go_wp2_with fail
                  refine (ceil_any l.length _ HL0.out HL6.out).mono ?_
                  rw [HU.out]
                  rintro e w2 ⟨rfl, rfl⟩
                  go_wp2_with fail
                  refine (dead26_any A l cl _ (HOKS.out.below hb1) (by omega)).mono ?_
                  rw [HDD.out]
                  rintro e w3 ⟨rfl, hb3⟩
                  have bZ := bY.below hb3 bY.lt
                  have HB3 := Lib.hid (bext HB1.out hb3)
                  go_wp2
                  go_ret
                  exact ⟨ret_bool (HBAD.out HK.out).symm, HB3.out⟩
                  
              · have hK : okLv Rs.length k l = true := by rw [HOK.out]; rw [hE0]; simp [hu]; omega
                have HK := Lib.hid hK
                clear hK
                subst hu
                subst hE0
                go_wp2_with fail
                refine (refCheck_any A l cl _ HOKS.out (by omega)).mono ?_
                rw [HE.out]
                rintro e w1 ⟨rfl, hb1⟩
                have y10 : w1.cell? ⟨w.heap.size, 0, none⟩ = some (.slice (some ⟨b, off, none⟩) Rs.length c) := (bX.below hb1 lX).cell 0
                have y11 : w1.cell? ⟨w.heap.size, 1, none⟩ = some (.int .u64 n) := (bX.below hb1 lX).cell 1
                have yp1 : w1.cell? ⟨b, off + U, none⟩ = some (.slice A l.length cl) := ((bcell hb1).1 _ _ hbl2).trans cp1
                have bY := bX.below hb1 lX
                have HB1 := Lib.hid (bext HBB.out hb1)
                go_wp2_with fail
                refine (ceil_any l.length _ HL0.out HL6.out).mono ?_
                rw [HU.out]
                rintro e w2 ⟨rfl, rfl⟩
                go_wp2
                go_roundw
                case rel => exact ⟨U + 1, by omega, by go_num, HB1.out, bY, by show _ = _; rw [HA.out, hA.out, HK.out]; rfl⟩
                case measure => simp [intOf]; omega
                
            · have hK : okLv Rs.length k l = false := by rw [HOK.out]; rw [hE0]; simp [hu, hne]
              have HK := Lib.hid hK
              clear hK
              subst hE0
              go_wp2_with fail
              refine (refCheck_any A l cl _ HOKS.out (by omega)).mono ?_
              rw [HE.out]
              rintro e w1 ⟨rfl, hb1⟩
              have y10 : w1.cell? ⟨w.heap.size, 0, none⟩ = some (.slice (some ⟨b, off, none⟩) Rs.length c) := (bX.below hb1 lX).cell 0
              have y11 : w1.cell? ⟨w.heap.size, 1, none⟩ = some (.int .u64 n) := (bX.below hb1 lX).cell 1
              have yp1 : w1.cell? ⟨b, off + k, none⟩ = some (.slice A l.length cl) := ((bcell hb1).1 _ _ hbl2).trans cp1
              have bY := bX.below hb1 lX
              have HB1 := Lib.hid (bext HBB.out hb1)
              go_wp2_with fail
              refine (ceil_any l.length _ HL0.out HL6.out).mono ?_
              rw [HU.out]
              rintro e w2 ⟨rfl, rfl⟩
              go_wp2
              go_ret
              exact ⟨ret_bool (HBAD.out HK.out).symm, HB1.out⟩
              
        · have hK : okLv Rs.length k l = false := by rw [HOK.out]; simp [hE0]
          have HK := Lib.hid hK
          clear hK
          go_wp2_with fail
          refine (refCheck_any A l cl _ HOKS.out (by omega)).mono ?_
          rw [HE.out]
          rintro e w1 ⟨rfl, hb1⟩
          have y10 : w1.cell? ⟨w.heap.size, 0, none⟩ = some (.slice (some ⟨b, off, none⟩) Rs.length c) := (bX.below hb1 lX).cell 0
          have y11 : w1.cell? ⟨w.heap.size, 1, none⟩ = some (.int .u64 n) := (bX.below hb1 lX).cell 1
          have yp1 : w1.cell? ⟨b, off + k, none⟩ = some (.slice A l.length cl) := ((bcell hb1).1 _ _ hbl2).trans cp1
          have bY := bX.below hb1 lX
          have HB1 := Lib.hid (bext HBB.out hb1)
          go_wp2
          go_ret
          exact ⟨ret_bool (HBAD.out HK.out).symm, HB1.out⟩
          
      · have hkn : k = Rs.length := by omega
        have hall : allOk (lvs Rs) (lvs Rs).length = true := by rw [lvs_len, ← hkn]; exact hA.out
        have hfin := mayB_all hEnd.out hall
        have HF := Lib.hid hfin
        have hkf : ¬ (k : Int) < (Rs.length : Int) := by omega
        have HBB := Lib.hid hb
        clear hfin hall hkn hb
        go_wp2_with fail
        refine (entries26_any B Rs c n _ (HB.out.below HBB.out) hT hl).mono ?_
        rintro e w4 ⟨rfl, hb4⟩
        go_wp2
        go_ret
        exact ⟨ret_bool (by rw [HF.out]; first | rfl | (simp; omega) | (rw [decide_eq_decide]; omega)), bext HBB.out hb4⟩
  · have hE8 : mayB (lvs Rs) = false := mayB_end (by simpa using hend)
    have HE8 := Lib.hid hE8
    clear hE8
    by_cases h17 : 17 < Rs.length
    · have g1 : (17 : Int) < (Rs.length : Int) := by omega
      clear hend
      go_enter Tryd.func52, Tryd.ntmps52
      go_wp2
      go_ret
      exact ⟨ret_bool HE8.out.symm, by first | exact HB0.out | (have := HB0.out; rw [← HW0.out] at this; exact this)⟩
    · have g1 : ¬ (17 : Int) < (Rs.length : Int) := by omega
      have h0 : Rs.length ≠ 0 := by
        intro h0
        apply hend
        unfold endOk
        rw [lvs_len, h0]; rfl
      have g2 : (0 : Int) < (Rs.length : Int) := by omega
      obtain ⟨j, hj⟩ : ∃ j, Rs.length = j + 1 := ⟨Rs.length - 1, by omega⟩
      obtain ⟨b, off, rfl, hbl, cp⟩ := HB.out.sl.oneB (Below.refl _ _) j (by omega)
      have hne : (Rs[j]'(by omega)).l = [] := by
        refine Classical.byContradiction fun hx => hend ?_
        unfold endOk
        rw [lvs_len, hj, Nat.add_sub_cancel, lvs_lev (by omega)]
        simp [hx]
        omega
      obtain ⟨r, hr⟩ : ∃ r, Rs[j]'(by omega) = r := ⟨_, rfl⟩
      rw [hr] at cp hne
      obtain ⟨l, A, cl⟩ := r
      have hnl : l = [] := hne
      subst hnl
      have cp1 : w.cell? ⟨b, off + j, none⟩ = some (.slice A 0 cl) := cp
      have g4 : IntKind.i64.wrap ((Rs.length : Int) - 1) = (j : Int) := (IntWalk.i64_in _ (by omega)).trans (by omega)
      have g5 : (0 : Int) ≤ (j : Int) := by omega
      have g6 : (j : Int) < (Rs.length : Int) := by omega
      clear cp hr hne hj hend
      go_enter Tryd.func52, Tryd.ntmps52
      go_wp2
      go_ret
      exact ⟨ret_bool HE8.out.symm, by first | exact HB0.out | (have := HB0.out; rw [← HW0.out] at this; exact this)⟩
end Go.Proofs.YthdcllnmnmemdaaDoor

/- Contract: an entry is let in, by the reference (In). -/
namespace Go.Proofs.YthdcllnmnmemdaaDoor
open Go Go.RowKit
set_option maxRecDepth 100000
theorem OwnRs.setFar' {w : World} {B0 g : Nat} {B : Option Addr} {c : Nat} {Rs : List Rm} {cs : Array Value} (h : OwnRs w B0 B c Rs) (hB : Blk w g 61 cs) (hne : ∀ q, B = some q → q.block ≠ g) (i : Nat) (u : Value) : OwnRs (w.setCell ⟨g, i, none⟩ u) B0 B c Rs :=
  ⟨own_far (p := ⟨g, i, none⟩) h.row (by
    cases B with
    | none => simp [Value.ownBlock]
    | some q => have := hne q rfl; simp [Value.ownBlock]; exact this) u, fun r hr => own_setT hB (h.ent r hr) (by decide) i u⟩
theorem own_form2d {w : World} {B n c s : Nat} {e : TypeId} {A : Option Addr} {xs : List Value} (h : w.ownsRow B e s (.slice A n c) n xs) : n ≤ c ∧ c ≤ maxLen := by
  obtain ⟨A', c', h4, h5, h6⟩ := own_form h
  obtain ⟨rfl, rfl⟩ : A = A' ∧ c = c' := by simpa using h4
  exact ⟨h5, h6⟩
end Go.Proofs.YthdcllnmnmemdaaDoor
