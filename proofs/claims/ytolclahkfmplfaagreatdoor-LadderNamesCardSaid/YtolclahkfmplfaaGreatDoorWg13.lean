/- Hi: texts of the claim, in this order. -/
import Derived.Test.YtolclahkfmplfaaGreatDoorWg12
import Derived.Test.YtolclahkfmplfaaGreatDoorWg2
import Derived.Test.YtolclahkfmplfaaGreatDoorWg7
import Derived.Maps.OwnOps
/- Contract: an entry is let in (rungs.in). -/
namespace Go.Proofs.YtolclahkfmplfaaGreatDoor
open Go Go.RowKit Go.Maps
set_option maxRecDepth 100000
theorem HeldAt.mlen {w : World} {b : Nat} {rs : Lv} (h : HeldAt w b rs) (ty : TypeId) : (Builtin.len_ #[108] ty #[.map (some b)]).run Tryz.prog w = .ok (.int .i64 (cnt rs : Nat)) w := by
  obtain ⟨n, D, h1, _, _, _, _, h5⟩ := h
  rw [← h5]
  exact h1.len Tryz.underlying108 ty
theorem top_cnt {rs : Lv} (h : Top rs) : cnt rs = 0 ↔ rs = [] := by
  constructor
  · intro h0
    rcases h with h1 | h1
    · exact h1
    · exact absurd (cnt_zero h0 _) h1
  · rintro rfl; rfl
theorem OwnRs.setFar {w : World} {B0 g : Nat} {B : Option Addr} {c : Nat} {Rs : List Rm} {cs : Array Value} (h : OwnRs w B0 B c Rs) (hB : Blk w g 49 cs) (hne : ∀ q, B = some q → q.block ≠ g) (i : Nat) (u : Value) : OwnRs (w.setCell ⟨g, i, none⟩ u) B0 B c Rs :=
  ⟨own_far (p := ⟨g, i, none⟩) h.row (by
    cases B with
    | none => simp [Value.ownBlock]
    | some q => have := hne q rfl; simp [Value.ownBlock]; exact this) u, fun r hr => own_setT hB (h.ent r hr) (by decide) i u⟩
theorem let_dead {rs : Lv} {n : Int} {y : Ent} (h : rs = []) (hd : y.dead = true) : letL rs n y = [] ∧ letN rs n y = n := by
  unfold letL letN climbE
  rw [if_pos ⟨hd, h⟩, h]
  exact ⟨by rw [stand_nil]; rfl, rfl⟩
theorem own_map {w w' : World} {bm B s n : Nat} {e : TypeId} {v : Value} {xs : List Value} {es : Array MapEntry} {clock : Nat} (hm : w.heap[bm]? = some (.map es clock)) (hg : w.grownBy w' (some bm)) (h : w.ownsRow B e s v n xs) : w'.ownsRow B e s v n xs := by
  refine ⟨h.1, ?_⟩
  rcases h.2 with h1 | ⟨g, cap, cur, h1, h2, h3, h4⟩
  · exact .inl h1
  · refine .inr ⟨g, cap, cur, h1, h2, ?_, h4⟩
    have h5 : Blk w g e cur := h3
    refine h5.of (hg.block g h5.lt ?_)
    intro h
    have h6 : g = bm := by simpa using h
    subst h6
    have := h3.symm.trans hm
    simp at this
theorem blk_map {w w' : World} {bm g : Nat} {t : TypeId} {cs : Array Value} {es : Array MapEntry} {clock : Nat} (hm : w.heap[bm]? = some (.map es clock)) (hg : w.grownBy w' (some bm)) (h : Blk w g t cs) : Blk w' g t cs := by
  refine h.of (hg.block g h.lt ?_)
  intro h2
  have h6 : g = bm := by simpa using h2
  subst h6
  have := h.symm.trans hm
  simp at this
theorem own_form2c {w : World} {B n c s : Nat} {e : TypeId} {A : Option Addr} {xs : List Value} (h : w.ownsRow B e s (.slice A n c) n xs) : n ≤ c ∧ c ≤ maxLen := by
  obtain ⟨A', c', h4, h5, h6⟩ := own_form h
  obtain ⟨rfl, rfl⟩ : A = A' ∧ c = c' := by simpa using h4
  exact ⟨h5, h6⟩
theorem at_eq {D : DataW Unit} {kl : Lit} {a b : Int} (h1 : D.atKey kl (.lit (.int .i64 0)) = .lit (.int .i64 a)) (h2 : D.atKey kl (.lit (.int .i64 0)) = .lit (.int .i64 b)) : a = b := by
  have := h1.symm.trans h2
  simpa using this
/-- what stands at the label while a run goes up -/
structure InF (w : World) (E : Prop) (L0 : Lv × List Ent × Int) (gk : Nat) (Rs2 : List Rm) (B2 : Option Addr) (c2 : Nat) (n2 : Int) (A : Option Addr) (l : List Ent) (cl bm g6 : Nat) (wr : World) : Prop where
  hb : Below w.heap.size w wr
  b2 : Blk wr w.heap.size 27 #[.slice B2 Rs2.length c2, .int .u64 n2]
  b4 : Blk wr (w.heap.size + 1 + 1) 27 #[.slice none 0 0, .int .u64 0]
  b6 : Blk wr g6 49 #[.slice A l.length cl]
  own : OwnRs wr w.heap.size B2 c2 Rs2
  ownA : wr.ownsRow w.heap.size 46 3 (.slice A l.length cl) l.length (l.flatMap Ent.cells)
  held : HeldAt wr bm (lvs Rs2)
  ne6 : ∀ q, B2 = some q → q.block ≠ g6
  climbs : Climbs (lvs Rs2) l
  ne : l ≠ []
  eq : climb (lvs Rs2) l n2 = L0
  len : Rs2.length ≤ 17
  ghost : gk = cnt (lvs Rs2)
  g6w : w.heap.size + 3 ≤ g6
  bmw : w.heap.size ≤ bm
  hE : E
theorem InF.below {w : World} {E : Prop} {L0 : Lv × List Ent × Int} {gk : Nat} {Rs2 : List Rm} {B2 : Option Addr} {c2 : Nat} {n2 : Int} {A : Option Addr} {l : List Ent} {cl bm g6 : Nat} {wr wx : World} (h : InF w E L0 gk Rs2 B2 c2 n2 A l cl bm g6 wr) (hb : Below wr.heap.size wr wx) : InF w E L0 gk Rs2 B2 c2 n2 A l cl bm g6 wx :=
  ⟨bext h.hb hb, h.b2.below hb h.b2.lt, h.b4.below hb h.b4.lt, h.b6.below hb h.b6.lt, h.own.below hb, own_below h.ownA hb, h.held.below hb, h.ne6, h.climbs, h.ne, h.eq, h.len, h.ghost, h.g6w, h.bmw, h.hE⟩
/-- .. behind it -/
structure InT (w : World) (E : Prop) (L0 : Lv × List Ent × Int) (Rs2 : List Rm) (B2 : Option Addr) (c2 : Nat) (n2 : Int) (A : Option Addr) (l : List Ent) (cl g6 : Nat) (wr : World) : Prop where
  hb : Below w.heap.size w wr
  b2 : Blk wr w.heap.size 27 #[.slice B2 Rs2.length c2, .int .u64 n2]
  b4 : Blk wr (w.heap.size + 1 + 1) 27 #[.slice none 0 0, .int .u64 0]
  b6 : Blk wr g6 49 #[.slice A l.length cl]
  own : OwnRs wr w.heap.size B2 c2 Rs2
  ownA : wr.ownsRow w.heap.size 46 3 (.slice A l.length cl) l.length (l.flatMap Ent.cells)
  ne6 : ∀ q, B2 = some q → q.block ≠ g6
  climbs : Climbs (lvs Rs2) l
  eq : L0 = (lvs Rs2, l, n2)
  len : Rs2.length ≤ 17
  g6w : w.heap.size + 3 ≤ g6
  hE : E
theorem InF.tail {w : World} {E : Prop} {L0 : Lv × List Ent × Int} {gk : Nat} {Rs2 : List Rm} {B2 : Option Addr} {c2 : Nat} {n2 : Int} {A : Option Addr} {l : List Ent} {cl bm g6 : Nat} {wr : World} (h : InF w E L0 gk Rs2 B2 c2 n2 A l cl bm g6 wr) (hl : lev (lvs Rs2) (up l.length) = []) : InT w E L0 Rs2 B2 c2 n2 A l cl g6 wr :=
  ⟨h.hb, h.b2, h.b4, h.b6, h.own, h.ownA, h.ne6, h.climbs, by rw [← h.eq, climb_end (.inr hl)], h.len, h.g6w, h.hE⟩
def InI (w : World) (E : Prop) (x0 y0 : Value) (L0 : Lv × List Ent × Int) (gk : Nat) (a : Act) (wr : World) : Prop :=
  ∃ (Rs2 : List Rm) (B2 : Option Addr) (c2 : Nat) (n2 : Int) (A : Option Addr) (l : List Ent) (cl bm g6 : Nat) (u7 u8 u9 u10 u11 u12 u13 u14 u15 u16 u17 u18 u19 u20 u21 u22 u23 u24 u25 u26 u27 u28 u29 u30 u31 u32 u33 u34 u35 u36 u37 u38 u39 u40 u41 u42 u43 u44 u45 u46 u47 u48 u49 u50 u51 u52 u53 u54 u55 u56 u57 u58 u59 u60 u61 u62 u63 u64 u65 u66 u67 u68 u69 u70 u71 u72 u73 u74 u75 u76 u77 : Value), a = { tmps := (x0 :: y0 :: .pointer (some ⟨w.heap.size, 0, none⟩) :: .pointer (some ⟨w.heap.size + 1, 0, none⟩) :: .pointer (some ⟨w.heap.size + 1 + 1, 0, none⟩) :: .map (some bm) :: .pointer (some ⟨g6, 0, none⟩) :: u7 :: u8 :: u9 :: u10 :: u11 :: u12 :: u13 :: u14 :: u15 :: u16 :: u17 :: u18 :: u19 :: u20 :: u21 :: u22 :: u23 :: u24 :: u25 :: u26 :: u27 :: u28 :: u29 :: u30 :: u31 :: u32 :: u33 :: u34 :: u35 :: u36 :: u37 :: u38 :: u39 :: u40 :: u41 :: u42 :: u43 :: u44 :: u45 :: u46 :: u47 :: u48 :: u49 :: u50 :: u51 :: u52 :: u53 :: u54 :: u55 :: u56 :: u57 :: u58 :: u59 :: u60 :: u61 :: u62 :: u63 :: u64 :: u65 :: u66 :: u67 :: u68 :: u69 :: u70 :: u71 :: u72 :: u73 :: u74 :: u75 :: u76 :: u77 :: []).toArray, defers := [] } ∧
    InF w E L0 gk Rs2 B2 c2 n2 A l cl bm g6 wr
set_option maxHeartbeats 16000000 in
theorem inR_any (B : Option Addr) (Rs : List Rm) (c : Nat) (n : Int) (y : Ent) (w : World) (hB : RunsAt w B Rs) (hM : May (lvs Rs)) (hy : badEnt y = false) (ht : tot (lvs Rs) ≠ 65536) :
    Calls Tryz.prog 48 #[.agg #[.slice B Rs.length c, .int .u64 n], .agg #[.int .i64 y.key, .int .i64 y.val, .bool y.dead]] w (GivesRg (letL (lvs Rs) n y) (letN (lvs Rs) n y) w) := by
  have hl17 : Rs.length ≤ 17 := by have := hM.len; rwa [lvs_len] at this
  have hrs : ∀ r ∈ Rs, r.l.length ≤ 65536 := fun r hr => by
    have h1 := le_sum (List.mem_map.2 ⟨r.l, List.mem_map.2 ⟨r, hr, rfl⟩, rfl⟩ : r.l.length ∈ ((lvs Rs).map List.length))
    have h2 := hM.size
    unfold tot at h2
    omega
  have hrs6 : ∀ r ∈ Rs, r.l.length ≤ 1000000 := fun r hr => by have := hrs r hr; omega
  obtain ⟨W0, hW0⟩ : ∃ W0, ((w.alloc (.cells #[.slice B Rs.length c, .int .u64 n] 27)).alloc (.cells #[.int .i64 y.key, .int .i64 y.val, .bool y.dead] 46)).alloc (.cells #[.slice none 0 0, .int .u64 0] 27) = W0 := ⟨_, rfl⟩
  have hb0 : Below w.heap.size w W0 := by rw [← hW0]; exact (((Below.refl _ _).alloc (Nat.le_refl _) _).alloc (by simp) _).alloc (by simp; omega) _
  have hs0 : W0.heap.size = w.heap.size + 3 := by rw [← hW0]; simp
  have b20 : Blk W0 w.heap.size 27 #[.slice B Rs.length c, .int .u64 n] := by rw [← hW0]; exact ((Blk.new _ _ _).alloc _).alloc _
  have b30 : Blk W0 (w.heap.size + 1) 46 #[.int .i64 y.key, .int .i64 y.val, .bool y.dead] := by
    rw [← hW0]
    have := Blk.new (w.alloc (.cells #[.slice B Rs.length c, .int .u64 n] 27)) 46 #[.int .i64 y.key, .int .i64 y.val, .bool y.dead]
    rw [World.size_alloc] at this
    exact this.alloc _
  have b40 : Blk W0 (w.heap.size + 1 + 1) 27 #[.slice none 0 0, .int .u64 0] := by
    rw [← hW0]
    have := Blk.new ((w.alloc (.cells #[.slice B Rs.length c, .int .u64 n] 27)).alloc (.cells #[.int .i64 y.key, .int .i64 y.val, .bool y.dead] 46)) 27 #[.slice none 0 0, .int .u64 0]
    rwa [World.size_alloc, World.size_alloc] at this
  have HW0 := Lib.hid hW0
  have HB0 := Lib.hid hb0
  have HB := Lib.hid (hB.below hb0)
  have HHR := Lib.hid hrs6
  have HM := Lib.hid hM
  have HY := Lib.hid hy
  have HT := Lib.hid ht
  clear hW0 hB hrs hrs6 hM hy ht
  go_enter Tryz.func48, Tryz.ntmps48
  go_wp2
  obtain ⟨L0, hL0⟩ : ∃ L0, climb (lvs Rs) [y] (IntKind.u64.wrap (n + 1)) = L0 := ⟨_, rfl⟩
  have HL0 := Lib.hid hL0
  clear hL0
  refine wp_scope_ghost 0 (InI w (climbE (lvs Rs) n y = L0) (.agg #[.slice B Rs.length c, .int .u64 n]) (.agg #[.int .i64 y.key, .int .i64 y.val, .bool y.dead]) L0) rfl ?pass ?first
  case pass =>
    rintro gk a' wr ⟨Rs2, B2, c2, n2, A, l, cl, bm, g6, u7, u8, u9, u10, u11, u12, u13, u14, u15, u16, u17, u18, u19, u20, u21, u22, u23, u24, u25, u26, u27, u28, u29, u30, u31, u32, u33, u34, u35, u36, u37, u38, u39, u40, u41, u42, u43, u44, u45, u46, u47, u48, u49, u50, u51, u52, u53, u54, u55, u56, u57, u58, u59, u60, u61, u62, u63, u64, u65, u66, u67, u68, u69, u70, u71, u72, u73, u74, u75, u76, u77, rfl, hI⟩ K hK
    have HK := Lib.hid hK
    have HI := Lib.hid hI
    obtain ⟨U, hU⟩ : ∃ U, up l.length = U := ⟨_, rfl⟩
    have HU := Lib.hid hU
    have hll : l.length ≤ 65536 := chk_len hI.climbs.run
    have HL6 := Lib.hid hll
    have HLP : Hid (0 < l.length) := List.length_pos_iff.2 hI.ne
    have hU16 : U ≤ 16 := by rw [← hU]; exact up_16 hll
    have c60 : wr.cell? ⟨g6, 0, none⟩ = some (.slice A l.length cl) := hI.b6.cell 0
    clear hK hI hU HW0 HB0 HB HHR hb0 b20 b30 b40 hs0
    go_wp2_with fail
    refine (level_any A l.length cl _ HLP.out HL6.out).mono ?_
    rw [HU.out]
    rintro e w7 ⟨rfl, hb7⟩
    have F7 := Lib.hid (HI.out.below hb7)
    clear HI c60 hb7
    go_upto_region 8 with fail
    obtain ⟨N, hN⟩ : ∃ N, Rs2.length = N := ⟨_, rfl⟩
    have HN := Lib.hid hN
    have hN17 : N ≤ 17 := by rw [← hN]; exact F7.out.len
    obtain ⟨nn, D, hD1, hD2, hD3, hD4, hD5, hD6⟩ := F7.out.held
    have HD1 := Lib.hid hD1
    obtain ⟨M, hM⟩ : ∃ M, (lev (lvs Rs2) U).length = M := ⟨_, rfl⟩
    have HAT : Hid (D.atKey (.int .i64 (U : Int)) (.lit (.int .i64 0)) = .lit (.int .i64 (M : Int))) := by show _ = _; rw [hD4 U, hM]
    have HDD : Hid (Tidy D ∧ (∀ j : Nat, D.atKey (.int .i64 j) (.lit (.int .i64 0)) = .lit (.int .i64 (lev (lvs Rs2) j).length)) ∧ (∀ j : Nat, Maps.has D (.int .i64 j) = decide (lev (lvs Rs2) j ≠ [])) ∧ Maps.size D = cnt (lvs Rs2)) := ⟨hD3, hD4, hD5, hD6⟩
    have HM2 := Lib.hid hM
    have HNN := Lib.hid hD2
    have HKEY : Hid (keyOf Tryz.prog 3 (.int .i64 (U : Int)) = some (.int .i64 (U : Int))) := keyOf_int_mk Tryz.underlying3 (wf_nat (by omega))
    clear hN hD1 hD2 hD3 hD4 hD5 hD6 hM
    go_upto_if 33 with (at_lookup; refine wpList_lookup_own_int _ rfl _ _ 108 rfl 3 3 .i64 held_keyed Tryz.underlying108 Tryz.underlying3 (zero_int _) bm nn D rfl HD1.out _ _ rfl HKEY.out ?_; intro c0 hat hwc; obtain rfl := at_eq hat HAT.out; clear hat hwc)
    go_cut [] from 33 to 69 (fun wx => ∃ (Rs3 : List Rm) (B3 : Option Addr) (c3 : Nat) (n3 : Int) (A3 : Option Addr) (l3 : List Ent) (cl3 : Nat), InT w (climbE (lvs Rs) n y = L0) L0 Rs3 B3 c3 n3 A3 l3 cl3 g6 wx)
    case first =>
      by_cases hM0 : M = 0
      · subst hM0
        go_wp2
        go_meet
        exact ⟨Rs2, B2, c2, n2, A, l, cl, F7.out.tail (by rw [HU.out]; exact List.eq_nil_of_length_eq_zero HM2.out)⟩
      · have hMp : (0 : Int) < (M : Int) := by omega
        have hMn : 0 < M := by omega
        have hMd : decide (0 < M) = true := decide_eq_true hMn
        have hne : lev (lvs Rs2) U ≠ [] := by
          intro h
          have h2 := HM2.out
          rw [h] at h2
          exact hM0 h2.symm
        have hUN : U < Rs2.length := by have := (lev_mem hne).1; rwa [lvs_len] at this
        obtain ⟨gB, cur, rfl, hgB, bB0, hcs, hcellB⟩ := F7.out.own.at (by omega)
        have HNE := Lib.hid hne
        have HUN := Lib.hid hUN
        have hnc : N ≤ c2 ∧ c2 ≤ maxLen := by rw [← HN.out]; exact F7.out.own.le
        clear hM0 hne bB0 hcs hcellB
        go_upto_region 10 with (at_delete; refine wpList_delete_own _ rfl _ _ 108 3 rfl 3 held_keyed Tryz.underlying108 _ bm nn D rfl HD1.out _ _ rfl HKEY.out ?_; intro w9 hown9 hturn9; have HO9 := Lib.hid hown9; have HT9 := Lib.hid hturn9; clear hown9 hturn9)
        obtain ⟨es7, clock7, hobj7, -⟩ : ∃ es clock, w7.heap[bm]? = some (.map es clock) ∧ True := by
          obtain ⟨es, clock, h1, _⟩ := HD1.out
          exact ⟨es, clock, h1, trivial⟩
        have hg9 := HT9.out.grown
        have b29 := blk_map hobj7 hg9 F7.out.b2
        have b49 := blk_map hobj7 hg9 F7.out.b4
        have b69 := blk_map hobj7 hg9 F7.out.b6
        have hO9 : OwnRs w9 w.heap.size (some ⟨gB, 0, none⟩) c2 Rs2 := ⟨own_map hobj7 hg9 F7.out.own.row, fun r hr => own_map hobj7 hg9 (F7.out.own.ent r hr)⟩
        have hA9 := own_map hobj7 hg9 F7.out.ownA
        have hb9 : Below w.heap.size w w9 := F7.out.hb.grown hg9 F7.out.hb.size (fun q hq => by cases hq; exact F7.out.bmw)
        have hheld9 : HeldAt w9 bm ((lvs Rs2).set U []) := by
          obtain ⟨x1, x2, x3, x4⟩ := held_del HNE.out HDD.out.1 HDD.out.2.1 HDD.out.2.2.1 HDD.out.2.2.2
          exact ⟨nn, _, HO9.out, HNN.out, x1, x2, x3, x4⟩
        obtain ⟨gB', cur9, hgg, _, bB9, _, hcell9⟩ := hO9.at (by have := HUN.out; omega)
        obtain rfl : gB = gB' := by simpa using hgg
        have hr2 := hcell9 U HUN.out
        obtain ⟨r2, hr2e⟩ : ∃ r2, Rs2[U]'(HUN.out) = r2 := ⟨_, rfl⟩
        have hlv2 := lvs_lev HUN.out
        have hown2 := hO9.ent _ (List.getElem_mem HUN.out)
        rw [hr2e] at hr2 hlv2 hown2
        obtain ⟨l2, A2, cl2⟩ := r2
        dsimp only at hlv2
        have cB : w9.cell? ⟨gB, U, none⟩ = some (.slice A2 l2.length cl2) := hr2
        have c6 : w9.cell? ⟨g6, 0, none⟩ = some (.slice A l.length cl) := b69.cell 0
        have c2' : w9.cell? ⟨w.heap.size, 0, none⟩ = some (.slice (some ⟨gB, 0, none⟩) N c2) := by rw [← HN.out]; exact b29.cell 0
        have ltB := bB9.lt
        have HC9 := Lib.hid hcell9
        have lt6 := b69.lt
        have lt2 := b29.lt
        have HO99 := Lib.hid hO9
        have HA9 := Lib.hid hA9
        have HB9 := Lib.hid hb9
        have HH9 := Lib.hid hheld9
        have HOW2 := Lib.hid hown2
        have HLV2 := Lib.hid hlv2
        have HBB := Lib.hid bB9
        have H29 := Lib.hid b29
        have H49 := Lib.hid b49
        have H69 := Lib.hid b69
        have HR2E := Lib.hid hr2e
        clear hobj7 hg9 b29 b49 b69 hO9 hA9 hb9 hheld9 bB9 hcell9 hgg hr2 hr2e hlv2 hown2
        have i0 : (0 : Int) ≤ (U : Int) := by omega
        have hUN2 : U < N := by rw [← HN.out]; exact HUN.out
        have i1 : (U : Int) < (N : Int) := by omega
        have i2 : IntKind.i64.wrap ((U : Int) + 1) = (U : Int) + 1 := IntWalk.i64_in _ (by omega)
        have i3 : (0 : Int) ≤ (U : Int) + 1 := by omega
        have i4 : (U : Int) + 1 ≤ (N : Int) := by omega
        have hmx : c2 ≤ 9223372036854775807 := by have := hnc.2; unfold maxLen at this; omega
        have i5 : (N : Int) ≤ (c2 : Int) := by omega
        refine wp_region_T (fun w' => Below w9.heap.size w9 w') 13 (by kernel_rfl) (fun hInv => ?_)
        refine wpAnyT_take hInv (i := 0) (v := ?v0) rfl (by kernel_rfl) (fun _ _ _ h => h) (Or.inl ⟨by rfl, ?y0⟩) ((Below.refl _ _).drew) ?r0
        case y0 => (intro w' hSw; have e6 := ((bcell hSw).1 _ 0 lt6).trans c6; have e2 := ((bcell hSw).1 _ 0 lt2).trans c2'; have eB := ((bcell hSw).1 _ U ltB).trans cB; go_simp; try with_reducible rfl)
        case' r0 => (clear hInv; intro hInv; try simp only [Act.put, List.setIfInBounds_toArray])
        refine wpAnyT_take hInv (i := 1) (v := ?v1) rfl (by kernel_rfl) (fun _ _ _ h => h) (Or.inl ⟨by rfl, ?y1⟩) ((Below.refl _ _).drew) ?r1
        case y1 => (intro w' hSw; have e6 := ((bcell hSw).1 _ 0 lt6).trans c6; have e2 := ((bcell hSw).1 _ 0 lt2).trans c2'; have eB := ((bcell hSw).1 _ U ltB).trans cB; go_simp; try with_reducible rfl)
        case' r1 => (clear hInv; intro hInv; try simp only [Act.put])
        refine wpAnyT_take hInv (i := 2) (v := ?v2) rfl (by kernel_rfl) (fun _ _ _ h => h) (Or.inl ⟨by rfl, ?y2⟩) ((Below.refl _ _).drew) ?r2
        case y2 => (intro w' hSw; have e6 := ((bcell hSw).1 _ 0 lt6).trans c6; have e2 := ((bcell hSw).1 _ 0 lt2).trans c2'; have eB := ((bcell hSw).1 _ U ltB).trans cB; go_simp; try with_reducible rfl)
        case' r2 => (clear hInv; intro hInv; try simp only [Act.put])
        refine wpAnyT_take hInv (i := 3) (v := ?v3) rfl (by kernel_rfl) (fun _ _ _ h => h) (Or.inl ⟨by rfl, ?y3⟩) ((Below.refl _ _).drew) ?r3
        case y3 => (intro w' hSw; have e6 := ((bcell hSw).1 _ 0 lt6).trans c6; have e2 := ((bcell hSw).1 _ 0 lt2).trans c2'; have eB := ((bcell hSw).1 _ U ltB).trans cB; go_simp; try with_reducible rfl)
        case' r3 => (clear hInv; intro hInv; try simp only [Act.put])
        refine wpAnyT_take hInv (i := 4) (v := ?v4) rfl (by kernel_rfl) (fun _ _ _ h => h) (Or.inl ⟨by rfl, ?y4⟩) ((Below.refl _ _).drew) ?r4
        case y4 => (intro w' hSw; have e6 := ((bcell hSw).1 _ 0 lt6).trans c6; have e2 := ((bcell hSw).1 _ 0 lt2).trans c2'; have eB := ((bcell hSw).1 _ U ltB).trans cB; go_simp; try with_reducible rfl)
        case' r4 => (clear hInv; intro hInv; try simp only [Act.put])
        refine wpAnyT_take hInv (i := 5) (v := ?v5) rfl (by kernel_rfl) (fun _ _ _ h => h) (Or.inl ⟨by rfl, ?y5⟩) ((Below.refl _ _).drew) ?r5
        case y5 => (intro w' hSw; have e6 := ((bcell hSw).1 _ 0 lt6).trans c6; have e2 := ((bcell hSw).1 _ 0 lt2).trans c2'; have eB := ((bcell hSw).1 _ U ltB).trans cB; go_simp; try with_reducible rfl)
        case' r5 => (clear hInv; intro hInv; try simp only [Act.put])
        refine wpAnyT_take hInv (i := 6) (v := ?v6) rfl (by kernel_rfl) (fun _ _ _ h => h) (Or.inl ⟨by rfl, ?y6⟩) ((Below.refl _ _).drew) ?r6
        case y6 => (intro w' hSw; have e6 := ((bcell hSw).1 _ 0 lt6).trans c6; have e2 := ((bcell hSw).1 _ 0 lt2).trans c2'; have eB := ((bcell hSw).1 _ U ltB).trans cB; go_simp; try with_reducible rfl)
        case' r6 => (clear hInv; intro hInv; try simp only [Act.put])
        refine wpAnyT_take hInv (i := 7) (v := ?v7) rfl (by kernel_rfl) (fun _ _ _ h => h) (Or.inl ⟨by rfl, ?y7⟩) ((Below.refl _ _).drew) ?r7
        case y7 => (intro w' hSw; have e6 := ((bcell hSw).1 _ 0 lt6).trans c6; have e2 := ((bcell hSw).1 _ 0 lt2).trans c2'; have eB := ((bcell hSw).1 _ U ltB).trans cB; go_simp; try with_reducible rfl)
        case' r7 => (clear hInv; intro hInv; try simp only [Act.put])
        refine wpAnyT_take hInv (i := 8) (v := ?v8) rfl (by kernel_rfl) (fun _ _ _ h => h) (Or.inl ⟨by rfl, ?y8⟩) ((Below.refl _ _).drew) ?r8
        case y8 => (intro w' hSw; have e6 := ((bcell hSw).1 _ 0 lt6).trans c6; have e2 := ((bcell hSw).1 _ 0 lt2).trans c2'; have eB := ((bcell hSw).1 _ U ltB).trans cB; go_simp; try with_reducible rfl)
        case' r8 => (clear hInv; intro hInv; try simp only [Act.put])
        refine wpAnyT_take hInv (i := 9) (v := ?v9) rfl (by kernel_rfl) (fun _ _ _ h => h) (Or.inl ⟨by rfl, ?y9⟩) ((Below.refl _ _).drew) ?r9
        case y9 => (intro w' hSw; have e6 := ((bcell hSw).1 _ 0 lt6).trans c6; have e2 := ((bcell hSw).1 _ 0 lt2).trans c2'; have eB := ((bcell hSw).1 _ U ltB).trans cB; go_simp; try with_reducible rfl)
        case' r9 => (clear hInv; intro hInv; try simp only [Act.put])
        refine wpAnyT_take hInv (i := 10) (v := ?v10) rfl (by kernel_rfl) (fun _ _ _ h => h) (Or.inl ⟨by rfl, ?y10⟩) ((Below.refl _ _).drew) ?r10
        case y10 => (intro w' hSw; have e6 := ((bcell hSw).1 _ 0 lt6).trans c6; have e2 := ((bcell hSw).1 _ 0 lt2).trans c2'; have eB := ((bcell hSw).1 _ U ltB).trans cB; go_simp; try with_reducible rfl)
        case' r10 => (clear hInv; intro hInv; try simp only [Act.put])
        clear hInv
        have hSdr : Below w9.heap.size w9 w9.drew := (Below.refl _ _).drew
        obtain ⟨Hd, hHd⟩ : ∃ Hd, heldB (lvs Rs2) U = Hd := ⟨_, rfl⟩
        have hcont := containsF_any (if c2 = U + 1 then some ⟨gB, 0, none⟩ else some ⟨gB, U + 1, none⟩) (Rs2.drop (U + 1)) (c2 - (U + 1)) w9.drew (by
          by_cases hc : c2 = U + 1
          · left
            rw [List.drop_eq_nil_of_le (by rw [HN.out]; have := hnc.1; omega)]; rfl
          · rw [if_neg hc]
            refine .inr ⟨gB, U + 1, rfl, ltB, fun j u hu => ?_⟩
            rw [List.getElem?_map, List.getElem?_drop] at hu
            have hj : U + 1 + j < Rs2.length := by
              rcases Nat.lt_or_ge (U + 1 + j) Rs2.length with h | h
              · exact h
              · rw [List.getElem?_eq_none h] at hu; cases hu
            rw [List.getElem?_eq_getElem hj] at hu
            have h1 := HC9.out _ hj
            simp at hu
            rw [← hu]; exact h1) (by rw [List.length_drop, HN.out]; omega)
        rw [List.length_drop, HN.out, any_drop, hHd] at hcont
        have HCONT := Lib.hid hcont
        have HHD := Lib.hid hHd
        clear hcont hHd
        refine wpAnyT_step (i := 11) (by kernel_rfl) rfl (fun K11 hK11 => ?_)
        have HK11 := Lib.hid hK11
        clear hK11
        go_simp
        refine HCONT.out.mono ?_
        rintro e w10 ⟨rfl, hb10⟩
        have hb910 : Below w9.heap.size w9 w10 := bext hSdr hb10
        dsimp only
        refine HK11.out _ _ (fun _ => hb910) (fun _ => ?_)
        clear HK11 HCONT
        try simp only [Act.put, List.setIfInBounds_toArray, List.set_cons_zero, List.set_cons_succ]
        refine wpAnyT_step (i := 12) (by kernel_rfl) rfl (fun K12 hK12 => ?_)
        have HK12 := Lib.hid hK12
        clear hK12
        go_simp
        refine HK12.out _ _ (fun _ => hb910) (fun _ => ?_)
        clear HK12
        try simp only [Act.put, List.setIfInBounds_toArray, List.set_cons_zero, List.set_cons_succ]
        have hlt2 : l2.length ≤ 65536 := by
          have h1 := F7.out.climbs.size
          have h2 := tot_lev (lvs Rs2) U
          rw [HLV2.out] at h2
          omega
        have hlc2 := own_form2c HOW2.out
        have hlcA := own_form2c HA9.out
        obtain ⟨MR, hMR⟩ : ∃ MR, mL [l, l2] (!Hd) = MR := ⟨_, rfl⟩
        have htwo := fun W (hW : Below w9.heap.size w9 W) => two_any A A2 l l2 cl cl2 (!Hd) W ((own_sl HA9.out).below hW) ((own_sl HOW2.out).below hW) hlcA.1 hlc2.1 hlcA.2 hlc2.2 (by omega)
        obtain ⟨EE, hEE⟩ : ∃ EE, mrgE [⟨l, A, cl⟩, ⟨l2, A2, cl2⟩] = EE := ⟨_, rfl⟩
        have hmrl : mrgL [⟨l, A, cl⟩, ⟨l2, A2, cl2⟩] (!Hd) = MR := by rw [mrgL_m]; exact hMR
        rw [hmrl, hEE] at htwo
        have HTWO := Lib.hid htwo
        have HMR := Lib.hid hMR
        have HHL2 := Lib.hid hlt2
        clear htwo hMR hmrl hEE
        refine wpAnyT_step (i := 13) (by kernel_rfl) rfl (fun K13 hK13 => ?_)
        have HK13 := Lib.hid hK13
        clear hK13
        go_simp
        refine (HTWO.out _ hb910).mono ?_
        rintro e w11 ⟨A3, c3, rfl, ho3, hb11⟩
        dsimp only
        refine HK13.out _ _ (fun h => absurd h (by decide)) (fun _ => ?_)
        clear HK13 HTWO
        try simp only [Act.put, List.setIfInBounds_toArray, List.set_cons_zero, List.set_cons_succ]
        have hb911 := bext hb910 hb11
        have hs911 := hb911.size
        have hs910 := hb910.size
        have hs9 := HB9.out.size
        have HO3 := Lib.hid (own_mono (B' := w.heap.size) ho3 (by omega))
        have H6b := Lib.hid (H69.out.below hb911 H69.out.lt)
        have c6b : w11.cell? ⟨g6, 0, none⟩ = some (.slice A l.length cl) := H6b.out.cell 0
        have f6b : w11.frozen? ⟨g6, 0, none⟩ = false := H6b.out.frozen 0
        clear ho3 c6 c2' cB hb10 hb11
        refine wpAnyT_step (i := 14) (by kernel_rfl) rfl (fun K14 hK14 => ?_)
        have HK14 := Lib.hid hK14
        clear hK14
        go_simp
        refine HK14.out _ _ (fun h => absurd h (by decide)) (fun _ => ?_)
        clear HK14
        try simp only [Act.put, List.setIfInBounds_toArray, List.set_cons_zero, List.set_cons_succ]
        refine wpAnyT_pure (i := 15) (v := ?v15) rfl (by kernel_rfl) (fun _ _ _ h => h) (Or.inl ⟨by rfl, ?y15⟩) ?r15
        case y15 => (intro w' _; go_simp; try with_reducible rfl)
        case' r15 => (try simp only [Act.put, List.setIfInBounds_toArray])
        refine wpAnyT_pure (i := 16) (v := ?v16) rfl (by kernel_rfl) (fun _ _ _ h => h) (Or.inl ⟨by rfl, ?y16⟩) ?r16
        case y16 => (intro w' _; go_simp; try with_reducible rfl)
        case' r16 => (try simp only [Act.put])
        refine wpAnyT_step (i := 17) (by kernel_rfl) rfl (fun K17 hK17 => ?_)
        have HK17 := Lib.hid hK17
        clear hK17
        go_simp
        refine HK17.out _ _ (fun h => absurd h (by decide)) (fun _ => ?_)
        clear HK17
        try simp only [Act.put, List.setIfInBounds_toArray, List.set_cons_zero, List.set_cons_succ]
        refine wpAnyT_done (by kernel_rfl) ?_ _
        obtain ⟨A47, hA47⟩ : ∃ A47, (if c2 = U + 1 then (some ⟨gB, 0, none⟩ : Option Addr) else some ⟨gB, U + 1, none⟩) = A47 := ⟨_, rfl⟩
        rw [hA47]
        clear hA47
        have hne6 : gB ≠ g6 := F7.out.ne6 ⟨gB, 0, none⟩ rfl
        have h62 : w.heap.size + 3 ≤ g6 := F7.out.g6w
        obtain ⟨W12, hW12⟩ : ∃ W12, w11.setCell ⟨g6, 0, none⟩ (.slice A3 MR.length c3) = W12 := ⟨_, rfl⟩
        rw [hW12]
        have hO11 := HO99.out.below hb911
        have n29 : Blk W12 w.heap.size 27 #[.slice (some ⟨gB, 0, none⟩) Rs2.length c2, .int .u64 n2] := by rw [← hW12]; exact (H29.out.below hb911 H29.out.lt).far (p := ⟨g6, 0, none⟩) (by show w.heap.size ≠ g6; omega) _
        have n49 : Blk W12 (w.heap.size + 1 + 1) 27 #[.slice none 0 0, .int .u64 0] := by rw [← hW12]; exact (H49.out.below hb911 H49.out.lt).far (p := ⟨g6, 0, none⟩) (by show w.heap.size + 1 + 1 ≠ g6; omega) _
        have n69 : Blk W12 g6 49 #[.slice A3 MR.length c3] := by rw [← hW12]; simpa using H6b.out.set_ 0 (.slice A3 MR.length c3)
        have nBB : Blk W12 gB 49 cur9 := by rw [← hW12]; exact (HBB.out.below hb911 HBB.out.lt).far (p := ⟨g6, 0, none⟩) hne6 _
        have nO : OwnRs W12 w.heap.size (some ⟨gB, 0, none⟩) c2 Rs2 := by rw [← hW12]; exact hO11.setFar H6b.out (fun q hq => by cases hq; exact hne6) 0 _
        have nA3 : W12.ownsRow w.heap.size 46 3 (.slice A3 MR.length c3) MR.length (MR.flatMap Ent.cells) := by rw [← hW12]; exact own_setT H6b.out HO3.out (by decide) 0 _
        have hb12 : Below w.heap.size w W12 := by rw [← hW12]; exact (bext HB9.out hb911).setCell (p := ⟨g6, 0, none⟩) (by show w.heap.size ≤ g6; omega) _
        have nH : HeldAt W12 bm ((lvs Rs2).set U []) := by rw [← hW12]; exact (HH9.out.below hb911).setCell (a := ⟨g6, 0, none⟩) ((HH9.out.below hb911).notCells H6b.out) _
        have nc2 : W12.cell? ⟨w.heap.size, 0, none⟩ = some (.slice (some ⟨gB, 0, none⟩) N c2) := by rw [← HN.out]; exact n29.cell 0
        have ncB : W12.cell? ⟨gB, U, none⟩ = some (.slice A2 l2.length cl2) := by
          rw [nBB.cell U, ← HBB.out.cell U]
          have h1 := HC9.out U HUN.out
          rw [HR2E.out] at h1
          exact h1
        have nfB := nBB.frozen U
        have ltB2 := nBB.lt
        have lt22 := n29.lt
        have N29 := Lib.hid n29
        have N49 := Lib.hid n49
        have N69 := Lib.hid n69
        have NBB := Lib.hid nBB
        have NO := Lib.hid nO
        have NA3 := Lib.hid nA3
        have NB := Lib.hid hb12
        have NH := Lib.hid nH
        clear hW12 hO11 n29 n49 n69 nBB nO nA3 hb12 nH c6b f6b i2 i3 i4 i5 hb910 hb911 hSdr
        go_upto_region 12 with fail
        obtain ⟨W13, hW13⟩ : ∃ W13, W12.setCell ⟨gB, U, none⟩ (.slice none 0 0) = W13 := ⟨_, rfl⟩
        rw [hW13]
        have hg2B : w.heap.size ≠ gB := (blk_ne NBB.out N29.out (by decide)).symm
        have hg4B : w.heap.size + 1 + 1 ≠ gB := (blk_ne NBB.out N49.out (by decide)).symm
        have p29 : Blk W13 w.heap.size 27 #[.slice (some ⟨gB, 0, none⟩) Rs2.length c2, .int .u64 n2] := by rw [← hW13]; exact N29.out.far (p := ⟨gB, U, none⟩) hg2B _
        have p49 : Blk W13 (w.heap.size + 1 + 1) 27 #[.slice none 0 0, .int .u64 0] := by rw [← hW13]; exact N49.out.far (p := ⟨gB, U, none⟩) hg4B _
        have p69 : Blk W13 g6 49 #[.slice A3 MR.length c3] := by rw [← hW13]; exact N69.out.far (p := ⟨gB, U, none⟩) hne6.symm _
        have pO : OwnRs W13 w.heap.size (some ⟨gB, 0, none⟩) c2 (Rs2.set U ⟨[], none, 0⟩) := by rw [← hW13]; exact NO.out.set HUN.out ⟨[], none, 0⟩ (own_empty _ _)
        have pA3 : W13.ownsRow w.heap.size 46 3 (.slice A3 MR.length c3) MR.length (MR.flatMap Ent.cells) := by rw [← hW13]; exact own_setT NBB.out NA3.out (by decide) U _
        have hb13 : Below w.heap.size w W13 := by rw [← hW13]; exact NB.out.setCell (p := ⟨gB, U, none⟩) hgB _
        have pH : HeldAt W13 bm ((lvs Rs2).set U []) := by rw [← hW13]; exact NH.out.setCell (a := ⟨gB, U, none⟩) (NH.out.notCells NBB.out) _
        have pc20 : W13.cell? ⟨w.heap.size, 0, none⟩ = some (.slice (some ⟨gB, 0, none⟩) N c2) := by rw [← HN.out]; exact p29.cell 0
        have pc21 : W13.cell? ⟨w.heap.size, 1, none⟩ = some (.int .u64 n2) := p29.cell 1
        have pf21 := p29.frozen 1
        have pc60 : W13.cell? ⟨g6, 0, none⟩ = some (.slice A3 MR.length c3) := p69.cell 0
        have pl2 := p29.lt
        have pl6 := p69.lt
        have hMRn : MR.length ≤ 131072 := by
          rw [← HMR.out]
          have := mL_len (rs := [l, l2]) (T := l.length + l2.length) (!Hd) (by simp)
          have h2 := HHL2.out
          omega
        have hcv : IntKind.u64.wrap (MR.length : Int) = (MR.length : Int) := IntWalk.u64_in _ (by omega)
        have hg26 : w.heap.size ≠ g6 := by omega
        have P29 := Lib.hid p29
        have P49 := Lib.hid p49
        have P69 := Lib.hid p69
        have PO := Lib.hid pO
        have PA3 := Lib.hid pA3
        have PB := Lib.hid hb13
        have PH := Lib.hid pH
        clear hW13 p29 p49 p69 pO pA3 hb13 pH nc2 ncB nfB
        have hmer : mergeR (lvs Rs2) l = MR := by unfold mergeR; rw [HU.out, HLV2.out, HHD.out]; exact HMR.out
        have hupc : climb (lvs Rs2) l n2 = climb ((lvs Rs2).set U []) MR (IntKind.u64.wrap (n2 + MR.length)) := by
          have h1 := climb_up (n := n2) F7.out.ne (by rw [HU.out]; exact HNE.out)
          rw [hmer, HU.out] at h1
          exact h1
        have hcl2 : Climbs ((lvs Rs2).set U []) MR := by
          have h1 := F7.out.climbs.step
          rw [hmer, HU.out] at h1
          exact h1
        have HUPC := Lib.hid hupc
        have HCL2 := Lib.hid hcl2
        have HG26 := Lib.hid hg26
        clear hmer hupc hcl2 hg2B hg4B
        go_upto_if 69 with fail
        obtain ⟨W14, hW14⟩ : ∃ W14, W13.setCell ⟨w.heap.size, 1, none⟩ (.int .u64 (IntKind.u64.wrap (n2 + MR.length))) = W14 := ⟨_, rfl⟩
        rw [hW14]
        have q29 : Blk W14 w.heap.size 27 #[.slice (some ⟨gB, 0, none⟩) (Rs2.set U ⟨[], none, 0⟩).length c2, .int .u64 (IntKind.u64.wrap (n2 + MR.length))] := by
          rw [← hW14, List.length_set]
          simpa using P29.out.set_ 1 (.int .u64 (IntKind.u64.wrap (n2 + MR.length)))
        have q49 : Blk W14 (w.heap.size + 1 + 1) 27 #[.slice none 0 0, .int .u64 0] := by rw [← hW14]; exact P49.out.far (p := ⟨w.heap.size, 1, none⟩) (by show w.heap.size + 1 + 1 ≠ w.heap.size; omega) _
        have q69 : Blk W14 g6 49 #[.slice A3 MR.length c3] := by rw [← hW14]; exact P69.out.far (p := ⟨w.heap.size, 1, none⟩) HG26.out.symm _
        have qO : OwnRs W14 w.heap.size (some ⟨gB, 0, none⟩) c2 (Rs2.set U ⟨[], none, 0⟩) := by rw [← hW14]; exact PO.out.setT P29.out (by decide) (by decide) 1 _
        have qA3 : W14.ownsRow w.heap.size 46 3 (.slice A3 MR.length c3) MR.length (MR.flatMap Ent.cells) := by rw [← hW14]; exact own_setT P29.out PA3.out (by decide) 1 _
        have hb14 : Below w.heap.size w W14 := by rw [← hW14]; exact PB.out.setCell (p := ⟨w.heap.size, 1, none⟩) (Nat.le_refl _) _
        have qH : HeldAt W14 bm (lvs (Rs2.set U ⟨[], none, 0⟩)) := by rw [lvs_set, ← hW14]; exact PH.out.setCell (a := ⟨w.heap.size, 1, none⟩) (PH.out.notCells P29.out) _
        have QC : Hid (Climbs (lvs (Rs2.set U ⟨[], none, 0⟩)) MR) := by show Climbs _ _; rw [lvs_set]; exact HCL2.out
        have QE : Hid (L0 = climb (lvs (Rs2.set U ⟨[], none, 0⟩)) MR (IntKind.u64.wrap (n2 + MR.length))) := by show _ = _; rw [lvs_set, ← F7.out.eq]; exact HUPC.out
        have Q29 := Lib.hid q29
        have Q49 := Lib.hid q49
        have Q69 := Lib.hid q69
        have QO := Lib.hid qO
        have QA3 := Lib.hid qA3
        have QB := Lib.hid hb14
        have QH := Lib.hid qH
        have hQN : Hid (∀ q, some (⟨gB, 0, none⟩ : Addr) = some q → q.block ≠ g6) := fun q hq => by cases hq; exact hne6
        have hQL : Hid ((Rs2.set U ⟨[], none, 0⟩).length ≤ 17) := by show _ ≤ _; rw [List.length_set]; exact F7.out.len
        clear hW14 q29 q49 q69 qO qA3 hb14 qH pc20 pc21 pf21 pc60 hcv
        by_cases hm0 : MR.length = 0
        · have hmn : MR = [] := List.eq_nil_of_length_eq_zero hm0
          have HMN := Lib.hid hmn
          have g1 : ¬ (0 : Int) < (MR.length : Int) := by omega
          clear hmn hm0
          go_wp2
          go_meet
          exact ⟨Rs2.set U ⟨[], none, 0⟩, some ⟨gB, 0, none⟩, c2, _, A3, MR, c3, QB.out, Q29.out, Q49.out, Q69.out, QO.out, QA3.out, hQN.out, QC.out, by rw [QE.out, climb_end (.inl HMN.out)], hQL.out, h62, F7.out.hE⟩
        · have g1 : (0 : Int) < (MR.length : Int) := by omega
          have hmn : ¬ MR = [] := by intro h; apply hm0; rw [h]; rfl
          have HMN := Lib.hid hmn
          clear hm0
          go_wp2
          go_step3
          refine ⟨rfl, HK.out (cnt (lvs (Rs2.set U ⟨[], none, 0⟩))) _ _ ?_ ⟨Rs2.set U ⟨[], none, 0⟩, some ⟨gB, 0, none⟩, c2, _, A3, MR, c3, bm, g6, _, _, _, _, _, _, _, _, _, _, _, _, _, _, _, _, _, _, _, _, _, _, _, _, _, _, _, _, _, _, _, _, _, _, _, _, _, _, _, _, _, _, _, _, _, _, _, _, _, _, _, _, _, _, _, _, _, _, _, _, _, _, _, _, _, _, _, _, _, _, _, rfl, QB.out, Q29.out, Q49.out, Q69.out, QO.out, QA3.out, QH.out, hQN.out, QC.out, HMN.out, QE.out.symm, hQL.out, rfl, h62, F7.out.bmw, F7.out.hE⟩⟩
          rw [F7.out.ghost, lvs_set]
          have := cnt_set (lvs Rs2) U HNE.out
          show cnt ((lvs Rs2).set U []) < _
          omega
    case rest =>
      clear HD1 HAT HDD HM2 HNN HKEY
      obtain ⟨Rs3, B3, c3, n3, A3, l3, cl3, hT⟩ := hcut
      have HTl := Lib.hid hT
      clear hT
      obtain ⟨te0, hTE⟩ := info_parts run_info1
      have HTE := Lib.hid hTE
      clear hTE
      obtain ⟨N3, hN3⟩ : ∃ N3, Rs3.length = N3 := ⟨_, rfl⟩
      have hN317 : N3 ≤ 17 := by rw [← hN3]; exact HTl.out.len
      have HN3 := Lib.hid hN3
      have B2c : Hid (Blk wc w.heap.size 27 #[.slice B3 N3 c3, .int .u64 n3]) := by show Blk _ _ _ _; rw [← hN3]; exact HTl.out.b2
      have B4c : Hid (Blk wc (w.heap.size + 1 + 1) 27 #[.slice none 0 0, .int .u64 0]) := HTl.out.b4
      have B6c : Hid (Blk wc g6 49 #[.slice A3 l3.length cl3]) := HTl.out.b6
      have hl36 : l3.length ≤ 65536 := chk_len HTl.out.climbs.run
      clear hN3
      go_upto_region 14 with fail
      refine wp_region_T (fun w' => Blk w' w.heap.size 27 #[.slice B3 N3 c3, .int .u64 n3] ∧ Blk w' g6 49 #[.slice A3 l3.length cl3]) 7 (by kernel_rfl) (fun hInv => ?_)
      refine wpAnyT_take hInv (i := 0) (v := ?z0) rfl (by kernel_rfl) (fun _ _ _ h => h) (Or.inl ⟨by rfl, ?x0⟩) ⟨B2c.out, B6c.out⟩ ?s0
      case x0 => (intro w' hSw; have e0 : w'.cell? ⟨w.heap.size, 0, none⟩ = some (.slice B3 N3 c3) := hSw.1.cell 0; have e1 : w'.cell? ⟨w.heap.size, 1, none⟩ = some (.int .u64 n3) := hSw.1.cell 1; have e6 : w'.cell? ⟨g6, 0, none⟩ = some (.slice A3 l3.length cl3) := hSw.2.cell 0; go_simp; try with_reducible rfl)
      case' s0 => (clear hInv; intro hInv; try simp only [Act.put, List.setIfInBounds_toArray])
      refine wpAnyT_take hInv (i := 1) (v := ?z1) rfl (by kernel_rfl) (fun _ _ _ h => h) (Or.inl ⟨by rfl, ?x1⟩) ⟨B2c.out, B6c.out⟩ ?s1
      case x1 => (intro w' hSw; have e0 : w'.cell? ⟨w.heap.size, 0, none⟩ = some (.slice B3 N3 c3) := hSw.1.cell 0; have e1 : w'.cell? ⟨w.heap.size, 1, none⟩ = some (.int .u64 n3) := hSw.1.cell 1; have e6 : w'.cell? ⟨g6, 0, none⟩ = some (.slice A3 l3.length cl3) := hSw.2.cell 0; go_simp; try with_reducible rfl)
      case' s1 => (clear hInv; intro hInv; try simp only [Act.put])
      refine wpAnyT_take hInv (i := 2) (v := ?z2) rfl (by kernel_rfl) (fun _ _ _ h => h) (Or.inl ⟨by rfl, ?x2⟩) ⟨B2c.out, B6c.out⟩ ?s2
      case x2 => (intro w' hSw; have e0 : w'.cell? ⟨w.heap.size, 0, none⟩ = some (.slice B3 N3 c3) := hSw.1.cell 0; have e1 : w'.cell? ⟨w.heap.size, 1, none⟩ = some (.int .u64 n3) := hSw.1.cell 1; have e6 : w'.cell? ⟨g6, 0, none⟩ = some (.slice A3 l3.length cl3) := hSw.2.cell 0; go_simp; try with_reducible rfl)
      case' s2 => (clear hInv; intro hInv; try simp only [Act.put])
      refine wpAnyT_take hInv (i := 3) (v := ?z3) rfl (by kernel_rfl) (fun _ _ _ h => h) (Or.inl ⟨by rfl, ?x3⟩) ⟨B2c.out, B6c.out⟩ ?s3
      case x3 => (intro w' hSw; have e0 : w'.cell? ⟨w.heap.size, 0, none⟩ = some (.slice B3 N3 c3) := hSw.1.cell 0; have e1 : w'.cell? ⟨w.heap.size, 1, none⟩ = some (.int .u64 n3) := hSw.1.cell 1; have e6 : w'.cell? ⟨g6, 0, none⟩ = some (.slice A3 l3.length cl3) := hSw.2.cell 0; go_simp; try with_reducible rfl)
      case' s3 => (clear hInv; intro hInv; try simp only [Act.put])
      refine wpAnyT_take hInv (i := 4) (v := ?z4) rfl (by kernel_rfl) (fun _ _ _ h => h) (Or.inl ⟨by rfl, ?x4⟩) ⟨B2c.out, B6c.out⟩ ?s4
      case x4 => (intro w' hSw; have e0 : w'.cell? ⟨w.heap.size, 0, none⟩ = some (.slice B3 N3 c3) := hSw.1.cell 0; have e1 : w'.cell? ⟨w.heap.size, 1, none⟩ = some (.int .u64 n3) := hSw.1.cell 1; have e6 : w'.cell? ⟨g6, 0, none⟩ = some (.slice A3 l3.length cl3) := hSw.2.cell 0; go_simp; try with_reducible rfl)
      case' s4 => (clear hInv; intro hInv; try simp only [Act.put])
      clear hInv
      refine wpAnyT_step (i := 5) (by kernel_rfl) rfl (fun K5 hK5 => ?_)
      have HK5 := Lib.hid hK5
      clear hK5
      go_simp
      refine HK5.out _ _ (fun _ => ⟨B2c.out.alloc _, B6c.out.alloc _⟩) (fun _ => ?_)
      clear HK5
      try simp only [Act.put, List.setIfInBounds_toArray, List.set_cons_zero, List.set_cons_succ]
      have hrow : (wc.alloc (.cells #[.slice A3 l3.length cl3] 49)).drew.ownsRow w.heap.size 49 1 (.slice B3 N3 c3) N3 (Rs3.map Rm.v) := by
        have h1 := HTl.out.own.row.alloc (.cells #[.slice A3 l3.length cl3] 49)
        rw [HN3.out] at h1
        exact own_dr h1
      have HROW := Lib.hid hrow
      clear hrow
      have hszc : w.heap.size ≤ (wc.alloc (.cells #[.slice A3 l3.length cl3] 49)).drew.heap.size := by have := HTl.out.hb.size; show _ ≤ (wc.alloc _).heap.size; simp; omega
      refine wpAnyT_step (i := 6) (by kernel_rfl) rfl (fun K6 hK6 => ?_)
      have HK6 := Lib.hid hK6
      clear hK6
      refine step_append_sl _ (by rfl) (.tmp 73) (.tmp 75) _ (by rfl) w.heap.size 49 te0 _ 1 24 Tryz.underlying24 HTE.out.1 HTE.out.2.1 HTE.out.2.2.1 HTE.out.2.2.2 rfl (by omega) (.slice B3 N3 c3) N3 (Rs3.map Rm.v) (by rfl) HROW.out _ 1 _ [.slice A3 l3.length cl3] (by rfl) (by exact sl_new1D _ _ _) rfl (by simp [Value.oneCell']) (by unfold maxLen; omega) (by omega) hszc ?_
      intro v7 wv hown7 hg7
      obtain ⟨A7, d7, rfl, -, -⟩ := own_form hown7
      have hbB2 : Blk wv w.heap.size 27 #[.slice B3 N3 c3, .int .u64 n3] := Blk.grown (w := (wc.alloc (.cells #[.slice A3 l3.length cl3] 49)).drew) (B2c.out.alloc _) hg7 (own_typ HROW.out (B2c.out.alloc _) (by decide))
      have hbB4 : Blk wv (w.heap.size + 1 + 1) 27 #[.slice none 0 0, .int .u64 0] := Blk.grown (w := (wc.alloc (.cells #[.slice A3 l3.length cl3] 49)).drew) (B4c.out.alloc _) hg7 (own_typ HROW.out (B4c.out.alloc _) (by decide))
      have hbB6 : Blk wv g6 49 #[.slice A3 l3.length cl3] := Blk.grown (w := (wc.alloc (.cells #[.slice A3 l3.length cl3] 49)).drew) (B6c.out.alloc _) hg7 (by
        intro h
        cases B3 with
        | none => simp [Value.ownBlock] at h
        | some q => exact HTl.out.ne6 q rfl (by simpa [Value.ownBlock] using h))
      have hOv : OwnRs wv w.heap.size A7 d7 (Rs3 ++ [⟨l3, A3, cl3⟩]) := OwnRs.push (w := (wc.alloc (.cells #[.slice A3 l3.length cl3] 49)).drew) ((HTl.out.own.alloc _).drew) ⟨l3, A3, cl3⟩ (own_dr (HTl.out.ownA.alloc _)) (by rw [HN3.out]; exact hown7) (by rw [HN3.out]; exact hg7)
      have hbv : Below w.heap.size w wv := ((HTl.out.hb.alloc HTl.out.hb.size (.cells #[.slice A3 l3.length cl3] 49)).drew).grown hg7 hszc (fun q hq => (HROW.out.lt q hq).1)
      have HOV := Lib.hid hOv
      have HBV := Lib.hid hbv
      have HBB4 := Lib.hid hbB4
      refine HK6.out _ _ (fun _ => ⟨hbB2, hbB6⟩) (fun _ => ?_)
      clear HK6 hown7 hg7 hbB2 hbB6 hbB4 hOv hbv HROW hszc
      try simp only [Act.put, List.setIfInBounds_toArray]
      have hrA : ∀ r ∈ Rs3 ++ [⟨l3, A3, cl3⟩], r.l.length ≤ 65536 := by
        intro r hr
        rcases List.mem_append.1 hr with h | h
        · have h1 := le_sum (List.mem_map.2 ⟨r.l, List.mem_map.2 ⟨r, h, rfl⟩, rfl⟩ : r.l.length ∈ ((lvs Rs3).map List.length))
          have h2 := HTl.out.climbs.size
          unfold tot at h2
          omega
        · have h2 : r = ⟨l3, A3, cl3⟩ := by simpa using h
          rw [h2]; exact hl36
      have hof := of_any n3 A7 (Rs3 ++ [⟨l3, A3, cl3⟩]) d7 wv HOV.out.runsAt (by rw [List.length_append]; simp; rw [HN3.out]; omega) hrA
      rw [List.length_append, HN3.out, lvs_append] at hof
      have HOF := Lib.hid hof
      clear hof hrA
      refine wpAnyT_step (i := 7) (by kernel_rfl) rfl (fun K7 hK7 => ?_)
      have HK7 := Lib.hid hK7
      clear hK7
      go_simp
      refine HOF.out.mono ?_
      rintro e w8 ⟨A8, d8, Ts, rfl, ht1, ht2, ht3, hb8⟩
      dsimp only
      refine HK7.out _ _ (fun h => absurd h (by decide)) (fun _ => ?_)
      clear HK7 HOF
      try simp only [Act.put, List.setIfInBounds_toArray, List.set_cons_zero, List.set_cons_succ]
      have hb4x := HBB4.out.below hb8 HBB4.out.lt
      have H4X := Lib.hid hb4x
      have hOx : OwnRs w8 w.heap.size A8 d8 Ts := OwnRs.sub (HOV.out.below hb8) (own_mono ht2 (by have := HBV.out.size; omega)) ht3
      have HOX := Lib.hid hOx
      have HT1 := Lib.hid ht1
      have HB8 := Lib.hid (bext HBV.out hb8)
      have c40 : w8.cell? ⟨w.heap.size + 1 + 1, 0, none⟩ = some (.slice none 0 0) := hb4x.cell 0
      have c41 : w8.cell? ⟨w.heap.size + 1 + 1, 1, none⟩ = some (.int .u64 0) := hb4x.cell 1
      have f40 := hb4x.frozen 0
      have f41 := hb4x.frozen 1
      clear hb4x hOx ht1 ht2 ht3 hb8
      refine wpAnyT_step (i := 8) (by kernel_rfl) rfl (fun K8 hK8 => ?_)
      have HK8 := Lib.hid hK8
      clear hK8
      go_simp
      refine HK8.out _ _ (fun h => absurd h (by decide)) (fun _ => ?_)
      clear HK8
      try simp only [Act.put, List.setIfInBounds_toArray, List.set_cons_zero, List.set_cons_succ]
      refine wpAnyT_done (by kernel_rfl) ?_ _
      go_wp2
      simp only [Exit.jump]
      have hbx := box2 H4X.out (.slice A8 Ts.length d8) (.int .u64 n3)
      have e0 : ((w8.setCell ⟨w.heap.size + 1 + 1, 0, none⟩ (.slice A8 Ts.length d8)).setCell ⟨w.heap.size + 1 + 1, 1, none⟩ (.int .u64 n3)).cell? ⟨w.heap.size + 1 + 1, 0, none⟩ = some (.slice A8 Ts.length d8) := hbx.cell 0
      have e1 : ((w8.setCell ⟨w.heap.size + 1 + 1, 0, none⟩ (.slice A8 Ts.length d8)).setCell ⟨w.heap.size + 1 + 1, 1, none⟩ (.int .u64 n3)).cell? ⟨w.heap.size + 1 + 1, 1, none⟩ = some (.int .u64 n3) := hbx.cell 1
      refine bodyPost_ret (v := .agg #[.slice A8 Ts.length d8, .int .u64 n3]) (by simp [results, Tryz.results48, go_sem, e0, e1]) rfl ?_
      have hEE := HTl.out.hE.trans HTl.out.eq
      have hLL : letL (lvs Rs) n y = lvs Ts := by
        rw [HT1.out]
        unfold letL
        rw [hEE]
        exact (of_levels l3 HTl.out.climbs.stood).symm
      have hNN : letN (lvs Rs) n y = n3 := by unfold letN; rw [hEE]
      exact ⟨A8, d8, Ts, by rw [hNN], hLL.symm, HOX.out.set2 H4X.out (by decide) (by decide) _ _, below2 HB8.out (by show w.heap.size ≤ w.heap.size + 1 + 1; omega) _ _⟩
  case first =>
  intro K hgo
  have HGO := Lib.hid hgo
  clear hgo
  go_wp2_with fail
  rw [HW0.out]
  refine (twinR_any B Rs c n _ HB.out (by omega) HHR.out).mono ?_
  rintro e w1 ⟨B1, c1, Rs1, rfl, hl1, ho1, hb1⟩
  have b21 := b20.below hb1 b20.lt
  have b31 := b30.below hb1 b30.lt
  have b41 := b40.below hb1 b40.lt
  have c20 : w1.cell? ⟨w.heap.size, 0, none⟩ = some (.slice B Rs.length c) := b21.cell 0
  have c21 : w1.cell? ⟨w.heap.size, 1, none⟩ = some (.int .u64 n) := b21.cell 1
  have f20 := b21.frozen 0
  have f21 := b21.frozen 1
  have l21 := b21.lt
  obtain ⟨N, hN⟩ : ∃ N, Rs1.length = N := ⟨_, rfl⟩
  have hb01 := bext hb0 hb1
  have hs1 := hb1.size
  rw [hN]
  obtain ⟨W1, hW1⟩ : ∃ W1, (w1.setCell ⟨w.heap.size, 0, none⟩ (.slice B1 N c1)).setCell ⟨w.heap.size, 1, none⟩ (.int .u64 n) = W1 := ⟨_, rfl⟩
  have hbW1 : Below w.heap.size w W1 := by rw [← hW1]; exact below2 hb01 (Nat.le_refl _) _ _
  have b22 : Blk W1 w.heap.size 27 #[.slice B1 N c1, .int .u64 n] := by rw [← hW1]; exact box2 b21 _ _
  have b32 : Blk W1 (w.heap.size + 1) 46 #[.int .i64 y.key, .int .i64 y.val, .bool y.dead] := by rw [← hW1]; exact (b31.far (p := ⟨w.heap.size, 0, none⟩) (by simp) _).far (p := ⟨w.heap.size, 1, none⟩) (by simp) _
  have b42 : Blk W1 (w.heap.size + 1 + 1) 27 #[.slice none 0 0, .int .u64 0] := by rw [← hW1]; exact (b41.far (p := ⟨w.heap.size, 0, none⟩) (by show w.heap.size + 1 + 1 ≠ w.heap.size; omega) _).far (p := ⟨w.heap.size, 1, none⟩) (by show w.heap.size + 1 + 1 ≠ w.heap.size; omega) _
  have hO1 : OwnRs W1 w.heap.size B1 c1 Rs1 := by rw [← hW1]; exact (ho1.mono (by omega)).set2 b21 (by decide) (by decide) _ _
  have hL1 : Hid (lvs Rs1 = lvs Rs) := hl1
  have hN17 : N ≤ 17 := by rw [← hN, rs_len hl1, lvs_len]; exact hl17
  have hrs1 : Hid (∀ r ∈ Rs1, r.l.length ≤ 65536) := fun r hr => by
    have h1 := le_sum (List.mem_map.2 ⟨r.l, List.mem_map.2 ⟨r, hr, rfl⟩, rfl⟩ : r.l.length ∈ ((lvs Rs1).map List.length))
    rw [hl1] at h1
    have h2 := HM.out.size
    unfold tot at h2
    omega
  have HN := Lib.hid hN
  have HO1 := Lib.hid hO1
  have HW1 := Lib.hid hW1
  clear hl1 ho1 hb1 hb01 hN hO1 hW1 b21 b31 b41 b20 b30 b40
  go_wp2_with fail
  rw [HW1.out]
  clear c20 c21 f20 f21
  have hcall := heldM_any B1 Rs1 c1 W1 HO1.out.runsAt (by rw [HN.out]; omega) (fun r hr => by have := hrs1.out r hr; omega)
  rw [HN.out] at hcall
  refine hcall.mono ?_
  clear hcall
  rintro e w2 ⟨bm, rfl, hbm, hheld, hb2⟩
  have hbw2 : Below w.heap.size w w2 := bext hbW1 hb2
  have hs2 := hb2.size
  have hsW1 := hbW1.size
  have b23 := b22.below hb2 b22.lt
  have b33 := b32.below hb2 b32.lt
  have b43 := b42.below hb2 b42.lt
  have HO2 := Lib.hid (HO1.out.below hb2)
  have d0 : w2.cell? ⟨w.heap.size + 1, 0, none⟩ = some (.int .i64 y.key) := b33.cell 0
  have d1 : w2.cell? ⟨w.heap.size + 1, 1, none⟩ = some (.int .i64 y.val) := b33.cell 1
  have d2 : w2.cell? ⟨w.heap.size + 1, 2, none⟩ = some (.bool y.dead) := b33.cell 2
  have l33 := b33.lt
  obtain ⟨W3, hW3⟩ : ∃ W3, (w2.alloc (.cells #[.int .i64 y.key, .int .i64 y.val, .bool y.dead] 46)).alloc (.cells #[.slice (some ⟨w2.heap.size, 0, none⟩) 1 1] 49) = W3 := ⟨_, rfl⟩
  have hsz3 : W3.heap.size = w2.heap.size + 2 := by rw [← hW3]; simp
  have hb3 : Below w2.heap.size w2 W3 := by rw [← hW3]; exact ((Below.refl _ _).alloc (Nat.le_refl _) _).alloc (by simp) _
  have be3 : Blk W3 w2.heap.size 46 #[.int .i64 y.key, .int .i64 y.val, .bool y.dead] := by rw [← hW3]; exact (Blk.new _ _ _).alloc _
  have b63 : Blk W3 (w2.heap.size + 1) 49 #[.slice (some ⟨w2.heap.size, 0, none⟩) 1 1] := by
    rw [← hW3]
    have := Blk.new (w2.alloc (.cells #[.int .i64 y.key, .int .i64 y.val, .bool y.dead] 46)) 49 #[.slice (some ⟨w2.heap.size, 0, none⟩) 1 1]
    rwa [World.size_alloc] at this
  have b24 := b23.below hb3 b23.lt
  have b34 := b33.below hb3 b33.lt
  have b44 := b43.below hb3 b43.lt
  have HHELD := Lib.hid (hheld.below hb3)
  have HO3 := Lib.hid (HO2.out.below hb3)
  have HB3 := Lib.hid (bext hbw2 hb3)
  obtain ⟨C, hC⟩ : ∃ C, cnt (lvs Rs1) = C := ⟨_, rfl⟩
  have hlen := HHELD.out.mlen 3
  rw [hC] at hlen
  have HC := Lib.hid hC
  have HW3 := Lib.hid hW3
  clear hW3 hC hheld hb3
  go_upto_region 4 with fail
  rw [HW3.out]
  clear d0 d1 d2
  have d2 : W3.cell? ⟨w.heap.size + 1, 2, none⟩ = some (.bool y.dead) := b34.cell 2
  have c20 : W3.cell? ⟨w.heap.size, 0, none⟩ = some (.slice B1 N c1) := b24.cell 0
  have c21 : W3.cell? ⟨w.heap.size, 1, none⟩ = some (.int .u64 n) := b24.cell 1
  have f21 := b24.frozen 1
  have hstart : ¬ (y.dead = true ∧ lvs Rs = []) → InF w (climbE (lvs Rs) n y = L0) L0 (cnt (lvs Rs1)) Rs1 B1 c1 (IntKind.u64.wrap (n + 1)) (some ⟨w2.heap.size, 0, none⟩) [y] 1 bm (w2.heap.size + 1) (W3.setCell ⟨w.heap.size, 1, none⟩ (.int .u64 (IntKind.u64.wrap (n + 1)))) := by
    intro hnd
    have hcl := HM.out.climbs HY.out HT.out
    have hOw : W3.ownsRow w.heap.size 46 3 (.slice (some ⟨w2.heap.size, 0, none⟩) 1 1) 1 ([y].flatMap Ent.cells) := ⟨rfl, .inr ⟨w2.heap.size, 1, _, rfl, by omega, be3, Nat.le_refl _, by unfold maxLen; omega, rfl, rfl⟩⟩
    refine ⟨HB3.out.setCell (p := ⟨w.heap.size, 1, none⟩) (Nat.le_refl _) _, ?_, b44.far (p := ⟨w.heap.size, 1, none⟩) (by show w.heap.size + 1 + 1 ≠ w.heap.size; omega) _, b63.far (p := ⟨w.heap.size, 1, none⟩) (by show w2.heap.size + 1 ≠ w.heap.size; omega) _, HO3.out.setT b24 (by decide) (by decide) 1 _, own_setT b24 hOw (by decide) 1 _, HHELD.out.setCell (a := ⟨w.heap.size, 1, none⟩) (HHELD.out.notCells b24) _, ?_, ?_, by simp, ?_, by rw [HN.out]; exact hN17, rfl, by omega, by omega, ?_⟩
    · have := b24.set_ 1 (.int .u64 (IntKind.u64.wrap (n + 1)))
      rw [HN.out]
      simpa using this
    · intro q hq
      have h1 := (HO2.out.row.lt q.block (by rw [hq]; simp [Value.ownBlock])).2
      omega
    · rw [hL1.out]; exact hcl
    · rw [hL1.out]; exact HL0.out
    · unfold climbE; rw [if_neg hnd]; exact HL0.out
  have HS := Lib.hid hstart
  clear hstart
  by_cases hD : y.dead = true
  · by_cases hnil : lvs Rs = []
    · have h0 : C = 0 := by rw [← HC.out, hL1.out, hnil]; rfl
      have g0 : ((C : Int) = 0) := by omega
      have HNIL := Lib.hid hnil
      rw [hD] at d2
      have f40 := b44.frozen 0
      have f41 := b44.frozen 1
      have c40 : W3.cell? ⟨w.heap.size + 1 + 1, 0, none⟩ = some (.slice none 0 0) := b44.cell 0
      have c41 : W3.cell? ⟨w.heap.size + 1 + 1, 1, none⟩ = some (.int .u64 0) := b44.cell 1
      have HDD := Lib.hid hD
      clear hnil hD
      subst h0
      clear g0
      go_wp2
      simp only [Exit.jump]
      have hbx := box2 b44 (.slice B1 N c1) (.int .u64 n)
      have e0 : ((W3.setCell ⟨w.heap.size + 1 + 1, 0, none⟩ (.slice B1 N c1)).setCell ⟨w.heap.size + 1 + 1, 1, none⟩ (.int .u64 n)).cell? ⟨w.heap.size + 1 + 1, 0, none⟩ = some (.slice B1 N c1) := hbx.cell 0
      have e1 : ((W3.setCell ⟨w.heap.size + 1 + 1, 0, none⟩ (.slice B1 N c1)).setCell ⟨w.heap.size + 1 + 1, 1, none⟩ (.int .u64 n)).cell? ⟨w.heap.size + 1 + 1, 1, none⟩ = some (.int .u64 n) := hbx.cell 1
      refine bodyPost_ret (v := .agg #[.slice B1 N c1, .int .u64 n]) (by simp [results, Tryz.results48, go_sem, e0, e1]) rfl ?_
      have hld := let_dead (n := n) HNIL.out HDD.out
      exact ⟨B1, c1, Rs1, by rw [HN.out, hld.2], by rw [hL1.out, HNIL.out, ← HNIL.out, hld.1, HNIL.out], HO3.out.set2 b44 (by decide) (by decide) _ _, below2 HB3.out (by show w.heap.size ≤ w.heap.size + 1 + 1; omega) _ _⟩
    · have h0 : C ≠ 0 := by
        rw [← HC.out, hL1.out]
        intro h
        exact hnil ((top_cnt HM.out.top).1 h)
      have g0 : ¬ ((C : Int) = 0) := by omega
      have hst : Hid (InF _ _ _ _ _ _ _ _ _ _ _ _ _ _) := HS.out (fun h => hnil h.2)
      rw [hD] at d2
      clear hnil hD
      go_wp2_with fail
      go_step3
      rename_i hk
      exact hk _ _ (HGO.out _ _ _ ⟨Rs1, B1, c1, _, _, [y], _, bm, _, _, _, _, _, _, _, _, _, _, _, _, _, _, _, _, _, _, _, _, _, _, _, _, _, _, _, _, _, _, _, _, _, _, _, _, _, _, _, _, _, _, _, _, _, _, _, _, _, _, _, _, _, _, _, _, _, _, _, _, _, _, _, _, _, _, _, _, _, _, _, _, rfl, hst.out⟩)
  · have hst : Hid (InF _ _ _ _ _ _ _ _ _ _ _ _ _ _) := HS.out (fun h => hD h.1)
    rw [show y.dead = false by simpa using hD] at d2
    clear hD
    go_wp2_with fail
    go_step3
    rename_i hk
    exact hk _ _ (HGO.out _ _ _ ⟨Rs1, B1, c1, _, _, [y], _, bm, _, _, _, _, _, _, _, _, _, _, _, _, _, _, _, _, _, _, _, _, _, _, _, _, _, _, _, _, _, _, _, _, _, _, _, _, _, _, _, _, _, _, _, _, _, _, _, _, _, _, _, _, _, _, _, _, _, _, _, _, _, _, _, _, _, _, _, _, _, _, _, _, rfl, hst.out⟩)
end Go.Proofs.YtolclahkfmplfaaGreatDoor
