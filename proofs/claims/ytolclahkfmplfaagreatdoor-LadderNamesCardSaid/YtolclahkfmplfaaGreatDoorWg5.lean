/- Kn Chk Lw Lb: texts of the claim, in this order. -/
import Derived.Test.YtolclahkfmplfaaGreatDoorWg3
import Derived.Test.YtolclahkfmplfaaGreatDoorWg4
import Derived.Lib.TrailingZeros
import Derived.Shelf.Spec.TrailingZeros
import Derived.IntWalk
/- Contract of kway.merged: what runs have, in order. -/
namespace Go.Proofs.YtolclahkfmplfaaGreatDoor
open Go Go.RowKit
set_option maxRecDepth 100000

theorem head_info : (Tryz.prog.info? 141).map (fun i => (i.zero, i.size, i.bytes)) = some (some (.agg #[.slice none 0 0, .int .i64 0]), 2, 32) := by kernel_rfl

/-- a run in memory -/
structure Rm where
  l : List Ent
  A : Option Addr
  c : Nat
def Rm.v (r : Rm) : Value := .slice r.A r.l.length r.c
structure Rm.Ok (w : World) (r : Rm) : Prop where
  sl : Sl w r.A (r.l.flatMap Ent.cells)
  lc : r.l.length ≤ r.c
  c : r.c ≤ maxLen
def hd1 (i : Nat) (r : Rm) : List Hm := match r.l with | [] => [] | e :: l => [⟨⟨e, l, i⟩, r.A, r.l.length, r.c⟩]
def headsM : Nat → List Rm → List Hm
  | _, [] => []
  | i, r :: rs => hd1 i r ++ headsM (i + 1) rs
theorem headsM_append : ∀ (rs qs : List Rm) (i : Nat), headsM i (rs ++ qs) = headsM i rs ++ headsM (i + rs.length) qs
  | [], qs, i => rfl
  | r :: rs, qs, i => by rw [List.cons_append, headsM, headsM, headsM_append rs qs (i + 1), List.append_assoc]; congr 3; simp; omega
theorem headsM_map : ∀ (rs : List Rm) (i : Nat), (headsM i rs).map Hm.h = headsE i (rs.map Rm.l)
  | [], i => rfl
  | r :: rs, i => by
    rw [headsM, List.map_append, headsM_map rs (i + 1), List.map_cons]
    unfold hd1
    cases h : r.l with
    | nil => rfl
    | cons e l => rfl
theorem headsM_sum : ∀ (rs : List Rm) (i : Nat), ((headsM i rs).map Hm.n).sum = (rs.map (fun r => r.l.length)).sum
  | [], i => rfl
  | r :: rs, i => by
    rw [headsM, List.map_append, List.sum_append, headsM_sum rs (i + 1), List.map_cons, List.sum_cons]
    congr 1
    unfold hd1
    cases h : r.l with
    | nil => rfl
    | cons e l => simp
theorem headsM_len : ∀ (rs : List Rm) (i : Nat), (headsM i rs).length ≤ rs.length
  | [], i => Nat.le_refl _
  | r :: rs, i => by
    rw [headsM, List.length_append, List.length_cons]
    have := headsM_len rs (i + 1)
    have : (hd1 i r).length ≤ 1 := by unfold hd1; split <;> simp
    omega
theorem headsM_ok {w : World} : ∀ {rs : List Rm} {i : Nat}, (∀ r ∈ rs, r.Ok w) → ∀ m ∈ headsM i rs, m.Ok w
  | [], i, _, m, hm => by simp [headsM] at hm
  | r :: rs, i, h, m, hm => by
    rw [headsM] at hm
    rcases List.mem_append.1 hm with hm | hm
    · have hr := h r (by simp)
      unfold hd1 at hm
      split at hm
      · simp at hm
      · rename_i e l he
        obtain rfl : m = _ := by simpa using hm
        refine ⟨?_, ?_, hr.lc, hr.c⟩
        · have := hr.sl; rw [he] at this; exact this
        · show r.l.length = _
          rw [he]; rfl
    · exact headsM_ok (fun q hq => h q (by simp [hq])) m hm
/-- what of a world tells how much is left -/
def lenAt (w : World) (g i : Nat) : Nat := match w.cell? ⟨g, i * 2, none⟩ with | some (.slice _ n _) => n | _ => 0
def wtAt (w : World) (p : Nat) : Nat := match w.cell? ⟨p, 0, none⟩ with | some (.slice (some a) n _) => ((List.range n).map (lenAt w a.block)).sum | _ => 0
theorem wt_of {w : World} {p g c : Nat} {Hs : List Hm} {F : Value} {t : TypeId} (hp : Blk w p t #[.slice (some ⟨g, 0, none⟩) Hs.length c, F]) (hg : HeadsAt w g Hs) : wtAt w p = (Hs.map Hm.n).sum := by
  have h0 : w.cell? ⟨p, 0, none⟩ = some (.slice (some ⟨g, 0, none⟩) Hs.length c) := hp.cell 0
  unfold wtAt
  rw [h0]
  show ((List.range Hs.length).map (lenAt w g)).sum = _
  congr 1
  refine List.ext_getElem (by simp) fun i h1 h2 => ?_
  rw [List.getElem_map, List.getElem_range, List.getElem_map]
  unfold lenAt
  rw [(hg.cells i (by simpa using h2)).1]

theorem HeadsAt.put0 {w : World} {g : Nat} {m m' : Hm} {Hs : List Hm} (h : HeadsAt w g (m :: Hs)) (ha : m'.h.age = m.h.age) : HeadsAt (w.setCell ⟨g, 0, none⟩ (.slice m'.A m'.n m'.c)) g (m' :: Hs) := by
  obtain ⟨cur, hb, ht, hs⟩ := h
  refine ⟨_, hb.set_ 0 _, ?_, by simpa using hs⟩
  rw [Array.toList_setIfInBounds, List.take_set]
  rw [show (m' :: Hs).length = (m :: Hs).length from rfl, ht]
  simp [Hm.cells, ha]

/-- what stands in memory while the second loop goes on -/
structure Kmid (w0 : World) (p g c S : Nat) (out : List Ent) (Hs : List Hm) (A' : Option Addr) (c' : Nat) (wr : World) : Prop where
  own : wr.ownsRow S 46 3 (.slice A' out.length c') out.length (out.flatMap Ent.cells)
  pile : Blk wr p 145 #[.slice (some ⟨g, 0, none⟩) Hs.length c, lessV]
  heads : HeadsAt wr g Hs
  frame : Below w0.heap.size w0 wr
  size : S ≤ wr.heap.size
/-- and what is so at the head of its round -/
structure Kst (w0 : World) (p g c S T : Nat) (rs : List (List Ent)) (out : List Ent) (Hs : List Hm) (A' : Option Addr) (c' : Nat) (wr : World) : Prop where
  mid : Kmid w0 p g c S out Hs A' c' wr
  heap : HeapFrom (Hs.map Hm.h) 0
  inv : MInv rs out (Hs.map Hm.h)
  ok : ∀ m ∈ Hs, m.Ok w0
  tot : out.length + (Hs.map Hm.n).sum ≤ T
  hc : Hs.length ≤ c
  hl : Hs.length ≤ 1099511627776

section
variable {w0 wr wc W : World} {p g c S T c' q2 : Nat} {rs : List (List Ent)} {out : List Ent} {m m' : Hm} {Hs : List Hm} {A' A2 : Option Addr}
theorem Kmid.own_set (h : Kmid w0 p g c S out Hs A2 q2 wc) (hg : g < S) (v : Value) : (wc.setCell ⟨g, 0, none⟩ v).ownsRow S 46 3 (.slice A2 out.length q2) out.length (out.flatMap Ent.cells) :=
  own_far h.own (fun e => by have := (h.own.lt _ e).1; dsimp only at this; omega) v
theorem own_mod {Sx : Nat → Prop} {w w' : World} {B s n : Nat} {e : TypeId} {v : Value} {xs : List Value} (h : w.ownsRow B e s v n xs) (hm : Mod Sx w w') (hn : ∀ k, B ≤ k → ¬ Sx k) : w'.ownsRow B e s v n xs := by
  refine ⟨h.1, ?_⟩
  rcases h.2 with h2 | ⟨g, cap, cur, hv, hg, hh, r⟩
  · exact .inl h2
  · exact .inr ⟨g, cap, cur, hv, hg, (hm.block g (Array.getElem?_eq_some_iff.1 hh).1 (hn g hg)).trans hh, r⟩
theorem kst_top (hK : Kst w0 p g c S T rs out (m :: Hs) A' c' wr) : ∀ x ∈ Hs.map Hm.h, hle m.h x := by
  intro x hx
  obtain ⟨i, hi, rfl⟩ := List.getElem_of_mem hx
  have := heap_top hK.heap (i + 1) (by simpa using hi)
  simpa using this
theorem kst_len (_hr : ∀ r ∈ rs, RisE r) (_hK : Kst w0 p g c S T rs out (m :: Hs) A' c' wr) : (outOf out m.h.e).length ≤ out.length + 1 := by
  unfold outOf; split <;> simp
theorem kst_pop (hr : ∀ r ∈ rs, RisE r) (hK : Kst w0 p g c S T rs out (m :: Hs) A' c' wr) (hrest : m.h.rest = []) (hK2 : Kmid w0 p g c S (outOf out m.h.e) (m :: Hs) A2 q2 wc) (hpg : p ≠ g) (hpS : p < S) (hgS : g < S) (hg0 : w0.heap.size ≤ g) (hp0 : w0.heap.size ≤ p)
    (hh : m'.h = m.h) (hW : wc.setCell ⟨g, 0, none⟩ (.slice m'.A m'.n m'.c) = W) :
    Blk W p 145 #[.slice (some ⟨g, 0, none⟩) (Hs.length + 1) c, lessV] ∧ HeadsAt W g (m' :: Hs) ∧ (∀ x ∈ (m' :: Hs).drop 1, x.Ok w0) ∧ Below w0.heap.size w0 W ∧ HeapFrom ((m' :: Hs).map Hm.h) 0 ∧
      ∀ r w', Popped p g c (m' :: Hs) W r w' → (∃ v, r = .returned v) ∧ ∃ Hs', Kst w0 p g c S T rs (outOf out m.h.e) Hs' A2 q2 w' ∧ (Hs'.map Hm.n).sum < ((m :: Hs).map Hm.n).sum := by
  have hWb : Below w0.heap.size w0 W := by rw [← hW]; exact hK2.frame.setCell (p := ⟨g, 0, none⟩) hg0 _
  have hWo := hK2.own_set hgS (.slice m'.A m'.n m'.c)
  rw [hW] at hWo
  have hWs : S ≤ W.heap.size := by rw [← hW]; simpa [World.setCell] using hK2.size
  have hmn : 1 ≤ m.n := by have := (hK.ok m (by simp)).n; omega
  refine ⟨?_, ?_, fun x hx => hK.ok x (by simp at hx; simp [hx]), hWb, ?_, ?_⟩
  · rw [← hW]; exact hK2.pile.far (p := ⟨g, 0, none⟩) hpg _
  · rw [← hW]; exact hK2.heads.put0 (by rw [hh])
  · have := hK.heap
    rw [List.map_cons] at this ⊢
    rw [hh]; exact this
  · rintro r w' ⟨hv, Hs', hp', hh', hH', hpb, hm'⟩
    have hp1 : Hs'.Perm Hs := by simpa using hp'
    have hbw : Below w0.heap.size w0 w' := hWb.trans (hm'.below hWb.size (by intro k h; omega))
    refine ⟨hv, Hs', ⟨⟨own_mod hWo hm' (by intro k hk h; omega), ?_, hH', hbw, Nat.le_trans hWs hm'.size⟩, hh', ?_, fun x hx => hK.ok x (by simp [hp1.mem_iff.1 hx]), ?_, ?_, ?_⟩, ?_⟩
    · rw [hp1.length_eq]; simpa using hpb
    · have h1 := hK.inv
      rw [List.map_cons] at h1
      have h2 := h1.step hr (kst_top hK)
      have h3 : nextHd m.h = [] := by unfold nextHd; rw [hrest]
      rw [h3, List.nil_append] at h2
      exact h2.perm (hp1.map Hm.h)
    · have h1 := hK.tot
      have h2 := (hp1.map Hm.n).sum_nat
      have h3 := kst_len hr hK
      simp at h1
      omega
    · have := hK.hc; rw [hp1.length_eq]; simp at this; omega
    · have := hK.hl; rw [hp1.length_eq]; simp at this; omega
    · have h2 := (hp1.map Hm.n).sum_nat
      simp
      omega
theorem kst_down {e2 : Ent} {l2 : List Ent} (hr : ∀ r ∈ rs, RisE r) (hK : Kst w0 p g c S T rs out (m :: Hs) A' c' wr) (hrest : m.h.rest = e2 :: l2) (hK2 : Kmid w0 p g c S (outOf out m.h.e) (m :: Hs) A2 q2 wc) (hpg : p ≠ g) (_hpS : p < S) (hgS : g < S) (hg0 : w0.heap.size ≤ g) (_hp0 : w0.heap.size ≤ p)
    (hh : m'.h = ⟨e2, l2, m.h.age⟩) (hmok : m'.Ok w0) (hmn : m'.n + 1 = m.n) (hW : wc.setCell ⟨g, 0, none⟩ (.slice m'.A m'.n m'.c) = W) :
    Blk W p 145 #[.slice (some ⟨g, 0, none⟩) (Hs.length + 1) c, lessV] ∧ HeadsAt W g (m' :: Hs) ∧ (∀ x ∈ m' :: Hs, x.Ok w0) ∧ Below w0.heap.size w0 W ∧ Sinks ((m' :: Hs).map Hm.h) 0 0 ∧
      ∀ r w', Sunk p g (m' :: Hs) 0 W r w' → (∃ v, r = .returned v) ∧ ∃ Hs', Kst w0 p g c S T rs (outOf out m.h.e) Hs' A2 q2 w' ∧ (Hs'.map Hm.n).sum < ((m :: Hs).map Hm.n).sum := by
  have hWb : Below w0.heap.size w0 W := by rw [← hW]; exact hK2.frame.setCell (p := ⟨g, 0, none⟩) hg0 _
  have hWo := hK2.own_set hgS (.slice m'.A m'.n m'.c)
  rw [hW] at hWo
  have hWs : S ≤ W.heap.size := by rw [← hW]; simpa [World.setCell] using hK2.size
  have hWp : Blk W p 145 #[.slice (some ⟨g, 0, none⟩) (Hs.length + 1) c, lessV] := by rw [← hW]; exact hK2.pile.far (p := ⟨g, 0, none⟩) hpg _
  have hokA : ∀ x ∈ m' :: Hs, x.Ok w0 := by
    intro x hx
    rcases List.mem_cons.1 hx with rfl | hx
    · exact hmok
    · exact hK.ok x (by simp [hx])
  refine ⟨hWp, ?_, hokA, hWb, ?_, ?_⟩
  · rw [← hW]; exact hK2.heads.put0 (by rw [hh])
  · refine Sinks.start ?_
    intro j ci hci hj h1 hcc
    obtain ⟨j, rfl⟩ : ∃ k, j = k + 1 := ⟨j - 1, by omega⟩
    obtain ⟨ci, rfl⟩ : ∃ k, ci = k + 1 := ⟨ci - 1, by omega⟩
    have := hK.heap (j + 1) (ci + 1) (by simpa using hci) hj (by omega) hcc
    simpa using this
  · rintro r w' ⟨hv, Hs', hp', hh', hH', hm'⟩
    have hbw : Below w0.heap.size w0 w' := hWb.trans (hm'.below hWb.size (by intro k h; omega))
    have hsum := (hp'.map Hm.n).sum_nat
    have hlen := hp'.length_eq
    simp at hsum hlen
    refine ⟨hv, Hs', ⟨⟨own_mod hWo hm' (by intro k hk h; omega), by rw [hlen]; exact hWp.mod hm' hpg, hH', hbw, Nat.le_trans hWs hm'.size⟩, hh', ?_, fun x hx => hokA x (hp'.mem_iff.1 hx), ?_, ?_, ?_⟩, ?_⟩
    · have h1 := hK.inv
      rw [List.map_cons] at h1
      have h2 := h1.step hr (kst_top hK)
      have h3 : nextHd m.h = [⟨e2, l2, m.h.age⟩] := by unfold nextHd; rw [hrest]
      rw [h3] at h2
      refine h2.perm ?_
      have := hp'.map Hm.h
      rw [List.map_cons, hh] at this
      exact this
    · have h1 := hK.tot
      have h3 := kst_len hr hK
      simp at h1
      omega
    · have := hK.hc; simp at this; omega
    · have := hK.hl; simp at this; omega
    · simp
      omega
end

set_option maxHeartbeats 2000000 in
theorem merged_any (w : World) (B : Option Addr) (Rs : List Rm) (cb T : Nat) (hB : Sl w B (Rs.map Rm.v)) (hok : ∀ r ∈ Rs, r.Ok w) (hris : ∀ r ∈ Rs, RisE r.l)
    (hRl : Rs.length ≤ 1099511627775) (hT : (Rs.map (fun r => r.l.length)).sum ≤ T) (hT2 : T ≤ 1099511627776) :
    Calls Tryz.prog 71 #[.slice B Rs.length cb] w (GivesOwn 46 3 (allE (Rs.map Rm.l)).length ((allE (Rs.map Rm.l)).flatMap Ent.cells) w) := by
  obtain ⟨th0, hI1⟩ := info_parts head_info
  obtain ⟨te0, hI2⟩ := info_parts ent_info
  have HI1 := Lib.hid hI1
  have HI2 := Lib.hid hI2
  clear hI1 hI2
  have hx0 := Blk.new w 145 #[.slice none 0 0, lessV]
  obtain ⟨W, hW⟩ : ∃ W, w.alloc (.cells #[.slice none 0 0, lessV] 145) = W := ⟨_, rfl⟩
  have hbW : Below w.heap.size w W := by rw [← hW]; exact (Below.refl _ _).alloc (Nat.le_refl _) _
  have hsW : W.heap.size = w.heap.size + 1 := by rw [← hW]; simp
  rw [hW] at hx0
  go_enter Tryz.func71, Tryz.ntmps71
  go_wp2_with fail
  go_step3
  go_wp2
  try rw [hW]
  go_loopw [12] (fun v wr => ∃ (k : Nat) (v1 : Value), k ≤ Rs.length ∧ v = .int .i64 k ∧ Below w.heap.size w wr ∧ W.heap.size ≤ wr.heap.size ∧
      Blk wr w.heap.size 145 #[v1, lessV] ∧ wr.ownsRow W.heap.size 141 2 v1 (headsM 0 (Rs.take k)).length ((headsM 0 (Rs.take k)).flatMap Hm.cells) ∧
      Hid (headsM 0 (Rs.take k) = [] → v1 = .slice none 0 0)) (fun v _ => Rs.length - (intOf v).toNat)
  case atStart => exact ⟨0, _, Nat.zero_le _, rfl, hbW, Nat.le_refl _, hx0, World.ownsRow_nil _ _ _ _, fun _ => rfl⟩
  case round =>
    obtain ⟨k, v1, hk, rfl, hb, hsz, hx, hown, hnil⟩ := hrel
    clear hW hx0
    by_cases hlt : k < Rs.length
    · obtain ⟨b1, o1, rfl, hb1l, cp⟩ := hB.oneB hb k hlt
      obtain ⟨r, hr⟩ : ∃ r, Rs[k]'hlt = r := ⟨_, rfl⟩
      have hrok := hok _ (List.getElem_mem hlt)
      rw [hr] at cp hrok
      have k0 : (0 : Int) ≤ (k : Int) := by omega
      have k1 : (k : Int) < (Rs.length : Int) := by omega
      have htk : headsM 0 (Rs.take (k + 1)) = headsM 0 (Rs.take k) ++ hd1 k r := by
        rw [List.take_succ_eq_append_getElem hlt, headsM_append, hr, Nat.zero_add, List.length_take, Nat.min_eq_left (by omega)]
        simp [headsM]
      obtain ⟨l, A, c⟩ := r
      have HTK := Lib.hid htk
      clear htk hr
      have cp1 : wr.cell? ⟨b1, o1 + k, none⟩ = some (.slice A l.length c) := cp
      clear cp
      cases l with
      | nil =>
        go_wp2_with fail
        go_roundw
        case rel =>
          refine ⟨k + 1, v1, by omega, by go_num, hb, hsz, hx, ?_, ?_⟩
          · rw [HTK.out]; simpa [hd1] using hown
          · rw [HTK.out]; simpa [hd1] using hnil
        case measure => simp [intOf]; omega
      | cons e l =>
        have hne : ∀ q, v1.ownBlock = some q → w.heap.size < q := fun q hq => by have := (hown.lt q hq).1; omega
        have hxl := hx.lt
        have c0 : wr.cell? ⟨w.heap.size, 0, none⟩ = some v1 := hx.cell 0
        have l0 : (0 : Int) < ((l.length : Int) + 1) := by omega
        obtain ⟨n, hn⟩ : ∃ n, n = (headsM 0 (Rs.take k)).length := ⟨_, rfl⟩
        have hn2 : n ≤ k := by rw [hn]; have := headsM_len (Rs.take k) 0; simp at this; omega
        rw [← hn] at hown
        have HN := Lib.hid hn
        have HNE := Lib.hid hne
        have HX := Lib.hid hx
        have HO := Lib.hid hown
        have HBW := Lib.hid hbW
        have ca : (wr.alloc (.cells #[.slice A (l.length + 1) c, .int .i64 (k : Nat)] 141)).cell? ⟨w.heap.size, 0, none⟩ = some v1 := alloc_cell c0 _
        clear hn hne hx hown hbW hnil
        go_wp2_with (at_builtin; refine wpList_append_sl _ rfl (.tmp 24) (.tmp 28) _ rfl W.heap.size 141 th0 _ 2 32 Tryz.underlying143 HI1.out.1 HI1.out.2.1 HI1.out.2.2.1 HI1.out.2.2.2 rfl (by omega) v1 n _ rfl (HO.out.alloc _) _ 1 _ [.slice A (l.length + 1) c, .int .i64 (k : Nat)] rfl (by exact sl_new1 _ _ _) rfl (by simp [Value.oneCell']) (by unfold maxLen; omega) (by omega) (by simp; omega) ?_; intro v2 w2 hown2 hg2; have hx2 : Blk w2 w.heap.size 145 #[v1, lessV] := (HX.out.alloc _).of (hg2.block _ (by simp; omega) (fun e => by have := HNE.out _ e.symm; omega)); have e0 : w2.cell? ⟨w.heap.size, 0, none⟩ = some v1 := hx2.cell 0; have e1 := hx2.frozen 0; have HX2 := Lib.hid hx2; clear hx2; obtain ⟨A2, q2, rfl, hle2, hmx2⟩ := own_form hown2; have HO2 := Lib.hid hown2; clear hown2)
        go_roundw
        case rel =>
          have hgb : Below w.heap.size w w2 := (hb.alloc (by omega) _).grown hg2 (by simp; omega) (fun q hq => by have := HNE.out q hq; omega)
          refine ⟨k + 1, .slice A2 (n + 1) q2, by omega, by go_num, hgb.setCell (p := ⟨w.heap.size, 0, none⟩) (Nat.le_refl _) _, by have := hg2.size; simp at this; simp [World.setCell]; omega, HX2.out.set_ 0 _, ?_, ?_⟩
          · rw [HTK.out, List.length_append, List.flatMap_append, ← HN.out]
            refine own_far (by simpa [hd1, Hm.cells] using HO2.out) ?_ _
            intro e
            have := (HO2.out.lt _ e).1
            dsimp only at this
            omega
          · show _ → _
            intro h
            rw [HTK.out] at h
            simp [hd1] at h
        case measure => simp [intOf]; omega
    · have hkn : k = Rs.length := by omega
      subst hkn
      rw [List.take_of_length_le (Nat.le_refl _)] at hown hnil
      obtain ⟨Hs, hHs⟩ : ∃ Hs, headsM 0 Rs = Hs := ⟨_, rfl⟩
      rw [hHs] at hown hnil
      have hI0 : MInv (Rs.map Rm.l) [] (Hs.map Hm.h) := by rw [← hHs, headsM_map]; exact MInv.start _
      have hHok : ∀ m ∈ Hs, m.Ok w := by rw [← hHs]; exact headsM_ok hok
      have hHsum : (Hs.map Hm.n).sum ≤ T := by rw [← hHs, headsM_sum]; exact hT
      have hHlen : Hs.length ≤ 1099511627776 := by rw [← hHs]; have := headsM_len Rs 0; omega
      have hR : ∀ r ∈ Rs.map Rm.l, RisE r := by intro r hr; obtain ⟨q, hq, rfl⟩ := List.mem_map.1 hr; exact hris q hq
      have HI0 := Lib.hid hI0
      have HOK := Lib.hid hHok
      have HR := Lib.hid hR
      have HXX := Lib.hid hx
      have hxl := hx.lt
      have hbs := Lib.hid hb
      clear hI0 hHok hR hok hris hT hB hHs hbW hx hb
      cases Hs with
      | nil =>
        obtain rfl := hnil.out rfl
        have hall : allE (Rs.map Rm.l) = [] := (HI0.out.done HR.out).symm
        have c0 : wr.cell? ⟨w.heap.size, 0, none⟩ = some (.slice none 0 0) := HXX.out.cell 0
        have HALL := Lib.hid hall
        clear hall hown hHsum hHlen
        go_wp2_with fail
        refine (settle_nil wr w.heap.size _ HXX.out).mono ?_
        rintro e w1 ⟨⟨v, rfl⟩, rfl⟩
        go_wp2
        go_step3
        go_wp2
        go_loopw [2] (fun v wr2 => v = .slice none 0 0 ∧ wr2 = w1) (fun _ _ => 0)
        case atStart => exact ⟨rfl, rfl⟩
        case round =>
          obtain ⟨rfl, rfl⟩ := hrel
          go_wp2
          go_ret
          exact ⟨none, 0, by rw [HALL.out]; rfl, by rw [HALL.out]; exact World.ownsRow_nil _ _ _ _, hbs.out⟩
      | cons m0 Hs0 =>
        obtain ⟨g, cap, cur, rfl, hgB, hgblk, hncap, hcapm, hcurs, hcurt⟩ := own_blk hown (by simp)
        have hHA : HeadsAt wr g (m0 :: Hs0) := ⟨cur, hgblk, hcurt, by rw [hcurs]; exact Nat.mul_le_mul_right _ hncap⟩
        have hpg : w.heap.size ≠ g := by omega
        clear hgblk hcurs hcurt hown
        go_wp2_with fail
        refine (settle_any w wr w.heap.size g cap _ (m0 :: Hs0) rfl hHlen HXX.out hHA hpg HOK.out hbs.out (by omega) (Nat.le_refl _)).mono ?_
        rintro e w1 ⟨⟨v, rfl⟩, Hs1, hp1, hh1, hH1, hm1⟩
        have hgl := hH1.lt
        have hb1 : Below w.heap.size w w1 := hbs.out.trans (hm1.below hbs.out.size (by intro k h; omega))
        have hl1 := hp1.length_eq
        have hK : Kst w w.heap.size g cap w1.heap.size T (Rs.map Rm.l) [] Hs1 none 0 w1 :=
          ⟨⟨World.ownsRow_nil _ _ _ _, by rw [hl1]; exact HXX.out.mod hm1 (by omega), hH1, hb1, Nat.le_refl _⟩, hh1, HI0.out.perm (hp1.map Hm.h), fun m hm => HOK.out m (hp1.mem_iff.1 hm), by
            rw [(hp1.map Hm.n).sum_nat]; simpa using hHsum, by omega, by omega⟩
        have hpl : w.heap.size < w1.heap.size := Nat.lt_of_lt_of_le hxl hm1.size
        clear hp1 hh1 hH1 hm1 hHA HI0 HOK HXX hHsum hHlen hl1 hnil
        go_wp2
        go_step3
        go_wp2
        go_loopw [2] (fun v wr2 => ∃ (out : List Ent) (Hs : List Hm) (A' : Option Addr) (c' : Nat), v = .slice A' out.length c' ∧ Hid (Kst w w.heap.size g cap w1.heap.size T (Rs.map Rm.l) out Hs A' c' wr2)) (fun _ wr2 => wtAt wr2 w.heap.size)
        case atStart => exact ⟨[], Hs1, none, 0, rfl, hK⟩
        case round =>
          clear hK
          obtain ⟨out, Hs, A', c', rfl, hK⟩ := hrel
          have c0 : wr.cell? ⟨w.heap.size, 0, none⟩ = some (.slice (some ⟨g, 0, none⟩) Hs.length cap) := hK.out.mid.pile.cell 0
          cases Hs with
          | nil =>
            have hd := hK.out.inv.done HR.out
            go_wp2
            go_ret
            have ho := own_mono (B' := w.heap.size) hK.out.mid.own (by omega)
            rw [hd] at ho
            exact ⟨A', c', by rw [hd]; rfl, ho, hK.out.mid.frame⟩
          | cons m Hs =>
            obtain ⟨a1, a2⟩ := hK.out.mid.heads.cells 0 (by simp)
            have okm := hK.out.ok m (by simp)
            obtain ⟨⟨e, rest, age⟩, A, n, c⟩ := m
            obtain ⟨b, off, hA, hbl, ek, ev, ed⟩ := okm.at0 hK.out.mid.frame
            have hnr : n = rest.length + 1 := okm.n
            have hnc : n ≤ c := okm.nc
            dsimp only at hA ek ev ed
            subst hA
            rw [Nat.zero_mul] at a1 a2
            have a1' : wr.cell? ⟨g, 0, none⟩ = some (.slice (some ⟨b, off, none⟩) n c) := a1
            have c0' : wr.cell? ⟨w.heap.size, 0, none⟩ = some (.slice (some ⟨g, 0, none⟩) (Hs.length + 1) cap) := c0
            have n0 : (0 : Int) < (Hs.length : Int) + 1 := by omega
            have n1 : (0 : Int) < (n : Int) := by omega
            have hgl2 : g < wr.heap.size := hK.out.mid.heads.lt
            have HOKM := Lib.hid okm
            clear a1 a2 c0 okm
            go_upto_region 12 with fail
            go_cut [65] from 48 to 65 (fun v wx => v = .bool (fresh out e.key) ∧ Below wr.heap.size wr wx)
            case first =>
              rcases List.eq_nil_or_concat out with hnil2 | ⟨l', z, hz⟩
              · subst hnil2
                go_quiet (fail)
                go_wp2_with fail
                go_meet
                exact ⟨by simp [fresh], bdrew (Below.refl _ _) _⟩
              · rw [List.concat_eq_append] at hz
                have hj2 : out.length = l'.length + 1 := by rw [hz]; simp
                have hol : out.length ≤ 1099511627776 := by have := hK.out.tot; omega
                obtain ⟨j, hj⟩ : ∃ j, j = l'.length := ⟨_, rfl⟩
                have hjo : j < out.length := by omega
                have hg : out[j]'hjo = z := by subst hj; subst hz; simp
                obtain ⟨b2, off2, hA2, hb2l, z1, z2, z3⟩ := (own_sl hK.out.mid.own).ent j hjo
                rw [hg] at z1
                subst hA2
                have hF : Hid (fresh out e.key = (z.key != e.key)) := by
                  show _ = _
                  rw [hz]
                  unfold fresh
                  rw [List.getLast?_append]
                  rfl
                have o0 : ((out.length : Int) == 0) = false := beq_eq_false_iff_ne.2 (by omega)
                have o1 : IntKind.i64.wrap ((out.length : Int) - 1) = (j : Int) := by
                  rw [show (out.length : Int) - 1 = (j : Int) by omega]; exact IntWalk.i64_in _ (by omega)
                have o2 : (0 : Int) ≤ (j : Int) := by omega
                have o3 : (j : Int) < (out.length : Int) := by omega
                have HZ := Lib.hid hz
                clear hz hg hj2 hj z2 z3
                go_quiet (fail)
                go_wp2_with fail
                go_meet
                exact ⟨by simp [hF.out], bdrew (Below.refl _ _) _⟩
            case rest =>
              obtain ⟨rfl, hbx⟩ := hcut
              have hmid : Kmid w w.heap.size g cap w1.heap.size out (⟨⟨e, rest, age⟩, some ⟨b, off, none⟩, n, c⟩ :: Hs) A' c' wc :=
                ⟨own_below hK.out.mid.own hbx, hK.out.mid.pile.below hbx hK.out.mid.pile.lt, hK.out.mid.heads.below hbx hgl2, bext hK.out.mid.frame hbx, Nat.le_trans hK.out.mid.size hbx.size⟩
              have HMID := Lib.hid hmid
              obtain ⟨F, hF⟩ : ∃ F, fresh out e.key = F := ⟨_, rfl⟩
              rw [hF]
              have HF := Lib.hid hF
              clear hmid hF a1' c0' ek ev ed hbx
              go_upto_if 65 with fail
              go_cut [2] from 66 to 74 (fun v wx => ∃ A2 q2, v = .slice A2 (outOf out e).length q2 ∧ Hid (Kmid w w.heap.size g cap w1.heap.size (outOf out e) (⟨⟨e, rest, age⟩, some ⟨b, off, none⟩, n, c⟩ :: Hs) A2 q2 wx))
              case first =>
                cases F
                · go_wp2_with fail
                  go_meet
                  have ho : outOf out e = out := by unfold outOf; rw [HF.out]; rfl
                  rw [ho]
                  exact ⟨A', c', by simp, HMID.out⟩
                · have ho : outOf out e = out ++ [e] := by unfold outOf; rw [HF.out]; rfl
                  have HO := Lib.hid ho
                  have hl2 : (outOf out e).length = out.length + 1 := by rw [ho]; simp
                  have HL2 := Lib.hid hl2
                  clear ho hl2
                  have hol : out.length ≤ T := by have := hK.out.tot; omega
                  have hol2 : out.length + n ≤ T := by have := hK.out.tot; simp at this; omega
                  have d0 : wc.cell? ⟨g, 0, none⟩ = some (.slice (some ⟨b, off, none⟩) n c) := (HMID.out.heads.cells 0 (by simp)).1
                  obtain ⟨b9, off9, hA9, hbl9, d1, d2, d3⟩ := HOKM.out.at0 HMID.out.frame
                  obtain ⟨rfl, rfl⟩ : b = b9 ∧ off = off9 := by simpa using hA9
                  have hsw := HMID.out.size
                  have bP := HMID.out.pile
                  have bH := HMID.out.heads
                  have hgl3 := bH.lt
                  have BP := Lib.hid bP
                  have n63 : out.length ≤ 1099511627776 := by omega
                  clear bP bH hbl9
                  go_wp2_with (at_builtin; refine wpList_append_sl _ rfl (.tmp 66) (.tmp 73) _ rfl w1.heap.size 46 te0 _ 3 24 Tryz.underlying47 HI2.out.1 HI2.out.2.1 HI2.out.2.2.1 HI2.out.2.2.2 rfl (by omega) (.slice A' out.length c') out.length _ rfl (HMID.out.own.alloc _) _ 1 _ [.int .i64 e.key, .int .i64 e.val, .bool e.dead] rfl (by exact sl_new1 _ _ _) rfl (by simp [Value.oneCell']) (by unfold maxLen; omega) (by omega) (by simp; omega) ?_; intro v2 w2 hown2 hg2; obtain ⟨A2, q2, rfl, hle2, hmx2⟩ := own_form hown2; have HO2 := Lib.hid hown2; clear hown2)
                  go_meet
                  have hne : ∀ q, q < w1.heap.size → some q ≠ (Value.slice A' out.length c').ownBlock := fun q hq e => by have := (HMID.out.own.lt q e.symm).1; omega
                  refine ⟨A2, q2, by rw [HL2.out], ?_⟩
                  refine ⟨by rw [HL2.out, HO.out, List.flatMap_append]; simpa [Ent.cells] using HO2.out, (BP.out.alloc _).of (hg2.block _ (by simp; omega) (hne _ hpl)), ?_, (HMID.out.frame.alloc (by omega) _).grown hg2 (by simp; omega) (fun q hq => by have := (HMID.out.own.lt q hq).1; omega), by have := hg2.size; simp at this; omega⟩
                  obtain ⟨cur, hc1, hc2⟩ := HMID.out.heads
                  exact ⟨cur, (hc1.alloc _).of (hg2.block _ (by simp; omega) (hne _ hgl)), hc2⟩
              case rest =>
                obtain ⟨A2, q2, rfl, hK2⟩ := hcut
                have d0 : wc.cell? ⟨g, 0, none⟩ = some (.slice (some ⟨b, off, none⟩) n c) := (hK2.out.heads.cells 0 (by simp)).1
                have d1 : wc.frozen? ⟨g, 0, none⟩ = false := hK2.out.heads.frozen 0
                have n2 : (1 : Int) ≤ (n : Int) := by omega
                cases rest with
                | nil =>
                  obtain rfl : n = 1 := by simpa using hnr
                  clear hnr
                  by_cases hc1 : c = 1
                  · subst hc1
                    go_upto_region 16 with fail
                    obtain ⟨W2, hW2⟩ : ∃ W2, wc.setCell ⟨g, 0, none⟩ (.slice (some ⟨b, off, none⟩) 0 (0)) = W2 := ⟨_, rfl⟩
                    obtain ⟨q1, q2', q3, q4, q5, q6⟩ := kst_pop (m := ⟨⟨e, [], age⟩, some ⟨b, off, none⟩, 1, 1⟩) (m' := ⟨⟨e, [], age⟩, some ⟨b, off, none⟩, 0, 0⟩) HR.out hK.out rfl hK2.out hpg hpl hgl (by omega) (Nat.le_refl _) rfl hW2
                    rw [hW2]
                    have Q1 := Lib.hid q1
                    have Q2 := Lib.hid q2'
                    have Q6 := Lib.hid q6
                    have hlx := hK.out.hl
                    have hcx := hK.out.hc
                    simp at hlx hcx
                    clear q1 q2' q6 d0 d1 hW2
                    go_wp2_with fail
                    refine (pop_any w W2 w.heap.size g cap Hs.length (⟨⟨e, [], age⟩, some ⟨b, off, none⟩, 0, 0⟩ :: Hs) (by simp) (by omega) hcx Q1.out Q2.out hpg q3 q4 (by omega) (Nat.le_refl _) q5).mono ?_
                    rintro ee w4 hpp
                    obtain ⟨⟨v4, rfl⟩, Hs', hK3, hlt3⟩ := Q6.out ee w4 hpp
                    have HK3 := Lib.hid hK3
                    clear q3 q4 q5 hpp hK3
                    go_wp2_with fail
                    refine ⟨⟨_, Hs', A2, q2, rfl, HK3.out⟩, ?_⟩
                    rw [wt_of HK3.out.mid.pile HK3.out.mid.heads, wt_of hK.out.mid.pile hK.out.mid.heads]
                    exact hlt3
                  · have hcb : (c == 1) = false := by simpa using hc1
                    go_upto_region 16 with fail
                    obtain ⟨W2, hW2⟩ : ∃ W2, wc.setCell ⟨g, 0, none⟩ (.slice (some ⟨b, off + 3, none⟩) 0 (c - 1)) = W2 := ⟨_, rfl⟩
                    obtain ⟨q1, q2', q3, q4, q5, q6⟩ := kst_pop (m := ⟨⟨e, [], age⟩, some ⟨b, off, none⟩, 1, c⟩) (m' := ⟨⟨e, [], age⟩, some ⟨b, off + 3, none⟩, 0, c - 1⟩) HR.out hK.out rfl hK2.out hpg hpl hgl (by omega) (Nat.le_refl _) rfl hW2
                    rw [hW2]
                    have Q1 := Lib.hid q1
                    have Q2 := Lib.hid q2'
                    have Q6 := Lib.hid q6
                    have hlx := hK.out.hl
                    have hcx := hK.out.hc
                    simp at hlx hcx
                    clear q1 q2' q6 d0 d1 hW2
                    go_wp2_with fail
                    refine (pop_any w W2 w.heap.size g cap Hs.length (⟨⟨e, [], age⟩, some ⟨b, off + 3, none⟩, 0, c - 1⟩ :: Hs) (by simp) (by omega) hcx Q1.out Q2.out hpg q3 q4 (by omega) (Nat.le_refl _) q5).mono ?_
                    rintro ee w4 hpp
                    obtain ⟨⟨v4, rfl⟩, Hs', hK3, hlt3⟩ := Q6.out ee w4 hpp
                    have HK3 := Lib.hid hK3
                    clear q3 q4 q5 hpp hK3
                    go_wp2_with fail
                    refine ⟨⟨_, Hs', A2, q2, rfl, HK3.out⟩, ?_⟩
                    rw [wt_of HK3.out.mid.pile HK3.out.mid.heads, wt_of hK.out.mid.pile hK.out.mid.heads]
                    exact hlt3
                | cons e2 l2 =>
                  obtain ⟨n', rfl⟩ : ∃ n', n = n' + 1 := ⟨n - 1, by omega⟩
                  obtain ⟨c1, rfl⟩ : ∃ c1, c = c1 + 1 := ⟨c - 1, by omega⟩
                  have hc1 : ¬ c1 + 1 = 1 := by simp at hnr; omega
                  go_upto_region 17 with fail
                  have hn' : n' = l2.length + 1 := by simp at hnr; omega
                  subst hn'
                  obtain ⟨W2, hW2⟩ : ∃ W2, wc.setCell ⟨g, 0, none⟩ (.slice (some ⟨b, off + 3, none⟩) (l2.length + 1) c1) = W2 := ⟨_, rfl⟩
                  have hmok : Hm.Ok w ⟨⟨e2, l2, age⟩, some ⟨b, off + 3, none⟩, l2.length + 1, c1⟩ := by
                    have h1 := HOKM.out
                    refine ⟨?_, rfl, by have := h1.nc; simp at this ⊢; omega, by have := h1.c; simp at this ⊢; omega⟩
                    rcases h1.sl with h2 | ⟨b3, o3, h3, h4, h5⟩
                    · simp [Ent.cells] at h2
                    · obtain ⟨rfl, rfl⟩ : b = b3 ∧ off = o3 := by simpa using h3
                      refine .inr ⟨b, off + 3, rfl, h4, fun j u hu => ?_⟩
                      have := h5 (3 + j) u (by rw [List.flatMap_cons, List.getElem?_append_right (by simp [Ent.cells])]; simpa [Ent.cells] using hu)
                      rw [show off + 3 + j = off + (3 + j) by omega]; exact this
                  obtain ⟨q1, q2', q3, q4, q5, q6⟩ := kst_down (m := ⟨⟨e, e2 :: l2, age⟩, some ⟨b, off, none⟩, l2.length + 1 + 1, c1 + 1⟩) (m' := ⟨⟨e2, l2, age⟩, some ⟨b, off + 3, none⟩, l2.length + 1, c1⟩) HR.out hK.out rfl hK2.out hpg hpl hgl (by omega) (Nat.le_refl _) rfl hmok rfl hW2
                  rw [hW2]
                  have Q1 := Lib.hid q1
                  have Q2 := Lib.hid q2'
                  have Q6 := Lib.hid q6
                  have hlx := hK.out.hl
                  simp at hlx
                  clear q1 q2' q6 d0 d1 hW2 hmok
                  go_wp2_with fail
                  refine (down_any w W2 w.heap.size g cap (Hs.length + 1) 0 0 (⟨⟨e2, l2, age⟩, some ⟨b, off + 3, none⟩, l2.length + 1, c1⟩ :: Hs) (by simp) (by omega) (Nat.zero_le _) (Nat.le_refl _) Q1.out Q2.out hpg q3 q4 (by omega) (Nat.le_refl _) q5).mono ?_
                  rintro ee w4 hpp
                  obtain ⟨⟨v4, rfl⟩, Hs', hK3, hlt3⟩ := Q6.out ee w4 hpp
                  have HK3 := Lib.hid hK3
                  clear q3 q4 q5 hpp hK3
                  go_wp2_with fail
                  refine ⟨⟨_, Hs', A2, q2, rfl, HK3.out⟩, ?_⟩
                  rw [wt_of HK3.out.mid.pile HK3.out.mid.heads, wt_of hK.out.mid.pile hK.out.mid.heads]
                  exact hlt3
end Go.Proofs.YtolclahkfmplfaaGreatDoor

/- Contracts: a run's entries by their ranks (bound's and the reference's), whether a run may be, and its sorted entries. -/
namespace Go.Proofs.YtolclahkfmplfaaGreatDoor
open Go Go.RowKit
set_option maxRecDepth 100000

/-- the entries of a run, by their ranks -/
def inL (l : List Ent) : List Ent := (inord l.length 0).map (entAt l)
theorem inL_length (l : List Ent) : (inL l).length = l.length := by simp [inL, inord_length]
theorem inL_get {l : List Ent} {k : Nat} (h : k < (inL l).length) : (inL l)[k]'h = entAt l ((inord l.length 0)[k]'(by simpa [inL] using h)) := by simp [inL]

/-- the first k places' entries stand where their ranks are -/
def Scat (l : List Ent) (k : Nat) (cur : Array Value) : Prop := ∀ a, a < k → ∀ (ha : a < l.length) (j : Nat), j < 3 → cur[(inord l.length 0).idxOf a * 3 + j]? = ((l[a]'ha).cells)[j]?
theorem Scat.start (l : List Ent) (cur : Array Value) : Scat l 0 cur := fun a h => absurd h (by omega)
theorem Scat.step {l : List Ent} {k : Nat} {cur : Array Value} (h : Scat l k cur) (hk : k < l.length) (hs : cur.size = l.length * 3) (r : Nat) (hr : r = (inord l.length 0).idxOf k) :
    Scat l (k + 1) (((cur.setIfInBounds (r * 3) (.int .i64 (l[k]'hk).key)).setIfInBounds (r * 3 + 1) (.int .i64 (l[k]'hk).val)).setIfInBounds (r * 3 + 2) (.bool (l[k]'hk).dead)) := by
  subst hr
  have hrl := ranks_lt hk
  intro a ha hal j hj
  by_cases e : a = k
  · subst e
    have : j = 0 ∨ j = 1 ∨ j = 2 := by omega
    rcases this with rfl | rfl | rfl
    · rw [Array.getElem?_setIfInBounds_ne (by omega), Array.getElem?_setIfInBounds_ne (by omega), Nat.add_zero, Array.getElem?_setIfInBounds_self_of_lt (by omega)]; rfl
    · rw [Array.getElem?_setIfInBounds_ne (by omega), Array.getElem?_setIfInBounds_self_of_lt (by simp; omega)]; rfl
    · rw [Array.getElem?_setIfInBounds_self_of_lt (by simp; omega)]; rfl
  · have hne : (inord l.length 0).idxOf a ≠ (inord l.length 0).idxOf k := by
      intro e2
      have h1 := inord_idx hal
      have h2 := inord_idx hk
      simp only [e2] at h1
      exact e (h1.symm.trans h2)
    rw [Array.getElem?_setIfInBounds_ne (by omega), Array.getElem?_setIfInBounds_ne (by omega), Array.getElem?_setIfInBounds_ne (by omega)]
    exact h a (by omega) hal j hj
theorem Scat.done {l : List Ent} {cur : Array Value} (h : Scat l l.length cur) (hs : cur.size = l.length * 3) : cur.toList.take (l.length * 3) = (inL l).flatMap Ent.cells := by
  rw [List.take_of_length_le (by simp; omega)]
  refine List.ext_getElem? fun i => ?_
  by_cases hi : i < l.length * 3
  · have hk : i / 3 < l.length := by omega
    have hk' : i / 3 < (inord l.length 0).length := by rw [inord_length]; exact hk
    have e : i / 3 * 3 + i % 3 = i := by omega
    have hf := flat_get Ent.cells 3 Ent.cells_length (inL l) (i / 3) (i % 3) (by rw [inL_length]; exact hk) (by omega)
    rw [e, inL_get] at hf
    have hp := inord_lt (List.getElem_mem hk')
    rw [entAt_get hp] at hf
    have hc := h _ hp hp (i % 3) (by omega)
    rw [idx_inord hk', e] at hc
    rw [hf, ← hc]
    simp
  · rw [List.getElem?_eq_none (by simp; omega), List.getElem?_eq_none (by rw [flat_length Ent.cells 3 Ent.cells_length, inL_length]; omega)]


set_option maxHeartbeats 3200000 in
theorem sorted_any (A : Option Addr) (l : List Ent) (c : Nat) (w : World) (hA : Sl w A (l.flatMap Ent.cells)) (hn : l.length ≤ 65536) :
    Calls Tryz.prog 87 #[.agg #[.slice A l.length c]] w (GivesOwn 46 3 l.length ((inL l).flatMap Ent.cells) w) := by
  obtain ⟨i0, hi, hz0, hz1, hz2⟩ := info_parts ent_info
  have hmk := fun W => run_make_rowN (P := Tryz.prog) 47 46 i0 _ Tryz.underlying47 hi hz0 l.length (by rw [hz2]; omega) (by omega) W
  rw [hz1] at hmk
  clear hi hz0 hz1 hz2
  obtain ⟨W0, hW0⟩ : ∃ W0, (w.alloc (.cells #[.slice A l.length c] 137)).alloc (.cells (madeCells #[Value.int IntKind.i64 0, Value.int IntKind.i64 0, Value.bool false] (l.length * 3)) 46) = W0 := ⟨_, rfl⟩
  have hb0 : Below w.heap.size w W0 := by rw [← hW0]; exact ((Below.refl _ _).alloc (Nat.le_refl _) _).alloc (by simp) _
  have hx0 : Blk W0 w.heap.size 137 #[.slice A l.length c] := by rw [← hW0]; exact (Blk.new w _ _).alloc _
  have hg0 : Blk W0 (w.heap.size + 1) 46 (madeCells #[Value.int IntKind.i64 0, Value.int IntKind.i64 0, Value.bool false] (l.length * 3)) := by
    rw [← hW0]; have := Blk.new (w.alloc (.cells #[.slice A l.length c] 137)) 46 (madeCells #[Value.int IntKind.i64 0, Value.int IntKind.i64 0, Value.bool false] (l.length * 3))
    rwa [World.size_alloc] at this
  have hs0 : W0.heap.size = w.heap.size + 1 + 1 := by rw [← hW0]; simp
  have cx0 : W0.cell? ⟨w.heap.size, 0, none⟩ = some (.slice A l.length c) := hx0.cell 0
  go_enter Tryz.func87, Tryz.ntmps87
  go_wp2_with fail
  try rw [hW0]
  refine (order_ok l.length hn _).mono ?_
  rintro e w3 ⟨rfl, ho3, hb3⟩
  rw [hs0] at ho3
  have hb03 : Below w.heap.size w w3 := bext hb0 hb3
  have hx3 := hx0.below hb3 hx0.lt
  have hg3 := hg0.below hb3 hg0.lt
  have hgl := hg3.lt
  have hol := ho3.lt
  clear hmk hW0 hb3 hb0 hx0 hg0 cx0
  rw [hs0]
  go_wp2
  go_loopw [21] (fun i wr => ∃ k : Nat, k ≤ l.length ∧ i = .int .i64 k ∧ Mod (fun b => b = w.heap.size + 1) w3 wr ∧
      ∃ cur : Array Value, Hid (cur.size = l.length * 3) ∧ Blk wr (w.heap.size + 1) 46 cur ∧ Hid (Scat l k cur))
      (fun i _ => l.length - (intOf i).toNat)
  case atStart => exact ⟨0, Nat.zero_le _, rfl, Mod.refl _ _, _, by show _ = _; simp [madeCells], hg3, Scat.start _ _⟩
  case round =>
    obtain ⟨k, hk, rfl, hm, cur, hcs, hcur, hct⟩ := hrel
    by_cases hlt : k < l.length
    · have hb : Below w.heap.size w wr := hb03.trans (hm.below hb03.size (by intro k h; omega))
      have hrl : k < (ranks l.length).length := by rw [ranks_length]; exact hlt
      obtain ⟨x, hx⟩ : ∃ x, (ranks l.length)[k]'hrl = x := ⟨_, rfl⟩
      have hxi : x = (inord l.length 0).idxOf k := by rw [← hx, ranks_get hlt]
      have hxn : x < l.length := by rw [hxi]; exact ranks_lt hlt
      have ho4 := ho3.mod hm (by omega)
      have cr : wr.cell? ⟨w.heap.size + 1 + 1, k, none⟩ = some (.int .i64 (x : Nat)) := by
        rw [ho4.cell]; simp [hrl, hx]
      have cx : wr.cell? ⟨w.heap.size, 0, none⟩ = some (.slice A l.length c) := (hx3.mod hm (by omega)).cell 0
      obtain ⟨b, off, rfl, hbl, c1, c2, c3⟩ := hA.entB hb k hlt
      have hsz := hcs.out
      obtain ⟨v1, e1⟩ : ∃ v, wr.cell? ⟨w.heap.size + 1, x * 3, none⟩ = some v := ⟨_, (hcur.cell _).trans (Array.getElem?_eq_getElem (show x * 3 < cur.size by omega))⟩
      obtain ⟨v2, e2⟩ : ∃ v, wr.cell? ⟨w.heap.size + 1, x * 3 + 1, none⟩ = some v := ⟨_, (hcur.cell _).trans (Array.getElem?_eq_getElem (show x * 3 + 1 < cur.size by omega))⟩
      obtain ⟨v3, e3⟩ : ∃ v, wr.cell? ⟨w.heap.size + 1, x * 3 + 2, none⟩ = some v := ⟨_, (hcur.cell _).trans (Array.getElem?_eq_getElem (show x * 3 + 2 < cur.size by omega))⟩
      have f1 := hcur.frozen (x * 3)
      have f2 := hcur.frozen (x * 3 + 1)
      have f3 := hcur.frozen (x * 3 + 2)
      have hxi1 : (0 : Int) ≤ (x : Int) := by omega
      have hxi2 : (x : Int) < (l.length : Int) := by omega
      have hki : (0 : Int) ≤ (k : Int) := by omega
      have hki2 : (k : Int) < (l.length : Int) := by omega
      have hst := Lib.hid (hct.out.step hlt hcs.out x hxi)
      clear hx hsz hxi hx3
      go_wp2
      go_roundw
      case rel =>
        exact ⟨k + 1, by omega, by go_num, ((hm.setCell (p := ⟨w.heap.size + 1, x * 3, none⟩) rfl _).setCell (p := ⟨w.heap.size + 1, x * 3 + 1, none⟩) rfl _).setCell (p := ⟨w.heap.size + 1, x * 3 + 2, none⟩) rfl _, _, by show _ = _; simpa using hcs.out, ((hcur.set_ (x * 3) _).set_ (x * 3 + 1) _).set_ (x * 3 + 2) _, hst⟩
      case measure => simp [intOf]; omega
    · have hkn : k = l.length := by omega
      have hb : Below w.heap.size w wr := hb03.trans (hm.below hb03.size (by intro k h; omega))
      have hct' := Scat.done (hkn ▸ hct.out) hcs.out
      have HC := Lib.hid hct'
      clear hct' hkn
      go_wp2
      go_ret
      exact ⟨some ⟨w.heap.size + 1, 0, none⟩, l.length, rfl, ⟨by rw [flat_length Ent.cells 3 Ent.cells_length, inL_length], .inr ⟨w.heap.size + 1, l.length, cur, rfl, by omega, hcur, Nat.le_refl _, by unfold maxLen; omega, hcs.out, HC.out⟩⟩, hb⟩
end Go.Proofs.YtolclahkfmplfaaGreatDoor

/- Plain facts: how Lower goes down Eytzinger's tree and back. No program in sight. -/
namespace Go.Proofs.YtolclahkfmplfaaGreatDoor
open Go

/-- where a way down ends: places from 1 on -/
def low (n : Nat) (t : Nat → Bool) (m : Nat) : Nat := if h : 1 ≤ m ∧ m ≤ n then low n t (2 * m + (if t (m - 1) then 1 else 0)) else m
termination_by n + 1 - m
decreasing_by split <;> omega
theorem low_in {n : Nat} {t : Nat → Bool} {m : Nat} (h1 : 1 ≤ m) (h2 : m ≤ n) : low n t m = low n t (2 * m + (if t (m - 1) then 1 else 0)) := by rw [low, dif_pos ⟨h1, h2⟩]
theorem low_out {n : Nat} {t : Nat → Bool} {m : Nat} (h : ¬ m ≤ n) : low n t m = m := by rw [low, dif_neg (by omega)]
/-- back over all turns to the right, and the last one to the left -/
def anc (m : Nat) : Nat := if h : m % 2 = 1 then anc (m / 2) else m / 2
termination_by m
decreasing_by omega
theorem anc_odd {m : Nat} (h : m % 2 = 1) : anc m = anc (m / 2) := by rw [anc, dif_pos h]
theorem anc_even {m : Nat} (h : m % 2 ≠ 1) : anc m = m / 2 := by rw [anc, dif_neg h]
theorem anc_left (m : Nat) : anc (2 * m) = m := by rw [anc_even (by omega)]; omega
theorem anc_right (m : Nat) : anc (2 * m + 1) = anc m := by rw [anc_odd (by omega)]; congr 1; omega
theorem anc_le (m : Nat) : anc m ≤ m / 2 := by
  induction m using Nat.strongRecOn with
  | _ m ih =>
    by_cases h : m % 2 = 1
    · rw [anc_odd h]; have := ih (m / 2) (by omega); omega
    · rw [anc_even h]; omega
theorem anc_shift : ∀ (f m : Nat), m < 2 ^ f - 1 → anc m = m / 2 ^ (Lib.ctzFrom f (2 ^ f - 1 - m) + 1)
  | 0, m, h => by simp at h
  | f + 1, m, h => by
    have h2 : 2 ^ (f + 1) = 2 * 2 ^ f := by rw [Nat.pow_succ, Nat.mul_comm]
    have hp : 0 < 2 ^ f := Nat.pow_pos (by omega)
    unfold Lib.ctzFrom
    by_cases hm : m % 2 = 1
    · rw [if_neg (by omega), anc_odd hm, anc_shift f (m / 2) (by omega), show (2 ^ (f + 1) - 1 - m) / 2 = 2 ^ f - 1 - m / 2 by omega, Nat.div_div_eq_div_mul]
      congr 1
      rw [show 1 + Lib.ctzFrom f (2 ^ f - 1 - m / 2) + 1 = (Lib.ctzFrom f (2 ^ f - 1 - m / 2) + 1) + 1 by omega, Nat.pow_succ 2 (Lib.ctzFrom f (2 ^ f - 1 - m / 2) + 1), Nat.mul_comm]
    · rw [if_pos (by omega), anc_even hm]
theorem anc_ctz {m : Nat} (h : m < 18446744073709551615) : anc m = m / 2 ^ (Lib.ctz 64 (18446744073709551615 - m) + 1) := by
  have := anc_shift 64 m (by simpa using h)
  unfold Lib.ctz
  rw [if_neg (by omega)]
  simpa using this

/-- where a way stands -/
def WayAt (n : Nat) (t : Nat → Bool) (m : Nat) : Prop :=
  1 ≤ m ∧ ∃ pre post : List Nat, inord n 0 = pre ++ inord n (m - 1) ++ post ∧ (∀ x ∈ pre, t x = true) ∧ (∀ x ∈ post, t x = false) ∧ post.head? = (if anc m = 0 then none else some (anc m - 1))
theorem WayAt.start (n : Nat) (t : Nat → Bool) : WayAt n t 1 := by
  refine ⟨Nat.le_refl _, [], [], by simp, by simp, by simp, ?_⟩
  have : anc 1 = 0 := by have := anc_le 1; omega
  rw [this]
  rfl
theorem WayAt.step {n : Nat} {t : Nat → Bool} {m : Nat} (hp : (inord n 0).Pairwise (fun a b => t b = true → t a = true)) (h : WayAt n t m) (hm : m ≤ n) : WayAt n t (2 * m + (if t (m - 1) then 1 else 0)) := by
  obtain ⟨h1, pre, post, he, hpre, hpost, hh⟩ := h
  have hin := inord_in (show m - 1 < n by omega)
  rw [hin] at he
  rw [he] at hp
  cases ht : t (m - 1)
  · refine ⟨by omega, pre, (m - 1) :: inord n (2 * (m - 1) + 2) ++ post, ?_, hpre, ?_, ?_⟩
    · rw [he, show 2 * m + (if false = true then 1 else 0) - 1 = 2 * (m - 1) + 1 by simp; omega]; simp
    · intro x hx
      rcases List.mem_append.1 hx with hx | hx
      · rcases List.mem_cons.1 hx with rfl | hx
        · exact ht
        · have h3 := (List.pairwise_append.1 hp).1
          have h4 := (List.pairwise_append.1 h3).2.1
          have h5 := (List.pairwise_append.1 h4).2.1
          have h6 := (List.pairwise_cons.1 h5).1 x hx
          cases htx : t x
          · rfl
          · have := h6 htx; rw [ht] at this; cases this
      · exact hpost x hx
    · rw [show 2 * m + (if false = true then 1 else 0) = 2 * m from rfl, anc_left, if_neg (by omega)]; rfl
  · rw [if_pos rfl]
    refine ⟨by omega, pre ++ inord n (2 * (m - 1) + 1) ++ [m - 1], post, ?_, ?_, hpost, ?_⟩
    · rw [he, show 2 * m + 1 - 1 = 2 * (m - 1) + 2 by omega]; simp
    · intro x hx
      rcases List.mem_append.1 hx with hx | hx
      · rcases List.mem_append.1 hx with hx | hx
        · exact hpre x hx
        · have h3 := (List.pairwise_append.1 hp).1
          have h4 := (List.pairwise_append.1 h3).2.1
          exact (List.pairwise_append.1 h4).2.2 x hx (m - 1) (by simp) ht
      · obtain rfl : x = m - 1 := by simpa using hx
        exact ht
    · rw [anc_right]; exact hh
theorem WayAt.done {n : Nat} {t : Nat → Bool} {m : Nat} (h : WayAt n t m) (hm : ¬ m ≤ n) : (inord n 0)[(inord n 0).countP t]? = (if anc m = 0 then none else some (anc m - 1)) := by
  obtain ⟨h1, pre, post, he, hpre, hpost, hh⟩ := h
  rw [inord_out (show ¬ m - 1 < n by omega), List.append_nil] at he
  have hc : (inord n 0).countP t = pre.length := by
    rw [he, List.countP_append, List.countP_eq_length.2 hpre, List.countP_eq_zero.2 (fun x hx => by rw [hpost x hx]; simp)]
    omega
  rw [hc, he, List.getElem?_append_right (Nat.le_refl _), Nat.sub_self, ← hh]
  cases post <;> rfl
theorem WayAt.lt {n : Nat} {t : Nat → Bool} {m : Nat} (h : WayAt n t m) (hm : ¬ m ≤ n) (h0 : anc m ≠ 0) : anc m - 1 < n := by
  have := h.done hm
  rw [if_neg h0] at this
  exact inord_lt (List.mem_of_getElem? this)
end Go.Proofs.YtolclahkfmplfaaGreatDoor

/- Contracts: whether a run may be, its sorted entries, and the place of Lower. -/
namespace Go.Proofs.YtolclahkfmplfaaGreatDoor
open Go Go.RowKit
set_option maxRecDepth 100000

/-- the error of a run -/
def chkE (l : List Ent) : Int := if fairE l ≠ 0 then fairE l else riseE (inL l)
theorem fair_len {l : List Ent} (h : fairE l = 0) : l.length ≤ 65536 := by
  unfold fairE at h
  split at h
  · cases h
  · omega
theorem chk_ok {l : List Ent} (h : chkE l = 0) : fairE l = 0 ∧ rises ((inL l).map Ent.key) = true ∧ l.length ≤ 65536 := by
  unfold chkE at h
  split at h
  · exact absurd h (by assumption)
  · rename_i hf
    have hf : fairE l = 0 := by omega
    refine ⟨hf, ?_, fair_len hf⟩
    unfold riseE at h
    split at h
    · assumption
    · cases h

set_option maxHeartbeats 1000000 in
theorem check_any (A : Option Addr) (l : List Ent) (c : Nat) (w : World) (hA : Sl w A (l.flatMap Ent.cells)) (hl : l.length ≤ 4611686018427387903) :
    Calls Tryz.prog 75 #[.agg #[.slice A l.length c]] w fun r w' => r = .returned (.int .i64 (chkE l)) ∧ Below w.heap.size w w' := by
  have hb0 : Below w.heap.size w (w.alloc (.cells #[.slice A l.length c] 49)) := (Below.refl _ _).alloc (Nat.le_refl _) _
  have bX := Blk.new w 49 #[.slice A l.length c]
  obtain ⟨E, hE⟩ : ∃ E, fairE l = E := ⟨_, rfl⟩
  by_cases h0 : E = 0
  · subst h0
    have hl2 := fair_len hE
    have hc : chkE l = riseE (inL l) := by unfold chkE; rw [if_neg (by omega)]
    rw [hc]
    have HE := Lib.hid hE
    have HL := Lib.hid (inL_length l)
    clear hE hc
    go_enter Tryz.func75, Tryz.ntmps75
    go_wp2_with fail
    refine (fair_any A l c _ (hA.below hb0) hl).mono ?_
    rw [HE.out]
    rintro e w1 ⟨rfl, hb1⟩
    have hb01 := bext hb0 hb1
    have c0 : w1.cell? ⟨w.heap.size, 0, none⟩ = some (.slice A l.length c) := (bX.below hb1 bX.lt).cell 0
    clear bX hb1
    go_wp2_with fail
    refine (sorted_any A l c _ (hA.below hb01) hl2).mono ?_
    rintro e w2 ⟨A2, c2, rfl, ho2, hb2⟩
    have hb02 := bext hb01 hb2
    have hs2 := Lib.hid (own_sl ho2)
    clear ho2 c0
    go_wp2_with fail
    rw [← HL.out]
    refine (rising_any A2 (inL l) c2 _ hs2.out (by rw [HL.out]; omega)).mono ?_
    rintro e w3 ⟨rfl, hb3⟩
    go_wp2
    go_ret
    exact ⟨rfl, bext hb02 hb3⟩
  · have hc : chkE l = E := by unfold chkE; rw [hE, if_pos h0]
    rw [hc]
    have HE := Lib.hid hE
    clear hE hc
    go_enter Tryz.func75, Tryz.ntmps75
    go_wp2_with fail
    refine (fair_any A l c _ (hA.below hb0) hl).mono ?_
    rw [HE.out]
    rintro e w1 ⟨rfl, hb1⟩
    go_wp2
    go_ret
    exact ⟨rfl, bext hb0 hb1⟩

/-- hands back entries in new memory, and an error -/
def GivesEnts (m : List Ent) (e : Int) (w : World) (r : Ending) (w' : World) : Prop :=
  ∃ A c, r = .returned (.tuple #[.slice A m.length c, .int .i64 e]) ∧ w'.ownsRow w.heap.size 46 3 (.slice A m.length c) m.length (m.flatMap Ent.cells) ∧ Below w.heap.size w w'
def sortL (l : List Ent) : List Ent := if chkE l = 0 then inL l else []
set_option maxHeartbeats 1000000 in
theorem sortedE_any (A : Option Addr) (l : List Ent) (c : Nat) (w : World) (hA : Sl w A (l.flatMap Ent.cells)) (hl : l.length ≤ 4611686018427387903) :
    Calls Tryz.prog 70 #[.agg #[.slice A l.length c]] w (GivesEnts (sortL l) (chkE l) w) := by
  have hb0 : Below w.heap.size w (w.alloc (.cells #[.slice A l.length c] 49)) := (Below.refl _ _).alloc (Nat.le_refl _) _
  have bX := Blk.new w 49 #[.slice A l.length c]
  obtain ⟨E, hE⟩ : ∃ E, chkE l = E := ⟨_, rfl⟩
  by_cases h0 : E = 0
  · subst h0
    have hl2 := (chk_ok hE).2.2
    have hS : sortL l = inL l := by unfold sortL; rw [if_pos hE]
    rw [hS, hE]
    have HE := Lib.hid hE
    have HL := Lib.hid (inL_length l)
    clear hE hS
    go_enter Tryz.func70, Tryz.ntmps70
    go_wp2_with fail
    refine (check_any A l c _ (hA.below hb0) hl).mono ?_
    rw [HE.out]
    rintro e w1 ⟨rfl, hb1⟩
    have hb01 := bext hb0 hb1
    have c0 : w1.cell? ⟨w.heap.size, 0, none⟩ = some (.slice A l.length c) := (bX.below hb1 bX.lt).cell 0
    clear bX hb1
    go_wp2_with fail
    refine (sorted_any A l c _ (hA.below hb01) hl2).mono ?_
    rintro e w2 ⟨A2, c2, rfl, ho2, hb2⟩
    have ho2 := Lib.hid (own_mono ho2 hb01.size)
    go_wp2
    refine bodyPost_ret (v := .tuple #[.slice A2 l.length c2, .int .i64 0]) (by simp [results, Tryz.results70, go_sem]) rfl ?_
    exact ⟨A2, c2, by rw [HL.out], by rw [HL.out]; exact ho2.out, bext hb01 hb2⟩
  · have hS : sortL l = [] := by unfold sortL; rw [if_neg (by omega)]
    rw [hS, hE]
    have HE := Lib.hid hE
    clear hE hS
    go_enter Tryz.func70, Tryz.ntmps70
    go_wp2_with fail
    refine (check_any A l c _ (hA.below hb0) hl).mono ?_
    rw [HE.out]
    rintro e w1 ⟨rfl, hb1⟩
    go_wp2
    refine bodyPost_ret (v := .tuple #[.slice none 0 0, .int .i64 E]) (by simp [results, Tryz.results70, go_sem]) rfl ?_
    exact ⟨none, 0, rfl, World.ownsRow_nil _ _ _ _, bext hb0 hb1⟩

/-! ### math/bits.TrailingZeros, with its table in its variable -/
theorem tab_below {g : Nat} {w w' : World} (hg : g < w.heap.size) (h : TabAt g Lib.deBruijn64tab w) (hb : Below w.heap.size w w') : TabAt g Lib.deBruijn64tab w' := fun j hj => (hb.cell (p := ⟨g, j, none⟩) hg).trans (h j hj)
theorem tab_lt {g : Nat} {w : World} (h : TabAt g Lib.deBruijn64tab w) : g < w.heap.size := by
  have h0 := h 0 (by decide)
  exact Nat.lt_of_not_le fun hle => by
    have : w.cell? ⟨g, 0, none⟩ = none := by simp [World.cell?, Array.getElem?_eq_none hle]
    rw [this] at h0; cases h0
set_option maxHeartbeats 1000000 in
theorem tz64_core (x k idx : Nat) (w : World) (hx0 : ((x : Int) == 0) = false)
    (key : IntKind.u64.wrap (bits BinOp.and IntKind.u64 (x : Int) (IntKind.u64.wrap (-(x : Int))) * 285870213051353865) / 288230376151711744 = (idx : Int))
    (hi : idx < 64) (hk : k < 64) (hcell : w.cell? ⟨1, idx, none⟩ = some (.int .u8 k)) :
    Calls Tryz.prog 98 #[.int .u64 x] w fun e w' => e = .returned (.int .i64 k) ∧ w' = w := by
  go_enter Tryz.func98, Tryz.ntmps98
  go_wp2_with (simp only [key])
  go_ret
  exact ⟨rfl, rfl⟩
theorem tz_any (x : Nat) (w : World) (hx0 : x ≠ 0) (hx : x < 18446744073709551616) (hT : TabAt 1 Lib.deBruijn64tab w) :
    Calls Tryz.prog 78 #[.int .u64 x] w fun e w' => e = .returned (.int .i64 (Lib.ctz 64 x)) ∧ w' = w := by
  obtain ⟨hlow, hk⟩ := Lib.lowest_bit 64 x hx0 hx
  obtain ⟨hi, htab⟩ := Lib.deBruijn64_at _ hk
  have hcell := hT _ hi
  rw [htab] at hcell
  have h := tz64_core x _ _ w (by simp; omega) (tz64_key x _ hx hx0 hlow) hi hk hcell
  go_enter Tryz.func78, Tryz.ntmps78
  go_wp2_with fail
  refine h.mono ?_
  rintro e w1 ⟨rfl, rfl⟩
  go_wp2
  go_ret
  exact ⟨rfl, rfl⟩
end Go.Proofs.YtolclahkfmplfaaGreatDoor
