/- Kn Run1 Ko: texts of the claim, in this order. -/
import Derived.Test.YtolclahkfmplfaaDoorWk4
import Derived.Test.YtolclahkfmplfaaDoorWk2
import Derived.Test.YtolclahkfmplfaaDoorWk3
/- Contract of kway.merged: what runs have, in order. -/
namespace Go.Proofs.YtolclahkfmplfaaDoor
open Go Go.RowKit
set_option maxRecDepth 100000

theorem head_info : (Tryd.prog.info? 50).map (fun i => (i.zero, i.size, i.bytes)) = some (some (.agg #[.slice none 0 0, .int .i64 0]), 2, 32) := by kernel_rfl

/-- a run in memory -/
structure Rm where
  l : List Ent
  A : Option Addr
  c : Nat
def Rm.v (r : Rm) : Value := .slice r.A r.l.length r.c
structure Rm.Ok (w : World) (r : Rm) : Prop where
  sl : Sl w r.A (r.l.flatMap Ent.cells)
  lc : r.l.length ≤ r.c
  c : r.c ≤ maxLen
def hd1 (i : Nat) (r : Rm) : List Hm := match r.l with | [] => [] | e :: l => [⟨⟨e, l, i⟩, r.A, r.l.length, r.c⟩]
def headsM : Nat → List Rm → List Hm
  | _, [] => []
  | i, r :: rs => hd1 i r ++ headsM (i + 1) rs
theorem headsM_append : ∀ (rs qs : List Rm) (i : Nat), headsM i (rs ++ qs) = headsM i rs ++ headsM (i + rs.length) qs
  | [], qs, i => rfl
  | r :: rs, qs, i => by rw [List.cons_append, headsM, headsM, headsM_append rs qs (i + 1), List.append_assoc]; congr 3; simp; omega
theorem headsM_map : ∀ (rs : List Rm) (i : Nat), (headsM i rs).map Hm.h = headsE i (rs.map Rm.l)
  | [], i => rfl
  | r :: rs, i => by
    rw [headsM, List.map_append, headsM_map rs (i + 1), List.map_cons]
    unfold hd1
    cases h : r.l with
    | nil => rfl
    | cons e l => rfl
theorem headsM_sum : ∀ (rs : List Rm) (i : Nat), ((headsM i rs).map Hm.n).sum = (rs.map (fun r => r.l.length)).sum
  | [], i => rfl
  | r :: rs, i => by
    rw [headsM, List.map_append, List.sum_append, headsM_sum rs (i + 1), List.map_cons, List.sum_cons]
    congr 1
    unfold hd1
    cases h : r.l with
    | nil => rfl
    | cons e l => simp
theorem headsM_len : ∀ (rs : List Rm) (i : Nat), (headsM i rs).length ≤ rs.length
  | [], i => Nat.le_refl _
  | r :: rs, i => by
    rw [headsM, List.length_append, List.length_cons]
    have := headsM_len rs (i + 1)
    have : (hd1 i r).length ≤ 1 := by unfold hd1; split <;> simp
    omega
theorem headsM_ok {w : World} : ∀ {rs : List Rm} {i : Nat}, (∀ r ∈ rs, r.Ok w) → ∀ m ∈ headsM i rs, m.Ok w
  | [], i, _, m, hm => by simp [headsM] at hm
  | r :: rs, i, h, m, hm => by
    rw [headsM] at hm
    rcases List.mem_append.1 hm with hm | hm
    · have hr := h r (by simp)
      unfold hd1 at hm
      split at hm
      · simp at hm
      · rename_i e l he
        obtain rfl : m = _ := by simpa using hm
        refine ⟨?_, ?_, hr.lc, hr.c⟩
        · have := hr.sl; rw [he] at this; exact this
        · show r.l.length = _
          rw [he]; rfl
    · exact headsM_ok (fun q hq => h q (by simp [hq])) m hm
/-- what of a world tells how much is left -/
def lenAt (w : World) (g i : Nat) : Nat := match w.cell? ⟨g, i * 2, none⟩ with | some (.slice _ n _) => n | _ => 0
def wtAt (w : World) (p : Nat) : Nat := match w.cell? ⟨p, 0, none⟩ with | some (.slice (some a) n _) => ((List.range n).map (lenAt w a.block)).sum | _ => 0
theorem wt_of {w : World} {p g c : Nat} {Hs : List Hm} {F : Value} {t : TypeId} (hp : Blk w p t #[.slice (some ⟨g, 0, none⟩) Hs.length c, F]) (hg : HeadsAt w g Hs) : wtAt w p = (Hs.map Hm.n).sum := by
  have h0 : w.cell? ⟨p, 0, none⟩ = some (.slice (some ⟨g, 0, none⟩) Hs.length c) := hp.cell 0
  unfold wtAt
  rw [h0]
  show ((List.range Hs.length).map (lenAt w g)).sum = _
  congr 1
  refine List.ext_getElem (by simp) fun i h1 h2 => ?_
  rw [List.getElem_map, List.getElem_range, List.getElem_map]
  unfold lenAt
  rw [(hg.cells i (by simpa using h2)).1]

theorem HeadsAt.put0 {w : World} {g : Nat} {m m' : Hm} {Hs : List Hm} (h : HeadsAt w g (m :: Hs)) (ha : m'.h.age = m.h.age) : HeadsAt (w.setCell ⟨g, 0, none⟩ (.slice m'.A m'.n m'.c)) g (m' :: Hs) := by
  obtain ⟨cur, hb, ht, hs⟩ := h
  refine ⟨_, hb.set_ 0 _, ?_, by simpa using hs⟩
  rw [Array.toList_setIfInBounds, List.take_set]
  rw [show (m' :: Hs).length = (m :: Hs).length from rfl, ht]
  simp [Hm.cells, ha]

/-- what stands in memory while the second loop goes on -/
structure Kmid (w0 : World) (p g c S : Nat) (out : List Ent) (Hs : List Hm) (A' : Option Addr) (c' : Nat) (wr : World) : Prop where
  own : wr.ownsRow S 29 3 (.slice A' out.length c') out.length (out.flatMap Ent.cells)
  pile : Blk wr p 54 #[.slice (some ⟨g, 0, none⟩) Hs.length c, lessV]
  heads : HeadsAt wr g Hs
  frame : Below w0.heap.size w0 wr
  size : S ≤ wr.heap.size
/-- and what is so at the head of its round -/
structure Kst (w0 : World) (p g c S T : Nat) (rs : List (List Ent)) (out : List Ent) (Hs : List Hm) (A' : Option Addr) (c' : Nat) (wr : World) : Prop where
  mid : Kmid w0 p g c S out Hs A' c' wr
  heap : HeapFrom (Hs.map Hm.h) 0
  inv : MInv rs out (Hs.map Hm.h)
  ok : ∀ m ∈ Hs, m.Ok w0
  tot : out.length + (Hs.map Hm.n).sum ≤ T
  hc : Hs.length ≤ c
  hl : Hs.length ≤ 1099511627776

section
variable {w0 wr wc W : World} {p g c S T c' q2 : Nat} {rs : List (List Ent)} {out : List Ent} {m m' : Hm} {Hs : List Hm} {A' A2 : Option Addr}
theorem Kmid.own_set (h : Kmid w0 p g c S out Hs A2 q2 wc) (hg : g < S) (v : Value) : (wc.setCell ⟨g, 0, none⟩ v).ownsRow S 29 3 (.slice A2 out.length q2) out.length (out.flatMap Ent.cells) :=
  own_far h.own (fun e => by have := (h.own.lt _ e).1; dsimp only at this; omega) v
theorem own_mod {Sx : Nat → Prop} {w w' : World} {B s n : Nat} {e : TypeId} {v : Value} {xs : List Value} (h : w.ownsRow B e s v n xs) (hm : Mod Sx w w') (hn : ∀ k, B ≤ k → ¬ Sx k) : w'.ownsRow B e s v n xs := by
  refine ⟨h.1, ?_⟩
  rcases h.2 with h2 | ⟨g, cap, cur, hv, hg, hh, r⟩
  · exact .inl h2
  · exact .inr ⟨g, cap, cur, hv, hg, (hm.block g (Array.getElem?_eq_some_iff.1 hh).1 (hn g hg)).trans hh, r⟩
theorem kst_top (hK : Kst w0 p g c S T rs out (m :: Hs) A' c' wr) : ∀ x ∈ Hs.map Hm.h, hle m.h x := by
  intro x hx
  obtain ⟨i, hi, rfl⟩ := List.getElem_of_mem hx
  have := heap_top hK.heap (i + 1) (by simpa using hi)
  simpa using this
theorem kst_len (_hr : ∀ r ∈ rs, RisE r) (_hK : Kst w0 p g c S T rs out (m :: Hs) A' c' wr) : (outOf out m.h.e).length ≤ out.length + 1 := by
  unfold outOf; split <;> simp
theorem kst_pop (hr : ∀ r ∈ rs, RisE r) (hK : Kst w0 p g c S T rs out (m :: Hs) A' c' wr) (hrest : m.h.rest = []) (hK2 : Kmid w0 p g c S (outOf out m.h.e) (m :: Hs) A2 q2 wc) (hpg : p ≠ g) (hpS : p < S) (hgS : g < S) (hg0 : w0.heap.size ≤ g) (hp0 : w0.heap.size ≤ p)
    (hh : m'.h = m.h) (hW : wc.setCell ⟨g, 0, none⟩ (.slice m'.A m'.n m'.c) = W) :
    Blk W p 54 #[.slice (some ⟨g, 0, none⟩) (Hs.length + 1) c, lessV] ∧ HeadsAt W g (m' :: Hs) ∧ (∀ x ∈ (m' :: Hs).drop 1, x.Ok w0) ∧ Below w0.heap.size w0 W ∧ HeapFrom ((m' :: Hs).map Hm.h) 0 ∧
      ∀ r w', Popped p g c (m' :: Hs) W r w' → (∃ v, r = .returned v) ∧ ∃ Hs', Kst w0 p g c S T rs (outOf out m.h.e) Hs' A2 q2 w' ∧ (Hs'.map Hm.n).sum < ((m :: Hs).map Hm.n).sum := by
  have hWb : Below w0.heap.size w0 W := by rw [← hW]; exact hK2.frame.setCell (p := ⟨g, 0, none⟩) hg0 _
  have hWo := hK2.own_set hgS (.slice m'.A m'.n m'.c)
  rw [hW] at hWo
  have hWs : S ≤ W.heap.size := by rw [← hW]; simpa [World.setCell] using hK2.size
  have hmn : 1 ≤ m.n := by have := (hK.ok m (by simp)).n; omega
  refine ⟨?_, ?_, fun x hx => hK.ok x (by simp at hx; simp [hx]), hWb, ?_, ?_⟩
  · rw [← hW]; exact hK2.pile.far (p := ⟨g, 0, none⟩) hpg _
  · rw [← hW]; exact hK2.heads.put0 (by rw [hh])
  · have := hK.heap
    rw [List.map_cons] at this ⊢
    rw [hh]; exact this
  · rintro r w' ⟨hv, Hs', hp', hh', hH', hpb, hm'⟩
    have hp1 : Hs'.Perm Hs := by simpa using hp'
    have hbw : Below w0.heap.size w0 w' := hWb.trans (hm'.below hWb.size (by intro k h; omega))
    refine ⟨hv, Hs', ⟨⟨own_mod hWo hm' (by intro k hk h; omega), ?_, hH', hbw, Nat.le_trans hWs hm'.size⟩, hh', ?_, fun x hx => hK.ok x (by simp [hp1.mem_iff.1 hx]), ?_, ?_, ?_⟩, ?_⟩
    · rw [hp1.length_eq]; simpa using hpb
    · have h1 := hK.inv
      rw [List.map_cons] at h1
      have h2 := h1.step hr (kst_top hK)
      have h3 : nextHd m.h = [] := by unfold nextHd; rw [hrest]
      rw [h3, List.nil_append] at h2
      exact h2.perm (hp1.map Hm.h)
    · have h1 := hK.tot
      have h2 := (hp1.map Hm.n).sum_nat
      have h3 := kst_len hr hK
      simp at h1
      omega
    · have := hK.hc; rw [hp1.length_eq]; simp at this; omega
    · have := hK.hl; rw [hp1.length_eq]; simp at this; omega
    · have h2 := (hp1.map Hm.n).sum_nat
      simp
      omega
theorem kst_down {e2 : Ent} {l2 : List Ent} (hr : ∀ r ∈ rs, RisE r) (hK : Kst w0 p g c S T rs out (m :: Hs) A' c' wr) (hrest : m.h.rest = e2 :: l2) (hK2 : Kmid w0 p g c S (outOf out m.h.e) (m :: Hs) A2 q2 wc) (hpg : p ≠ g) (_hpS : p < S) (hgS : g < S) (hg0 : w0.heap.size ≤ g) (_hp0 : w0.heap.size ≤ p)
    (hh : m'.h = ⟨e2, l2, m.h.age⟩) (hmok : m'.Ok w0) (hmn : m'.n + 1 = m.n) (hW : wc.setCell ⟨g, 0, none⟩ (.slice m'.A m'.n m'.c) = W) :
    Blk W p 54 #[.slice (some ⟨g, 0, none⟩) (Hs.length + 1) c, lessV] ∧ HeadsAt W g (m' :: Hs) ∧ (∀ x ∈ m' :: Hs, x.Ok w0) ∧ Below w0.heap.size w0 W ∧ Sinks ((m' :: Hs).map Hm.h) 0 0 ∧
      ∀ r w', Sunk p g (m' :: Hs) 0 W r w' → (∃ v, r = .returned v) ∧ ∃ Hs', Kst w0 p g c S T rs (outOf out m.h.e) Hs' A2 q2 w' ∧ (Hs'.map Hm.n).sum < ((m :: Hs).map Hm.n).sum := by
  have hWb : Below w0.heap.size w0 W := by rw [← hW]; exact hK2.frame.setCell (p := ⟨g, 0, none⟩) hg0 _
  have hWo := hK2.own_set hgS (.slice m'.A m'.n m'.c)
  rw [hW] at hWo
  have hWs : S ≤ W.heap.size := by rw [← hW]; simpa [World.setCell] using hK2.size
  have hWp : Blk W p 54 #[.slice (some ⟨g, 0, none⟩) (Hs.length + 1) c, lessV] := by rw [← hW]; exact hK2.pile.far (p := ⟨g, 0, none⟩) hpg _
  have hokA : ∀ x ∈ m' :: Hs, x.Ok w0 := by
    intro x hx
    rcases List.mem_cons.1 hx with rfl | hx
    · exact hmok
    · exact hK.ok x (by simp [hx])
  refine ⟨hWp, ?_, hokA, hWb, ?_, ?_⟩
  · rw [← hW]; exact hK2.heads.put0 (by rw [hh])
  · refine Sinks.start ?_
    intro j ci hci hj h1 hcc
    obtain ⟨j, rfl⟩ : ∃ k, j = k + 1 := ⟨j - 1, by omega⟩
    obtain ⟨ci, rfl⟩ : ∃ k, ci = k + 1 := ⟨ci - 1, by omega⟩
    have := hK.heap (j + 1) (ci + 1) (by simpa using hci) hj (by omega) hcc
    simpa using this
  · rintro r w' ⟨hv, Hs', hp', hh', hH', hm'⟩
    have hbw : Below w0.heap.size w0 w' := hWb.trans (hm'.below hWb.size (by intro k h; omega))
    have hsum := (hp'.map Hm.n).sum_nat
    have hlen := hp'.length_eq
    simp at hsum hlen
    refine ⟨hv, Hs', ⟨⟨own_mod hWo hm' (by intro k hk h; omega), by rw [hlen]; exact hWp.mod hm' hpg, hH', hbw, Nat.le_trans hWs hm'.size⟩, hh', ?_, fun x hx => hokA x (hp'.mem_iff.1 hx), ?_, ?_, ?_⟩, ?_⟩
    · have h1 := hK.inv
      rw [List.map_cons] at h1
      have h2 := h1.step hr (kst_top hK)
      have h3 : nextHd m.h = [⟨e2, l2, m.h.age⟩] := by unfold nextHd; rw [hrest]
      rw [h3] at h2
      refine h2.perm ?_
      have := hp'.map Hm.h
      rw [List.map_cons, hh] at this
      exact this
    · have h1 := hK.tot
      have h3 := kst_len hr hK
      simp at h1
      omega
    · have := hK.hc; simp at this; omega
    · have := hK.hl; simp at this; omega
    · simp
      omega
end

set_option maxHeartbeats 2000000 in
theorem merged_any (w : World) (B : Option Addr) (Rs : List Rm) (cb T : Nat) (hB : Sl w B (Rs.map Rm.v)) (hok : ∀ r ∈ Rs, r.Ok w) (hris : ∀ r ∈ Rs, RisE r.l)
    (hRl : Rs.length ≤ 1099511627775) (hT : (Rs.map (fun r => r.l.length)).sum ≤ T) (hT2 : T ≤ 1099511627776) :
    Calls Tryd.prog 11 #[.slice B Rs.length cb] w (GivesOwn 29 3 (allE (Rs.map Rm.l)).length ((allE (Rs.map Rm.l)).flatMap Ent.cells) w) := by
  obtain ⟨th0, hI1⟩ := info_parts head_info
  obtain ⟨te0, hI2⟩ := info_parts ent_info
  have HI1 := Lib.hid hI1
  have HI2 := Lib.hid hI2
  clear hI1 hI2
  have hx0 := Blk.new w 54 #[.slice none 0 0, lessV]
  obtain ⟨W, hW⟩ : ∃ W, w.alloc (.cells #[.slice none 0 0, lessV] 54) = W := ⟨_, rfl⟩
  have hbW : Below w.heap.size w W := by rw [← hW]; exact (Below.refl _ _).alloc (Nat.le_refl _) _
  have hsW : W.heap.size = w.heap.size + 1 := by rw [← hW]; simp
  rw [hW] at hx0
  go_enter Tryd.func11, Tryd.ntmps11
  go_wp2_with fail
  go_step3
  go_wp2
  try rw [hW]
  go_loopw [12] (fun v wr => ∃ (k : Nat) (v1 : Value), k ≤ Rs.length ∧ v = .int .i64 k ∧ Below w.heap.size w wr ∧ W.heap.size ≤ wr.heap.size ∧
      Blk wr w.heap.size 54 #[v1, lessV] ∧ wr.ownsRow W.heap.size 50 2 v1 (headsM 0 (Rs.take k)).length ((headsM 0 (Rs.take k)).flatMap Hm.cells) ∧
      Hid (headsM 0 (Rs.take k) = [] → v1 = .slice none 0 0)) (fun v _ => Rs.length - (intOf v).toNat)
  case atStart => exact ⟨0, _, Nat.zero_le _, rfl, hbW, Nat.le_refl _, hx0, World.ownsRow_nil _ _ _ _, fun _ => rfl⟩
  case round =>
    obtain ⟨k, v1, hk, rfl, hb, hsz, hx, hown, hnil⟩ := hrel
    clear hW hx0
    by_cases hlt : k < Rs.length
    · obtain ⟨b1, o1, rfl, hb1l, cp⟩ := hB.oneB hb k hlt
      obtain ⟨r, hr⟩ : ∃ r, Rs[k]'hlt = r := ⟨_, rfl⟩
      have hrok := hok _ (List.getElem_mem hlt)
      rw [hr] at cp hrok
      have k0 : (0 : Int) ≤ (k : Int) := by omega
      have k1 : (k : Int) < (Rs.length : Int) := by omega
      have htk : headsM 0 (Rs.take (k + 1)) = headsM 0 (Rs.take k) ++ hd1 k r := by
        rw [List.take_succ_eq_append_getElem hlt, headsM_append, hr, Nat.zero_add, List.length_take, Nat.min_eq_left (by omega)]
        simp [headsM]
      obtain ⟨l, A, c⟩ := r
      have HTK := Lib.hid htk
      clear htk hr
      have cp1 : wr.cell? ⟨b1, o1 + k, none⟩ = some (.slice A l.length c) := cp
      clear cp
      cases l with
      | nil =>
        go_wp2_with fail
        go_roundw
        case rel =>
          refine ⟨k + 1, v1, by omega, by go_num, hb, hsz, hx, ?_, ?_⟩
          · rw [HTK.out]; simpa [hd1] using hown
          · rw [HTK.out]; simpa [hd1] using hnil
        case measure => simp [intOf]; omega
      | cons e l =>
        have hne : ∀ q, v1.ownBlock = some q → w.heap.size < q := fun q hq => by have := (hown.lt q hq).1; omega
        have hxl := hx.lt
        have c0 : wr.cell? ⟨w.heap.size, 0, none⟩ = some v1 := hx.cell 0
        have l0 : (0 : Int) < ((l.length : Int) + 1) := by omega
        obtain ⟨n, hn⟩ : ∃ n, n = (headsM 0 (Rs.take k)).length := ⟨_, rfl⟩
        have hn2 : n ≤ k := by rw [hn]; have := headsM_len (Rs.take k) 0; simp at this; omega
        rw [← hn] at hown
        have HN := Lib.hid hn
        have HNE := Lib.hid hne
        have HX := Lib.hid hx
        have HO := Lib.hid hown
        have HBW := Lib.hid hbW
        have ca : (wr.alloc (.cells #[.slice A (l.length + 1) c, .int .i64 (k : Nat)] 50)).cell? ⟨w.heap.size, 0, none⟩ = some v1 := alloc_cell c0 _
        clear hn hne hx hown hbW hnil
        go_wp2_with (at_builtin; refine wpList_append_sl _ rfl (.tmp 24) (.tmp 28) _ rfl W.heap.size 50 th0 _ 2 32 Tryd.underlying52 HI1.out.1 HI1.out.2.1 HI1.out.2.2.1 HI1.out.2.2.2 rfl (by omega) v1 n _ rfl (HO.out.alloc _) _ 1 _ [.slice A (l.length + 1) c, .int .i64 (k : Nat)] rfl (by exact sl_new1 _ _ _) rfl (by simp [Value.oneCell']) (by unfold maxLen; omega) (by omega) (by simp; omega) ?_; intro v2 w2 hown2 hg2; have hx2 : Blk w2 w.heap.size 54 #[v1, lessV] := (HX.out.alloc _).of (hg2.block _ (by simp; omega) (fun e => by have := HNE.out _ e.symm; omega)); have e0 : w2.cell? ⟨w.heap.size, 0, none⟩ = some v1 := hx2.cell 0; have e1 := hx2.frozen 0; have HX2 := Lib.hid hx2; clear hx2; obtain ⟨A2, q2, rfl, hle2, hmx2⟩ := own_form hown2; have HO2 := Lib.hid hown2; clear hown2)
        go_roundw
        case rel =>
          have hgb : Below w.heap.size w w2 := (hb.alloc (by omega) _).grown hg2 (by simp; omega) (fun q hq => by have := HNE.out q hq; omega)
          refine ⟨k + 1, .slice A2 (n + 1) q2, by omega, by go_num, hgb.setCell (p := ⟨w.heap.size, 0, none⟩) (Nat.le_refl _) _, by have := hg2.size; simp at this; simp [World.setCell]; omega, HX2.out.set_ 0 _, ?_, ?_⟩
          · rw [HTK.out, List.length_append, List.flatMap_append, ← HN.out]
            refine own_far (by simpa [hd1, Hm.cells] using HO2.out) ?_ _
            intro e
            have := (HO2.out.lt _ e).1
            dsimp only at this
            omega
          · show _ → _
            intro h
            rw [HTK.out] at h
            simp [hd1] at h
        case measure => simp [intOf]; omega
    · have hkn : k = Rs.length := by omega
      subst hkn
      rw [List.take_of_length_le (Nat.le_refl _)] at hown hnil
      obtain ⟨Hs, hHs⟩ : ∃ Hs, headsM 0 Rs = Hs := ⟨_, rfl⟩
      rw [hHs] at hown hnil
      have hI0 : MInv (Rs.map Rm.l) [] (Hs.map Hm.h) := by rw [← hHs, headsM_map]; exact MInv.start _
      have hHok : ∀ m ∈ Hs, m.Ok w := by rw [← hHs]; exact headsM_ok hok
      have hHsum : (Hs.map Hm.n).sum ≤ T := by rw [← hHs, headsM_sum]; exact hT
      have hHlen : Hs.length ≤ 1099511627776 := by rw [← hHs]; have := headsM_len Rs 0; omega
      have hR : ∀ r ∈ Rs.map Rm.l, RisE r := by intro r hr; obtain ⟨q, hq, rfl⟩ := List.mem_map.1 hr; exact hris q hq
      have HI0 := Lib.hid hI0
      have HOK := Lib.hid hHok
      have HR := Lib.hid hR
      have HXX := Lib.hid hx
      have hxl := hx.lt
      have hbs := Lib.hid hb
      clear hI0 hHok hR hok hris hT hB hHs hbW hx hb
      cases Hs with
      | nil =>
        obtain rfl := hnil.out rfl
        have hall : allE (Rs.map Rm.l) = [] := (HI0.out.done HR.out).symm
        have c0 : wr.cell? ⟨w.heap.size, 0, none⟩ = some (.slice none 0 0) := HXX.out.cell 0
        have HALL := Lib.hid hall
        clear hall hown hHsum hHlen
        go_wp2_with fail
        refine (settle_nil wr w.heap.size _ HXX.out).mono ?_
        rintro e w1 ⟨⟨v, rfl⟩, rfl⟩
        go_wp2
        go_step3
        go_wp2
        go_loopw [2] (fun v wr2 => v = .slice none 0 0 ∧ wr2 = w1) (fun _ _ => 0)
        case atStart => exact ⟨rfl, rfl⟩
        case round =>
          obtain ⟨rfl, rfl⟩ := hrel
          go_wp2
          go_ret
          exact ⟨none, 0, by rw [HALL.out]; rfl, by rw [HALL.out]; exact World.ownsRow_nil _ _ _ _, hbs.out⟩
      | cons m0 Hs0 =>
        obtain ⟨g, cap, cur, rfl, hgB, hgblk, hncap, hcapm, hcurs, hcurt⟩ := own_blk hown (by simp)
        have hHA : HeadsAt wr g (m0 :: Hs0) := ⟨cur, hgblk, hcurt, by rw [hcurs]; exact Nat.mul_le_mul_right _ hncap⟩
        have hpg : w.heap.size ≠ g := by omega
        clear hgblk hcurs hcurt hown
        go_wp2_with fail
        refine (settle_any w wr w.heap.size g cap _ (m0 :: Hs0) rfl hHlen HXX.out hHA hpg HOK.out hbs.out (by omega) (Nat.le_refl _)).mono ?_
        rintro e w1 ⟨⟨v, rfl⟩, Hs1, hp1, hh1, hH1, hm1⟩
        have hgl := hH1.lt
        have hb1 : Below w.heap.size w w1 := hbs.out.trans (hm1.below hbs.out.size (by intro k h; omega))
        have hl1 := hp1.length_eq
        have hK : Kst w w.heap.size g cap w1.heap.size T (Rs.map Rm.l) [] Hs1 none 0 w1 :=
          ⟨⟨World.ownsRow_nil _ _ _ _, by rw [hl1]; exact HXX.out.mod hm1 (by omega), hH1, hb1, Nat.le_refl _⟩, hh1, HI0.out.perm (hp1.map Hm.h), fun m hm => HOK.out m (hp1.mem_iff.1 hm), by
            rw [(hp1.map Hm.n).sum_nat]; simpa using hHsum, by omega, by omega⟩
        have hpl : w.heap.size < w1.heap.size := Nat.lt_of_lt_of_le hxl hm1.size
        clear hp1 hh1 hH1 hm1 hHA HI0 HOK HXX hHsum hHlen hl1 hnil
        go_wp2
        go_step3
        go_wp2
        go_loopw [2] (fun v wr2 => ∃ (out : List Ent) (Hs : List Hm) (A' : Option Addr) (c' : Nat), v = .slice A' out.length c' ∧ Hid (Kst w w.heap.size g cap w1.heap.size T (Rs.map Rm.l) out Hs A' c' wr2)) (fun _ wr2 => wtAt wr2 w.heap.size)
        case atStart => exact ⟨[], Hs1, none, 0, rfl, hK⟩
        case round =>
          clear hK
          obtain ⟨out, Hs, A', c', rfl, hK⟩ := hrel
          have c0 : wr.cell? ⟨w.heap.size, 0, none⟩ = some (.slice (some ⟨g, 0, none⟩) Hs.length cap) := hK.out.mid.pile.cell 0
          cases Hs with
          | nil =>
            have hd := hK.out.inv.done HR.out
            go_wp2
            go_ret
            have ho := own_mono (B' := w.heap.size) hK.out.mid.own (by omega)
            rw [hd] at ho
            exact ⟨A', c', by rw [hd]; rfl, ho, hK.out.mid.frame⟩
          | cons m Hs =>
            obtain ⟨a1, a2⟩ := hK.out.mid.heads.cells 0 (by simp)
            have okm := hK.out.ok m (by simp)
            obtain ⟨⟨e, rest, age⟩, A, n, c⟩ := m
            obtain ⟨b, off, hA, hbl, ek, ev, ed⟩ := okm.at0 hK.out.mid.frame
            have hnr : n = rest.length + 1 := okm.n
            have hnc : n ≤ c := okm.nc
            dsimp only at hA ek ev ed
            subst hA
            rw [Nat.zero_mul] at a1 a2
            have a1' : wr.cell? ⟨g, 0, none⟩ = some (.slice (some ⟨b, off, none⟩) n c) := a1
            have c0' : wr.cell? ⟨w.heap.size, 0, none⟩ = some (.slice (some ⟨g, 0, none⟩) (Hs.length + 1) cap) := c0
            have n0 : (0 : Int) < (Hs.length : Int) + 1 := by omega
            have n1 : (0 : Int) < (n : Int) := by omega
            have hgl2 : g < wr.heap.size := hK.out.mid.heads.lt
            have HOKM := Lib.hid okm
            clear a1 a2 c0 okm
            go_upto_region 12 with fail
            go_cut [65] from 48 to 65 (fun v wx => v = .bool (fresh out e.key) ∧ Below wr.heap.size wr wx)
            case first =>
              rcases List.eq_nil_or_concat out with hnil2 | ⟨l', z, hz⟩
              · subst hnil2
                go_quiet (fail)
                go_wp2_with fail
                go_meet
                exact ⟨by simp [fresh], bdrew (Below.refl _ _) _⟩
              · rw [List.concat_eq_append] at hz
                have hj2 : out.length = l'.length + 1 := by rw [hz]; simp
                have hol : out.length ≤ 1099511627776 := by have := hK.out.tot; omega
                obtain ⟨j, hj⟩ : ∃ j, j = l'.length := ⟨_, rfl⟩
                have hjo : j < out.length := by omega
                have hg : out[j]'hjo = z := by subst hj; subst hz; simp
                obtain ⟨b2, off2, hA2, hb2l, z1, z2, z3⟩ := (own_sl hK.out.mid.own).ent j hjo
                rw [hg] at z1
                subst hA2
                have hF : Hid (fresh out e.key = (z.key != e.key)) := by
                  show _ = _
                  rw [hz]
                  unfold fresh
                  rw [List.getLast?_append]
                  rfl
                have o0 : ((out.length : Int) == 0) = false := beq_eq_false_iff_ne.2 (by omega)
                have o1 : IntKind.i64.wrap ((out.length : Int) - 1) = (j : Int) := by
                  rw [show (out.length : Int) - 1 = (j : Int) by omega]; exact IntWalk.i64_in _ (by omega)
                have o2 : (0 : Int) ≤ (j : Int) := by omega
                have o3 : (j : Int) < (out.length : Int) := by omega
                have HZ := Lib.hid hz
                clear hz hg hj2 hj z2 z3
                go_quiet (fail)
                go_wp2_with fail
                go_meet
                exact ⟨by simp [hF.out], bdrew (Below.refl _ _) _⟩
            case rest =>
              obtain ⟨rfl, hbx⟩ := hcut
              have hmid : Kmid w w.heap.size g cap w1.heap.size out (⟨⟨e, rest, age⟩, some ⟨b, off, none⟩, n, c⟩ :: Hs) A' c' wc :=
                ⟨own_below hK.out.mid.own hbx, hK.out.mid.pile.below hbx hK.out.mid.pile.lt, hK.out.mid.heads.below hbx hgl2, bext hK.out.mid.frame hbx, Nat.le_trans hK.out.mid.size hbx.size⟩
              have HMID := Lib.hid hmid
              obtain ⟨F, hF⟩ : ∃ F, fresh out e.key = F := ⟨_, rfl⟩
              rw [hF]
              have HF := Lib.hid hF
              clear hmid hF a1' c0' ek ev ed hbx
              go_upto_if 65 with fail
              go_cut [2] from 66 to 74 (fun v wx => ∃ A2 q2, v = .slice A2 (outOf out e).length q2 ∧ Hid (Kmid w w.heap.size g cap w1.heap.size (outOf out e) (⟨⟨e, rest, age⟩, some ⟨b, off, none⟩, n, c⟩ :: Hs) A2 q2 wx))
              case first =>
                cases F
                · go_wp2_with fail
                  go_meet
                  have ho : outOf out e = out := by unfold outOf; rw [HF.out]; rfl
                  rw [ho]
                  exact ⟨A', c', by simp, HMID.out⟩
                · have ho : outOf out e = out ++ [e] := by unfold outOf; rw [HF.out]; rfl
                  have HO := Lib.hid ho
                  have hl2 : (outOf out e).length = out.length + 1 := by rw [ho]; simp
                  have HL2 := Lib.hid hl2
                  clear ho hl2
                  have hol : out.length ≤ T := by have := hK.out.tot; omega
                  have hol2 : out.length + n ≤ T := by have := hK.out.tot; simp at this; omega
                  have d0 : wc.cell? ⟨g, 0, none⟩ = some (.slice (some ⟨b, off, none⟩) n c) := (HMID.out.heads.cells 0 (by simp)).1
                  obtain ⟨b9, off9, hA9, hbl9, d1, d2, d3⟩ := HOKM.out.at0 HMID.out.frame
                  obtain ⟨rfl, rfl⟩ : b = b9 ∧ off = off9 := by simpa using hA9
                  have hsw := HMID.out.size
                  have bP := HMID.out.pile
                  have bH := HMID.out.heads
                  have hgl3 := bH.lt
                  have BP := Lib.hid bP
                  have n63 : out.length ≤ 1099511627776 := by omega
                  clear bP bH hbl9
                  go_wp2_with (at_builtin; refine wpList_append_sl _ rfl (.tmp 66) (.tmp 73) _ rfl w1.heap.size 29 te0 _ 3 24 Tryd.underlying22 HI2.out.1 HI2.out.2.1 HI2.out.2.2.1 HI2.out.2.2.2 rfl (by omega) (.slice A' out.length c') out.length _ rfl (HMID.out.own.alloc _) _ 1 _ [.int .i64 e.key, .int .i64 e.val, .bool e.dead] rfl (by exact sl_new1 _ _ _) rfl (by simp [Value.oneCell']) (by unfold maxLen; omega) (by omega) (by simp; omega) ?_; intro v2 w2 hown2 hg2; obtain ⟨A2, q2, rfl, hle2, hmx2⟩ := own_form hown2; have HO2 := Lib.hid hown2; clear hown2)
                  go_meet
                  have hne : ∀ q, q < w1.heap.size → some q ≠ (Value.slice A' out.length c').ownBlock := fun q hq e => by have := (HMID.out.own.lt q e.symm).1; omega
                  refine ⟨A2, q2, by rw [HL2.out], ?_⟩
                  refine ⟨by rw [HL2.out, HO.out, List.flatMap_append]; simpa [Ent.cells] using HO2.out, (BP.out.alloc _).of (hg2.block _ (by simp; omega) (hne _ hpl)), ?_, (HMID.out.frame.alloc (by omega) _).grown hg2 (by simp; omega) (fun q hq => by have := (HMID.out.own.lt q hq).1; omega), by have := hg2.size; simp at this; omega⟩
                  obtain ⟨cur, hc1, hc2⟩ := HMID.out.heads
                  exact ⟨cur, (hc1.alloc _).of (hg2.block _ (by simp; omega) (hne _ hgl)), hc2⟩
              case rest =>
                obtain ⟨A2, q2, rfl, hK2⟩ := hcut
                have d0 : wc.cell? ⟨g, 0, none⟩ = some (.slice (some ⟨b, off, none⟩) n c) := (hK2.out.heads.cells 0 (by simp)).1
                have d1 : wc.frozen? ⟨g, 0, none⟩ = false := hK2.out.heads.frozen 0
                have n2 : (1 : Int) ≤ (n : Int) := by omega
                cases rest with
                | nil =>
                  obtain rfl : n = 1 := by simpa using hnr
                  clear hnr
                  by_cases hc1 : c = 1
                  · subst hc1
                    go_upto_region 16 with fail
                    obtain ⟨W2, hW2⟩ : ∃ W2, wc.setCell ⟨g, 0, none⟩ (.slice (some ⟨b, off, none⟩) 0 (0)) = W2 := ⟨_, rfl⟩
                    obtain ⟨q1, q2', q3, q4, q5, q6⟩ := kst_pop (m := ⟨⟨e, [], age⟩, some ⟨b, off, none⟩, 1, 1⟩) (m' := ⟨⟨e, [], age⟩, some ⟨b, off, none⟩, 0, 0⟩) HR.out hK.out rfl hK2.out hpg hpl hgl (by omega) (Nat.le_refl _) rfl hW2
                    rw [hW2]
                    have Q1 := Lib.hid q1
                    have Q2 := Lib.hid q2'
                    have Q6 := Lib.hid q6
                    have hlx := hK.out.hl
                    have hcx := hK.out.hc
                    simp at hlx hcx
                    clear q1 q2' q6 d0 d1 hW2
                    go_wp2_with fail
                    refine (pop_any w W2 w.heap.size g cap Hs.length (⟨⟨e, [], age⟩, some ⟨b, off, none⟩, 0, 0⟩ :: Hs) (by simp) (by omega) hcx Q1.out Q2.out hpg q3 q4 (by omega) (Nat.le_refl _) q5).mono ?_
                    rintro ee w4 hpp
                    obtain ⟨⟨v4, rfl⟩, Hs', hK3, hlt3⟩ := Q6.out ee w4 hpp
                    have HK3 := Lib.hid hK3
                    clear q3 q4 q5 hpp hK3
                    go_wp2_with fail
                    refine ⟨⟨_, Hs', A2, q2, rfl, HK3.out⟩, ?_⟩
                    rw [wt_of HK3.out.mid.pile HK3.out.mid.heads, wt_of hK.out.mid.pile hK.out.mid.heads]
                    exact hlt3
                  · have hcb : (c == 1) = false := by simpa using hc1
                    go_upto_region 16 with fail
                    obtain ⟨W2, hW2⟩ : ∃ W2, wc.setCell ⟨g, 0, none⟩ (.slice (some ⟨b, off + 3, none⟩) 0 (c - 1)) = W2 := ⟨_, rfl⟩
                    obtain ⟨q1, q2', q3, q4, q5, q6⟩ := kst_pop (m := ⟨⟨e, [], age⟩, some ⟨b, off, none⟩, 1, c⟩) (m' := ⟨⟨e, [], age⟩, some ⟨b, off + 3, none⟩, 0, c - 1⟩) HR.out hK.out rfl hK2.out hpg hpl hgl (by omega) (Nat.le_refl _) rfl hW2
                    rw [hW2]
                    have Q1 := Lib.hid q1
                    have Q2 := Lib.hid q2'
                    have Q6 := Lib.hid q6
                    have hlx := hK.out.hl
                    have hcx := hK.out.hc
                    simp at hlx hcx
                    clear q1 q2' q6 d0 d1 hW2
                    go_wp2_with fail
                    refine (pop_any w W2 w.heap.size g cap Hs.length (⟨⟨e, [], age⟩, some ⟨b, off + 3, none⟩, 0, c - 1⟩ :: Hs) (by simp) (by omega) hcx Q1.out Q2.out hpg q3 q4 (by omega) (Nat.le_refl _) q5).mono ?_
                    rintro ee w4 hpp
                    obtain ⟨⟨v4, rfl⟩, Hs', hK3, hlt3⟩ := Q6.out ee w4 hpp
                    have HK3 := Lib.hid hK3
                    clear q3 q4 q5 hpp hK3
                    go_wp2_with fail
                    refine ⟨⟨_, Hs', A2, q2, rfl, HK3.out⟩, ?_⟩
                    rw [wt_of HK3.out.mid.pile HK3.out.mid.heads, wt_of hK.out.mid.pile hK.out.mid.heads]
                    exact hlt3
                | cons e2 l2 =>
                  obtain ⟨n', rfl⟩ : ∃ n', n = n' + 1 := ⟨n - 1, by omega⟩
                  obtain ⟨c1, rfl⟩ : ∃ c1, c = c1 + 1 := ⟨c - 1, by omega⟩
                  have hc1 : ¬ c1 + 1 = 1 := by simp at hnr; omega
                  go_upto_region 17 with fail
                  have hn' : n' = l2.length + 1 := by simp at hnr; omega
                  subst hn'
                  obtain ⟨W2, hW2⟩ : ∃ W2, wc.setCell ⟨g, 0, none⟩ (.slice (some ⟨b, off + 3, none⟩) (l2.length + 1) c1) = W2 := ⟨_, rfl⟩
                  have hmok : Hm.Ok w ⟨⟨e2, l2, age⟩, some ⟨b, off + 3, none⟩, l2.length + 1, c1⟩ := by
                    have h1 := HOKM.out
                    refine ⟨?_, rfl, by have := h1.nc; simp at this ⊢; omega, by have := h1.c; simp at this ⊢; omega⟩
                    rcases h1.sl with h2 | ⟨b3, o3, h3, h4, h5⟩
                    · simp [Ent.cells] at h2
                    · obtain ⟨rfl, rfl⟩ : b = b3 ∧ off = o3 := by simpa using h3
                      refine .inr ⟨b, off + 3, rfl, h4, fun j u hu => ?_⟩
                      have := h5 (3 + j) u (by rw [List.flatMap_cons, List.getElem?_append_right (by simp [Ent.cells])]; simpa [Ent.cells] using hu)
                      rw [show off + 3 + j = off + (3 + j) by omega]; exact this
                  obtain ⟨q1, q2', q3, q4, q5, q6⟩ := kst_down (m := ⟨⟨e, e2 :: l2, age⟩, some ⟨b, off, none⟩, l2.length + 1 + 1, c1 + 1⟩) (m' := ⟨⟨e2, l2, age⟩, some ⟨b, off + 3, none⟩, l2.length + 1, c1⟩) HR.out hK.out rfl hK2.out hpg hpl hgl (by omega) (Nat.le_refl _) rfl hmok rfl hW2
                  rw [hW2]
                  have Q1 := Lib.hid q1
                  have Q2 := Lib.hid q2'
                  have Q6 := Lib.hid q6
                  have hlx := hK.out.hl
                  simp at hlx
                  clear q1 q2' q6 d0 d1 hW2 hmok
                  go_wp2_with fail
                  refine (down_any w W2 w.heap.size g cap (Hs.length + 1) 0 0 (⟨⟨e2, l2, age⟩, some ⟨b, off + 3, none⟩, l2.length + 1, c1⟩ :: Hs) (by simp) (by omega) (Nat.zero_le _) (Nat.le_refl _) Q1.out Q2.out hpg q3 q4 (by omega) (Nat.le_refl _) q5).mono ?_
                  rintro ee w4 hpp
                  obtain ⟨⟨v4, rfl⟩, Hs', hK3, hlt3⟩ := Q6.out ee w4 hpp
                  have HK3 := Lib.hid hK3
                  clear q3 q4 q5 hpp hK3
                  go_wp2_with fail
                  refine ⟨⟨_, Hs', A2, q2, rfl, HK3.out⟩, ?_⟩
                  rw [wt_of HK3.out.mid.pile HK3.out.mid.heads, wt_of hK.out.mid.pile hK.out.mid.heads]
                  exact hlt3
end Go.Proofs.YtolclahkfmplfaaDoor

/- Contracts: pairs that are the same, entries of pairs, run.One and run.Of and their references. -/
namespace Go.Proofs.YtolclahkfmplfaaDoor
open Go Go.RowKit
set_option maxRecDepth 100000

def neP (a b : Pr) : Bool := decide (a ≠ b)


/-- pairs as live entries -/
def aliveE (p : Pr) : Ent := ⟨p.key, p.val, false⟩





end Go.Proofs.YtolclahkfmplfaaDoor

/- Contracts of the references of chapter 25: shelfmarkref25 Check, Both, All, Alive, and of shelfmarkref24 Plain, Alive. -/
namespace Go.Proofs.YtolclahkfmplfaaDoor
open Go Go.RowKit
set_option maxRecDepth 100000

theorem bothE_nil_right (a : List Ent) : bothE a [] = a := by cases a <;> simp [bothE]
theorem bothE_lt {x y : Ent} {a b : List Ent} (h : x.key < y.key) : bothE (x :: a) (y :: b) = x :: bothE a (y :: b) := by rw [bothE, if_pos h]
theorem bothE_eq {x y : Ent} {a b : List Ent} (h : x.key = y.key) : bothE (x :: a) (y :: b) = x :: bothE a b := by rw [bothE, if_neg (by omega), if_pos h]
theorem bothE_gt2 {x y : Ent} {a b : List Ent} (h : y.key < x.key) : bothE (x :: a) (y :: b) = y :: bothE (x :: a) b := by rw [bothE, if_neg (by omega), if_neg (by omega)]
theorem drop_at {l : List Ent} {i : Nat} (h : i < l.length) : l.drop i = l[i] :: l.drop (i + 1) := (List.getElem_cons_drop h).symm


/-! ### the live ones -/
def liveE (l : List Ent) : List Ent := l.filter (fun e => !e.dead)
def plainE (l : List Ent) : List Pr := (liveE l).map (fun e => ⟨e.key, e.val⟩)
theorem plain_alive (l : List Ent) : (plainE l).map aliveE = liveE l := by
  unfold plainE
  rw [List.map_map]
  have : ∀ e ∈ liveE l, (aliveE ∘ fun e : Ent => (⟨e.key, e.val⟩ : Pr)) e = e := by
    intro e he
    have hd : e.dead = false := by simpa using (List.mem_filter.1 he).2
    obtain ⟨k, v, d⟩ := e
    dsimp at hd
    subst hd
    rfl
  rw [List.map_congr_left this, List.map_id']
theorem live_succ {l : List Ent} {k : Nat} (h : k < l.length) : liveE (l.take (k + 1)) = liveE (l.take k) ++ (if (l[k]'h).dead = true then [] else [l[k]'h]) := by
  unfold liveE
  rw [List.take_succ_eq_append_getElem h, List.filter_append]
  cases hd : (l[k]'h).dead <;> simp [List.filter, hd]
theorem live_le (l : List Ent) : (liveE l).length ≤ l.length := List.length_filter_le _ _
theorem live_ris {l : List Ent} (h : RisE l) : RisE (liveE l) := List.Pairwise.filter _ h



/-! ### runs -/
def chkAllE : List (List Ent) → Int
  | [] => 0
  | r :: rs => if chkE r = 0 then chkAllE rs else chkE r
theorem chkAll_ok : ∀ {rs : List (List Ent)}, chkAllE rs = 0 → ∀ r ∈ rs, chkE r = 0
  | [], _, _, h => by simp at h
  | r0 :: rs, h, r, hr => by
    rw [chkAllE] at h
    by_cases h0 : chkE r0 = 0
    · rw [if_pos h0] at h
      rcases List.mem_cons.1 hr with rfl | hr
      · exact h0
      · exact chkAll_ok h r hr
    · rw [if_neg h0] at h; exact absurd h h0
theorem chkAll_drop {rs : List (List Ent)} {k : Nat} (h : k < rs.length) : chkAllE (rs.drop k) = if chkE (rs[k]'h) = 0 then chkAllE (rs.drop (k + 1)) else chkE (rs[k]'h) := by
  rw [← List.getElem_cons_drop h, chkAllE]
/-- runs in memory -/
structure RunsAt (w : World) (B : Option Addr) (Rs : List Rm) : Prop where
  sl : Sl w B (Rs.map Rm.v)
  ok : ∀ r ∈ Rs, r.Ok w
theorem Rm.Ok.below {w w' : World} {r : Rm} (h : r.Ok w) (hb : Below w.heap.size w w') : r.Ok w' := ⟨h.sl.below hb, h.lc, h.c⟩
theorem RunsAt.below {w w' : World} {B : Option Addr} {Rs : List Rm} (h : RunsAt w B Rs) (hb : Below w.heap.size w w') : RunsAt w' B Rs := ⟨h.sl.below hb, fun r hr => (h.ok r hr).below hb⟩


theorem all_take_len : ∀ (rs : List (List Ent)) (k T : Nat), (rs.map List.length).sum ≤ T → (allE (rs.take k)).length + ((rs.drop k).map List.length).sum ≤ T := by
  intro rs k T h
  have h1 := fold_len (rs.take k) []
  have h2 : ((rs.take k).map List.length).sum + ((rs.drop k).map List.length).sum = (rs.map List.length).sum := by
    rw [← List.sum_append, ← List.map_append, List.take_append_drop]
  unfold allE
  rw [List.length_nil, Nat.zero_add] at h1
  omega
theorem all_succ {rs : List (List Ent)} {k : Nat} (h : k < rs.length) : allE (rs.take (k + 1)) = bothE (allE (rs.take k)) (rs[k]'h) := by
  unfold allE
  rw [List.take_succ_eq_append_getElem h, List.foldl_append]; rfl
/-- what the runs are, in order -/
def inS (Rs : List Rm) : List (List Ent) := Rs.map (fun r => inL r.l)
theorem inS_sum (Rs : List Rm) : ((inS Rs).map List.length).sum = (Rs.map (fun r => r.l.length)).sum := by
  unfold inS
  rw [List.map_map]
  congr 1
  exact List.map_congr_left (fun r _ => inL_length r.l)


def mrgE (Rs : List Rm) : Int := if chkAllE (Rs.map Rm.l) = 0 then (if (allE (inS Rs)).length > 65536 then 4 else 0) else chkAllE (Rs.map Rm.l)
def bareE (bare : Bool) (l : List Ent) : List Ent := if bare = true then liveE l else l
def mrgL (Rs : List Rm) (bare : Bool) : List Ent := if mrgE Rs = 0 then laid (bareE bare (allE (inS Rs))) else []
theorem chk_len {l : List Ent} (h : chkE l = 0) : l.length ≤ 65536 := (chk_ok h).2.2
end Go.Proofs.YtolclahkfmplfaaDoor
