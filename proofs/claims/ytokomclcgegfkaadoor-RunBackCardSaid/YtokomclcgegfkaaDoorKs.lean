/- Contracts of kway's pile of heads: settle, pop. -/
import Derived.Test.YtokomclcgegfkaaDoorKc
namespace Go.Proofs.YtokomclcgegfkaaDoor
open Go Go.RowKit
set_option maxRecDepth 100000

set_option maxHeartbeats 1000000 in
theorem settle_any (w0 w : World) (p g c n : Nat) (Hs : List Hm) (hn : Hs.length = n) (hmx : n ≤ 1099511627776)
    (hp : Blk w p 128 #[.slice (some ⟨g, 0, none⟩) n c, lessV]) (hg : HeadsAt w g Hs) (hpg : p ≠ g) (hok : ∀ m ∈ Hs, m.Ok w0) (hB : Below w0.heap.size w0 w)
    (hgB : w0.heap.size ≤ g) (hpB : w0.heap.size ≤ p) :
    Calls Tryd.prog 95 #[.pointer (some ⟨p, 0, none⟩)] w (Sunk p g Hs 0 w) := by
  have hbl := hB.size
  have c0 : w.cell? ⟨p, 0, none⟩ = some (.slice (some ⟨g, 0, none⟩) n c) := hp.cell 0
  obtain ⟨hf, hhf⟩ : ∃ hf, hf = n / 2 := ⟨_, rfl⟩
  have H2 := Lib.hid hhf
  clear hhf
  go_enter Tryd.func95, Tryd.ntmps95
  go_wp2
  go_loopw [2] (fun v wr => ∃ (k : Nat) (H : List Hm), k ≤ hf ∧ v = .int .i64 ((k : Int) - 1) ∧ H.Perm Hs ∧ Mod (fun b => b = g) w wr ∧ HeadsAt wr g H ∧ Hid (HeapFrom (H.map Hm.h) k)) (fun v _ => (intOf v + 1).toNat)
  case atStart => exact ⟨hf, Hs, Nat.le_refl _, by congr 1; have := H2.out; omega, List.Perm.refl _, Mod.refl _ _, hg, heap_leaves (by have := H2.out; simp; omega)⟩
  case round =>
    obtain ⟨k, H, hk, rfl, hperm, hm, hH, hsk⟩ := hrel
    by_cases h0 : k = 0
    · subst h0
      go_wp2
      refine bodyPost_end (results_none rfl _ _ _) rfl ?_
      exact ⟨⟨_, rfl⟩, H, hperm, hsk.out, hH, hm⟩
    · obtain ⟨j, rfl⟩ : ∃ j, k = j + 1 := ⟨k - 1, by omega⟩
      have e1 : ((j + 1 : Nat) : Int) - 1 = (j : Int) := by omega
      rw [e1]
      have j0 : (0 : Int) ≤ (j : Int) := by omega
      have j1 : (j : Int) ≤ 1099511627776 := by have := H2.out; omega
      have HK := Lib.hid hk
      have HP := Lib.hid hperm
      clear e1 h0 hk hperm
      go_wp2_with fail
      refine (down_any w0 wr p g c n j j H (HP.out.length_eq.trans hn) hmx (by have := HK.out; have := H2.out; omega) (Nat.le_refl _) (hp.mod hm (by omega)) hH hpg (fun m hmm => hok m (HP.out.mem_iff.1 hmm)) (hB.trans (hm.below hbl (by intro k h; omega))) hgB hpB (Sinks.start hsk.out)).mono ?_
      rintro e w1 ⟨⟨v, rfl⟩, H', hp', hh', hH', hm'⟩
      go_wp2
      go_roundw
      case rel => exact ⟨j, H', by have := HK.out; omega, by go_num, hp'.trans HP.out, hm.trans hm', hH', hh'⟩
      case measure => first | (simp [intOf]; omega) | simp [intOf]

set_option maxHeartbeats 1000000 in
theorem settle_nil (w : World) (p : Nat) (F : Value) (hp : Blk w p 128 #[.slice none 0 0, F]) :
    Calls Tryd.prog 95 #[.pointer (some ⟨p, 0, none⟩)] w (fun r w' => (∃ v, r = .returned v) ∧ w' = w) := by
  have c0 : w.cell? ⟨p, 0, none⟩ = some (.slice none 0 0) := hp.cell 0
  go_enter Tryd.func95, Tryd.ntmps95
  go_wp2
  go_loopw [2] (fun v wr => v = .int .i64 (-1) ∧ wr = w) (fun v _ => (intOf v + 1).toNat)
  case atStart => exact ⟨by go_num, rfl⟩
  case round =>
    obtain ⟨rfl, rfl⟩ := hrel
    go_wp2
    refine bodyPost_end (results_none rfl _ _ _) rfl ?_
    exact ⟨⟨_, rfl⟩, rfl⟩

/-- what pop leaves -/
def Popped (p g c : Nat) (Hs : List Hm) (w : World) (r : Ending) (w' : World) : Prop :=
  (∃ v, r = .returned v) ∧ ∃ Hs', Hs'.Perm (Hs.drop 1) ∧ HeapFrom (Hs'.map Hm.h) 0 ∧ HeadsAt w' g Hs' ∧ Blk w' p 128 #[.slice (some ⟨g, 0, none⟩) (Hs.length - 1) c, lessV] ∧ Mod (fun b => b = g ∨ b = p) w w'
set_option maxHeartbeats 2000000 in
theorem pop_any (w0 w : World) (p g c n : Nat) (Hs : List Hm) (hn : Hs.length = n + 1) (hmx : n + 1 ≤ 1099511627776) (hc : n + 1 ≤ c)
    (hp : Blk w p 128 #[.slice (some ⟨g, 0, none⟩) (n + 1) c, lessV]) (hg : HeadsAt w g Hs) (hpg : p ≠ g) (hok : ∀ m ∈ Hs.drop 1, m.Ok w0) (hB : Below w0.heap.size w0 w)
    (hgB : w0.heap.size ≤ g) (hpB : w0.heap.size ≤ p) (hh : HeapFrom (Hs.map Hm.h) 0) :
    Calls Tryd.prog 96 #[.pointer (some ⟨p, 0, none⟩)] w (Popped p g c Hs w) := by
  have hbl := hB.size
  have c0 : w.cell? ⟨p, 0, none⟩ = some (.slice (some ⟨g, 0, none⟩) (n + 1) c) := hp.cell 0
  have hnH : n < Hs.length := by omega
  have h0H : 0 < Hs.length := by omega
  obtain ⟨a1, a2⟩ := hg.cells n hnH
  obtain ⟨b1, b2⟩ := hg.cells 0 h0H
  have f1 := hg.frozen 0
  have f2 := hg.frozen 1
  have f3 := hp.frozen 0
  rw [Nat.zero_mul] at b1 b2
  have b1 : w.cell? ⟨g, 0, none⟩ = some (.slice (Hs[0]'h0H).A (Hs[0]'h0H).n (Hs[0]'h0H).c) := b1
  have b2 : w.cell? ⟨g, 1, none⟩ = some (.int .i64 (Hs[0]'h0H).h.age) := b2
  obtain ⟨ml, hml⟩ : ∃ m, Hs[n]'hnH = m := ⟨_, rfl⟩
  obtain ⟨m0, hm0⟩ : ∃ m, Hs[0]'h0H = m := ⟨_, rfl⟩
  rw [hml] at a1 a2
  rw [hm0] at b1 b2
  obtain ⟨N, hN⟩ : ∃ N, N = n + 1 := ⟨_, rfl⟩
  rw [← hN] at c0
  have n0 : (0 : Int) ≤ (n : Int) := by omega
  have n1 : (n : Int) < (N : Int) := by omega
  have n2 : (0 : Int) < (N : Int) := by omega
  have n3 : (N : Int) - 1 = (n : Int) := by omega
  have n4 : n ≤ c := by omega
  have HHG := Lib.hid hg
  go_enter Tryd.func96, Tryd.ntmps96
  go_wp2_with fail
  go_region
  all_goals
    obtain ⟨W, hW⟩ : ∃ W, (((w.setCell ⟨g, 0, none⟩ (.slice ml.A ml.n ml.c)).setCell ⟨g, 1, none⟩ (.int .i64 ml.h.age)).setCell ⟨p, 0, none⟩ (.slice (some ⟨g, 0, none⟩) n c)).drew = W := ⟨_, rfl⟩
    have hHW : HeadsAt W g ((Hs.set 0 ml).take n) := by
      rw [← hW]
      have h1 : HeadsAt ((w.setCell ⟨g, 0, none⟩ (.slice ml.A ml.n ml.c)).setCell ⟨g, 1, none⟩ (.int .i64 ml.h.age)) g (Hs.set 0 ml) := by
        have := HHG.out.put 0 h0H ml
        simpa using this
      obtain ⟨cur, h2, h3⟩ := h1.take n
      exact ⟨cur, (h2.far (p := ⟨p, 0, none⟩) (fun e => hpg e.symm) _), h3⟩
    have hpW : Blk W p 128 #[.slice (some ⟨g, 0, none⟩) n c, lessV] := by
      rw [← hW]
      have h1 := ((hp.far (p := ⟨g, 0, none⟩) hpg (.slice ml.A ml.n ml.c)).far (p := ⟨g, 1, none⟩) hpg (.int .i64 ml.h.age)).set_ 0 (.slice (some ⟨g, 0, none⟩) n c)
      exact h1
    have hmW : Mod (fun b => b = g ∨ b = p) w W := by
      rw [← hW]
      exact ((((Mod.refl _ w).setCell (p := ⟨g, 0, none⟩) (.inl rfl) _).setCell (p := ⟨g, 1, none⟩) (.inl rfl) _).setCell (p := ⟨p, 0, none⟩) (.inr rfl) _).drew
    have hperm : ((Hs.set 0 ml).take n).Perm (Hs.drop 1) := by
      cases Hs with
      | nil => simp at h0H
      | cons a l =>
        have hl : l.length = n := by simpa using hn
        rcases List.eq_nil_or_concat l with rfl | ⟨l', z, rfl⟩
        · simp at hl; subst hl; simp
        · simp at hl
          subst hl
          rw [← hml]
          simp
          exact (List.perm_append_comm (l₁ := [z]) (l₂ := l'))
    have hsk : Sinks ((((Hs.set 0 ml).take n)).map Hm.h) 0 0 := by
      refine Sinks.start ?_
      intro j ci hci hj h1 hcc
      have := hh j ci (by simp at hci ⊢; omega) hj (by omega) hcc
      simp only [List.getElem_map, List.getElem_take] at this ⊢
      rw [List.getElem_set_ne (by omega), List.getElem_set_ne (by omega)]
      exact this
    have HW := Lib.hid hW
    have HL := Lib.hid (show ((Hs.set 0 ml).take n).length = n by simp; omega)
    clear hW
    have HPP := Lib.hid hperm
    clear hperm
    have hmx' : n ≤ 1099511627776 := by omega
    have hlen : Hs.length - 1 = n := by omega
    go_wp2_with fail
    rw [HW.out]
    refine (down_any w0 W p g c n 0 0 ((Hs.set 0 ml).take n) HL.out hmx' (Nat.zero_le _) (Nat.le_refl _) hpW hHW hpg (fun m hm => hok m (HPP.out.mem_iff.1 hm)) (hB.trans (hmW.below hbl (by intro k h; omega))) hgB hpB hsk).mono ?_
    rintro e w1 ⟨⟨v, rfl⟩, H', hp', hh', hH', hm'⟩
    go_wp2
    refine bodyPost_end (results_none rfl _ _ _) rfl ?_
    exact ⟨⟨_, rfl⟩, H', hp'.trans HPP.out, hh', hH', by rw [hlen]; exact hpW.mod hm' (by omega), hmW.trans (hm'.mono (fun _ _ h => .inl h))⟩
end Go.Proofs.YtokomclcgegfkaaDoor
