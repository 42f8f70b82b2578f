/- Contract: a scan of a map's pairs. -/
import Derived.Test.YtibgpghlnfcilaaMb
import Derived.Deep.RegionWith
import Derived.Deep.CutRange
namespace Go.Proofs.Ytibgpghlnfcilaa
open Go Go.RowKit
set_option maxRecDepth 100000

theorem clone_n (A : Option Addr) (l : List Pr) (c : Nat) (w : World) (n : Nat) (hA : Sl w A (l.flatMap Pr.cells)) (hn : l.length = n) (hl : n ≤ 1000000) :
    Calls Try.prog 29 #[.slice A n c] w (fun r w' => ∃ A c, r = .returned (.slice A n c) ∧ Fr w' w.heap.size 23 A c l ∧ Below w.heap.size w w') := by
  subst hn
  exact clone_any A l c w hA hl
theorem Fr.set {w : World} {B : Nat} {t : TypeId} {A : Option Addr} {c : Nat} {l : List Pr} (h : Fr w B t A c l) {p : Addr} (hp : p.block < B) (u : Value) : Fr (w.setCell p u) B t A c l := by
  refine ⟨h.1, h.2.1, ?_⟩
  rcases h.2.2 with h1 | ⟨g, cur, h1, h2, hg, h3⟩
  · exact .inl h1
  · exact .inr ⟨g, cur, h1, h2, hg.far (show g ≠ p.block by omega) u, h3⟩
theorem Fr.four {w : World} {B b : Nat} {t : TypeId} {A : Option Addr} {c : Nat} {l : List Pr} (h : Fr w B t A c l) (hb : b < B) (y0 y1 y2 y3 : Value) :
    Fr ((((w.setCell ⟨b, 0, none⟩ y0).setCell ⟨b, 1, none⟩ y1).setCell ⟨b, 2, none⟩ y2).setCell ⟨b, 3, none⟩ y3) B t A c l :=
  (((h.set (p := ⟨b, 0, none⟩) hb y0).set (p := ⟨b, 1, none⟩) hb y1).set (p := ⟨b, 2, none⟩) hb y2).set (p := ⟨b, 3, none⟩) hb y3

set_option maxHeartbeats 1600000 in
theorem ask10 (A : Option Addr) (l : List Pr) (c : Nat) (o : Opn) (Ao : Option Addr) (co : Nat) (w : World) (hA : Sl w A (l.flatMap Pr.cells)) (hl : l.length ≤ 1000000) (hlc : l.length ≤ c) (hr : Hid (Ris l)) (hk : o.kind = 10) (h0 : ¬ o.n < 0) (hn : ¬ 1000 < o.n) :
    Calls Try.prog 28 #[.slice A l.length c, .agg #[.int .u8 o.kind, .int .i64 o.key, .int .i64 o.val, .int .i64 o.to, .int .i64 o.n, .slice Ao o.pairs.length co]] w (GivesAsk (askA l o) (askE l o) (known o) w) := by
  have hmf : ∀ (fn : Fn) (first cap : Array Value) (w : World), (Instr.makeFunc fn first cap).run Try.prog w = .ok (.func fn first cap) w := fun _ _ _ _ => rfl
  have hb0 : Below w.heap.size w (((w.alloc (.cells #[.slice A l.length c] 24)).alloc (.cells #[.int .u8 10, .int .i64 o.key, .int .i64 o.val, .int .i64 o.to, .int .i64 o.n, .slice Ao o.pairs.length co] 28)).alloc (.cells #[.int .i64 0, .int .i64 0, .int .i64 0, .slice none 0 0] 30)) := (((Below.refl _ _).alloc (Nat.le_refl _) _).alloc (by simp) _).alloc (by simp; omega) _
  have bL0 : Blk (((w.alloc (.cells #[.slice A l.length c] 24)).alloc (.cells #[.int .u8 10, .int .i64 o.key, .int .i64 o.val, .int .i64 o.to, .int .i64 o.n, .slice Ao o.pairs.length co] 28)).alloc (.cells #[.int .i64 0, .int .i64 0, .int .i64 0, .slice none 0 0] 30)) w.heap.size 24 #[.slice A l.length c] := ((Blk.new w _ _).alloc _).alloc _
  have bO0 : Blk (((w.alloc (.cells #[.slice A l.length c] 24)).alloc (.cells #[.int .u8 10, .int .i64 o.key, .int .i64 o.val, .int .i64 o.to, .int .i64 o.n, .slice Ao o.pairs.length co] 28)).alloc (.cells #[.int .i64 0, .int .i64 0, .int .i64 0, .slice none 0 0] 30)) (w.heap.size + 1) 28 #[.int .u8 10, .int .i64 o.key, .int .i64 o.val, .int .i64 o.to, .int .i64 o.n, .slice Ao o.pairs.length co] := by
    have := (Blk.new (w.alloc (.cells #[.slice A l.length c] 24)) 28 #[.int .u8 10, .int .i64 o.key, .int .i64 o.val, .int .i64 o.to, .int .i64 o.n, .slice Ao o.pairs.length co]).alloc (.cells #[.int .i64 0, .int .i64 0, .int .i64 0, .slice none 0 0] 30)
    rwa [World.size_alloc] at this
  have bA0 : Blk (((w.alloc (.cells #[.slice A l.length c] 24)).alloc (.cells #[.int .u8 10, .int .i64 o.key, .int .i64 o.val, .int .i64 o.to, .int .i64 o.n, .slice Ao o.pairs.length co] 28)).alloc (.cells #[.int .i64 0, .int .i64 0, .int .i64 0, .slice none 0 0] 30)) (w.heap.size + 1 + 1) 30 #[.int .i64 0, .int .i64 0, .int .i64 0, .slice none 0 0] := by
    have := Blk.new ((w.alloc (.cells #[.slice A l.length c] 24)).alloc (.cells #[.int .u8 10, .int .i64 o.key, .int .i64 o.val, .int .i64 o.to, .int .i64 o.n, .slice Ao o.pairs.length co] 28)) 30 #[.int .i64 0, .int .i64 0, .int .i64 0, .slice none 0 0]
    rwa [World.size_alloc, World.size_alloc] at this
  go_enter Try.func28, Try.ntmps28
  go_wp2_with fail
  refine (rank_any A l c o.key _ (hA.below hb0) (by omega) hr).mono ?_
  rintro e w1 ⟨rfl, hb1⟩
  have hb01 := bext hb0 hb1
  have bL := bL0.below hb1 bL0.lt
  have bO := bO0.below hb1 bO0.lt
  have bA := bA0.below hb1 bA0.lt
  have cL : w1.cell? ⟨w.heap.size, 0, none⟩ = some (.slice A l.length c) := bL.cell 0
  have cO0 : w1.cell? ⟨w.heap.size + 1, 0, none⟩ = some (.int .u8 10) := bO.cell 0
  have cO1 : w1.cell? ⟨w.heap.size + 1, 1, none⟩ = some (.int .i64 o.key) := bO.cell 1
  have cO3 : w1.cell? ⟨w.heap.size + 1, 3, none⟩ = some (.int .i64 o.to) := bO.cell 3
  have cO4 : w1.cell? ⟨w.heap.size + 1, 4, none⟩ = some (.int .i64 o.n) := bO.cell 4
  clear bL0 bO0 bA0 hb1 hb0
  obtain ⟨m, hm⟩ : ∃ m : Nat, o.n = m := ⟨o.n.toNat, by omega⟩
  have hm2 : m ≤ 1000 := by omega
  have hKl := bel_le l o.key
  have hUl := upk_le l o.to
  obtain ⟨T, hT⟩ : ∃ T, min (upk l o.to) (bel l o.key + m) = T := ⟨_, rfl⟩
  have hWr : Hid (IntKind.i64.wrap (((bel l o.key : Nat) : Int) + (m : Nat)) = ((bel l o.key : Nat) : Int) + (m : Nat)) := Lib.hid (by rw [IntKind.wrap_i64]; omega)
  have hTh := Lib.hid hT
  have hTl : T ≤ l.length := by omega
  clear hT
  go_upto_region 27 with fail
  go_cut [10] from 100 to 108 (fun v wx => v = .int .i64 (T : Nat) ∧ Below w1.heap.size w1 wx)
  case first =>
    go_region_with (go_at_call 36; refine (up_any A l c o.to _ (hA.below (bdrew1 hb01)) (by omega) hr).mono ?_; rintro e w2 ⟨rfl, hb2⟩; have cO4' : w2.cell? ⟨w.heap.size + 1, 4, none⟩ = some (.int .i64 o.n) := ((Blk.drewN bO 1).below (w' := w2) hb2 bO.lt).cell 4)
    all_goals
      go_wp2_with fail
      all_goals
        go_meet
        exact ⟨congrArg (Value.int .i64) (by have hw := hWr.out; have hT := hTh.out; omega), (bdrew1 (Below.refl _ w1)).trans hb2⟩
  case rest =>
    obtain ⟨rfl, hb2⟩ := hcut
    have hb02 := bext hb01 hb2
    have bL0 := bL
    have bA0 := bA
    clear bL bA bO cL cO0 cO1 cO3 cO4
    have bL := bL0.below hb2 bL0.lt
    have bA := bA0.below hb2 bA0.lt
    have cL : wc.cell? ⟨w.heap.size, 0, none⟩ = some (.slice A l.length c) := bL.cell 0
    clear bL0 bA0 hb2
    have hKi : (0 : Int) ≤ (bel l o.key : Nat) := by omega
    have hTc : (T : Int) ≤ (c : Nat) := by omega
    have hKc : ((bel l o.key : Nat) : Int) ≤ (c : Nat) := by omega
    by_cases hKT : ((bel l o.key : Nat) : Int) < (T : Nat)
    · have hKT2 : ((bel l o.key : Nat) : Int) ≤ (T : Nat) := by omega
      go_wp2_with fail
      refine (clone_n (A.map (fun x => x.add (bel l o.key * 2))) ((l.drop (bel l o.key)).take (T - bel l o.key)) (c - bel l o.key) _ (T - bel l o.key) (by have h := ((hA.below hb02).drop (bel l o.key) c hlc).take (T - bel l o.key); rw [show partA A (bel l o.key) c = A.map (fun x => x.add (bel l o.key * 2)) from if_neg (by omega)] at h; exact h) (by simp; omega) (by simp; omega)).mono ?_
      rintro e w3 ⟨A3, c3, rfl, hfr, hb3⟩
      have hb03 := bext hb02 hb3
      have bA3 := bA.below hb3 bA.lt
      have f0 := bA3.frozen 0
      have f1 := bA3.frozen 1
      have f2 := bA3.frozen 2
      have f3 := bA3.frozen 3
      have g0 : w3.cell? ⟨w.heap.size + 1 + 1, 0, none⟩ = some (.int .i64 0) := bA3.cell 0
      have g1 : w3.cell? ⟨w.heap.size + 1 + 1, 1, none⟩ = some (.int .i64 0) := bA3.cell 1
      have g2 : w3.cell? ⟨w.heap.size + 1 + 1, 2, none⟩ = some (.int .i64 0) := bA3.cell 2
      have g3 : w3.cell? ⟨w.heap.size + 1 + 1, 3, none⟩ = some (.slice none 0 0) := bA3.cell 3
      go_wp2_with fail
      have e4 := four bA3 (.int .i64 0) (.int .i64 0) (.int .i64 0) (.slice A3 (T - bel l o.key) c3)
      have h0 := e4.cell 0
      have h1 := e4.cell 1
      have h2 := e4.cell 2
      have h3 := e4.cell 3
      have hb4 := fourB hb03 (show w.heap.size ≤ w.heap.size + 1 + 1 by omega) (.int .i64 0) (.int .i64 0) (.int .i64 0) (.slice A3 (T - bel l o.key) c3)
      refine bodyPost_ret (v := .tuple #[.agg #[.int .i64 0, .int .i64 0, .int .i64 0, .slice A3 (T - bel l o.key) c3], .int .i64 (0), .bool true]) (by simp [results, Try.results28, go_sem, h0, h1, h2, h3]) rfl ?_
      have hs : scanL l o.key o.to o.n = (l.drop (bel l o.key)).take (T - bel l o.key) := by
        unfold scanL
        rw [List.take_take]
        have hTo := hTh.out
        first
          | (rw [show min o.n.toNat (upk l o.to - bel l o.key) = T - bel l o.key by omega])
          | (rw [show min o.n.toNat (upk l o.to - bel l o.key) = 0 by omega]; rfl)
      have ha : (askA l o).pairs = (l.drop (bel l o.key)).take (T - bel l o.key) := by simp only [askA, hk]; simp [show ¬ (o.n < 0 ∨ 1000 < o.n) by omega, hs]
      refine ⟨A3, c3, ?_, ?_, hb4⟩
      · rw [ha]
        have hlen : ((l.drop (bel l o.key)).take (T - bel l o.key)).length = T - bel l o.key := by simp <;> omega
        rw [hlen]
        simp [askA, askE, known, hk, show ¬ (o.n < 0 ∨ 1000 < o.n) by omega]
      · rw [ha]
        exact (hfr.four bA.lt _ _ _ _).mono hb02.size
    · have hKT2 : ((T : Nat) : Int) ≤ (bel l o.key : Nat) := by omega
      go_wp2_with fail
      all_goals
        refine (clone_n _ ([] : List Pr) _ _ 0 (.inl rfl) rfl (by omega)).mono ?_
        rintro e w3 ⟨A3, c3, rfl, hfr, hb3⟩
        have hb03 := bext hb02 hb3
        have bA3 := bA.below hb3 bA.lt
        have f0 := bA3.frozen 0
        have f1 := bA3.frozen 1
        have f2 := bA3.frozen 2
        have f3 := bA3.frozen 3
        have g0 : w3.cell? ⟨w.heap.size + 1 + 1, 0, none⟩ = some (.int .i64 0) := bA3.cell 0
        have g1 : w3.cell? ⟨w.heap.size + 1 + 1, 1, none⟩ = some (.int .i64 0) := bA3.cell 1
        have g2 : w3.cell? ⟨w.heap.size + 1 + 1, 2, none⟩ = some (.int .i64 0) := bA3.cell 2
        have g3 : w3.cell? ⟨w.heap.size + 1 + 1, 3, none⟩ = some (.slice none 0 0) := bA3.cell 3
        go_wp2_with fail
        have e4 := four bA3 (.int .i64 0) (.int .i64 0) (.int .i64 0) (.slice A3 0 c3)
        have h0 := e4.cell 0
        have h1 := e4.cell 1
        have h2 := e4.cell 2
        have h3 := e4.cell 3
        have hb4 := fourB hb03 (show w.heap.size ≤ w.heap.size + 1 + 1 by omega) (.int .i64 0) (.int .i64 0) (.int .i64 0) (.slice A3 0 c3)
        refine bodyPost_ret (v := .tuple #[.agg #[.int .i64 0, .int .i64 0, .int .i64 0, .slice A3 0 c3], .int .i64 (0), .bool true]) (by simp [results, Try.results28, go_sem, h0, h1, h2, h3]) rfl ?_
        have hs : scanL l o.key o.to o.n = ([] : List Pr) := by
          unfold scanL
          rw [List.take_take]
          have hTo := hTh.out
          rw [show min o.n.toNat (upk l o.to - bel l o.key) = 0 by omega]
          rfl
        have ha : (askA l o).pairs = ([] : List Pr) := by simp only [askA, hk]; simp [show ¬ (o.n < 0 ∨ 1000 < o.n) by omega, hs]
        refine ⟨A3, c3, ?_, ?_, hb4⟩
        · rw [ha]
          have hlen : (([] : List Pr)).length = 0 := rfl
          rw [hlen]
          simp [askA, askE, known, hk, show ¬ (o.n < 0 ∨ 1000 < o.n) by omega]
        · rw [ha]
          exact (hfr.four bA.lt _ _ _ _).mono hb02.size

/-- what an operation that turns nothing answers, whatever it is -/
theorem ask_any (A : Option Addr) (l : List Pr) (c : Nat) (o : Opn) (Ao : Option Addr) (co : Nat) (w : World) (hA : Sl w A (l.flatMap Pr.cells)) (hl : l.length ≤ 1000000) (hlc : l.length ≤ c) (hr : Hid (Ris l)) :
    Calls Try.prog 28 #[.slice A l.length c, .agg #[.int .u8 o.kind, .int .i64 o.key, .int .i64 o.val, .int .i64 o.to, .int .i64 o.n, .slice Ao o.pairs.length co]] w (GivesAsk (askA l o) (askE l o) (known o) w) := by
  by_cases n1 : o.kind = 1
  · cases hh : has l o.key
    · exact ask1b A l c o Ao co w hA hl hlc hr n1 hh
    · exact ask1a A l c o Ao co w hA hl hlc hr n1 hh
  by_cases n5 : o.kind = 5
  · exact ask5 A l c o Ao co w hA hl hlc hr n5
  by_cases n4 : o.kind = 4
  · exact ask4 A l c o Ao co w hA hl hlc hr n4
  by_cases n6 : o.kind = 6
  · exact ask6 A l c o Ao co w hA hl hlc hr n6
  by_cases n7 : o.kind = 7
  · exact ask7 A l c o Ao co w hA hl hlc hr n7
  by_cases n8 : o.kind = 8
  · exact ask8 A l c o Ao co w hA hl hlc hr n8
  by_cases n9 : o.kind = 9
  · by_cases h : 0 ≤ o.n ∧ o.n < l.length
    · exact ask9a A l c o Ao co w hA hl hlc hr n9 (by unfold oneE; rw [if_pos h])
    · exact ask9b A l c o Ao co w hA hl hlc hr n9 (oneE_out h)
  by_cases n10 : o.kind = 10
  · by_cases h0 : o.n < 0
    · exact ask10a A l c o Ao co w hA hl hlc hr n10 h0
    · by_cases hn : 1000 < o.n
      · exact ask10b A l c o Ao co w hA hl hlc hr n10 h0 hn
      · exact ask10 A l c o Ao co w hA hl hlc hr n10 h0 hn
  by_cases n15 : o.kind = 15
  · exact ask15 A l c o Ao co w hA hl hlc hr n15
  by_cases n14 : o.kind = 14
  · exact ask14 A l c o Ao co w hA hl hlc hr n14
  exact askno A l c o Ao co w hA hl hlc hr n1 n5 n4 n6 n7 n8 n9 n10 n15 n14
end Go.Proofs.Ytibgpghlnfcilaa
