/- Contracts: a copy in new memory, and a pair put in. -/
import Derived.Test.YtibgpghlnfcilaaMr
import Derived.Test.YtibgpghlnfcilaaFr
import Derived.Lib.SliceRun
import Derived.Deep.RegionLaw
namespace Go.Proofs.Ytibgpghlnfcilaa
open Go Go.RowKit
set_option maxRecDepth 100000

theorem pr_info0 : (Try.prog.info? 23).map (fun i => (i.zero, i.size, i.bytes)) = some (some (.agg #[.int .i64 0, .int .i64 0]), 2, 16) := by kernel_rfl
theorem one_prs (l : List Pr) : ∀ u ∈ l.flatMap Pr.cells, u.oneCell' = true := by
  intro u hu; obtain ⟨e, _, he⟩ := List.mem_flatMap.1 hu; simp [Pr.cells] at he; rcases he with rfl | rfl <;> rfl
theorem eql_nil (A : Option Addr) (n c : Nat) (w : World) : (binOp .eql 24 (.slice A n c) (.slice none 0 0)).run Try.prog w = .ok (.bool A.isNone) w := Lib.run_eql_slice_nil w _ _ A n c _ _ Try.underlying24

/-- hands back pairs in new memory -/
def GivesFr (l : List Pr) (w : World) (r : Ending) (w' : World) : Prop := ∃ A c, r = .returned (.slice A l.length c) ∧ Fr w' w.heap.size 23 A c l ∧ Below w.heap.size w w'

set_option maxHeartbeats 1000000 in
theorem clone_any (A : Option Addr) (l : List Pr) (c : Nat) (w : World) (hA : Sl w A (l.flatMap Pr.cells)) (hl : l.length ≤ 1000000) :
    Calls Try.prog 29 #[.slice A l.length c] w (GivesFr l w) := by
  obtain ⟨i0, hi, hz0, hz1, hz2⟩ := info_parts pr_info0
  have hn := eql_nil A l.length c w
  cases A with
  | none =>
    have hnil : l = [] := by
      rcases hA with h | ⟨b, off, h, _⟩
      · cases l with
        | nil => rfl
        | cons a l => simp [Pr.cells] at h
      · cases h
    subst hnil
    have hn2 : ∀ n, (binOp .eql 24 (.slice none n c) (.slice none 0 0)).run Try.prog w = .ok (.bool true) w := fun n => eql_nil none n c w
    clear hn
    go_enter Try.func29, Try.ntmps29
    go_wp2
    go_ret
    exact ⟨none, 0, rfl, Fr.nil, Below.refl _ _⟩
  | some a =>
    have hb0 : Below w.heap.size w (w.alloc (.cells #[] 23)) := (Below.refl _ _).alloc (Nat.le_refl _) _
    have hown0 : (w.alloc (.cells #[] 23)).ownsRow w.heap.size 23 2 (.slice (some ⟨w.heap.size, 0, none⟩) 0 0) 0 [] := World.ownsRow_made w #[] 0 (Nat.le_refl _) (Nat.zero_le _) rfl
    go_enter Try.func29, Try.ntmps29
    go_wp2_with (at_builtin; refine wpList_append_sl _ rfl (.tmp 5) (.tmp 6) _ rfl w.heap.size 23 i0 _ 2 16 Try.underlying24 hi hz0 hz1 hz2 rfl (by omega) (.slice (some ⟨w.heap.size, 0, none⟩) 0 0) 0 [] rfl hown0 (some a) l.length c (l.flatMap Pr.cells) rfl (hA.below hb0) (prs_length l) (one_prs l) (by unfold maxLen; omega) (by omega) (by simp) ?_; intro v1 w1 hown1 hg1; simp only [Nat.zero_add, List.nil_append] at hown1; obtain ⟨A1, c1, rfl, hlc1, hcm1⟩ := own_form hown1)
    go_ret
    exact ⟨A1, c1, rfl, Fr.of_own hown1 rfl, hb0.grown hg1 (by simp) (fun k hk => (hown0.lt k hk).1)⟩

theorem putL_length {l : List Pr} (_h : Ris l) (p : Pr) : (putL l p).length = bel l p.key + 1 + (l.length - upk l p.key) := by
  have := bel_le l p.key
  unfold putL
  simp
  omega

set_option maxHeartbeats 3200000 in
theorem put_any (A : Option Addr) (l : List Pr) (c : Nat) (p : Pr) (w : World) (hA : Sl w A (l.flatMap Pr.cells)) (hl : l.length ≤ 1000000) (hlc : l.length ≤ c) (hr : Hid (Ris l)) :
    Calls Try.prog 37 #[.slice A l.length c, .agg #[.int .i64 p.key, .int .i64 p.val]] w (GivesFr (putL l p) w) := by
  obtain ⟨i0, hi, hz0, hz1, hz2⟩ := info_parts pr_info0
  have hb0 : Below w.heap.size w (w.alloc (.cells #[.int .i64 p.key, .int .i64 p.val] 23)) := (Below.refl _ _).alloc (Nat.le_refl _) _
  have hx0 : Blk (w.alloc (.cells #[.int .i64 p.key, .int .i64 p.val] 23)) w.heap.size 23 #[.int .i64 p.key, .int .i64 p.val] := Blk.new _ _ _
  have c0 : (w.alloc (.cells #[.int .i64 p.key, .int .i64 p.val] 23)).cell? ⟨w.heap.size, 0, none⟩ = some (.int .i64 p.key) := hx0.cell 0
  obtain ⟨k, hk⟩ : ∃ k, bel l p.key = k := ⟨_, rfl⟩
  obtain ⟨u, hu⟩ : ∃ u, upk l p.key = u := ⟨_, rfl⟩
  have huh := upk_has hr.out p.key
  have hkl := bel_le l p.key
  have hul := upk_le l p.key
  have hlen := Lib.hid (putL_length hr.out p)
  rw [hk, hu] at huh hlen
  rw [hk] at hkl
  rw [hu] at hul
  have hP : Hid (putL l p = l.take k ++ p :: l.drop u) := Lib.hid (by unfold putL; rw [hk, hu])
  go_enter Try.func37, Try.ntmps37
  have hAk : Hid (A = none → k = 0) := Lib.hid (by
    intro h
    rcases hA with h1 | ⟨b, off, h1, _⟩
    · have := prs_length l
      rw [h1] at this
      simp at this
      omega
    · rw [h] at h1; cases h1)
  have hkh := Lib.hid hk
  have huh2 := Lib.hid huh
  clear hu hk huh
  by_cases hh : has l p.key = true
  · have huh := huh2.out
    rw [if_pos hh] at huh
    clear huh2
    subst huh
    have hlen1 : Hid ((putL l p).length = l.length) := Lib.hid (by rw [hlen.out]; omega)
    go_wp2_with (go_at_call 35; refine (rank_any A l c p.key _ (hA.below hb0) (by omega) hr).mono ?_; rw [hh, hkh.out]; rintro e w1 ⟨rfl, hb1⟩)
    have hb01 := bext hb0 hb1
    have hx1 : Blk w1 w.heap.size 23 #[.int .i64 p.key, .int .i64 p.val] := hx0.below hb1 (by simp)
    have d0 : w1.cell? ⟨w.heap.size, 0, none⟩ = some (.int .i64 p.key) := hx1.cell 0
    have d1 : w1.cell? ⟨w.heap.size, 0 + 1, none⟩ = some (.int .i64 p.val) := hx1.cell 1
    have hSk : Hid (Sl (w1.alloc (.cells #[.int .i64 p.key, .int .i64 p.val] 23)) A ((l.take k).flatMap Pr.cells)) := Lib.hid (((hA.below hb01).below ((Below.refl _ _).alloc (Nat.le_refl _) _)).take k)
    have hb02 := Lib.hid (show Below w.heap.size w (w1.alloc (.cells #[.int .i64 p.key, .int .i64 p.val] 23)) from hb01.alloc hb01.size _)
    have hsz := hb01.size
    clear c0 hx0 hb0 hb1 hx1 hh
    go_wp2_with fail
    have hki : (0 : Int) ≤ (k : Int) := by omega
    have hkc : (k : Int) ≤ (c : Int) := by omega
    have hui : (0 : Int) ≤ (k : Int) + 1 := by omega
    have hul2 : (k : Int) + 1 ≤ (l.length : Int) := by omega
    go_region_law (first
      | (refine step_append_full _ (by rfl) _ _ _ (by rfl) 23 i0 _ 2 16 Try.underlying24 hi hz0 hz1 hz2 rfl (by omega) A k ((l.take k).flatMap Pr.cells) hAk.out (by rfl) hSk.out (by rw [prs_length]; simp; omega) _ 1 _ p.cells (by rfl) ((Blk.new w1 _ _).sl 0 _ (by intro j x hx; simpa [Pr.cells] using hx)) (by rfl) (by simp [Pr.cells, Value.oneCell']) (by unfold maxLen; omega) (by omega) ?_; intro v2 w2 hown2 _ hg2; have hown2 := hown2 (by omega); obtain ⟨A2, q2, rfl, hle2, hmx2⟩ := own_form hown2; have hb03 := hb02.out.drew.grown hg2 (by simp; omega) (fun k hk => by cases hk); have hg2 := Lib.hid hg2)
      | (refine step_append_sl _ (by rfl) _ _ _ (by rfl) w.heap.size 23 i0 _ 2 16 Try.underlying24 hi hz0 hz1 hz2 rfl (by omega) (.slice A2 (k + 1) q2) (k + 1) _ (by rfl) (own_mono hown2 (by simp; omega)) (partA A (k + 1) c) (l.length - (k + 1)) (c - (k + 1)) ((l.drop (k + 1)).flatMap Pr.cells) (by rfl) ((hA.below hb03).drop (k + 1) c hlc) (by rw [prs_length]; simp) (one_prs _) (by unfold maxLen; omega) (by omega) (by exact hb03.size) ?_; intro v3 w3 hown3 hg3; obtain ⟨A3, q3, rfl, hle3, hmx3⟩ := own_form hown3))
    all_goals
      go_wp2
      all_goals
        go_ret
        refine ⟨A3, q3, by first | (rw [hlen.out]; rfl) | (rw [hlen1.out]; rfl), ?_, hb03.grown hg3 hb03.size (fun k hk => Nat.le_trans (by simp; omega) (hown2.lt k hk).1)⟩
        have ho : w3.ownsRow w.heap.size 23 2 (.slice A3 (k + 1 + (l.length - (k + 1))) q3) (k + 1 + (l.length - (k + 1))) ((putL l p).flatMap Pr.cells) := by
          rw [hP.out, List.flatMap_append, List.flatMap_cons]
          simpa using hown3
        exact Fr.of_own ho hlen.out.symm
  · have hf : has l p.key = false := by simpa using hh
    have huh := huh2.out
    rw [if_neg hh] at huh
    have hu2 : u = k := huh
    clear huh huh2 hh
    subst hu2
    have hlen1 : Hid ((putL l p).length = l.length + 1) := Lib.hid (by rw [hlen.out]; omega)
    go_wp2_with (go_at_call 35; refine (rank_any A l c p.key _ (hA.below hb0) (by omega) hr).mono ?_; rw [hf, hkh.out]; rintro e w1 ⟨rfl, hb1⟩)
    have hb01 := bext hb0 hb1
    have hx1 : Blk w1 w.heap.size 23 #[.int .i64 p.key, .int .i64 p.val] := hx0.below hb1 (by simp)
    have d0 : w1.cell? ⟨w.heap.size, 0, none⟩ = some (.int .i64 p.key) := hx1.cell 0
    have d1 : w1.cell? ⟨w.heap.size, 0 + 1, none⟩ = some (.int .i64 p.val) := hx1.cell 1
    have hSk : Hid (Sl (w1.alloc (.cells #[.int .i64 p.key, .int .i64 p.val] 23)) A ((l.take u).flatMap Pr.cells)) := Lib.hid (((hA.below hb01).below ((Below.refl _ _).alloc (Nat.le_refl _) _)).take u)
    have hb02 := Lib.hid (show Below w.heap.size w (w1.alloc (.cells #[.int .i64 p.key, .int .i64 p.val] 23)) from hb01.alloc hb01.size _)
    have hsz := hb01.size
    clear c0 hx0 hb0 hb1 hx1
    go_wp2_with fail
    have hki : (0 : Int) ≤ (u : Int) := by omega
    have hkc : (u : Int) ≤ (c : Int) := by omega
    have hul2 : (u : Int) ≤ (l.length : Int) := by omega
    go_region_law (first
      | (refine step_append_full _ (by rfl) _ _ _ (by rfl) 23 i0 _ 2 16 Try.underlying24 hi hz0 hz1 hz2 rfl (by omega) A u ((l.take u).flatMap Pr.cells) hAk.out (by rfl) hSk.out (by rw [prs_length]; simp; omega) _ 1 _ p.cells (by rfl) ((Blk.new w1 _ _).sl 0 _ (by intro j x hx; simpa [Pr.cells] using hx)) (by rfl) (by simp [Pr.cells, Value.oneCell']) (by unfold maxLen; omega) (by omega) ?_; intro v2 w2 hown2 _ hg2; have hown2 := hown2 (by omega); obtain ⟨A2, q2, rfl, hle2, hmx2⟩ := own_form hown2; have hb03 := hb02.out.drew.grown hg2 (by simp; omega) (fun k hk => by cases hk); have hg2 := Lib.hid hg2)
      | (refine step_append_sl _ (by rfl) _ _ _ (by rfl) w.heap.size 23 i0 _ 2 16 Try.underlying24 hi hz0 hz1 hz2 rfl (by omega) (.slice A2 (u + 1) q2) (u + 1) _ (by rfl) (own_mono hown2 (by simp; omega)) (partA A u c) (l.length - (u)) (c - (u)) ((l.drop (u)).flatMap Pr.cells) (by rfl) ((hA.below hb03).drop (u) c hlc) (by rw [prs_length]; simp) (one_prs _) (by unfold maxLen; omega) (by omega) (by exact hb03.size) ?_; intro v3 w3 hown3 hg3; obtain ⟨A3, q3, rfl, hle3, hmx3⟩ := own_form hown3))
    all_goals
      go_wp2
      all_goals
        go_ret
        refine ⟨A3, q3, by first | (rw [hlen.out]; rfl) | (rw [hlen1.out]; rfl), ?_, hb03.grown hg3 hb03.size (fun k hk => Nat.le_trans (by simp; omega) (hown2.lt k hk).1)⟩
        have ho : w3.ownsRow w.heap.size 23 2 (.slice A3 (u + 1 + (l.length - (u))) q3) (u + 1 + (l.length - (u))) ((putL l p).flatMap Pr.cells) := by
          rw [hP.out, List.flatMap_append, List.flatMap_cons]
          simpa using hown3
        exact Fr.of_own ho hlen.out.symm
end Go.Proofs.Ytibgpghlnfcilaa
