/- Contracts: the references' check, and an operation copied. -/
import Derived.Test.YtibgpghlnfcilaaRf
import Derived.Test.YtibgpghlnfcilaaSb
import Derived.Test.YtibgpghlnfcilaaPr2
namespace Go.Proofs.Ytibgpghlnfcilaa
open Go Go.RowKit
set_option maxRecDepth 100000

set_option maxHeartbeats 1000000 in
theorem refCheck_any (most : Int) (A : Option Addr) (l : List Pr) (c : Nat) (w : World) (hA : Sl w A (l.flatMap Pr.cells)) (hl : l.length ≤ 4611686018427387903) :
    Calls Try.prog 17 #[.int .i64 most, .slice A l.length c] w fun r w' => r = .returned (.int .i64 (checkE most l)) ∧ Below w.heap.size w w' := by
  have hb0 := Below.refl w.heap.size w
  go_enter Try.func17, Try.ntmps17
  by_cases h1 : most < 1
  · go_wp2
    go_ret
    exact ⟨ret_int (by unfold checkE; rw [if_pos (.inl h1)]), hb0⟩
  · by_cases h2 : 16384 < most
    · go_wp2
      go_ret
      exact ⟨ret_int (by unfold checkE; rw [if_pos (.inr h2)]), hb0⟩
    · by_cases h3 : most < (l.length : Int)
      · go_wp2
        go_ret
        exact ⟨ret_int (by unfold checkE; rw [if_neg (by omega), if_pos (.inl h3)]), hb0⟩
      · by_cases h4 : Ris l
        · have e4 : decide (Ris l) = true := decide_eq_true h4
          go_wp2_with (go_at_call 32; refine (refRising_any A l c _ hA hl).mono ?_; rw [e4]; rintro e w1 ⟨rfl, hb1⟩)
          go_ret
          exact ⟨ret_int (by unfold checkE; rw [if_neg (by omega), if_neg (by simp [h4]; omega)]), hb1⟩
        · have e4 : decide (Ris l) = false := decide_eq_false h4
          go_wp2_with (go_at_call 32; refine (refRising_any A l c _ hA hl).mono ?_; rw [e4]; rintro e w1 ⟨rfl, hb1⟩)
          go_ret
          exact ⟨ret_int (by unfold checkE; rw [if_neg (by omega), if_pos (.inr h4)]), hb1⟩

theorem Fr.setO {w : World} {B : Nat} {t : TypeId} {A : Option Addr} {c : Nat} {l : List Pr} (h : Fr w B t A c l) {p : Addr} (hp : p.block < B) (u : Value) : Fr (w.setCell p u) B t A c l := by
  refine ⟨h.1, h.2.1, ?_⟩
  rcases h.2.2 with h1 | ⟨g, cur, h1, h2, hg, h3⟩
  · exact .inl h1
  · exact .inr ⟨g, cur, h1, h2, hg.far (by omega) u, h3⟩

/-- hands back an operation whose pairs lie in new memory -/
def GivesOp (o : Opn) (w : World) (r : Ending) (w' : World) : Prop :=
  ∃ A c, r = .returned (.agg #[.int .u8 o.kind, .int .i64 o.key, .int .i64 o.val, .int .i64 o.to, .int .i64 o.n, .slice A o.pairs.length c]) ∧ Fr w' w.heap.size 23 A c o.pairs ∧ Below w.heap.size w w'

set_option maxHeartbeats 1600000 in
theorem twinOp_any (o : Opn) (Ao : Option Addr) (co : Nat) (w : World) (hO : Sl w Ao (o.pairs.flatMap Pr.cells)) (hp : o.pairs.length ≤ 100000) :
    Calls Try.prog 14 #[.agg #[.int .u8 o.kind, .int .i64 o.key, .int .i64 o.val, .int .i64 o.to, .int .i64 o.n, .slice Ao o.pairs.length co]] w (GivesOp o w) := by
  obtain ⟨ti0, hi, hz0, hz1, hz2⟩ := info_parts pr_info0
  have HI := Lib.hid (And.intro hi (And.intro hz0 (And.intro hz1 hz2)))
  clear hi hz0 hz1 hz2
  obtain ⟨W, hW⟩ : ∃ W, ((w.alloc (.cells #[.int .u8 o.kind, .int .i64 o.key, .int .i64 o.val, .int .i64 o.to, .int .i64 o.n, .slice Ao o.pairs.length co] 28)).alloc (.cells #[.int .u8 0, .int .i64 0, .int .i64 0, .int .i64 0, .int .i64 0, .slice none 0 0] 28)).alloc (.cells #[] 23) = W := ⟨_, rfl⟩
  have hb0 : Below w.heap.size w W := by rw [← hW]; exact (((Below.refl _ _).alloc (Nat.le_refl _) _).alloc (by simp) _).alloc (by simp; omega) _
  have hown0 : W.ownsRow (w.heap.size + 2) 23 2 (.slice (some ⟨w.heap.size + 1 + 1, 0, none⟩) 0 0) 0 [] := by
    rw [← hW]
    have := World.ownsRow_made (base := w.heap.size + 2) (e := 23) (size := 2) ((w.alloc (.cells #[.int .u8 o.kind, .int .i64 o.key, .int .i64 o.val, .int .i64 o.to, .int .i64 o.n, .slice Ao o.pairs.length co] 28)).alloc (.cells #[.int .u8 0, .int .i64 0, .int .i64 0, .int .i64 0, .int .i64 0, .slice none 0 0] 28)) #[] 0 (by simp) (Nat.zero_le _) rfl
    rwa [World.size_alloc, World.size_alloc] at this
  have bO : Blk W w.heap.size 28 #[.int .u8 o.kind, .int .i64 o.key, .int .i64 o.val, .int .i64 o.to, .int .i64 o.n, .slice Ao o.pairs.length co] := by rw [← hW]; exact ((Blk.new _ _ _).alloc _).alloc _
  have bR : Blk W (w.heap.size + 1) 28 #[.int .u8 0, .int .i64 0, .int .i64 0, .int .i64 0, .int .i64 0, .slice none 0 0] := by
    rw [← hW]
    have := Blk.new (w.alloc (.cells #[.int .u8 o.kind, .int .i64 o.key, .int .i64 o.val, .int .i64 o.to, .int .i64 o.n, .slice Ao o.pairs.length co] 28)) 28 #[.int .u8 0, .int .i64 0, .int .i64 0, .int .i64 0, .int .i64 0, .slice none 0 0]
    rw [World.size_alloc] at this
    exact this.alloc _
  have c5 : W.cell? ⟨w.heap.size, 5, none⟩ = some (.slice Ao o.pairs.length co) := bO.cell 5
  have hsz : W.heap.size = w.heap.size + 3 := by rw [← hW]; simp
  have HSZ := Lib.hid hsz
  clear hsz
  go_enter Try.func14, Try.ntmps14
  go_wp2_with (at_builtin; refine wpList_append_sl _ rfl (.tmp 3) (.tmp 5) _ rfl (w.heap.size + 2) 23 ti0 _ 2 16 Try.underlying24 HI.out.1 HI.out.2.1 HI.out.2.2.1 HI.out.2.2.2 rfl (by omega) (.slice (some ⟨w.heap.size + 1 + 1, 0, none⟩) 0 0) 0 [] rfl hown0 Ao o.pairs.length co (o.pairs.flatMap Pr.cells) rfl (hO.below hb0) (prs_length _) (one_prs _) (by unfold maxLen; omega) (by omega) (by have := HSZ.out; omega) ?_; intro v1 w1 hown1 hg1; simp only [Nat.zero_add, List.nil_append] at hown1; obtain ⟨A1, c1, rfl, hlc1, hcm1⟩ := own_form hown1; have bO1 : Blk w1 w.heap.size 28 #[.int .u8 o.kind, .int .i64 o.key, .int .i64 o.val, .int .i64 o.to, .int .i64 o.n, .slice Ao o.pairs.length co] := bO.of (hg1.block _ bO.lt (by simp [Value.ownBlock]; omega)); have bR1 : Blk w1 (w.heap.size + 1) 28 #[.int .u8 0, .int .i64 0, .int .i64 0, .int .i64 0, .int .i64 0, .slice none 0 0] := bR.of (hg1.block _ bR.lt (by simp [Value.ownBlock])); have f5 : w1.frozen? ⟨w.heap.size, 5, none⟩ = false := bO1.frozen 5; have k0 : w1.cell? ⟨w.heap.size, 0, none⟩ = some (.int .u8 o.kind) := bO1.cell 0; have r0 : w1.cell? ⟨w.heap.size + 1, 0, none⟩ = some (.int .u8 0) := bR1.cell 0; have fr0 : w1.frozen? ⟨w.heap.size + 1, 0, none⟩ = false := bR1.frozen 0; have k1 : w1.cell? ⟨w.heap.size, 1, none⟩ = some (.int .i64 o.key) := bO1.cell 1; have r1 : w1.cell? ⟨w.heap.size + 1, 1, none⟩ = some (.int .i64 0) := bR1.cell 1; have fr1 : w1.frozen? ⟨w.heap.size + 1, 1, none⟩ = false := bR1.frozen 1; have k2 : w1.cell? ⟨w.heap.size, 2, none⟩ = some (.int .i64 o.val) := bO1.cell 2; have r2 : w1.cell? ⟨w.heap.size + 1, 2, none⟩ = some (.int .i64 0) := bR1.cell 2; have fr2 : w1.frozen? ⟨w.heap.size + 1, 2, none⟩ = false := bR1.frozen 2; have k3 : w1.cell? ⟨w.heap.size, 3, none⟩ = some (.int .i64 o.to) := bO1.cell 3; have r3 : w1.cell? ⟨w.heap.size + 1, 3, none⟩ = some (.int .i64 0) := bR1.cell 3; have fr3 : w1.frozen? ⟨w.heap.size + 1, 3, none⟩ = false := bR1.frozen 3; have k4 : w1.cell? ⟨w.heap.size, 4, none⟩ = some (.int .i64 o.n) := bO1.cell 4; have r4 : w1.cell? ⟨w.heap.size + 1, 4, none⟩ = some (.int .i64 0) := bR1.cell 4; have fr4 : w1.frozen? ⟨w.heap.size + 1, 4, none⟩ = false := bR1.frozen 4; have k5 : w1.cell? ⟨w.heap.size, 5, none⟩ = some (.slice Ao o.pairs.length co) := bO1.cell 5; have r5 : w1.cell? ⟨w.heap.size + 1, 5, none⟩ = some (.slice none 0 0) := bR1.cell 5; have fr5 : w1.frozen? ⟨w.heap.size + 1, 5, none⟩ = false := bR1.frozen 5)
  have hb1 : Below w.heap.size w w1 := hb0.grown hg1 (by have := HSZ.out; omega) (fun k hk => by have := (hown0.lt k hk).1; omega)
  go_wp2_with fail
  have e := (((((((bR1.far (p := ⟨w.heap.size, 5, none⟩) (by simp) (.slice A1 o.pairs.length c1)).set_ 0 (.int .u8 o.kind)).set_ 1 (.int .i64 o.key)).set_ 2 (.int .i64 o.val)).set_ 3 (.int .i64 o.to)).set_ 4 (.int .i64 o.n)).set_ 5 (.slice A1 o.pairs.length c1))
  have h0 := e.cell 0
  have h1 := e.cell 1
  have h2 := e.cell 2
  have h3 := e.cell 3
  have h4 := e.cell 4
  have h5 := e.cell 5
  have hfr := (Fr.setO (Fr.setO (Fr.setO (Fr.setO (Fr.setO (Fr.setO (Fr.setO (Fr.of_own hown1 rfl) (p := ⟨w.heap.size, 5, none⟩) (by simp) (.slice A1 o.pairs.length c1)) (p := ⟨w.heap.size + 1, 0, none⟩) (by simp) (.int .u8 o.kind)) (p := ⟨w.heap.size + 1, 1, none⟩) (by simp) (.int .i64 o.key)) (p := ⟨w.heap.size + 1, 2, none⟩) (by simp) (.int .i64 o.val)) (p := ⟨w.heap.size + 1, 3, none⟩) (by simp) (.int .i64 o.to)) (p := ⟨w.heap.size + 1, 4, none⟩) (by simp) (.int .i64 o.n)) (p := ⟨w.heap.size + 1, 5, none⟩) (by simp) (.slice A1 o.pairs.length c1))
  have hbl := (((((((hb1.setCell (p := ⟨w.heap.size, 5, none⟩) (Nat.le_refl _) (.slice A1 o.pairs.length c1)).setCell (p := ⟨w.heap.size + 1, 0, none⟩) (Nat.le_succ _) (.int .u8 o.kind)).setCell (p := ⟨w.heap.size + 1, 1, none⟩) (Nat.le_succ _) (.int .i64 o.key)).setCell (p := ⟨w.heap.size + 1, 2, none⟩) (Nat.le_succ _) (.int .i64 o.val)).setCell (p := ⟨w.heap.size + 1, 3, none⟩) (Nat.le_succ _) (.int .i64 o.to)).setCell (p := ⟨w.heap.size + 1, 4, none⟩) (Nat.le_succ _) (.int .i64 o.n)).setCell (p := ⟨w.heap.size + 1, 5, none⟩) (Nat.le_succ _) (.slice A1 o.pairs.length c1))
  refine bodyPost_ret (v := .agg #[.int .u8 o.kind, .int .i64 o.key, .int .i64 o.val, .int .i64 o.to, .int .i64 o.n, .slice A1 o.pairs.length c1]) (by simp [results, Try.results14, go_sem, h0, h1, h2, h3, h4, h5]) rfl ?_
  exact ⟨A1, c1, rfl, hfr.mono (by omega), hbl⟩
end Go.Proofs.Ytibgpghlnfcilaa
