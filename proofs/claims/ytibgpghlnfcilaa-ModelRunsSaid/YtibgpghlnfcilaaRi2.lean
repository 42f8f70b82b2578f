/- Contract: operations copied. -/
import Derived.Test.YtibgpghlnfcilaaRg
namespace Go.Proofs.Ytibgpghlnfcilaa
open Go Go.RowKit
set_option maxRecDepth 100000

theorem opn_info0 : (Try.prog.info? 28).map (fun i => (i.zero, i.size, i.bytes)) = some (some (.agg #[.int .u8 0, .int .i64 0, .int .i64 0, .int .i64 0, .int .i64 0, .slice none 0 0]), 6, 64) := by kernel_rfl
theorem ones_op (x : OpM) : ∀ u ∈ x.cells, u.oneCell' = true := by
  intro u hu
  simp [OpM.cells] at hu
  rcases hu with rfl | rfl | rfl | rfl | rfl | rfl <;> rfl

/-- hands back operations in new memory -/
def GivesOps (os : List Opn) (w : World) (r : Ending) (w' : World) : Prop :=
  ∃ A c, ∃ xs : List OpM, r = .returned (.slice A xs.length c) ∧ OpsAt w' A xs ∧ xs.map OpM.o = os ∧ Below w.heap.size w w'

set_option maxHeartbeats 3200000 in
theorem twinOps_any (B : Option Addr) (ops : List OpM) (b : Nat) (w : World) (hO : OpsAt w B ops) (hn : ops.length ≤ 1000) (hp : ∀ x ∈ ops, x.o.pairs.length ≤ 100000) :
    Calls Try.prog 24 #[.slice B ops.length b] w (GivesOps (ops.map OpM.o) w) := by
  obtain ⟨ti0, hi, hz0, hz1, hz2⟩ := info_parts opn_info0
  have HI := Lib.hid (And.intro hi (And.intro hz0 (And.intro hz1 hz2)))
  have HO := Lib.hid hO
  have HP := Lib.hid hp
  clear hi hz0 hz1 hz2 hO hp
  go_enter Try.func24, Try.ntmps24
  go_wp2
  go_loopw [3, 4] (fun v i wr => ∃ k : Nat, k ≤ ops.length ∧ i = .int .i64 k ∧ Below w.heap.size w wr ∧ ∃ A' c', ∃ xs : List OpM, v = .slice A' k c' ∧ wr.ownsRow w.heap.size 28 6 (.slice A' k c') k (xs.flatMap OpM.cells) ∧
      xs.map OpM.o = (ops.take k).map OpM.o ∧ ∀ x ∈ xs, Fr wr w.heap.size 23 x.A x.c x.o.pairs) (fun _ i _ => ops.length - (intOf i).toNat)
  case atStart => exact ⟨0, Nat.zero_le _, rfl, Below.refl _ _, none, 0, [], rfl, World.ownsRow_nil _ _ _ _, rfl, by simp⟩
  case round =>
    obtain ⟨k, hk, rfl, hb, A', c', xs, rfl, hown, hxs, hfx⟩ := hrel
    by_cases hlt : k < ops.length
    · obtain ⟨bo, off, rfl, hbl, hcell⟩ := Sl.op (HO.out.below hb).1 k hlt
      obtain ⟨x, hx⟩ : ∃ x, ops[k]'hlt = x := ⟨_, rfl⟩
      have hxm : x ∈ ops := hx ▸ List.getElem_mem hlt
      rw [hx] at hcell
      have k0 : wr.cell? ⟨bo, off + k * 6, none⟩ = some (.int .u8 x.o.kind) := hcell 0 _ rfl
      have k1 : wr.cell? ⟨bo, off + k * 6 + 1, none⟩ = some (.int .i64 x.o.key) := hcell 1 _ rfl
      have k2 : wr.cell? ⟨bo, off + k * 6 + 2, none⟩ = some (.int .i64 x.o.val) := hcell 2 _ rfl
      have k3 : wr.cell? ⟨bo, off + k * 6 + 3, none⟩ = some (.int .i64 x.o.to) := hcell 3 _ rfl
      have k4 : wr.cell? ⟨bo, off + k * 6 + 4, none⟩ = some (.int .i64 x.o.n) := hcell 4 _ rfl
      have k5 : wr.cell? ⟨bo, off + k * 6 + 5, none⟩ = some (.slice x.A x.o.pairs.length x.c) := hcell 5 _ rfl
      have i0 : (0 : Int) ≤ (k : Int) := by omega
      have i1 : (k : Int) < (ops.length : Int) := by omega
      have HX := Lib.hid hx
      have hpx := HP.out x hxm
      have hsx := Lib.hid ((HO.out.2 x hxm).below hb)
      have HXS := Lib.hid hxs
      have hbs := hb.size
      clear hx hcell hxm hxs
      go_wp2_with fail
      refine (twinOp_any x.o x.A x.c _ hsx.out hpx).mono ?_
      rintro e w3 ⟨A3, c3, rfl, hf3, hb3⟩
      have hb03 := bext hb hb3
      have hf3 := hf3.mono hbs
      have ho3 := own_below hown hb3
      have hfx3 := fun y hy => (hfx y hy).below hb3
      have hfx3 := Lib.hid hfx3
      clear hfx k0 k1 k2 k3 k4 k5
      have hbs3 := hb03.size
      go_wp2_with (at_builtin; refine wpList_append_sl _ rfl (.tmp 11) (.tmp 17) _ rfl w.heap.size 28 ti0 _ 6 64 Try.underlying46 HI.out.1 HI.out.2.1 HI.out.2.2.1 HI.out.2.2.2 rfl (by omega) (.slice A' k c') k _ rfl (ho3.alloc _) _ 1 _ (OpM.cells ⟨x.o, A3, c3⟩) rfl (by exact sl_new1 _ _ _) rfl (ones_op _) (by unfold maxLen; omega) (by omega) (by simp; omega) ?_; intro v4 w4 ho4 hg4; obtain ⟨A4, q4, rfl, _, _⟩ := own_form ho4)
      go_roundw
      case rel =>
        have fr4 : ∀ {A : Option Addr} {c : Nat} {m : List Pr}, Fr w3 w.heap.size 23 A c m → Fr w4 w.heap.size 23 A c m := fun h =>
          grown_fr hg4 (ho3.alloc _) (h.below ((Below.refl _ _).alloc (Nat.le_refl _) _)) (by decide)
        refine ⟨k + 1, by omega, by go_num, (hb03.alloc hbs3 _).grown hg4 (by simp; omega) (fun k hk => (ho3.lt k hk).1), A4, q4, xs ++ [⟨x.o, A3, c3⟩], rfl, ?_, ?_, ?_⟩
        · rw [List.flatMap_append]
          simpa using ho4
        · rw [List.map_append, HXS.out, List.take_succ_eq_append_getElem hlt, List.map_append, HX.out]
          rfl
        · intro y hy
          rcases List.mem_append.1 hy with hy | hy
          · exact fr4 (hfx3.out y hy)
          · obtain rfl : y = ⟨x.o, A3, c3⟩ := by simpa using hy
            exact fr4 hf3
      case measure => simp [intOf]; omega
    · have HK := Lib.hid (show k = ops.length by omega)
      have hxs := Lib.hid hxs
      go_wp2
      go_ret
      have h := hxs.out
      rw [HK.out, List.take_length] at h
      have hlx : xs.length = k := by have := congrArg List.length h; rw [List.length_map, List.length_map] at this; rw [HK.out]; exact this
      exact ⟨A', c', xs, by rw [hlx]; rfl, ⟨own_sl hown, fun x hx => (hfx x hx).sl⟩, h, hb⟩
end Go.Proofs.Ytibgpghlnfcilaa
