/- Lists of operations, read as data; whether operations are many. -/
import Derived.Test.YtibgpghlnfcilaaMargs
import Derived.Test.YtibgpghlnfcilaaPr2
import Derived.Test.YtibgpghlnfcilaaIter
namespace Go.Proofs.Ytibgpghlnfcilaa
open Go Go.ChangeShapes Go.WideShapes Go.ChangeAt Go.RowKit
set_option maxRecDepth 100000

theorem read_ops {H : Type} {enc : TypeId × Value → H} {w : World} {base : Nat} {v : Value} {d : DataW H} {p : List MemPlace} (hok : Value.okWide Try.prog w .any base 46 v)
    (h : DataW.Trod enc Try.prog w 0 (fun _ => true) true 46 v d p) :
    ∃ (A : Option Addr) (l : List OpM) (c : Nat), v = .slice A l.length c ∧ l.length ≤ c ∧ c ≤ maxLen ∧ OpsAt w A l ∧ ∀ x ∈ l, opFit x.o := by
  obtain ⟨fuel, hf⟩ := h
  obtain ⟨A, l, c, h1, h2, h3, h4, h5⟩ := read_slice OpM.cells (fun x => Sl w x.A (x.o.pairs.flatMap Pr.cells) ∧ opFit x.o) OpM.cells_length (by omega) Try.underlying46 (by kernel_rfl)
    (fun fuel cs y h => by
      obtain ⟨o, A, c, e, _, _, h1, h2⟩ := dec_op fuel cs y h
      exact ⟨⟨o, A, c⟩, e, h1, h2⟩) (okWide_slice Try.underlying46 hok) hf
  exact ⟨A, l, c, h1, h2, h3, ⟨h4, fun x hx => (h5 x hx).1⟩, fun x hx => (h5 x hx).2⟩

def fewB (ops : List OpM) : Prop := ∀ x ∈ ops, x.o.pairs.length ≤ 200
instance (ops : List OpM) : Decidable (fewB ops) := by unfold fewB; infer_instance
/-- are operations more than statements go through? -/
def greatB (ops : List OpM) (n : Int) : Bool := decide (n < ops.length ∨ ¬ fewB ops)

set_option maxHeartbeats 1000000 in
theorem great_any (B : Option Addr) (ops : List OpM) (b : Nat) (n : Int) (w : World) (hO : Sl w B (ops.flatMap OpM.cells)) (hn : ops.length ≤ 9223372036854775807) :
    Calls Try.prog 22 #[.slice B ops.length b, .int .i64 n] w fun r w' => r = .returned (.bool (greatB ops n)) ∧ Below w.heap.size w w' := by
  by_cases h1 : n < (ops.length : Int)
  · go_enter Try.func22, Try.ntmps22
    go_wp2
    go_ret
    exact ⟨ret_bool (decide_eq_true (.inl h1)).symm, Below.refl _ _⟩
  · go_enter Try.func22, Try.ntmps22
    go_wp2
    go_loopw [5] (fun i wr => ∃ k : Nat, k ≤ ops.length ∧ i = .int .i64 k ∧ Below w.heap.size w wr ∧ Hid (fewB (ops.take k))) (fun i _ => ops.length - (intOf i).toNat)
    case atStart => exact ⟨0, Nat.zero_le _, rfl, Below.refl _ _, fun x hx => by simp at hx⟩
    case round =>
      obtain ⟨k, hk, rfl, hb, hf⟩ := hrel
      by_cases hlt : k < ops.length
      · obtain ⟨bo, off, rfl, hbl, hcell⟩ := Sl.op (hO.below hb) k hlt
        have k5 : wr.cell? ⟨bo, off + k * 6 + 5, none⟩ = some (.slice (ops[k]'hlt).A (ops[k]'hlt).o.pairs.length (ops[k]'hlt).c) := hcell 5 _ rfl
        have i0 : (0 : Int) ≤ (k : Int) := by omega
        have i1 : (k : Int) < (ops.length : Int) := by omega
        clear hcell
        by_cases h2 : 200 < (ops[k]'hlt).o.pairs.length
        · go_wp2
          go_ret
          exact ⟨ret_bool (decide_eq_true (.inr (fun h => by have := h _ (List.getElem_mem hlt); omega))).symm, hb⟩
        · go_wp2
          go_roundw
          case rel =>
            refine ⟨k + 1, by omega, by go_num, hb, ?_⟩
            show fewB _
            intro x hx
            rw [List.take_succ_eq_append_getElem hlt] at hx
            rcases List.mem_append.1 hx with hx | hx
            · exact hf.out x hx
            · obtain rfl : x = ops[k]'hlt := by simpa using hx
              omega
          case measure => simp [intOf]; omega
      · go_wp2
        go_ret
        refine ⟨ret_bool (decide_eq_false ?_).symm, hb⟩
        rintro (h | h)
        · omega
        · exact h (by have := hf.out; rwa [List.take_of_length_le (by omega)] at this)
end Go.Proofs.Ytibgpghlnfcilaa
