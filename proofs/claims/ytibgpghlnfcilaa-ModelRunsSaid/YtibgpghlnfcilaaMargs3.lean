/- A slice of pairs read as data, with the keys' bounds. -/
import Derived.Test.YtibgpghlnfcilaaMargs
namespace Go.Proofs.Ytibgpghlnfcilaa
open Go Go.ChangeShapes Go.WideShapes Go.ChangeAt Go.RowKit
set_option maxRecDepth 100000

def prFit (p : Pr) : Prop := -9223372036854775808 ≤ p.key ∧ p.key ≤ 9223372036854775807
theorem dec_prw {H : Type} {enc : TypeId × Value → H} {w : World} (fuel : Nat) (cs : List Value) (y : DataW H × List MemPlace) (h : DataW.trod enc Try.prog w 0 (fun _ => true) true fuel 23 cs = some y) : ∃ x : Pr, cs = x.cells ∧ prFit x := by
  obtain ⟨xs, n, _, _, hlen, hxl, hf⟩ := DataW.trod_struct Try.underlying23 h
  rw [show Try.prog.cellsOf 23 = 2 from by kernel_rfl] at hlen
  match cs, hlen with
  | [c0, c1], _ =>
    match xs, hxl with
    | [x0, x1], _ =>
      have h0 : DataW.trod enc Try.prog w 0 (fun _ => true) true n 2 (List.take (Try.prog.cellsOf 2) (List.drop 0 [c0, c1])) = some x0 := hf 0 _ rfl
      have h1 : DataW.trod enc Try.prog w 0 (fun _ => true) true n 2 (List.take (Try.prog.cellsOf 2) (List.drop 1 [c0, c1])) = some x1 := hf 1 _ rfl
      rw [show Try.prog.cellsOf 2 = 1 from by kernel_rfl] at h0 h1
      obtain ⟨k, e0, _, f0⟩ := DataW.trod_int Try.underlying2 h0
      obtain ⟨v, e1, _⟩ := DataW.trod_int Try.underlying2 h1
      simp at e0 e1
      subst e0 e1
      exact ⟨⟨k, v⟩, rfl, wf_i64 f0⟩
theorem read_prsw {H : Type} {enc : TypeId × Value → H} {w : World} {base : Nat} {v : Value} {d : DataW H} {p : List MemPlace} (hok : Value.okWide Try.prog w .any base 24 v)
    (h : DataW.Trod enc Try.prog w 0 (fun _ => true) true 24 v d p) : ∃ (A : Option Addr) (l : List Pr) (c : Nat), v = .slice A l.length c ∧ l.length ≤ c ∧ c ≤ maxLen ∧ Sl w A (l.flatMap Pr.cells) ∧ ∀ q ∈ l, prFit q := by
  obtain ⟨fuel, hf⟩ := h
  obtain ⟨A, l, c, h1, h2, h3, h4, h5⟩ := read_slice Pr.cells prFit Pr.cells_length (by omega) Try.underlying24 (by kernel_rfl)
    (fun fuel cs y h => dec_prw fuel cs y h) (okWide_slice Try.underlying24 hok) hf
  exact ⟨A, l, c, h1, h2, h3, h4, h5⟩
end Go.Proofs.Ytibgpghlnfcilaa
