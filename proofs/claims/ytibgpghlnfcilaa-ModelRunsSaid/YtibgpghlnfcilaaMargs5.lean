/- Lists of operations, read as data, with all keys' bounds. -/
import Derived.Test.YtibgpghlnfcilaaMargs2
import Derived.Test.YtibgpghlnfcilaaMargs3
namespace Go.Proofs.Ytibgpghlnfcilaa
open Go Go.ChangeShapes Go.WideShapes Go.ChangeAt Go.RowKit
set_option maxRecDepth 100000

theorem dec_prsw {H : Type} {enc : TypeId × Value → H} {w : World} (fuel : Nat) (cs : List Value) (y : DataW H × List MemPlace) (h : DataW.trod enc Try.prog w 0 (fun _ => true) true fuel 24 cs = some y) :
    ∃ (A : Option Addr) (l : List Pr) (c : Nat), cs = [.slice A l.length c] ∧ l.length ≤ c ∧ Sl w A (l.flatMap Pr.cells) ∧ ∀ q ∈ l, prFit q := by
  have hv : ∃ a len cap, cs = [.slice a len cap] := by
    rcases Go.Deep.open_slice Try.underlying24 h with ⟨h1, _⟩ | ⟨a, len, cap, _, _, _, _, h1, _⟩
    · exact ⟨_, _, _, h1⟩
    · exact ⟨_, _, _, h1⟩
  obtain ⟨a, len, cap, rfl⟩ := hv
  obtain ⟨A, l, c, h1, h2, h3, h4, h5⟩ := read_slice (v := .slice a len cap) Pr.cells prFit Pr.cells_length (by omega) Try.underlying24 (by kernel_rfl)
    (fun fuel cs y h => dec_prw fuel cs y h) ⟨_, _, _, rfl⟩ h
  exact ⟨A, l, c, by rw [h1], h2, h4, h5⟩

def opAll (x : OpM) : Prop := x.o.pairs.length ≤ x.c ∧ opFit x.o ∧ ∀ q ∈ x.o.pairs, prFit q
theorem dec_opw {H : Type} {enc : TypeId × Value → H} {w : World} (fuel : Nat) (cs : List Value) (y : DataW H × List MemPlace) (h : DataW.trod enc Try.prog w 0 (fun _ => true) true fuel 28 cs = some y) :
    ∃ x : OpM, cs = x.cells ∧ Sl w x.A (x.o.pairs.flatMap Pr.cells) ∧ opAll x := by
  obtain ⟨xs, n, _, _, hlen, hxl, hf⟩ := DataW.trod_struct Try.underlying28 h
  rw [show Try.prog.cellsOf 28 = 6 from by kernel_rfl] at hlen
  match cs, hlen with
  | [c0, c1, c2, c3, c4, c5], _ =>
    match xs, hxl with
    | [x0, x1, x2, x3, x4, x5], _ =>
      have h0 : DataW.trod enc Try.prog w 0 (fun _ => true) true n 5 (List.take (Try.prog.cellsOf 5) (List.drop 0 [c0, c1, c2, c3, c4, c5])) = some x0 := hf 0 _ rfl
      have h1 : DataW.trod enc Try.prog w 0 (fun _ => true) true n 2 (List.take (Try.prog.cellsOf 2) (List.drop 1 [c0, c1, c2, c3, c4, c5])) = some x1 := hf 1 _ rfl
      have h2 : DataW.trod enc Try.prog w 0 (fun _ => true) true n 2 (List.take (Try.prog.cellsOf 2) (List.drop 2 [c0, c1, c2, c3, c4, c5])) = some x2 := hf 2 _ rfl
      have h3 : DataW.trod enc Try.prog w 0 (fun _ => true) true n 2 (List.take (Try.prog.cellsOf 2) (List.drop 3 [c0, c1, c2, c3, c4, c5])) = some x3 := hf 3 _ rfl
      have h4 : DataW.trod enc Try.prog w 0 (fun _ => true) true n 3 (List.take (Try.prog.cellsOf 3) (List.drop 4 [c0, c1, c2, c3, c4, c5])) = some x4 := hf 4 _ rfl
      have h5 : DataW.trod enc Try.prog w 0 (fun _ => true) true n 24 (List.take (Try.prog.cellsOf 24) (List.drop 5 [c0, c1, c2, c3, c4, c5])) = some x5 := hf 5 _ rfl
      rw [show Try.prog.cellsOf 5 = 1 from by kernel_rfl] at h0
      rw [show Try.prog.cellsOf 2 = 1 from by kernel_rfl] at h1 h2 h3
      rw [show Try.prog.cellsOf 3 = 1 from by kernel_rfl] at h4
      rw [show Try.prog.cellsOf 24 = 1 from by kernel_rfl] at h5
      obtain ⟨k0, e0, _, f0⟩ := DataW.trod_int Try.underlying5 h0
      obtain ⟨k1, e1, _, f1⟩ := DataW.trod_int Try.underlying2 h1
      obtain ⟨k2, e2, _⟩ := DataW.trod_int Try.underlying2 h2
      obtain ⟨k3, e3, _, f3⟩ := DataW.trod_int Try.underlying2 h3
      obtain ⟨k4, e4, _⟩ := DataW.trod_int Try.underlying3 h4
      obtain ⟨A, l, c, e5, g1, g3, g4⟩ := dec_prsw _ _ _ h5
      simp at e0 e1 e2 e3 e4 e5
      subst e0 e1 e2 e3 e4 e5
      exact ⟨⟨⟨k0, k1, k2, k3, k4, l⟩, A, c⟩, rfl, g3, g1, ⟨wf_u8 f0, wf_i64 f1, wf_i64 f3⟩, g4⟩
theorem read_opsw {H : Type} {enc : TypeId × Value → H} {w : World} {base : Nat} {v : Value} {d : DataW H} {p : List MemPlace} (hok : Value.okWide Try.prog w .any base 46 v)
    (h : DataW.Trod enc Try.prog w 0 (fun _ => true) true 46 v d p) :
    ∃ (A : Option Addr) (l : List OpM) (c : Nat), v = .slice A l.length c ∧ l.length ≤ c ∧ c ≤ maxLen ∧ OpsAt w A l ∧ ∀ x ∈ l, opAll x := by
  obtain ⟨fuel, hf⟩ := h
  obtain ⟨A, l, c, h1, h2, h3, h4, h5⟩ := read_slice OpM.cells (fun x => Sl w x.A (x.o.pairs.flatMap Pr.cells) ∧ opAll x) OpM.cells_length (by omega) Try.underlying46 (by kernel_rfl)
    (fun fuel cs y h => dec_opw fuel cs y h) (okWide_slice Try.underlying46 hok) hf
  exact ⟨A, l, c, h1, h2, h3, ⟨h4, fun x hx => (h5 x hx).1⟩, fun x hx => (h5 x hx).2⟩
end Go.Proofs.Ytibgpghlnfcilaa
