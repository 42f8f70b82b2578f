/- A run, and runs, read as data. -/
import Derived.Test.YtokomclcgegfkaaArgs
import Derived.Test.YtokomclcgegfkaaKo
namespace Go.Proofs.Ytokomclcgegfkaa
open Go Go.ChangeShapes Go.WideShapes Go.ChangeAt Go.RowKit
set_option maxRecDepth 100000

theorem dec_ents {H : Type} {enc : TypeId × Value → H} {w : World} (fuel : Nat) (cs : List Value) (y : DataW H × List MemPlace) (h : DataW.trod enc Try.prog w 0 (fun _ => true) true fuel 22 cs = some y) :
    ∃ (A : Option Addr) (l : List Ent) (c : Nat), cs = [.slice A l.length c] ∧ l.length ≤ c ∧ c ≤ maxLen ∧ Sl w A (l.flatMap Ent.cells) := by
  have hv : ∃ a len cap, cs = [.slice a len cap] := by
    rcases Go.Deep.open_slice Try.underlying22 h with ⟨h1, _⟩ | ⟨a, len, cap, _, _, _, _, h1, _⟩
    · exact ⟨_, _, _, h1⟩
    · exact ⟨_, _, _, h1⟩
  obtain ⟨a, len, cap, rfl⟩ := hv
  obtain ⟨A, l, c, h1, h2, h3, h4, _⟩ := read_slice (v := .slice a len cap) Ent.cells (fun _ => True) Ent.cells_length (by omega) Try.underlying22 (by kernel_rfl)
    (fun fuel cs y h => dec_ent Try.underlying32 Try.underlying2 Try.underlying4 (by kernel_rfl) (by kernel_rfl) (by kernel_rfl) fuel cs y h) ⟨_, _, _, rfl⟩ h
  exact ⟨A, l, c, by rw [h1], h2, h3, h4⟩
theorem read_run {H : Type} {enc : TypeId × Value → H} {w : World} {base : Nat} {v : Value} {d : DataW H} {p : List MemPlace} (hok : Value.okWide Try.prog w .any base 24 v)
    (h : DataW.Trod enc Try.prog w 0 (fun _ => true) true 24 v d p) : ∃ (A : Option Addr) (l : List Ent) (c : Nat), v = .agg #[.slice A l.length c] ∧ l.length ≤ c ∧ c ≤ maxLen ∧ Sl w A (l.flatMap Ent.cells) := by
  obtain ⟨cs, rfl, _⟩ := okWide_struct Try.underlying24 hok
  obtain ⟨fuel, hf⟩ := h
  obtain ⟨xs, n, _, _, hlen, hxl, hg⟩ := DataW.trod_struct Try.underlying24 hf
  rw [show Try.prog.cellsOf 24 = 1 from by kernel_rfl] at hlen
  obtain ⟨cl⟩ := cs
  match cl, hlen with
  | [c0], _ =>
    match xs, hxl with
    | [x0], _ =>
      have h0 : DataW.trod enc Try.prog w 0 (fun _ => true) true n 22 (List.take (Try.prog.cellsOf 22) (List.drop 0 [c0])) = some x0 := hg 0 _ rfl
      rw [show Try.prog.cellsOf 22 = 1 from by kernel_rfl] at h0
      obtain ⟨A, l, c, e, h2, h3, h4⟩ := dec_ents _ _ _ h0
      simp at e
      subst e
      exact ⟨A, l, c, rfl, h2, h3, h4⟩
/-- runs -/
theorem dec_run {H : Type} {enc : TypeId × Value → H} {w : World} (fuel : Nat) (cs : List Value) (y : DataW H × List MemPlace) (h : DataW.trod enc Try.prog w 0 (fun _ => true) true fuel 24 cs = some y) :
    ∃ r : Rm, cs = [r.v] ∧ r.Ok w := by
  obtain ⟨xs, n, _, _, hlen, hxl, hg⟩ := DataW.trod_struct Try.underlying24 h
  rw [show Try.prog.cellsOf 24 = 1 from by kernel_rfl] at hlen
  match cs, hlen with
  | [c0], _ =>
    match xs, hxl with
    | [x0], _ =>
      have h0 : DataW.trod enc Try.prog w 0 (fun _ => true) true n 22 (List.take (Try.prog.cellsOf 22) (List.drop 0 [c0])) = some x0 := hg 0 _ rfl
      rw [show Try.prog.cellsOf 22 = 1 from by kernel_rfl] at h0
      obtain ⟨A, l, c, e, h2, h3, h4⟩ := dec_ents _ _ _ h0
      simp at e
      subst e
      exact ⟨⟨l, A, c⟩, rfl, h4, h2, h3⟩
theorem read_runs {H : Type} {enc : TypeId × Value → H} {w : World} {base : Nat} {v : Value} {d : DataW H} {p : List MemPlace} (hok : Value.okWide Try.prog w .any base 46 v)
    (h : DataW.Trod enc Try.prog w 0 (fun _ => true) true 46 v d p) : ∃ (B : Option Addr) (Rs : List Rm) (c : Nat), v = .slice B Rs.length c ∧ Rs.length ≤ c ∧ c ≤ maxLen ∧ RunsAt w B Rs := by
  obtain ⟨fuel, hf⟩ := h
  obtain ⟨B, Rs, c, h1, h2, h3, h4, h5⟩ := read_slice (s := 1) (fun r : Rm => [r.v]) (fun r => r.Ok w) (fun _ => rfl) (by omega) Try.underlying46 (by kernel_rfl) (fun fuel cs y h => dec_run fuel cs y h) (okWide_slice Try.underlying46 hok) hf
  have hm : Rs.flatMap (fun r => [r.v]) = Rs.map Rm.v := by
    clear h1 h2 h4 h5
    induction Rs with
    | nil => rfl
    | cons r Rs ih => rw [List.flatMap_cons, ih]; rfl
  rw [hm] at h4
  exact ⟨B, Rs, c, h1, h2, h3, h4, h5⟩
end Go.Proofs.Ytokomclcgegfkaa
