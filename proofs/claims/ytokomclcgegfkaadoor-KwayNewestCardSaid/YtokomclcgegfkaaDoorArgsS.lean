/- Runs read as data (beside Cargs). -/
import Derived.Test.YtokomclcgegfkaaDoorCargs
import Derived.Test.YtokomclcgegfkaaDoorKo
namespace Go.Proofs.YtokomclcgegfkaaDoor
open Go Go.ChangeShapes Go.WideShapes Go.ChangeAt Go.RowKit
set_option maxRecDepth 100000

/-- runs -/
theorem dec_run {H : Type} {enc : TypeId × Value → H} {w : World} (fuel : Nat) (cs : List Value) (y : DataW H × List MemPlace) (h : DataW.trod enc Tryd.prog w 0 (fun _ => true) true fuel 24 cs = some y) :
    ∃ r : Rm, cs = [r.v] ∧ r.Ok w := by
  obtain ⟨xs, n, _, _, hlen, hxl, hg⟩ := DataW.trod_struct Tryd.underlying24 h
  rw [show Tryd.prog.cellsOf 24 = 1 from by kernel_rfl] at hlen
  match cs, hlen with
  | [c0], _ =>
    match xs, hxl with
    | [x0], _ =>
      have h0 : DataW.trod enc Tryd.prog w 0 (fun _ => true) true n 22 (List.take (Tryd.prog.cellsOf 22) (List.drop 0 [c0])) = some x0 := hg 0 _ rfl
      rw [show Tryd.prog.cellsOf 22 = 1 from by kernel_rfl] at h0
      obtain ⟨A, l, c, e, h2, h3, h4⟩ := dec_ents _ _ _ h0
      simp at e
      subst e
      exact ⟨⟨l, A, c⟩, rfl, h4, h2, h3⟩
theorem read_runs {H : Type} {enc : TypeId × Value → H} {w : World} {base : Nat} {v : Value} {d : DataW H} {p : List MemPlace} (hok : Value.okWide Tryd.prog w .any base 62 v)
    (h : DataW.Trod enc Tryd.prog w 0 (fun _ => true) true 62 v d p) : ∃ (B : Option Addr) (Rs : List Rm) (c : Nat), v = .slice B Rs.length c ∧ Rs.length ≤ c ∧ c ≤ maxLen ∧ RunsAt w B Rs := by
  obtain ⟨fuel, hf⟩ := h
  obtain ⟨B, Rs, c, h1, h2, h3, h4, h5⟩ := read_slice (s := 1) (fun r : Rm => [r.v]) (fun r => r.Ok w) (fun _ => rfl) (by omega) Tryd.underlying62 (by kernel_rfl) (fun fuel cs y h => dec_run fuel cs y h) (okWide_slice Tryd.underlying62 hok) hf
  have hm : Rs.flatMap (fun r => [r.v]) = Rs.map Rm.v := by
    clear h1 h2 h4 h5
    induction Rs with
    | nil => rfl
    | cons r Rs ih => rw [List.flatMap_cons, ih]; rfl
  rw [hm] at h4
  exact ⟨B, Rs, c, h1, h2, h3, h4, h5⟩
end Go.Proofs.YtokomclcgegfkaaDoor
