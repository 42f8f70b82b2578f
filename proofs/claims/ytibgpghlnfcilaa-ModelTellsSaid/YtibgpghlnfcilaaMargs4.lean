/- An answer read as data. -/
import Derived.Test.YtibgpghlnfcilaaMargs
namespace Go.Proofs.Ytibgpghlnfcilaa
open Go Go.ChangeShapes Go.WideShapes Go.ChangeAt Go.RowKit
set_option maxRecDepth 100000

/-- the cells of an answer -/
def ansCells (q : Answ) (A : Option Addr) (c : Nat) : List Value := [.int .i64 q.pair.key, .int .i64 q.pair.val, .int .i64 q.n, .slice A q.pairs.length c]
theorem dec_ans {H : Type} {enc : TypeId × Value → H} {w : World} (fuel : Nat) (cs : List Value) (y : DataW H × List MemPlace) (h : DataW.trod enc Try.prog w 0 (fun _ => true) true fuel 30 cs = some y) :
    ∃ (q : Answ) (A : Option Addr) (c : Nat), cs = ansCells q A c ∧ q.pairs.length ≤ c ∧ c ≤ maxLen ∧ Sl w A (q.pairs.flatMap Pr.cells) := by
  obtain ⟨xs, n, _, _, hlen, hxl, hf⟩ := DataW.trod_struct Try.underlying30 h
  rw [show Try.prog.cellsOf 30 = 4 from by kernel_rfl] at hlen
  match cs, hlen with
  | [c0, c1, c2, c3], _ =>
    match xs, hxl with
    | [x0, x1, x2], _ =>
      have h0 : DataW.trod enc Try.prog w 0 (fun _ => true) true n 23 (List.take (Try.prog.cellsOf 23) (List.drop 0 [c0, c1, c2, c3])) = some x0 := hf 0 _ rfl
      have h1 : DataW.trod enc Try.prog w 0 (fun _ => true) true n 3 (List.take (Try.prog.cellsOf 3) (List.drop 2 [c0, c1, c2, c3])) = some x1 := hf 1 _ rfl
      have h2 : DataW.trod enc Try.prog w 0 (fun _ => true) true n 24 (List.take (Try.prog.cellsOf 24) (List.drop 3 [c0, c1, c2, c3])) = some x2 := hf 2 _ rfl
      rw [show Try.prog.cellsOf 23 = 2 from by kernel_rfl] at h0
      rw [show Try.prog.cellsOf 3 = 1 from by kernel_rfl] at h1
      rw [show Try.prog.cellsOf 24 = 1 from by kernel_rfl] at h2
      obtain ⟨p, e0, _⟩ := dec_pr Try.underlying23 Try.underlying2 (by kernel_rfl) (by kernel_rfl) _ _ _ h0
      obtain ⟨k1, e1, _⟩ := DataW.trod_int Try.underlying3 h1
      obtain ⟨A, l, c, e2, g1, g2, g3⟩ := dec_prs _ _ _ h2
      simp [Pr.cells] at e0 e1 e2
      obtain ⟨rfl, rfl⟩ := e0
      subst e1 e2
      exact ⟨⟨p, k1, l⟩, A, c, rfl, g1, g2, g3⟩

theorem read_ans {H : Type} {enc : TypeId × Value → H} {w : World} {base : Nat} {v : Value} {d : DataW H} {p : List MemPlace} (hok : Value.okWide Try.prog w .any base 30 v)
    (h : DataW.Trod enc Try.prog w 0 (fun _ => true) true 30 v d p) :
    ∃ (q : Answ) (A : Option Addr) (c : Nat), v = .agg #[.int .i64 q.pair.key, .int .i64 q.pair.val, .int .i64 q.n, .slice A q.pairs.length c] ∧ q.pairs.length ≤ c ∧ c ≤ maxLen ∧ Sl w A (q.pairs.flatMap Pr.cells) := by
  obtain ⟨cs, rfl, _⟩ := okWide_struct Try.underlying30 hok
  obtain ⟨fuel, hf⟩ := h
  obtain ⟨q, A, c, hx, r⟩ := dec_ans fuel _ _ hf
  refine ⟨q, A, c, ?_, r⟩
  obtain ⟨l⟩ := cs
  simp only [Value.cells] at hx
  simp only [Value.agg.injEq]
  rw [show l = ansCells q A c from hx]
  rfl
end Go.Proofs.Ytibgpghlnfcilaa
