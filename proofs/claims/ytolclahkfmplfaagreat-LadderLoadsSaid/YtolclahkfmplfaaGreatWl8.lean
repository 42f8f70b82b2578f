/- The law LadderLoads: for every two maps and pairs it returns true; its arguments stay as they were. It holds of all maps and pairs that can be read; no further condition. -/
import Derived.Test.YtolclahkfmplfaaGreatWz15
import Derived.Test.YtolclahkfmplfaaGreatWz8
import Derived.Test.YtolclahkfmplfaaGreatWz14
import Derived.Test.YtolclahkfmplfaaGreatWl7
import Derived.Test.YtolclahkfmplfaaGreatRows
/- Ladders read as data. -/
namespace Go.Proofs.YtolclahkfmplfaaGreat
open Go Go.ChangeShapes Go.WideShapes Go.ChangeAt Go.RowKit
set_option maxRecDepth 100000

theorem dec_cfg {H : Type} {enc : TypeId × Value → H} {w : World} (fuel : Nat) (cs : List Value) (y : DataW H × List MemPlace) (h : DataW.trod enc Tryz.prog w 0 (fun _ => true) true fuel 23 cs = some y) :
    ∃ c : Cfg, cs = c.row.toList := by
  obtain ⟨xs, n, _, _, hlen, hxl, hg⟩ := DataW.trod_struct Tryz.underlying23 h
  rw [show Tryz.prog.cellsOf 23 = 9 from by kernel_rfl] at hlen
  match cs, hlen with
  | [c0, c1, c2, c3, c4, c5, c6, c7, c8], _ =>
    match xs, hxl with
    | [x0, x1, x2, x3, x4, x5, x6, x7, x8], _ =>
      have h0 : DataW.trod enc Tryz.prog w 0 (fun _ => true) true n 5 (List.take (Tryz.prog.cellsOf 5) (List.drop 0 [c0, c1, c2, c3, c4, c5, c6, c7, c8])) = some x0 := hg 0 _ rfl
      rw [show Tryz.prog.cellsOf 5 = 1 from by kernel_rfl] at h0
      obtain ⟨n0, e0, _, _⟩ := DataW.trod_int Tryz.underlying5 h0
      have h1 : DataW.trod enc Tryz.prog w 0 (fun _ => true) true n 3 (List.take (Tryz.prog.cellsOf 3) (List.drop 1 [c0, c1, c2, c3, c4, c5, c6, c7, c8])) = some x1 := hg 1 _ rfl
      rw [show Tryz.prog.cellsOf 3 = 1 from by kernel_rfl] at h1
      obtain ⟨n1, e1, _, _⟩ := DataW.trod_int Tryz.underlying3 h1
      have h2 : DataW.trod enc Tryz.prog w 0 (fun _ => true) true n 3 (List.take (Tryz.prog.cellsOf 3) (List.drop 2 [c0, c1, c2, c3, c4, c5, c6, c7, c8])) = some x2 := hg 2 _ rfl
      rw [show Tryz.prog.cellsOf 3 = 1 from by kernel_rfl] at h2
      obtain ⟨n2, e2, _, _⟩ := DataW.trod_int Tryz.underlying3 h2
      have h3 : DataW.trod enc Tryz.prog w 0 (fun _ => true) true n 3 (List.take (Tryz.prog.cellsOf 3) (List.drop 3 [c0, c1, c2, c3, c4, c5, c6, c7, c8])) = some x3 := hg 3 _ rfl
      rw [show Tryz.prog.cellsOf 3 = 1 from by kernel_rfl] at h3
      obtain ⟨n3, e3, _, _⟩ := DataW.trod_int Tryz.underlying3 h3
      have h4 : DataW.trod enc Tryz.prog w 0 (fun _ => true) true n 3 (List.take (Tryz.prog.cellsOf 3) (List.drop 4 [c0, c1, c2, c3, c4, c5, c6, c7, c8])) = some x4 := hg 4 _ rfl
      rw [show Tryz.prog.cellsOf 3 = 1 from by kernel_rfl] at h4
      obtain ⟨n4, e4, _, _⟩ := DataW.trod_int Tryz.underlying3 h4
      have h5 : DataW.trod enc Tryz.prog w 0 (fun _ => true) true n 3 (List.take (Tryz.prog.cellsOf 3) (List.drop 5 [c0, c1, c2, c3, c4, c5, c6, c7, c8])) = some x5 := hg 5 _ rfl
      rw [show Tryz.prog.cellsOf 3 = 1 from by kernel_rfl] at h5
      obtain ⟨n5, e5, _, _⟩ := DataW.trod_int Tryz.underlying3 h5
      have h6 : DataW.trod enc Tryz.prog w 0 (fun _ => true) true n 3 (List.take (Tryz.prog.cellsOf 3) (List.drop 6 [c0, c1, c2, c3, c4, c5, c6, c7, c8])) = some x6 := hg 6 _ rfl
      rw [show Tryz.prog.cellsOf 3 = 1 from by kernel_rfl] at h6
      obtain ⟨n6, e6, _, _⟩ := DataW.trod_int Tryz.underlying3 h6
      have h7 : DataW.trod enc Tryz.prog w 0 (fun _ => true) true n 3 (List.take (Tryz.prog.cellsOf 3) (List.drop 7 [c0, c1, c2, c3, c4, c5, c6, c7, c8])) = some x7 := hg 7 _ rfl
      rw [show Tryz.prog.cellsOf 3 = 1 from by kernel_rfl] at h7
      obtain ⟨n7, e7, _, _⟩ := DataW.trod_int Tryz.underlying3 h7
      have h8 : DataW.trod enc Tryz.prog w 0 (fun _ => true) true n 3 (List.take (Tryz.prog.cellsOf 3) (List.drop 8 [c0, c1, c2, c3, c4, c5, c6, c7, c8])) = some x8 := hg 8 _ rfl
      rw [show Tryz.prog.cellsOf 3 = 1 from by kernel_rfl] at h8
      obtain ⟨n8, e8, _, _⟩ := DataW.trod_int Tryz.underlying3 h8
      simp at e0 e1 e2 e3 e4 e5 e6 e7 e8
      subst e0 e1 e2 e3 e4 e5 e6 e7 e8
      exact ⟨⟨n0, n1, n2, n3, n4, n5, n6, n7, n8⟩, rfl⟩
theorem dec_rungs {H : Type} {enc : TypeId × Value → H} {w : World} (fuel : Nat) (cs : List Value) (y : DataW H × List MemPlace) (h : DataW.trod enc Tryz.prog w 0 (fun _ => true) true fuel 27 cs = some y) :
    ∃ (B : Option Addr) (Rs : List Rm) (c : Nat) (n : Int), cs = [.slice B Rs.length c, .int .u64 n] ∧ RunsAt w B Rs ∧ 0 ≤ n ∧ n ≤ 18446744073709551615 := by
  obtain ⟨xs, m, _, _, hlen, hxl, hg⟩ := DataW.trod_struct Tryz.underlying27 h
  rw [show Tryz.prog.cellsOf 27 = 2 from by kernel_rfl] at hlen
  match cs, hlen with
  | [c0, c1], _ =>
    match xs, hxl with
    | [x0, x1], _ =>
      have h0 : DataW.trod enc Tryz.prog w 0 (fun _ => true) true m 24 (List.take (Tryz.prog.cellsOf 24) (List.drop 0 [c0, c1])) = some x0 := hg 0 _ rfl
      have h1 : DataW.trod enc Tryz.prog w 0 (fun _ => true) true m 25 (List.take (Tryz.prog.cellsOf 25) (List.drop 1 [c0, c1])) = some x1 := hg 1 _ rfl
      rw [show Tryz.prog.cellsOf 24 = 1 from by kernel_rfl] at h0
      rw [show Tryz.prog.cellsOf 25 = 1 from by kernel_rfl] at h1
      obtain ⟨n, e1, _, f1⟩ := DataW.trod_int Tryz.underlying25 h1
      have hv : ∃ a len cap, List.take 1 (List.drop 0 [c0, c1]) = [.slice a len cap] := by
        rcases Go.Deep.open_slice Tryz.underlying24 h0 with ⟨h1, _⟩ | ⟨a, len, cap, _, _, _, _, h1, _⟩
        · exact ⟨_, _, _, h1⟩
        · exact ⟨_, _, _, h1⟩
      obtain ⟨a, len, cap, e0⟩ := hv
      simp at e0 e1
      subst e0 e1
      obtain ⟨B, Rs, c, h2, h3, h4, h5, h6⟩ := read_slice (v := .slice a len cap) (s := 1) (fun r : Rm => [r.v]) (fun r => r.Ok w) (fun _ => rfl) (by omega) Tryz.underlying24 (by kernel_rfl) (fun fuel cs y h => dec_run fuel cs y h) ⟨_, _, _, rfl⟩ h0
      have hm : Rs.flatMap (fun r => [r.v]) = Rs.map Rm.v := by
        clear h2 h3 h5 h6
        induction Rs with
        | nil => rfl
        | cons r Rs ih => rw [List.flatMap_cons, ih]; rfl
      rw [hm] at h5
      obtain ⟨g1, g2⟩ := wf_u64g f1
      exact ⟨B, Rs, c, n, by rw [h2], ⟨h5, h6⟩, g1, g2⟩
theorem read_ladder {H : Type} {enc : TypeId × Value → H} {w : World} {base : Nat} {v : Value} {d : DataW H} {p : List MemPlace} (hok : Value.okWide Tryz.prog w .any base 29 v)
    (h : DataW.Trod enc Tryz.prog w 0 (fun _ => true) true 29 v d p) : ∃ (B : Option Addr) (Rs : List Rm) (k : Nat) (c : Cfg) (n : Int), v = .agg (lrow c B Rs.length k n) ∧ RunsAt w B Rs ∧ 0 ≤ n ∧ n ≤ 18446744073709551615 := by
  obtain ⟨cs, rfl, _⟩ := okWide_struct Tryz.underlying29 hok
  obtain ⟨fuel, hf⟩ := h
  obtain ⟨xs, m, _, _, hlen, hxl, hg⟩ := DataW.trod_struct Tryz.underlying29 hf
  rw [show Tryz.prog.cellsOf 29 = 11 from by kernel_rfl] at hlen
  obtain ⟨cl⟩ := cs
  have hL : cl.length = 11 := hlen
  match xs, hxl with
  | [x0, x1], _ =>
    have h0 : DataW.trod enc Tryz.prog w 0 (fun _ => true) true m 23 (List.take (Tryz.prog.cellsOf 23) (List.drop 0 cl)) = some x0 := hg 0 _ rfl
    have h1 : DataW.trod enc Tryz.prog w 0 (fun _ => true) true m 27 (List.take (Tryz.prog.cellsOf 27) (List.drop 9 cl)) = some x1 := hg 1 _ rfl
    rw [show Tryz.prog.cellsOf 23 = 9 from by kernel_rfl] at h0
    rw [show Tryz.prog.cellsOf 27 = 2 from by kernel_rfl] at h1
    obtain ⟨c, e0⟩ := dec_cfg _ _ _ h0
    obtain ⟨B, Rs, k, n, e1, hr, g1, g2⟩ := dec_rungs _ _ _ h1
    have hcl : cl = c.row.toList ++ [.slice B Rs.length k, .int .u64 n] := by
      have h9 : cl = List.take 9 cl ++ List.take 2 (List.drop 9 cl) := by
        have hd : List.take 2 (List.drop 9 cl) = List.drop 9 cl := List.take_of_length_le (by rw [List.length_drop, hL]; decide)
        rw [hd, List.take_append_drop]
      rw [h9, e1]
      rw [List.drop_zero] at e0
      rw [e0]
    subst hcl
    exact ⟨B, Rs, k, c, n, rfl, hr, g1, g2⟩
end Go.Proofs.YtolclahkfmplfaaGreat

namespace Go.Proofs.YtolclahkfmplfaaGreat
open Go Go.ChangeShapes Go.WideShapes Go.ChangeAt Go.RowKit
set_option maxRecDepth 100000

set_option maxRecDepth 100000 in
theorem ladderLoads_lifted (os : Os) (started : os.Started) (H : Type) (enc : TypeId × Value → H) :
    ReturnsInHanded {} Tryz.checked os 3 .any (Rows.ladderLoadsSpec.pre6 enc Tryz.prog Tryz.f3 Rows.ladderLoadsRow.domain false)
      (Rows.ladderLoadsSpec.post enc Tryz.prog Tryz.f3 false true false false) := by
  refine returnsInHanded_of_change (C := Tryz.checked) own started (by kernel_rfl) Tryz.func3
    (ChangeSpec.witness6 (enc := enc) (C := Tryz.checked) false ⟨#[], #[.agg #[.int .u8 0, .int .i64 0, .int .i64 0, .int .i64 0, .int .i64 0, .int .i64 0, .int .i64 0, .int .i64 0, .int .i64 0, .slice none 0 0, .int .u64 0], .agg #[.int .u8 0, .int .i64 0, .int .i64 0, .int .i64 0, .int .i64 0, .int .i64 0, .int .i64 0, .int .i64 0, .int .i64 0, .slice none 0 0, .int .u64 0], .slice none 0 0], []⟩ 8 (by kernel_rfl) (by kernel_rfl) (by kernel_rfl) (by kernel_rfl)) ?_
  intro W base args ds gs before hval0 hW _ _
  have hval : ∀ (j : Nat) t v, Tryz.f3.params[j]? = some t → args[j]? = some v → Value.okWide Tryz.prog W .any base t v := hval0
  have hW' := hW
  obtain ⟨p, q, hA0, hV, rfl, hfz, hnd⟩ := hW
  have hA : DataW.TrodAll enc Tryz.prog W 0 (fun _ => true) true Tryz.f3.params.toList args.toList ds p := hA0
  rw [Tryz.params3] at hA hval
  obtain ⟨v0, v1, v2, d0, d1, d2, p0, p1, p2, rfl, rfl, rfl, h0, h1, h2⟩ := trodAll_three hA
  obtain ⟨rfl, rfl⟩ := trodVars_none hV
  obtain ⟨B, Rs, k, c, n, rfl, hs, g1, g2⟩ := read_ladder (hval 0 29 v0 rfl rfl) h0
  obtain ⟨D, Ts, q, d, m, rfl, hs1, g3, g4⟩ := read_ladder (hval 1 29 v1 rfl rfl) h1
  obtain ⟨A, l, ca, rfl, _, _, hs2⟩ := read_prs (hval 2 30 v2 rfl rfl) h2
  refine (ladderLoads_any c d B D A Rs Ts l k q ca n m W hs hs1 hs2).mono fun e W' ⟨he, hb⟩ => ?_
  subst he
  exact ⟨_, rfl, law_post (tb := 4) laidOut (by intro t ht; rw [Tryz.params3] at ht; simp at ht; rcases ht with rfl | rfl <;> exact ⟨by kernel_rfl, of_decide_eq_true (by kernel_rfl)⟩) rfl hW' rfl rfl rfl (by kernel_rfl) Tryz.underlying4 hb⟩

theorem ladderLoads_holds : Rows.LadderLoadsSaid :=
  OpenClaim.holds_of_wide 3 Tryz.f3 rfl rfl rfl rfl rfl rfl rfl ⟨rfl, rfl, rfl, rfl, rfl⟩ rfl rfl rfl rfl rfl (by kernel_rfl) Tryz.func3 (by kernel_rfl)
    (of_decide_eq_true (by kernel_rfl)) (by unfold Func.isWrapper; first | (rw [if_pos (by decide +kernel)]; kernel_rfl) | (rw [if_neg (by decide +kernel)]; exact ⟨rfl, rfl⟩))
    (fun os started H enc _ => ladderLoads_lifted os started H enc)
end Go.Proofs.YtolclahkfmplfaaGreat
