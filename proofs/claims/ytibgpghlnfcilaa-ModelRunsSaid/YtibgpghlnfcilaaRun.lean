/- Contract: several operations, one behind the other. -/
import Derived.Test.YtibgpghlnfcilaaMd
import Derived.Test.YtibgpghlnfcilaaSb
import Derived.Test.YtibgpghlnfcilaaPr2
namespace Go.Proofs.Ytibgpghlnfcilaa
open Go Go.RowKit
set_option maxRecDepth 100000

theorem an_info0 : (Try.prog.info? 30).map (fun i => (i.zero, i.size, i.bytes)) = some (some (.agg #[.int .i64 0, .int .i64 0, .int .i64 0, .slice none 0 0]), 4, 48) := by kernel_rfl
theorem errno_info0 : (Try.prog.info? 32).map (fun i => (i.zero, i.size, i.bytes)) = some (some (.int .i64 0), 1, 8) := by kernel_rfl

/-- hands back pairs, answers, errors and an error -/
def GivesRun (m : List Pr) (aa : List Answ) (es : List Int) (e : Int) (w : World) (r : Ending) (w' : World) : Prop :=
  ∃ A c B b C d, ∃ xs : List AnM, r = .returned (.tuple #[.slice A m.length c, .slice B xs.length b, .slice C es.length d, .int .i64 e]) ∧
    Fr w' w.heap.size 23 A c m ∧ AnsAt w' B xs ∧ xs.map AnM.a = aa ∧ Sl w' C (es.map intV) ∧ Below w.heap.size w w'

theorem run_bad (most : Int) (A : Option Addr) (l : List Pr) (c : Nat) (B : Option Addr) (n b : Nat) (w : World) (hA : Sl w A (l.flatMap Pr.cells)) (hl : l.length ≤ 100000) (E : Int) (hC : checkE most l = E) (hE : ¬ E = 0) :
    Calls Try.prog 23 #[.int .i64 most, .slice A l.length c, .slice B n b] w (GivesRun [] [] [] E w) := by
  go_enter Try.func23, Try.ntmps23
  go_wp2_with fail
  refine (check_any most A l c _ hA (by omega)).mono ?_
  rw [hC]
  rintro e w1 ⟨rfl, hb1⟩
  go_wp2
  refine bodyPost_ret (v := .tuple #[.slice none 0 0, .slice none 0 0, .slice none 0 0, .int .i64 E]) (by simp [results, Try.results23, go_sem]) rfl ?_
  exact ⟨none, 0, none, 0, none, 0, [], rfl, Fr.nil, ⟨.inl rfl, by simp⟩, rfl, .inl rfl, hb1⟩

/-- where a run stands behind k operations -/
def RunAt (most : Int) (l : List Pr) (ops : List OpM) (k : Nat) (v6 v7 v8 : Value) (w wr : World) : Prop :=
  ∃ A c, ∃ xs : List AnM, v6 = .slice A (runL most l ((ops.take k).map OpM.o)).length c ∧ Fr wr w.heap.size 23 A c (runL most l ((ops.take k).map OpM.o)) ∧
    wr.ownsRow w.heap.size 30 4 v7 k (xs.flatMap AnM.cells) ∧ xs.map AnM.a = runA most l ((ops.take k).map OpM.o) ∧ (∀ x ∈ xs, Fr wr w.heap.size 23 x.A x.c x.a.pairs) ∧
    wr.ownsRow w.heap.size 32 1 v8 k ((runE most l ((ops.take k).map OpM.o)).map intV)

set_option maxHeartbeats 3200000 in
theorem run_ok (most : Int) (A : Option Addr) (l : List Pr) (c : Nat) (B : Option Addr) (ops : List OpM) (b : Nat) (w : World) (hA : Sl w A (l.flatMap Pr.cells)) (hO : OpsAt w B ops) (hn : ops.length ≤ 1000) (hp : ∀ x ∈ ops, x.o.pairs.length ≤ 100000) (hC : checkE most l = 0) :
    Calls Try.prog 23 #[.int .i64 most, .slice A l.length c, .slice B ops.length b] w (GivesRun (runL most l (ops.map OpM.o)) (runA most l (ops.map OpM.o)) (runE most l (ops.map OpM.o)) 0 w) := by
  obtain ⟨ti0, hi, hz0, hz1, hz2⟩ := info_parts an_info0
  obtain ⟨ti1, gi, gz0, gz1, gz2⟩ := info_parts errno_info0
  obtain ⟨m1, m2, m3, m4⟩ := check_ok hC
  have hA := Lib.hid hA
  have HO := Lib.hid hO
  have HP := Lib.hid hp
  have HC := Lib.hid hC
  have HI := Lib.hid (And.intro hi (And.intro hz0 (And.intro hz1 hz2)))
  have GI := Lib.hid (And.intro gi (And.intro gz0 (And.intro gz1 gz2)))
  clear hO hp hC hi hz0 hz1 hz2 gi gz0 gz1 gz2 m4
  go_enter Try.func23, Try.ntmps23
  go_wp2_with fail
  refine (check_any most A l c _ hA.out (by omega)).mono ?_
  rw [HC.out]
  rintro e w1 ⟨rfl, hb1⟩
  go_wp2_with fail
  refine (clone_any A l c _ (hA.out.below hb1) (by omega)).mono ?_
  rintro e w2 ⟨A2, c2, rfl, hf2, hb2⟩
  have hb02 := bext hb1 hb2
  have hf2 := hf2.mono hb1.size
  go_wp2_with fail
  go_loopw [6, 7, 8, 26] (fun v6 v7 v8 i wr => ∃ k : Nat, k ≤ ops.length ∧ i = .int .i64 k ∧ Below w.heap.size w wr ∧ RunAt most l ops k v6 v7 v8 w wr) (fun _ _ _ i _ => ops.length - (intOf i).toNat)
  case atStart => exact ⟨0, Nat.zero_le _, rfl, hb02, A2, c2, [], rfl, hf2, World.ownsRow_nil _ _ _ _, rfl, by simp, World.ownsRow_nil _ _ _ _⟩
  case round =>
    obtain ⟨k, hk, rfl, hb, A3, c3, xs, rfl, hf3, ho7, hxs, hfx, ho8⟩ := hrel
    obtain ⟨B7, b7, rfl, _, _⟩ := own_form ho7
    obtain ⟨B8, b8, rfl, _, _⟩ := own_form ho8
    by_cases hlt : k < ops.length
    · obtain ⟨bo, off, rfl, hbl, hcell⟩ := Sl.op (HO.out.below hb).1 k hlt
      obtain ⟨x, hx⟩ : ∃ x, ops[k]'hlt = x := ⟨_, rfl⟩
      have hxm : x ∈ ops := hx ▸ List.getElem_mem hlt
      rw [hx] at hcell
      have k0 : wr.cell? ⟨bo, off + k * 6, none⟩ = some (.int .u8 x.o.kind) := hcell 0 _ rfl
      have k1 : wr.cell? ⟨bo, off + k * 6 + 1, none⟩ = some (.int .i64 x.o.key) := hcell 1 _ rfl
      have k2 : wr.cell? ⟨bo, off + k * 6 + 2, none⟩ = some (.int .i64 x.o.val) := hcell 2 _ rfl
      have k3 : wr.cell? ⟨bo, off + k * 6 + 3, none⟩ = some (.int .i64 x.o.to) := hcell 3 _ rfl
      have k4 : wr.cell? ⟨bo, off + k * 6 + 4, none⟩ = some (.int .i64 x.o.n) := hcell 4 _ rfl
      have k5 : wr.cell? ⟨bo, off + k * 6 + 5, none⟩ = some (.slice x.A x.o.pairs.length x.c) := hcell 5 _ rfl
      have i0 : (0 : Int) ≤ (k : Int) := by omega
      have i1 : (k : Int) < (ops.length : Int) := by omega
      obtain ⟨L, hL⟩ : ∃ L, runL most l ((ops.take k).map OpM.o) = L := ⟨_, rfl⟩
      rw [hL] at hf3
      rw [hL]
      have hLc : checkE most L = 0 := hL ▸ run_check _ HC.out
      obtain ⟨n1, n2, n3, n4⟩ := check_ok hLc
      have HL := Lib.hid hL
      have HX := Lib.hid hx
      have HLc := Lib.hid hLc
      obtain ⟨E, hE⟩ : ∃ E, doE most L x.o = E := ⟨_, rfl⟩
      obtain ⟨X, hX⟩ : ∃ X, doL most L x.o = X := ⟨_, rfl⟩
      obtain ⟨a, ha⟩ : ∃ a, doA most L x.o = a := ⟨_, rfl⟩
      have HE := Lib.hid hE
      have HDL := Lib.hid hX
      have HDA := Lib.hid ha
      have hpx := HP.out x hxm
      have hsx := Lib.hid ((HO.out.2 x hxm).below hb)
      clear hL hx hLc hcell n4 hE hX ha hxm
      go_wp2_with fail
      refine (do_any most A3 L c3 x.o x.A x.c _ (hf3.sl.below ((Below.refl _ _).alloc (Nat.le_refl _) _)) hf3.1 (by omega) (hsx.out.below ((Below.refl _ _).alloc (Nat.le_refl _) _)) hpx).mono ?_
      rw [HE.out, HDL.out, HDA.out]
      rintro e3 w3 ⟨A4, c4, A5, c5, rfl, hf4, hf5, hb3⟩
      have hbs := hb.size
      have hx3 : Below wr.heap.size wr w3 := bext ((Below.refl _ _).alloc (Nat.le_refl _) _) hb3
      have hxs3 := hx3.size
      have hb03 := bext hb hx3
      have hf4 := hf4.mono (show w.heap.size ≤ _ by simp; omega)
      have hf5 := hf5.mono (show w.heap.size ≤ _ by simp; omega)
      have ho73 := own_below ho7 hx3
      have ho83 := own_below ho8 hx3
      have hf33 := hf3.below hx3
      have hfx3 := fun y hy => (hfx y hy).below hx3
      have hxs := Lib.hid hxs
      have hfx3 := Lib.hid hfx3
      clear hfx k0 k1 k2 k3 k4 k5 hb3 ho7 ho8 hf3
      by_cases E0 : E = 0
      · subst E0
        go_wp2_with (first
          | (at_builtin; refine wpList_append_sl _ rfl (.tmp 41) (.tmp 43) _ rfl w.heap.size 30 ti0 _ 4 48 Try.underlying48 HI.out.1 HI.out.2.1 HI.out.2.2.1 HI.out.2.2.2 rfl (by omega) (.slice B7 k b7) k _ rfl ((ho73.alloc _).alloc _) _ 1 _ (AnM.cells ⟨a, A5, c5⟩) rfl (by exact sl_new2 _ _ _ _) rfl (by simp [AnM.cells, Value.oneCell']) (by unfold maxLen; omega) (by omega) (by simp; omega) ?_; intro v7' w4 ho74 hg4)
          | (at_builtin; refine wpList_append_sl _ rfl (.tmp 45) (.tmp 47) _ rfl w.heap.size 32 ti1 _ 1 8 Try.underlying49 GI.out.1 GI.out.2.1 GI.out.2.2.1 GI.out.2.2.2 rfl (by omega) (.slice B8 k b8) k _ rfl ((grown_own hg4 ((ho73.alloc _).alloc _) ((ho83.alloc _).alloc _) (by decide)).alloc _) _ 1 _ [intV 0] rfl (by exact sl_new1 _ _ _) rfl (by simp [intV, Value.oneCell']) (by unfold maxLen; omega) (by omega) (by have := hg4.size; simp at this ⊢; omega) ?_; intro v8' w5 ho85 hg5))
        go_roundw
        case rel =>
          have e1 : runL most l ((ops.take (k + 1)).map OpM.o) = X := by rw [runL_succ hlt, HL.out, HX.out]; unfold stepL; rw [HE.out, if_pos rfl, HDL.out]
          have e2 : runA most l ((ops.take (k + 1)).map OpM.o) = runA most l ((ops.take k).map OpM.o) ++ [a] := by rw [runA_succ hlt, HL.out, HX.out, HDA.out]
          have e3 : runE most l ((ops.take (k + 1)).map OpM.o) = runE most l ((ops.take k).map OpM.o) ++ [0] := by rw [runE_succ hlt, HL.out, HX.out, HE.out]
          have own4 := ho74.alloc (.cells #[intV 0] 32)
          have own8 := (grown_own hg4 ((ho73.alloc _).alloc _) ((ho83.alloc _).alloc _) (by decide)).alloc (.cells #[intV 0] 32)
          have hb4 : Below w.heap.size w w4 := ((hb03.alloc hb03.size _).alloc (by have := hb03.size; simp; omega) _).grown hg4 (by have := hb03.size; simp; omega) (fun k hk => (ho73.lt k hk).1)
          have hb5 : Below w.heap.size w w5 := (hb4.alloc hb4.size _).grown hg5 (by have := hb4.size; simp; omega) (fun k hk => (ho83.lt k hk).1)
          have fr5 : ∀ {A : Option Addr} {c : Nat} {m : List Pr}, Fr w3 w.heap.size 23 A c m → Fr w5 w.heap.size 23 A c m := fun h =>
            grown_fr hg5 own8 ((grown_fr hg4 ((ho73.alloc _).alloc _) ((h.below ((Below.refl _ _).alloc (Nat.le_refl _) _)).below ((Below.refl _ _).alloc (Nat.le_refl _) _)) (by decide)).below ((Below.refl _ _).alloc (Nat.le_refl _) _)) (by decide)
          refine ⟨k + 1, by omega, by go_num, hb5, A4, c4, xs ++ [⟨a, A5, c5⟩], by rw [e1], by rw [e1]; exact fr5 hf4, ?_, by rw [List.map_append, hxs.out, e2]; rfl, ?_, ?_⟩
          · have := grown_own hg5 own8 own4 (by decide)
            rw [List.flatMap_append]
            simpa using this
          · intro y hy
            rcases List.mem_append.1 hy with hy | hy
            · exact fr5 (hfx3.out y hy)
            · obtain rfl : y = ⟨a, A5, c5⟩ := by simpa using hy
              exact fr5 hf5
          · rw [e3, List.map_append]
            exact ho85
        case measure => simp [intOf]; omega
      · go_wp2_with (first
          | (at_builtin; refine wpList_append_sl _ rfl (.tmp 41) (.tmp 43) _ rfl w.heap.size 30 ti0 _ 4 48 Try.underlying48 HI.out.1 HI.out.2.1 HI.out.2.2.1 HI.out.2.2.2 rfl (by omega) (.slice B7 k b7) k _ rfl ((ho73.alloc _).alloc _) _ 1 _ (AnM.cells ⟨a, A5, c5⟩) rfl (by exact sl_new2 _ _ _ _) rfl (by simp [AnM.cells, Value.oneCell']) (by unfold maxLen; omega) (by omega) (by simp; omega) ?_; intro v7' w4 ho74 hg4)
          | (at_builtin; refine wpList_append_sl _ rfl (.tmp 45) (.tmp 47) _ rfl w.heap.size 32 ti1 _ 1 8 Try.underlying49 GI.out.1 GI.out.2.1 GI.out.2.2.1 GI.out.2.2.2 rfl (by omega) (.slice B8 k b8) k _ rfl ((grown_own hg4 ((ho73.alloc _).alloc _) ((ho83.alloc _).alloc _) (by decide)).alloc _) _ 1 _ [intV E] rfl (by exact sl_new1 _ _ _) rfl (by simp [intV, Value.oneCell']) (by unfold maxLen; omega) (by omega) (by have := hg4.size; simp at this ⊢; omega) ?_; intro v8' w5 ho85 hg5))
        go_roundw
        case rel =>
          have e1 : runL most l ((ops.take (k + 1)).map OpM.o) = L := by rw [runL_succ hlt, HL.out, HX.out]; unfold stepL; rw [HE.out, if_neg E0]
          have e2 : runA most l ((ops.take (k + 1)).map OpM.o) = runA most l ((ops.take k).map OpM.o) ++ [a] := by rw [runA_succ hlt, HL.out, HX.out, HDA.out]
          have e3 : runE most l ((ops.take (k + 1)).map OpM.o) = runE most l ((ops.take k).map OpM.o) ++ [E] := by rw [runE_succ hlt, HL.out, HX.out, HE.out]
          have own4 := ho74.alloc (.cells #[intV E] 32)
          have own8 := (grown_own hg4 ((ho73.alloc _).alloc _) ((ho83.alloc _).alloc _) (by decide)).alloc (.cells #[intV E] 32)
          have hb4 : Below w.heap.size w w4 := ((hb03.alloc hb03.size _).alloc (by have := hb03.size; simp; omega) _).grown hg4 (by have := hb03.size; simp; omega) (fun k hk => (ho73.lt k hk).1)
          have hb5 : Below w.heap.size w w5 := (hb4.alloc hb4.size _).grown hg5 (by have := hb4.size; simp; omega) (fun k hk => (ho83.lt k hk).1)
          have fr5 : ∀ {A : Option Addr} {c : Nat} {m : List Pr}, Fr w3 w.heap.size 23 A c m → Fr w5 w.heap.size 23 A c m := fun h =>
            grown_fr hg5 own8 ((grown_fr hg4 ((ho73.alloc _).alloc _) ((h.below ((Below.refl _ _).alloc (Nat.le_refl _) _)).below ((Below.refl _ _).alloc (Nat.le_refl _) _)) (by decide)).below ((Below.refl _ _).alloc (Nat.le_refl _) _)) (by decide)
          refine ⟨k + 1, by omega, by go_num, hb5, A3, c3, xs ++ [⟨a, A5, c5⟩], by rw [e1], by rw [e1]; exact fr5 hf33, ?_, by rw [List.map_append, hxs.out, e2]; rfl, ?_, ?_⟩
          · have := grown_own hg5 own8 own4 (by decide)
            rw [List.flatMap_append]
            simpa using this
          · intro y hy
            rcases List.mem_append.1 hy with hy | hy
            · exact fr5 (hfx3.out y hy)
            · obtain rfl : y = ⟨a, A5, c5⟩ := by simpa using hy
              exact fr5 hf5
          · rw [e3, List.map_append]
            exact ho85
        case measure => simp [intOf]; omega
    · have hkn : k = ops.length := by omega
      have HK := Lib.hid hkn
      clear hkn
      have hxs := Lib.hid hxs
      go_wp2
      refine bodyPost_ret (v := .tuple #[.slice A3 (runL most l ((ops.take k).map OpM.o)).length c3, .slice B7 k b7, .slice B8 k b8, .int .i64 0]) (by simp [results, Try.results23, go_sem]) rfl ?_
      have et : ops.take k = ops := by rw [HK.out, List.take_length]
      have hxs := hxs.out
      rw [et] at hxs hf3 ho8 ⊢
      have hlx : xs.length = k := by
        have := congrArg List.length hxs
        rw [List.length_map, runA_length, List.length_map] at this
        rw [HK.out]; exact this
      have hle : (runE most l (ops.map OpM.o)).length = k := by rw [runE_length, List.length_map, HK.out]
      refine ⟨A3, c3, B7, b7, B8, b8, xs, by rw [hlx, hle], hf3, ⟨own_sl ho7, fun x hx => (hfx x hx).sl⟩, hxs, own_sl ho8, hb⟩
end Go.Proofs.Ytibgpghlnfcilaa
