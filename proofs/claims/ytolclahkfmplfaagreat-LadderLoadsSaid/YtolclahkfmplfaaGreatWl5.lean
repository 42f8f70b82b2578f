/- Fo: texts of the claim, in this order. -/
import Derived.Test.YtolclahkfmplfaaGreatWl2
import Derived.Test.YtolclahkfmplfaaGreatWl3
import Derived.Test.YtolclahkfmplfaaGreatWl4
/- Contracts: ladder.Rebuild; shelfmarkref27 Rebuild, Load, Merge. -/
namespace Go.Proofs.YtolclahkfmplfaaGreat
open Go Go.RowKit
set_option maxRecDepth 100000
theorem own_form2e {w : World} {B n c s : Nat} {e : TypeId} {A : Option Addr} {xs : List Value} (h : w.ownsRow B e s (.slice A n c) n xs) : n ≤ c ∧ c ≤ maxLen := by
  obtain ⟨A', c', h4, h5, h6⟩ := own_form h
  obtain ⟨rfl, rfl⟩ : A = A' ∧ c = c' := by simpa using h4
  exact ⟨h5, h6⟩
theorem both_mem : ∀ (n : Nat) (a b : List Pr), a.length + b.length ≤ n → ∀ p ∈ bothL a b, p ∈ a ∨ p ∈ b := by
  intro n
  induction n with
  | zero => intro a b h p hp; cases a <;> cases b <;> simp at h; simp [bothL] at hp
  | succ n ih =>
    intro a b h p hp
    match a, b with
    | [], b => rw [bothL] at hp; exact .inr hp
    | x :: a, [] => rw [both_nil] at hp; exact .inl hp
    | x :: a, y :: b =>
      simp only [List.length_cons] at h
      rw [bothL] at hp
      split at hp
      · rcases List.mem_cons.1 hp with e | e
        · exact .inl (e ▸ List.mem_cons_self)
        · rcases ih a (y :: b) (by simp; omega) p e with k | k
          · exact .inl (List.mem_cons_of_mem _ k)
          · exact .inr k
      · split at hp
        · rcases List.mem_cons.1 hp with e | e
          · exact .inr (e ▸ List.mem_cons_self)
          · rcases ih a b (by omega) p e with k | k
            · exact .inl (List.mem_cons_of_mem _ k)
            · exact .inr (List.mem_cons_of_mem _ k)
        · rcases List.mem_cons.1 hp with e | e
          · exact .inr (e ▸ List.mem_cons_self)
          · rcases ih (x :: a) b (by simp; omega) p e with k | k
            · exact .inl k
            · exact .inr (List.mem_cons_of_mem _ k)
theorem both_ris : ∀ (n : Nat) (a b : List Pr), a.length + b.length ≤ n → Ris a → Ris b → Ris (bothL a b) := by
  intro n
  induction n with
  | zero => intro a b h _ _; cases a <;> cases b <;> simp at h; rw [bothL]; exact Ris.nil
  | succ n ih =>
    intro a b h ha hb
    match a, b with
    | [], b => rw [bothL]; exact hb
    | x :: a, [] => rw [both_nil]; exact ha
    | x :: a, y :: b =>
      simp only [List.length_cons] at h
      obtain ⟨a1, a2⟩ := ris_cons.1 ha
      obtain ⟨b1, b2⟩ := ris_cons.1 hb
      rw [bothL]
      split
      · rename_i c1
        refine ris_cons.2 ⟨fun q hq => ?_, ih a (y :: b) (by simp; omega) a2 hb⟩
        rcases both_mem n a (y :: b) (by simp; omega) q hq with k | k
        · exact a1 q k
        · rcases List.mem_cons.1 k with e | e
          · rw [e]; exact c1
          · have := b1 q e; omega
      · split
        · rename_i c1 c2
          refine ris_cons.2 ⟨fun q hq => ?_, ih a b (by omega) a2 b2⟩
          rcases both_mem n a b (by omega) q hq with k | k
          · have := a1 q k; omega
          · exact b1 q k
        · rename_i c1 c2
          refine ris_cons.2 ⟨fun q hq => ?_, ih (x :: a) b (by simp; omega) ha b2⟩
          rcases both_mem n (x :: a) b (by simp; omega) q hq with k | k
          · rcases List.mem_cons.1 k with e | e
            · rw [e]; omega
            · have := a1 q e; omega
          · exact b1 q k
theorem anew_rl {c : Cfg} {L : Lv} {l : List Pr} (n : Int) (he : errL c L = 0) (hr : Ris l) (hl : l.length ≤ 65536) :
    anE c L l = (if c.most < (l.length : Int) then 9 else 0) ∧ anL c L l = (if c.most < (l.length : Int) then [] else newL l) ∧ anN c L n l = (if c.most < (l.length : Int) then 0 else IntKind.u64.wrap (n + l.length)) := by
  obtain ⟨_, h2, _, _⟩ := errL_zero he
  have h5 : ofEr L l = 0 := by unfold ofEr; rw [if_neg (by simp [h2])]; exact alive_build hr hl
  unfold anE anL anN ofLr ofNr newL
  rw [if_pos h5, if_pos h5, h5]
  exact ⟨rfl, rfl, rfl⟩
def rbL (c : Cfg) (L : Lv) : Lv := if errL c L = 0 then newL (prD c L) else []
def rbN (c : Cfg) (L : Lv) (n : Int) : Int := if errL c L = 0 then IntKind.u64.wrap (n + (prD c L).length) else 0
set_option maxHeartbeats 16000000 in
theorem rebuildD_any (B : Option Addr) (Rs : List Rm) (k : Nat) (c : Cfg) (n : Int) (w : World) (hB : RunsAt w B Rs) (hT : tot (lvs Rs) ≤ 1000000) (hl : Rs.length ≤ 1000000) (hT3 : tot (lvs Rs) ≤ 300) :
    Calls Tryz.prog 10 #[.agg (lrow c B Rs.length k n)] w (GivesLd (ldC c (errL c (lvs Rs))) (rbL c (lvs Rs)) (rbN c (lvs Rs) n) (errL c (lvs Rs)) w) := by
  obtain ⟨W0, hW0⟩ : ∃ W0, (w.alloc (.cells #[.int .u8 c.tag, .int .i64 c.most, .int .i64 c.seg, .int .i64 c.least, .int .i64 c.den, .int .i64 c.leafLow, .int .i64 c.rootLow, .int .i64 c.rootHigh, .int .i64 c.leafHigh, .slice B Rs.length k, .int .u64 n] 29)).alloc (.cells #[.int .u8 0, .int .i64 0, .int .i64 0, .int .i64 0, .int .i64 0, .int .i64 0, .int .i64 0, .int .i64 0, .int .i64 0, .slice none 0 0, .int .u64 0] 29) = W0 := ⟨_, rfl⟩
  have hb0 : Below w.heap.size w W0 := by rw [← hW0]; exact ((Below.refl _ _).alloc (Nat.le_refl _) _).alloc (by simp) _
  have b0 : Blk W0 w.heap.size 29 #[.int .u8 c.tag, .int .i64 c.most, .int .i64 c.seg, .int .i64 c.least, .int .i64 c.den, .int .i64 c.leafLow, .int .i64 c.rootLow, .int .i64 c.rootHigh, .int .i64 c.leafHigh, .slice B Rs.length k, .int .u64 n] := by rw [← hW0]; exact (Blk.new _ _ _).alloc _
  have br0 : Blk W0 (w.heap.size + 1) 29 #[.int .u8 0, .int .i64 0, .int .i64 0, .int .i64 0, .int .i64 0, .int .i64 0, .int .i64 0, .int .i64 0, .int .i64 0, .slice none 0 0, .int .u64 0] := by
    rw [← hW0]
    have := Blk.new (w.alloc (.cells #[.int .u8 c.tag, .int .i64 c.most, .int .i64 c.seg, .int .i64 c.least, .int .i64 c.den, .int .i64 c.leafLow, .int .i64 c.rootLow, .int .i64 c.rootHigh, .int .i64 c.leafHigh, .slice B Rs.length k, .int .u64 n] 29)) 29 #[.int .u8 0, .int .i64 0, .int .i64 0, .int .i64 0, .int .i64 0, .int .i64 0, .int .i64 0, .int .i64 0, .int .i64 0, .slice none 0 0, .int .u64 0]
    rwa [World.size_alloc] at this
  have HW0 := Lib.hid hW0
  have HB := Lib.hid (hB.below hb0)
  have HB0 := Lib.hid hb0
  have HC0 := Lib.hid b0
  have HR0 := Lib.hid br0
  have hris := prD_ris c (lvs Rs)
  have hln := prD_len c (lvs Rs)
  have h1L : rbL c (lvs Rs) = if errL c (lvs Rs) = 0 then newL (prD c (lvs Rs)) else [] := rfl
  have h1N : rbN c (lvs Rs) n = if errL c (lvs Rs) = 0 then IntKind.u64.wrap (n + (prD c (lvs Rs)).length) else 0 := rfl
  obtain ⟨L9, hL9⟩ : ∃ z, rbL c (lvs Rs) = z := ⟨_, rfl⟩
  obtain ⟨N9, hN9⟩ : ∃ z, rbN c (lvs Rs) n = z := ⟨_, rfl⟩
  rw [hL9, hN9]
  rw [hL9] at h1L
  rw [hN9] at h1N
  have hpa := pairsD_any B Rs k c n W0 HB.out hT hl
  have hok := fun he => anew_ok (c := c) (L := lvs Rs) (l := prD c (lvs Rs)) n he (Nat.le_refl _) hris (by omega)
  have han := fun A ca W (hW : RunsAt W B Rs) (hA : Sl W A ((prD c (lvs Rs)).flatMap Pr.cells)) => anew_any B Rs k c n A (prD c (lvs Rs)) ca W hW hT hl hA (by omega)
  obtain ⟨ae, hae⟩ : ∃ z, anE c (lvs Rs) (prD c (lvs Rs)) = z := ⟨_, rfl⟩
  obtain ⟨al, hal⟩ : ∃ z, anL c (lvs Rs) (prD c (lvs Rs)) = z := ⟨_, rfl⟩
  obtain ⟨an, hann⟩ : ∃ z, anN c (lvs Rs) n (prD c (lvs Rs)) = z := ⟨_, rfl⟩
  rw [hae, hal, hann] at hok han
  obtain ⟨P, hP⟩ : ∃ P, prD c (lvs Rs) = P := ⟨_, rfl⟩
  obtain ⟨E, hE⟩ : ∃ E, errL c (lvs Rs) = E := ⟨_, rfl⟩
  rw [hP] at h1L h1N hpa hok han
  rw [hE] at h1L h1N hpa hok
  rw [hE]
  obtain ⟨ac, hac⟩ : ∃ z, ldC c ae = z := ⟨_, rfl⟩
  rw [hac] at han
  have hz9 : ∀ e : Int, e ≠ 0 → ldC c e = cz := fun e h => by unfold ldC; rw [if_neg h]
  have HPA := Lib.hid hpa
  have HOK := Lib.hid hok
  have HAN := Lib.hid han
  have H1L := Lib.hid h1L
  have H1N := Lib.hid h1N
  have HAC := Lib.hid hac
  have HZ9 := Lib.hid hz9
  clear hW0 hB hpa hok han h1L h1N hac hae hal hann hP hE hL9 hN9 hz9 hris hln hT hT3
  have q0 : W0.cell? ⟨w.heap.size, 0, none⟩ = some (.int .u8 c.tag) := b0.cell 0
  have q1 : W0.cell? ⟨w.heap.size, 1, none⟩ = some (.int .i64 c.most) := b0.cell 1
  have q2 : W0.cell? ⟨w.heap.size, 2, none⟩ = some (.int .i64 c.seg) := b0.cell 2
  have q3 : W0.cell? ⟨w.heap.size, 3, none⟩ = some (.int .i64 c.least) := b0.cell 3
  have q4 : W0.cell? ⟨w.heap.size, 4, none⟩ = some (.int .i64 c.den) := b0.cell 4
  have q5 : W0.cell? ⟨w.heap.size, 5, none⟩ = some (.int .i64 c.leafLow) := b0.cell 5
  have q6 : W0.cell? ⟨w.heap.size, 6, none⟩ = some (.int .i64 c.rootLow) := b0.cell 6
  have q7 : W0.cell? ⟨w.heap.size, 7, none⟩ = some (.int .i64 c.rootHigh) := b0.cell 7
  have q8 : W0.cell? ⟨w.heap.size, 8, none⟩ = some (.int .i64 c.leafHigh) := b0.cell 8
  have q9 : W0.cell? ⟨w.heap.size, 9, none⟩ = some (.slice B Rs.length k) := b0.cell 9
  have q10 : W0.cell? ⟨w.heap.size, 10, none⟩ = some (.int .u64 n) := b0.cell 10
  clear b0 hb0 br0
  go_enter Tryz.func10, Tryz.ntmps10
  go_upto_region 1 with fail
  rw [HW0.out]
  have HY1 := Lib.hid (HB.out)
  go_wp2_with fail
  refine (HPA.out).mono ?_
  rintro e w2 ⟨A1, c1, rfl, ho1, hb3⟩
  have HP1 := Lib.hid (own_sl ho1)
  clear ho1 q0 q1 q2 q3 q4 q5 q6 q7 q8 q9 q10
  have HF4 := Lib.hid (bext HB0.out hb3)
  have HX5 := Lib.hid (HC0.out.below hb3 HC0.out.lt)
  have HX6 := Lib.hid (HR0.out.below hb3 HR0.out.lt)
  have HY7 := Lib.hid (RunsAt.below HY1.out hb3)
  clear HC0 HR0 HY1
  clear hb3
  have HY8 := Lib.hid (HP1.out)
  have c9 : w2.cell? ⟨(w.heap.size + 1), 0, none⟩ = some (.int .u8 0) := HX6.out.cell 0
  have c10 : w2.cell? ⟨(w.heap.size + 1), 1, none⟩ = some (.int .i64 0) := HX6.out.cell 1
  have c11 : w2.cell? ⟨(w.heap.size + 1), 2, none⟩ = some (.int .i64 0) := HX6.out.cell 2
  have c12 : w2.cell? ⟨(w.heap.size + 1), 3, none⟩ = some (.int .i64 0) := HX6.out.cell 3
  have c13 : w2.cell? ⟨(w.heap.size + 1), 4, none⟩ = some (.int .i64 0) := HX6.out.cell 4
  have c14 : w2.cell? ⟨(w.heap.size + 1), 5, none⟩ = some (.int .i64 0) := HX6.out.cell 5
  have c15 : w2.cell? ⟨(w.heap.size + 1), 6, none⟩ = some (.int .i64 0) := HX6.out.cell 6
  have c16 : w2.cell? ⟨(w.heap.size + 1), 7, none⟩ = some (.int .i64 0) := HX6.out.cell 7
  have c17 : w2.cell? ⟨(w.heap.size + 1), 8, none⟩ = some (.int .i64 0) := HX6.out.cell 8
  have c18 : w2.cell? ⟨(w.heap.size + 1), 9, none⟩ = some (.slice none 0 0) := HX6.out.cell 9
  have c19 : w2.cell? ⟨(w.heap.size + 1), 10, none⟩ = some (.int .u64 0) := HX6.out.cell 10
  have l20 : (w.heap.size + 1) < w2.heap.size := HX6.out.lt
  have fr0 := HX6.out.frozen 0
  have fr1 := HX6.out.frozen 1
  have fr2 := HX6.out.frozen 2
  have fr3 := HX6.out.frozen 3
  have fr4 := HX6.out.frozen 4
  have fr5 := HX6.out.frozen 5
  have fr6 := HX6.out.frozen 6
  have fr7 := HX6.out.frozen 7
  have fr8 := HX6.out.frozen 8
  have fr9 := HX6.out.frozen 9
  have fr10 := HX6.out.frozen 10
  by_cases hE0 : E = 0
  case neg =>
    have h1 : (E != 0) = true := by simpa using hE0
    have HX : Hid (L9 = [] ∧ N9 = 0) := by
      show _ ∧ _
      rw [H1L.out, H1N.out, if_neg hE0, if_neg hE0]
      exact ⟨rfl, rfl⟩
    go_wp2_with fail
    have bz := put11 HX6.out (.int .u8 0) (.int .i64 0) (.int .i64 0) (.int .i64 0) (.int .i64 0) (.int .i64 0) (.int .i64 0) (.int .i64 0) (.int .i64 0) (.slice none 0 0) (.int .u64 0)
    have z0 := bz.cell 0
    have z1 := bz.cell 1
    have z2 := bz.cell 2
    have z3 := bz.cell 3
    have z4 := bz.cell 4
    have z5 := bz.cell 5
    have z6 := bz.cell 6
    have z7 := bz.cell 7
    have z8 := bz.cell 8
    have z9 := bz.cell 9
    have z10 := bz.cell 10
    simp only [List.getElem?_toArray, List.getElem?_cons_zero, List.getElem?_cons_succ] at z0 z1 z2 z3 z4 z5 z6 z7 z8 z9 z10
    refine bodyPost_ret (v := .tuple #[.agg #[.int .u8 0, .int .i64 0, .int .i64 0, .int .i64 0, .int .i64 0, .int .i64 0, .int .i64 0, .int .i64 0, .int .i64 0, .slice none 0 0, .int .u64 0], .int .i64 E]) (by simp [results, Tryz.results10, go_sem, z0, z1, z2, z3, z4, z5, z6, z7, z8, z9, z10]) rfl ?_
    rw [HX.out.1, HX.out.2, HZ9.out E hE0]
    exact ⟨none, 0, [], rfl, rfl, OwnRs.nil _ _, below11 HF4.out (by omega) _ _ _ _ _ _ _ _ _ _ _⟩
  case pos =>
  have HX : Hid (L9 = newL P ∧ N9 = IntKind.u64.wrap (n + P.length)) := by
    show _ ∧ _
    rw [H1L.out, H1N.out, if_pos hE0, if_pos hE0]
    exact ⟨rfl, rfl⟩
  have HEC : Hid (ldC c E = c) := by show _ = _; unfold ldC; rw [if_pos hE0]
  clear H1L H1N
  have HO2 := Lib.hid (HOK.out hE0)
  clear HOK
  subst hE0
  have c21 : w2.cell? ⟨w.heap.size, 0, none⟩ = some (.int .u8 c.tag) := HX5.out.cell 0
  have c22 : w2.cell? ⟨w.heap.size, 1, none⟩ = some (.int .i64 c.most) := HX5.out.cell 1
  have c23 : w2.cell? ⟨w.heap.size, 2, none⟩ = some (.int .i64 c.seg) := HX5.out.cell 2
  have c24 : w2.cell? ⟨w.heap.size, 3, none⟩ = some (.int .i64 c.least) := HX5.out.cell 3
  have c25 : w2.cell? ⟨w.heap.size, 4, none⟩ = some (.int .i64 c.den) := HX5.out.cell 4
  have c26 : w2.cell? ⟨w.heap.size, 5, none⟩ = some (.int .i64 c.leafLow) := HX5.out.cell 5
  have c27 : w2.cell? ⟨w.heap.size, 6, none⟩ = some (.int .i64 c.rootLow) := HX5.out.cell 6
  have c28 : w2.cell? ⟨w.heap.size, 7, none⟩ = some (.int .i64 c.rootHigh) := HX5.out.cell 7
  have c29 : w2.cell? ⟨w.heap.size, 8, none⟩ = some (.int .i64 c.leafHigh) := HX5.out.cell 8
  have c30 : w2.cell? ⟨w.heap.size, 9, none⟩ = some (.slice B Rs.length k) := HX5.out.cell 9
  have c31 : w2.cell? ⟨w.heap.size, 10, none⟩ = some (.int .u64 n) := HX5.out.cell 10
  have l32 : w.heap.size < w2.heap.size := HX5.out.lt
  go_wp2_with fail
  clear c9 c10 c11 c12 c13 c14 c15 c16 c17 c18 c19 l20 c21 c22 c23 c24 c25 c26 c27 c28 c29 c30 c31 l32
  clear fr0 fr1 fr2 fr3 fr4 fr5 fr6 fr7 fr8 fr9 fr10
  refine (HAN.out _ _ _ HY7.out HY8.out).mono ?_
  rintro e w33 ⟨B2, k2, R2, rfl, hl2, ho2, hb34⟩
  have HL2 := Lib.hid hl2
  have HO9 := Lib.hid (ho2.mono HF4.out.size)
  clear hl2 ho2
  have HF35 := Lib.hid (bext HF4.out hb34)
  have HX36 := Lib.hid (HX5.out.below hb34 HX5.out.lt)
  have HX37 := Lib.hid (HX6.out.below hb34 HX6.out.lt)
  have HY38 := Lib.hid (RunsAt.below HY7.out hb34)
  have HY39 := Lib.hid (HY8.out.below hb34)
  clear HF4 HX5 HX6 HY7 HY8
  clear hb34
  have HY40 := Lib.hid (HO9.out)
  obtain ⟨z1, z2, z3⟩ := HO2.out
  have HZ2 := Lib.hid z2
  have HZ3 := Lib.hid z3
  have HZ1 : Hid (ac = c) := by show _ = _; rw [← HAC.out, z1]; rfl
  clear z2 z3
  subst z1
  have c41 : w33.cell? ⟨(w.heap.size + 1), 0, none⟩ = some (.int .u8 0) := HX37.out.cell 0
  have c42 : w33.cell? ⟨(w.heap.size + 1), 1, none⟩ = some (.int .i64 0) := HX37.out.cell 1
  have c43 : w33.cell? ⟨(w.heap.size + 1), 2, none⟩ = some (.int .i64 0) := HX37.out.cell 2
  have c44 : w33.cell? ⟨(w.heap.size + 1), 3, none⟩ = some (.int .i64 0) := HX37.out.cell 3
  have c45 : w33.cell? ⟨(w.heap.size + 1), 4, none⟩ = some (.int .i64 0) := HX37.out.cell 4
  have c46 : w33.cell? ⟨(w.heap.size + 1), 5, none⟩ = some (.int .i64 0) := HX37.out.cell 5
  have c47 : w33.cell? ⟨(w.heap.size + 1), 6, none⟩ = some (.int .i64 0) := HX37.out.cell 6
  have c48 : w33.cell? ⟨(w.heap.size + 1), 7, none⟩ = some (.int .i64 0) := HX37.out.cell 7
  have c49 : w33.cell? ⟨(w.heap.size + 1), 8, none⟩ = some (.int .i64 0) := HX37.out.cell 8
  have c50 : w33.cell? ⟨(w.heap.size + 1), 9, none⟩ = some (.slice none 0 0) := HX37.out.cell 9
  have c51 : w33.cell? ⟨(w.heap.size + 1), 10, none⟩ = some (.int .u64 0) := HX37.out.cell 10
  have l52 : (w.heap.size + 1) < w33.heap.size := HX37.out.lt
  have fr0 := HX37.out.frozen 0
  have fr1 := HX37.out.frozen 1
  have fr2 := HX37.out.frozen 2
  have fr3 := HX37.out.frozen 3
  have fr4 := HX37.out.frozen 4
  have fr5 := HX37.out.frozen 5
  have fr6 := HX37.out.frozen 6
  have fr7 := HX37.out.frozen 7
  have fr8 := HX37.out.frozen 8
  have fr9 := HX37.out.frozen 9
  have fr10 := HX37.out.frozen 10
  go_wp2_with fail
  have bz := put11 HX37.out (.int .u8 ac.tag) (.int .i64 ac.most) (.int .i64 ac.seg) (.int .i64 ac.least) (.int .i64 ac.den) (.int .i64 ac.leafLow) (.int .i64 ac.rootLow) (.int .i64 ac.rootHigh) (.int .i64 ac.leafHigh) (.slice B2 R2.length k2) (.int .u64 an)
  have z0 := bz.cell 0
  have z1 := bz.cell 1
  have z2 := bz.cell 2
  have z3 := bz.cell 3
  have z4 := bz.cell 4
  have z5 := bz.cell 5
  have z6 := bz.cell 6
  have z7 := bz.cell 7
  have z8 := bz.cell 8
  have z9 := bz.cell 9
  have z10 := bz.cell 10
  simp only [List.getElem?_toArray, List.getElem?_cons_zero, List.getElem?_cons_succ] at z0 z1 z2 z3 z4 z5 z6 z7 z8 z9 z10
  refine bodyPost_ret (v := .tuple #[.agg #[.int .u8 ac.tag, .int .i64 ac.most, .int .i64 ac.seg, .int .i64 ac.least, .int .i64 ac.den, .int .i64 ac.leafLow, .int .i64 ac.rootLow, .int .i64 ac.rootHigh, .int .i64 ac.leafHigh, .slice B2 R2.length k2, .int .u64 an], .int .i64 0]) (by simp [results, Tryz.results10, go_sem, z0, z1, z2, z3, z4, z5, z6, z7, z8, z9, z10]) rfl ?_
  rw [HX.out.1, HX.out.2, HEC.out, ← HZ1.out, ← HZ2.out, ← HZ3.out]
  exact ⟨B2, k2, R2, rfl, HL2.out, HY40.out.set11 HX37.out (by decide) (by decide) _ _ _ _ _ _ _ _ _ _ _, below11 HF35.out (by omega) _ _ _ _ _ _ _ _ _ _ _⟩
set_option maxHeartbeats 16000000 in
theorem rebuild27_any (B : Option Addr) (Rs : List Rm) (k : Nat) (c : Cfg) (n : Int) (w : World) (hB : RunsAt w B Rs) (hT : tot (lvs Rs) ≤ 1000000) (hl : Rs.length ≤ 1000000) (hT3 : tot (lvs Rs) ≤ 300) :
    Calls Tryz.prog 11 #[.agg (lrow c B Rs.length k n)] w (GivesLd (ldC c (errL c (lvs Rs))) (rbL c (lvs Rs)) (rbN c (lvs Rs) n) (errL c (lvs Rs)) w) := by
  obtain ⟨W0, hW0⟩ : ∃ W0, (w.alloc (.cells #[.int .u8 c.tag, .int .i64 c.most, .int .i64 c.seg, .int .i64 c.least, .int .i64 c.den, .int .i64 c.leafLow, .int .i64 c.rootLow, .int .i64 c.rootHigh, .int .i64 c.leafHigh, .slice B Rs.length k, .int .u64 n] 29)).alloc (.cells #[.int .u8 0, .int .i64 0, .int .i64 0, .int .i64 0, .int .i64 0, .int .i64 0, .int .i64 0, .int .i64 0, .int .i64 0, .slice none 0 0, .int .u64 0] 29) = W0 := ⟨_, rfl⟩
  have hb0 : Below w.heap.size w W0 := by rw [← hW0]; exact ((Below.refl _ _).alloc (Nat.le_refl _) _).alloc (by simp) _
  have b0 : Blk W0 w.heap.size 29 #[.int .u8 c.tag, .int .i64 c.most, .int .i64 c.seg, .int .i64 c.least, .int .i64 c.den, .int .i64 c.leafLow, .int .i64 c.rootLow, .int .i64 c.rootHigh, .int .i64 c.leafHigh, .slice B Rs.length k, .int .u64 n] := by rw [← hW0]; exact (Blk.new _ _ _).alloc _
  have br0 : Blk W0 (w.heap.size + 1) 29 #[.int .u8 0, .int .i64 0, .int .i64 0, .int .i64 0, .int .i64 0, .int .i64 0, .int .i64 0, .int .i64 0, .int .i64 0, .slice none 0 0, .int .u64 0] := by
    rw [← hW0]
    have := Blk.new (w.alloc (.cells #[.int .u8 c.tag, .int .i64 c.most, .int .i64 c.seg, .int .i64 c.least, .int .i64 c.den, .int .i64 c.leafLow, .int .i64 c.rootLow, .int .i64 c.rootHigh, .int .i64 c.leafHigh, .slice B Rs.length k, .int .u64 n] 29)) 29 #[.int .u8 0, .int .i64 0, .int .i64 0, .int .i64 0, .int .i64 0, .int .i64 0, .int .i64 0, .int .i64 0, .int .i64 0, .slice none 0 0, .int .u64 0]
    rwa [World.size_alloc] at this
  have HW0 := Lib.hid hW0
  have HB := Lib.hid (hB.below hb0)
  have HB0 := Lib.hid hb0
  have HC0 := Lib.hid b0
  have HR0 := Lib.hid br0
  have hris := prD_ris c (lvs Rs)
  have hln := prD_len c (lvs Rs)
  have h1L : rbL c (lvs Rs) = if errL c (lvs Rs) = 0 then newL (prD c (lvs Rs)) else [] := rfl
  have h1N : rbN c (lvs Rs) n = if errL c (lvs Rs) = 0 then IntKind.u64.wrap (n + (prD c (lvs Rs)).length) else 0 := rfl
  obtain ⟨L9, hL9⟩ : ∃ z, rbL c (lvs Rs) = z := ⟨_, rfl⟩
  obtain ⟨N9, hN9⟩ : ∃ z, rbN c (lvs Rs) n = z := ⟨_, rfl⟩
  rw [hL9, hN9]
  rw [hL9] at h1L
  rw [hN9] at h1N
  have hpa := pairs27_any B Rs k c n W0 HB.out hT hl
  obtain ⟨P, hP⟩ : ∃ P, prD c (lvs Rs) = P := ⟨_, rfl⟩
  obtain ⟨E, hE⟩ : ∃ E, errL c (lvs Rs) = E := ⟨_, rfl⟩
  rw [hP] at h1L h1N hpa hln
  rw [hE] at h1L h1N hpa
  rw [hE]
  have han := fun A ca W (hA : Sl W A (P.flatMap Pr.cells)) => anew27_any B Rs k c n A P ca W hA (by omega)
  have hz9 : ∀ e : Int, e ≠ 0 → ldC c e = cz := fun e h => by unfold ldC; rw [if_neg h]
  have HPA := Lib.hid hpa
  have HAN := Lib.hid han
  have H1L := Lib.hid h1L
  have H1N := Lib.hid h1N
  have HZ9 := Lib.hid hz9
  clear hW0 hB hpa han h1L h1N hP hE hL9 hN9 hz9 hris hln hT hT3
  have q0 : W0.cell? ⟨w.heap.size, 0, none⟩ = some (.int .u8 c.tag) := b0.cell 0
  have q1 : W0.cell? ⟨w.heap.size, 1, none⟩ = some (.int .i64 c.most) := b0.cell 1
  have q2 : W0.cell? ⟨w.heap.size, 2, none⟩ = some (.int .i64 c.seg) := b0.cell 2
  have q3 : W0.cell? ⟨w.heap.size, 3, none⟩ = some (.int .i64 c.least) := b0.cell 3
  have q4 : W0.cell? ⟨w.heap.size, 4, none⟩ = some (.int .i64 c.den) := b0.cell 4
  have q5 : W0.cell? ⟨w.heap.size, 5, none⟩ = some (.int .i64 c.leafLow) := b0.cell 5
  have q6 : W0.cell? ⟨w.heap.size, 6, none⟩ = some (.int .i64 c.rootLow) := b0.cell 6
  have q7 : W0.cell? ⟨w.heap.size, 7, none⟩ = some (.int .i64 c.rootHigh) := b0.cell 7
  have q8 : W0.cell? ⟨w.heap.size, 8, none⟩ = some (.int .i64 c.leafHigh) := b0.cell 8
  have q9 : W0.cell? ⟨w.heap.size, 9, none⟩ = some (.slice B Rs.length k) := b0.cell 9
  have q10 : W0.cell? ⟨w.heap.size, 10, none⟩ = some (.int .u64 n) := b0.cell 10
  clear b0 hb0 br0
  go_enter Tryz.func11, Tryz.ntmps11
  go_upto_region 1 with fail
  rw [HW0.out]
  go_wp2_with fail
  refine (HPA.out).mono ?_
  rintro e w1 ⟨A1, c1, rfl, ho1, hb2⟩
  have HP1 := Lib.hid (own_sl ho1)
  clear ho1 q0 q1 q2 q3 q4 q5 q6 q7 q8 q9 q10
  have HF3 := Lib.hid (bext HB0.out hb2)
  have HX4 := Lib.hid (HC0.out.below hb2 HC0.out.lt)
  have HX5 := Lib.hid (HR0.out.below hb2 HR0.out.lt)
  clear HC0 HR0
  clear hb2
  have HY6 := Lib.hid (HP1.out)
  have c7 : w1.cell? ⟨(w.heap.size + 1), 0, none⟩ = some (.int .u8 0) := HX5.out.cell 0
  have c8 : w1.cell? ⟨(w.heap.size + 1), 1, none⟩ = some (.int .i64 0) := HX5.out.cell 1
  have c9 : w1.cell? ⟨(w.heap.size + 1), 2, none⟩ = some (.int .i64 0) := HX5.out.cell 2
  have c10 : w1.cell? ⟨(w.heap.size + 1), 3, none⟩ = some (.int .i64 0) := HX5.out.cell 3
  have c11 : w1.cell? ⟨(w.heap.size + 1), 4, none⟩ = some (.int .i64 0) := HX5.out.cell 4
  have c12 : w1.cell? ⟨(w.heap.size + 1), 5, none⟩ = some (.int .i64 0) := HX5.out.cell 5
  have c13 : w1.cell? ⟨(w.heap.size + 1), 6, none⟩ = some (.int .i64 0) := HX5.out.cell 6
  have c14 : w1.cell? ⟨(w.heap.size + 1), 7, none⟩ = some (.int .i64 0) := HX5.out.cell 7
  have c15 : w1.cell? ⟨(w.heap.size + 1), 8, none⟩ = some (.int .i64 0) := HX5.out.cell 8
  have c16 : w1.cell? ⟨(w.heap.size + 1), 9, none⟩ = some (.slice none 0 0) := HX5.out.cell 9
  have c17 : w1.cell? ⟨(w.heap.size + 1), 10, none⟩ = some (.int .u64 0) := HX5.out.cell 10
  have l18 : (w.heap.size + 1) < w1.heap.size := HX5.out.lt
  have fr0 := HX5.out.frozen 0
  have fr1 := HX5.out.frozen 1
  have fr2 := HX5.out.frozen 2
  have fr3 := HX5.out.frozen 3
  have fr4 := HX5.out.frozen 4
  have fr5 := HX5.out.frozen 5
  have fr6 := HX5.out.frozen 6
  have fr7 := HX5.out.frozen 7
  have fr8 := HX5.out.frozen 8
  have fr9 := HX5.out.frozen 9
  have fr10 := HX5.out.frozen 10
  by_cases hE0 : E = 0
  case neg =>
    have h1 : (E != 0) = true := by simpa using hE0
    have HX : Hid (L9 = [] ∧ N9 = 0) := by
      show _ ∧ _
      rw [H1L.out, H1N.out, if_neg hE0, if_neg hE0]
      exact ⟨rfl, rfl⟩
    go_wp2_with fail
    have bz := put11 HX5.out (.int .u8 0) (.int .i64 0) (.int .i64 0) (.int .i64 0) (.int .i64 0) (.int .i64 0) (.int .i64 0) (.int .i64 0) (.int .i64 0) (.slice none 0 0) (.int .u64 0)
    have z0 := bz.cell 0
    have z1 := bz.cell 1
    have z2 := bz.cell 2
    have z3 := bz.cell 3
    have z4 := bz.cell 4
    have z5 := bz.cell 5
    have z6 := bz.cell 6
    have z7 := bz.cell 7
    have z8 := bz.cell 8
    have z9 := bz.cell 9
    have z10 := bz.cell 10
    simp only [List.getElem?_toArray, List.getElem?_cons_zero, List.getElem?_cons_succ] at z0 z1 z2 z3 z4 z5 z6 z7 z8 z9 z10
    refine bodyPost_ret (v := .tuple #[.agg #[.int .u8 0, .int .i64 0, .int .i64 0, .int .i64 0, .int .i64 0, .int .i64 0, .int .i64 0, .int .i64 0, .int .i64 0, .slice none 0 0, .int .u64 0], .int .i64 E]) (by simp [results, Tryz.results11, go_sem, z0, z1, z2, z3, z4, z5, z6, z7, z8, z9, z10]) rfl ?_
    rw [HX.out.1, HX.out.2, HZ9.out E hE0]
    exact ⟨none, 0, [], rfl, rfl, OwnRs.nil _ _, below11 HF3.out (by omega) _ _ _ _ _ _ _ _ _ _ _⟩
  case pos =>
  have HX : Hid (L9 = newL P ∧ N9 = IntKind.u64.wrap (n + P.length)) := by
    show _ ∧ _
    rw [H1L.out, H1N.out, if_pos hE0, if_pos hE0]
    exact ⟨rfl, rfl⟩
  have HEC : Hid (ldC c E = c) := by show _ = _; unfold ldC; rw [if_pos hE0]
  clear H1L H1N
  subst hE0
  have c19 : w1.cell? ⟨w.heap.size, 0, none⟩ = some (.int .u8 c.tag) := HX4.out.cell 0
  have c20 : w1.cell? ⟨w.heap.size, 1, none⟩ = some (.int .i64 c.most) := HX4.out.cell 1
  have c21 : w1.cell? ⟨w.heap.size, 2, none⟩ = some (.int .i64 c.seg) := HX4.out.cell 2
  have c22 : w1.cell? ⟨w.heap.size, 3, none⟩ = some (.int .i64 c.least) := HX4.out.cell 3
  have c23 : w1.cell? ⟨w.heap.size, 4, none⟩ = some (.int .i64 c.den) := HX4.out.cell 4
  have c24 : w1.cell? ⟨w.heap.size, 5, none⟩ = some (.int .i64 c.leafLow) := HX4.out.cell 5
  have c25 : w1.cell? ⟨w.heap.size, 6, none⟩ = some (.int .i64 c.rootLow) := HX4.out.cell 6
  have c26 : w1.cell? ⟨w.heap.size, 7, none⟩ = some (.int .i64 c.rootHigh) := HX4.out.cell 7
  have c27 : w1.cell? ⟨w.heap.size, 8, none⟩ = some (.int .i64 c.leafHigh) := HX4.out.cell 8
  have c28 : w1.cell? ⟨w.heap.size, 9, none⟩ = some (.slice B Rs.length k) := HX4.out.cell 9
  have c29 : w1.cell? ⟨w.heap.size, 10, none⟩ = some (.int .u64 n) := HX4.out.cell 10
  have l30 : w.heap.size < w1.heap.size := HX4.out.lt
  go_wp2_with fail
  clear c7 c8 c9 c10 c11 c12 c13 c14 c15 c16 c17 l18 c19 c20 c21 c22 c23 c24 c25 c26 c27 c28 c29 l30
  clear fr0 fr1 fr2 fr3 fr4 fr5 fr6 fr7 fr8 fr9 fr10
  refine (HAN.out _ _ _ HY6.out).mono ?_
  rintro e w31 ⟨B2, k2, R2, rfl, hl2, ho2, hb32⟩
  have HL2 := Lib.hid hl2
  have HO9 := Lib.hid (ho2.mono HF3.out.size)
  obtain ⟨an, hanq⟩ : ∃ z, IntKind.u64.wrap (n + (P.length : Int)) = z := ⟨_, rfl⟩
  rw [hanq]
  have HZ3 := Lib.hid hanq
  clear hl2 ho2 hanq
  have HF33 := Lib.hid (bext HF3.out hb32)
  have HX34 := Lib.hid (HX4.out.below hb32 HX4.out.lt)
  have HX35 := Lib.hid (HX5.out.below hb32 HX5.out.lt)
  have HY36 := Lib.hid (HY6.out.below hb32)
  clear HF3 HX4 HX5 HY6
  clear hb32
  have HY37 := Lib.hid (HO9.out)
  have c38 : w31.cell? ⟨(w.heap.size + 1), 0, none⟩ = some (.int .u8 0) := HX35.out.cell 0
  have c39 : w31.cell? ⟨(w.heap.size + 1), 1, none⟩ = some (.int .i64 0) := HX35.out.cell 1
  have c40 : w31.cell? ⟨(w.heap.size + 1), 2, none⟩ = some (.int .i64 0) := HX35.out.cell 2
  have c41 : w31.cell? ⟨(w.heap.size + 1), 3, none⟩ = some (.int .i64 0) := HX35.out.cell 3
  have c42 : w31.cell? ⟨(w.heap.size + 1), 4, none⟩ = some (.int .i64 0) := HX35.out.cell 4
  have c43 : w31.cell? ⟨(w.heap.size + 1), 5, none⟩ = some (.int .i64 0) := HX35.out.cell 5
  have c44 : w31.cell? ⟨(w.heap.size + 1), 6, none⟩ = some (.int .i64 0) := HX35.out.cell 6
  have c45 : w31.cell? ⟨(w.heap.size + 1), 7, none⟩ = some (.int .i64 0) := HX35.out.cell 7
  have c46 : w31.cell? ⟨(w.heap.size + 1), 8, none⟩ = some (.int .i64 0) := HX35.out.cell 8
  have c47 : w31.cell? ⟨(w.heap.size + 1), 9, none⟩ = some (.slice none 0 0) := HX35.out.cell 9
  have c48 : w31.cell? ⟨(w.heap.size + 1), 10, none⟩ = some (.int .u64 0) := HX35.out.cell 10
  have l49 : (w.heap.size + 1) < w31.heap.size := HX35.out.lt
  have fr0 := HX35.out.frozen 0
  have fr1 := HX35.out.frozen 1
  have fr2 := HX35.out.frozen 2
  have fr3 := HX35.out.frozen 3
  have fr4 := HX35.out.frozen 4
  have fr5 := HX35.out.frozen 5
  have fr6 := HX35.out.frozen 6
  have fr7 := HX35.out.frozen 7
  have fr8 := HX35.out.frozen 8
  have fr9 := HX35.out.frozen 9
  have fr10 := HX35.out.frozen 10
  go_wp2_with fail
  have bz := put11 HX35.out (.int .u8 c.tag) (.int .i64 c.most) (.int .i64 c.seg) (.int .i64 c.least) (.int .i64 c.den) (.int .i64 c.leafLow) (.int .i64 c.rootLow) (.int .i64 c.rootHigh) (.int .i64 c.leafHigh) (.slice B2 R2.length k2) (.int .u64 an)
  have z0 := bz.cell 0
  have z1 := bz.cell 1
  have z2 := bz.cell 2
  have z3 := bz.cell 3
  have z4 := bz.cell 4
  have z5 := bz.cell 5
  have z6 := bz.cell 6
  have z7 := bz.cell 7
  have z8 := bz.cell 8
  have z9 := bz.cell 9
  have z10 := bz.cell 10
  simp only [List.getElem?_toArray, List.getElem?_cons_zero, List.getElem?_cons_succ] at z0 z1 z2 z3 z4 z5 z6 z7 z8 z9 z10
  refine bodyPost_ret (v := .tuple #[.agg #[.int .u8 c.tag, .int .i64 c.most, .int .i64 c.seg, .int .i64 c.least, .int .i64 c.den, .int .i64 c.leafLow, .int .i64 c.rootLow, .int .i64 c.rootHigh, .int .i64 c.leafHigh, .slice B2 R2.length k2, .int .u64 an], .int .i64 0]) (by simp [results, Tryz.results11, go_sem, z0, z1, z2, z3, z4, z5, z6, z7, z8, z9, z10]) rfl ?_
  rw [HX.out.1, HX.out.2, HEC.out, HZ3.out]
  exact ⟨B2, k2, R2, rfl, HL2.out, HY37.out.set11 HX35.out (by decide) (by decide) _ _ _ _ _ _ _ _ _ _ _, below11 HF33.out (by omega) _ _ _ _ _ _ _ _ _ _ _⟩
set_option maxHeartbeats 16000000 in
theorem load27_any (B : Option Addr) (Rs : List Rm) (k : Nat) (c : Cfg) (n : Int) (A : Option Addr) (P : List Pr) (ca : Nat) (w : World) (hB : RunsAt w B Rs) (hT : tot (lvs Rs) ≤ 1000000) (hl : Rs.length ≤ 1000000) (hA : Sl w A (P.flatMap Pr.cells)) (hl6 : P.length ≤ 65536) :
    Calls Tryz.prog 7 #[.agg (lrow c B Rs.length k n), .slice A P.length ca] w (GivesLd (ldC c (loE c (lvs Rs) P)) (loL c (lvs Rs) P) (loN c (lvs Rs) n P) (loE c (lvs Rs) P) w) := by
  obtain ⟨W0, hW0⟩ : ∃ W0, (w.alloc (.cells #[.int .u8 c.tag, .int .i64 c.most, .int .i64 c.seg, .int .i64 c.least, .int .i64 c.den, .int .i64 c.leafLow, .int .i64 c.rootLow, .int .i64 c.rootHigh, .int .i64 c.leafHigh, .slice B Rs.length k, .int .u64 n] 29)).alloc (.cells #[.int .u8 0, .int .i64 0, .int .i64 0, .int .i64 0, .int .i64 0, .int .i64 0, .int .i64 0, .int .i64 0, .int .i64 0, .slice none 0 0, .int .u64 0] 29) = W0 := ⟨_, rfl⟩
  have hb0 : Below w.heap.size w W0 := by rw [← hW0]; exact ((Below.refl _ _).alloc (Nat.le_refl _) _).alloc (by simp) _
  have b0 : Blk W0 w.heap.size 29 #[.int .u8 c.tag, .int .i64 c.most, .int .i64 c.seg, .int .i64 c.least, .int .i64 c.den, .int .i64 c.leafLow, .int .i64 c.rootLow, .int .i64 c.rootHigh, .int .i64 c.leafHigh, .slice B Rs.length k, .int .u64 n] := by rw [← hW0]; exact (Blk.new _ _ _).alloc _
  have br0 : Blk W0 (w.heap.size + 1) 29 #[.int .u8 0, .int .i64 0, .int .i64 0, .int .i64 0, .int .i64 0, .int .i64 0, .int .i64 0, .int .i64 0, .int .i64 0, .slice none 0 0, .int .u64 0] := by
    rw [← hW0]
    have := Blk.new (w.alloc (.cells #[.int .u8 c.tag, .int .i64 c.most, .int .i64 c.seg, .int .i64 c.least, .int .i64 c.den, .int .i64 c.leafLow, .int .i64 c.rootLow, .int .i64 c.rootHigh, .int .i64 c.leafHigh, .slice B Rs.length k, .int .u64 n] 29)) 29 #[.int .u8 0, .int .i64 0, .int .i64 0, .int .i64 0, .int .i64 0, .int .i64 0, .int .i64 0, .int .i64 0, .int .i64 0, .slice none 0 0, .int .u64 0]
    rwa [World.size_alloc] at this
  have HW0 := Lib.hid hW0
  have HB := Lib.hid (hB.below hb0)
  have HB0 := Lib.hid hb0
  have HC0 := Lib.hid b0
  have HR0 := Lib.hid br0
  have hck := check27_any B Rs k c n W0 HB.out hT hl
  have hri := fun W (hA : Sl W A (P.flatMap Pr.cells)) => rising10_any A P ca W hA (by omega)
  have han := fun A ca W (hA : Sl W A (P.flatMap Pr.cells)) => anew27_any B Rs k c n A P ca W hA hl6
  have hrl := fun he hr => anew_rl (c := c) (L := lvs Rs) (l := P) n he hr hl6
  have h1E : loE c (lvs Rs) P = if errL c (lvs Rs) = 0 then (if Ris P then anE c (lvs Rs) P else 130) else errL c (lvs Rs) := rfl
  have h1L : loL c (lvs Rs) P = if errL c (lvs Rs) = 0 then (if Ris P then anL c (lvs Rs) P else []) else [] := rfl
  have h1N : loN c (lvs Rs) n P = if errL c (lvs Rs) = 0 then (if Ris P then anN c (lvs Rs) n P else 0) else 0 := rfl
  obtain ⟨E9, hE9⟩ : ∃ x, loE c (lvs Rs) P = x := ⟨_, rfl⟩
  obtain ⟨L9, hL9⟩ : ∃ x, loL c (lvs Rs) P = x := ⟨_, rfl⟩
  obtain ⟨N9, hN9⟩ : ∃ x, loN c (lvs Rs) n P = x := ⟨_, rfl⟩
  rw [hE9, hL9, hN9]
  rw [hE9] at h1E
  rw [hL9] at h1L
  rw [hN9] at h1N
  have hbad : errL c (lvs Rs) ≠ 0 → E9 = errL c (lvs Rs) ∧ L9 = [] ∧ N9 = 0 := fun h => by
    rw [h1E, h1L, h1N, if_neg h, if_neg h, if_neg h]; exact ⟨rfl, rfl, rfl⟩
  have hno : errL c (lvs Rs) = 0 → ¬ Ris P → E9 = 130 ∧ L9 = [] ∧ N9 = 0 := fun h h2 => by
    rw [h1E, h1L, h1N, if_pos h, if_pos h, if_pos h, if_neg h2, if_neg h2, if_neg h2]; exact ⟨rfl, rfl, rfl⟩
  have hf9 : errL c (lvs Rs) = 0 → Ris P → c.most < (P.length : Int) → E9 = 9 ∧ L9 = [] ∧ N9 = 0 := fun h h2 h3 => by
    obtain ⟨a1, a2, a3⟩ := hrl h h2
    rw [h1E, h1L, h1N, if_pos h, if_pos h, if_pos h, if_pos h2, if_pos h2, if_pos h2, a1, a2, a3, if_pos h3, if_pos h3, if_pos h3]; exact ⟨rfl, rfl, rfl⟩
  have hg9 : errL c (lvs Rs) = 0 → Ris P → ¬ c.most < (P.length : Int) → E9 = 0 ∧ L9 = newL P ∧ N9 = IntKind.u64.wrap (n + P.length) := fun h h2 h3 => by
    obtain ⟨a1, a2, a3⟩ := hrl h h2
    rw [h1E, h1L, h1N, if_pos h, if_pos h, if_pos h, if_pos h2, if_pos h2, if_pos h2, a1, a2, a3, if_neg h3, if_neg h3, if_neg h3]; exact ⟨rfl, rfl, rfl⟩
  obtain ⟨V, hV⟩ : ∃ x, errL c (lvs Rs) = x := ⟨_, rfl⟩
  rw [hV] at hck hbad hno hf9 hg9
  obtain ⟨D, hD⟩ : ∃ D, decide (Ris P) = D := ⟨_, rfl⟩
  rw [hD] at hri
  have hz9 : ∀ e : Int, e ≠ 0 → ldC c e = cz := fun e h => by unfold ldC; rw [if_neg h]
  have hz0 : ldC c 0 = c := rfl
  have HCK := Lib.hid hck
  have HRI := Lib.hid hri
  have HAN := Lib.hid han
  have HBA := Lib.hid hbad
  have HNO := Lib.hid hno
  have HF0 := Lib.hid hf9
  have HG0 := Lib.hid hg9
  have HZ9 := Lib.hid hz9
  have HZ0 := Lib.hid hz0
  have HDD := Lib.hid hD
  have HA := Lib.hid (hA.below hb0)
  clear hW0 hB hck hri han hrl h1E h1L h1N hE9 hL9 hN9 hbad hno hf9 hg9 hV hD hz9 hz0 hA hT
  have q0 : W0.cell? ⟨w.heap.size, 0, none⟩ = some (.int .u8 c.tag) := b0.cell 0
  have q1 : W0.cell? ⟨w.heap.size, 1, none⟩ = some (.int .i64 c.most) := b0.cell 1
  have q2 : W0.cell? ⟨w.heap.size, 2, none⟩ = some (.int .i64 c.seg) := b0.cell 2
  have q3 : W0.cell? ⟨w.heap.size, 3, none⟩ = some (.int .i64 c.least) := b0.cell 3
  have q4 : W0.cell? ⟨w.heap.size, 4, none⟩ = some (.int .i64 c.den) := b0.cell 4
  have q5 : W0.cell? ⟨w.heap.size, 5, none⟩ = some (.int .i64 c.leafLow) := b0.cell 5
  have q6 : W0.cell? ⟨w.heap.size, 6, none⟩ = some (.int .i64 c.rootLow) := b0.cell 6
  have q7 : W0.cell? ⟨w.heap.size, 7, none⟩ = some (.int .i64 c.rootHigh) := b0.cell 7
  have q8 : W0.cell? ⟨w.heap.size, 8, none⟩ = some (.int .i64 c.leafHigh) := b0.cell 8
  have q9 : W0.cell? ⟨w.heap.size, 9, none⟩ = some (.slice B Rs.length k) := b0.cell 9
  have q10 : W0.cell? ⟨w.heap.size, 10, none⟩ = some (.int .u64 n) := b0.cell 10
  clear b0 hb0 br0
  go_enter Tryz.func7, Tryz.ntmps7
  go_upto_region 1 with fail
  rw [HW0.out]
  have HY1 := Lib.hid (HA.out)
  go_wp2_with fail
  refine (HCK.out).mono ?_
  rintro e w2 ⟨rfl, hb3⟩
  clear q0 q1 q2 q3 q4 q5 q6 q7 q8 q9 q10
  have HF4 := Lib.hid (bext HB0.out hb3)
  have HX5 := Lib.hid (HC0.out.below hb3 HC0.out.lt)
  have HX6 := Lib.hid (HR0.out.below hb3 HR0.out.lt)
  have HY7 := Lib.hid (HY1.out.below hb3)
  clear HC0 HR0 HY1
  clear hb3
  have c8 : w2.cell? ⟨(w.heap.size + 1), 0, none⟩ = some (.int .u8 0) := HX6.out.cell 0
  have c9 : w2.cell? ⟨(w.heap.size + 1), 1, none⟩ = some (.int .i64 0) := HX6.out.cell 1
  have c10 : w2.cell? ⟨(w.heap.size + 1), 2, none⟩ = some (.int .i64 0) := HX6.out.cell 2
  have c11 : w2.cell? ⟨(w.heap.size + 1), 3, none⟩ = some (.int .i64 0) := HX6.out.cell 3
  have c12 : w2.cell? ⟨(w.heap.size + 1), 4, none⟩ = some (.int .i64 0) := HX6.out.cell 4
  have c13 : w2.cell? ⟨(w.heap.size + 1), 5, none⟩ = some (.int .i64 0) := HX6.out.cell 5
  have c14 : w2.cell? ⟨(w.heap.size + 1), 6, none⟩ = some (.int .i64 0) := HX6.out.cell 6
  have c15 : w2.cell? ⟨(w.heap.size + 1), 7, none⟩ = some (.int .i64 0) := HX6.out.cell 7
  have c16 : w2.cell? ⟨(w.heap.size + 1), 8, none⟩ = some (.int .i64 0) := HX6.out.cell 8
  have c17 : w2.cell? ⟨(w.heap.size + 1), 9, none⟩ = some (.slice none 0 0) := HX6.out.cell 9
  have c18 : w2.cell? ⟨(w.heap.size + 1), 10, none⟩ = some (.int .u64 0) := HX6.out.cell 10
  have l19 : (w.heap.size + 1) < w2.heap.size := HX6.out.lt
  have fr0 := HX6.out.frozen 0
  have fr1 := HX6.out.frozen 1
  have fr2 := HX6.out.frozen 2
  have fr3 := HX6.out.frozen 3
  have fr4 := HX6.out.frozen 4
  have fr5 := HX6.out.frozen 5
  have fr6 := HX6.out.frozen 6
  have fr7 := HX6.out.frozen 7
  have fr8 := HX6.out.frozen 8
  have fr9 := HX6.out.frozen 9
  have fr10 := HX6.out.frozen 10
  by_cases hV0 : V = 0
  case neg =>
    have h1 : (V != 0) = true := by simpa using hV0
    have HX := Lib.hid (HBA.out hV0)
    go_wp2_with fail
    have bz := put11 HX6.out (.int .u8 0) (.int .i64 0) (.int .i64 0) (.int .i64 0) (.int .i64 0) (.int .i64 0) (.int .i64 0) (.int .i64 0) (.int .i64 0) (.slice none 0 0) (.int .u64 0)
    have z0 := bz.cell 0
    have z1 := bz.cell 1
    have z2 := bz.cell 2
    have z3 := bz.cell 3
    have z4 := bz.cell 4
    have z5 := bz.cell 5
    have z6 := bz.cell 6
    have z7 := bz.cell 7
    have z8 := bz.cell 8
    have z9 := bz.cell 9
    have z10 := bz.cell 10
    simp only [List.getElem?_toArray, List.getElem?_cons_zero, List.getElem?_cons_succ] at z0 z1 z2 z3 z4 z5 z6 z7 z8 z9 z10
    refine bodyPost_ret (v := .tuple #[.agg #[.int .u8 0, .int .i64 0, .int .i64 0, .int .i64 0, .int .i64 0, .int .i64 0, .int .i64 0, .int .i64 0, .int .i64 0, .slice none 0 0, .int .u64 0], .int .i64 V]) (by simp [results, Tryz.results7, go_sem, z0, z1, z2, z3, z4, z5, z6, z7, z8, z9, z10]) rfl ?_
    rw [HX.out.1, HX.out.2.1, HX.out.2.2, HZ9.out V hV0]
    exact ⟨none, 0, [], rfl, rfl, OwnRs.nil _ _, below11 HF4.out (by omega) _ _ _ _ _ _ _ _ _ _ _⟩
  case pos =>
  have HN0 := Lib.hid (HNO.out hV0)
  have HF1 := Lib.hid (HF0.out hV0)
  have HG1 := Lib.hid (HG0.out hV0)
  clear HNO HF0 HG0 HBA
  subst hV0
  go_wp2_with fail
  clear c8 c9 c10 c11 c12 c13 c14 c15 c16 c17 c18 l19
  clear fr0 fr1 fr2 fr3 fr4 fr5 fr6 fr7 fr8 fr9 fr10
  refine (HRI.out _ HY7.out).mono ?_
  rintro e w20 ⟨rfl, hb21⟩
  have HF22 := Lib.hid (bext HF4.out hb21)
  have HX23 := Lib.hid (HX5.out.below hb21 HX5.out.lt)
  have HX24 := Lib.hid (HX6.out.below hb21 HX6.out.lt)
  have HY25 := Lib.hid (HY7.out.below hb21)
  clear HF4 HX5 HX6 HY7
  clear hb21
  have c26 : w20.cell? ⟨(w.heap.size + 1), 0, none⟩ = some (.int .u8 0) := HX24.out.cell 0
  have c27 : w20.cell? ⟨(w.heap.size + 1), 1, none⟩ = some (.int .i64 0) := HX24.out.cell 1
  have c28 : w20.cell? ⟨(w.heap.size + 1), 2, none⟩ = some (.int .i64 0) := HX24.out.cell 2
  have c29 : w20.cell? ⟨(w.heap.size + 1), 3, none⟩ = some (.int .i64 0) := HX24.out.cell 3
  have c30 : w20.cell? ⟨(w.heap.size + 1), 4, none⟩ = some (.int .i64 0) := HX24.out.cell 4
  have c31 : w20.cell? ⟨(w.heap.size + 1), 5, none⟩ = some (.int .i64 0) := HX24.out.cell 5
  have c32 : w20.cell? ⟨(w.heap.size + 1), 6, none⟩ = some (.int .i64 0) := HX24.out.cell 6
  have c33 : w20.cell? ⟨(w.heap.size + 1), 7, none⟩ = some (.int .i64 0) := HX24.out.cell 7
  have c34 : w20.cell? ⟨(w.heap.size + 1), 8, none⟩ = some (.int .i64 0) := HX24.out.cell 8
  have c35 : w20.cell? ⟨(w.heap.size + 1), 9, none⟩ = some (.slice none 0 0) := HX24.out.cell 9
  have c36 : w20.cell? ⟨(w.heap.size + 1), 10, none⟩ = some (.int .u64 0) := HX24.out.cell 10
  have l37 : (w.heap.size + 1) < w20.heap.size := HX24.out.lt
  have fr0 := HX24.out.frozen 0
  have fr1 := HX24.out.frozen 1
  have fr2 := HX24.out.frozen 2
  have fr3 := HX24.out.frozen 3
  have fr4 := HX24.out.frozen 4
  have fr5 := HX24.out.frozen 5
  have fr6 := HX24.out.frozen 6
  have fr7 := HX24.out.frozen 7
  have fr8 := HX24.out.frozen 8
  have fr9 := HX24.out.frozen 9
  have fr10 := HX24.out.frozen 10
  cases D with
  | false =>
    have HX := Lib.hid (HN0.out (of_decide_eq_false HDD.out))
    go_wp2_with fail
    have bz := put11 HX24.out (.int .u8 0) (.int .i64 0) (.int .i64 0) (.int .i64 0) (.int .i64 0) (.int .i64 0) (.int .i64 0) (.int .i64 0) (.int .i64 0) (.slice none 0 0) (.int .u64 0)
    have z0 := bz.cell 0
    have z1 := bz.cell 1
    have z2 := bz.cell 2
    have z3 := bz.cell 3
    have z4 := bz.cell 4
    have z5 := bz.cell 5
    have z6 := bz.cell 6
    have z7 := bz.cell 7
    have z8 := bz.cell 8
    have z9 := bz.cell 9
    have z10 := bz.cell 10
    simp only [List.getElem?_toArray, List.getElem?_cons_zero, List.getElem?_cons_succ] at z0 z1 z2 z3 z4 z5 z6 z7 z8 z9 z10
    refine bodyPost_ret (v := .tuple #[.agg #[.int .u8 0, .int .i64 0, .int .i64 0, .int .i64 0, .int .i64 0, .int .i64 0, .int .i64 0, .int .i64 0, .int .i64 0, .slice none 0 0, .int .u64 0], .int .i64 130]) (by simp [results, Tryz.results7, go_sem, z0, z1, z2, z3, z4, z5, z6, z7, z8, z9, z10]) rfl ?_
    rw [HX.out.1, HX.out.2.1, HX.out.2.2, HZ9.out 130 (by omega)]
    exact ⟨none, 0, [], rfl, rfl, OwnRs.nil _ _, below11 HF22.out (by omega) _ _ _ _ _ _ _ _ _ _ _⟩
  | true =>
  have HF9 := Lib.hid (HF1.out (of_decide_eq_true HDD.out))
  have HG9 := Lib.hid (HG1.out (of_decide_eq_true HDD.out))
  clear HN0 HF1 HG1
  clear c26 c27 c28 c29 c30 c31 c32 c33 c34 c35 c36 l37
  clear fr0 fr1 fr2 fr3 fr4 fr5 fr6 fr7 fr8 fr9 fr10
  have c38 : w20.cell? ⟨w.heap.size, 0, none⟩ = some (.int .u8 c.tag) := HX23.out.cell 0
  have c39 : w20.cell? ⟨w.heap.size, 1, none⟩ = some (.int .i64 c.most) := HX23.out.cell 1
  have c40 : w20.cell? ⟨w.heap.size, 2, none⟩ = some (.int .i64 c.seg) := HX23.out.cell 2
  have c41 : w20.cell? ⟨w.heap.size, 3, none⟩ = some (.int .i64 c.least) := HX23.out.cell 3
  have c42 : w20.cell? ⟨w.heap.size, 4, none⟩ = some (.int .i64 c.den) := HX23.out.cell 4
  have c43 : w20.cell? ⟨w.heap.size, 5, none⟩ = some (.int .i64 c.leafLow) := HX23.out.cell 5
  have c44 : w20.cell? ⟨w.heap.size, 6, none⟩ = some (.int .i64 c.rootLow) := HX23.out.cell 6
  have c45 : w20.cell? ⟨w.heap.size, 7, none⟩ = some (.int .i64 c.rootHigh) := HX23.out.cell 7
  have c46 : w20.cell? ⟨w.heap.size, 8, none⟩ = some (.int .i64 c.leafHigh) := HX23.out.cell 8
  have c47 : w20.cell? ⟨w.heap.size, 9, none⟩ = some (.slice B Rs.length k) := HX23.out.cell 9
  have c48 : w20.cell? ⟨w.heap.size, 10, none⟩ = some (.int .u64 n) := HX23.out.cell 10
  have l49 : w.heap.size < w20.heap.size := HX23.out.lt
  have c50 : w20.cell? ⟨(w.heap.size + 1), 0, none⟩ = some (.int .u8 0) := HX24.out.cell 0
  have c51 : w20.cell? ⟨(w.heap.size + 1), 1, none⟩ = some (.int .i64 0) := HX24.out.cell 1
  have c52 : w20.cell? ⟨(w.heap.size + 1), 2, none⟩ = some (.int .i64 0) := HX24.out.cell 2
  have c53 : w20.cell? ⟨(w.heap.size + 1), 3, none⟩ = some (.int .i64 0) := HX24.out.cell 3
  have c54 : w20.cell? ⟨(w.heap.size + 1), 4, none⟩ = some (.int .i64 0) := HX24.out.cell 4
  have c55 : w20.cell? ⟨(w.heap.size + 1), 5, none⟩ = some (.int .i64 0) := HX24.out.cell 5
  have c56 : w20.cell? ⟨(w.heap.size + 1), 6, none⟩ = some (.int .i64 0) := HX24.out.cell 6
  have c57 : w20.cell? ⟨(w.heap.size + 1), 7, none⟩ = some (.int .i64 0) := HX24.out.cell 7
  have c58 : w20.cell? ⟨(w.heap.size + 1), 8, none⟩ = some (.int .i64 0) := HX24.out.cell 8
  have c59 : w20.cell? ⟨(w.heap.size + 1), 9, none⟩ = some (.slice none 0 0) := HX24.out.cell 9
  have c60 : w20.cell? ⟨(w.heap.size + 1), 10, none⟩ = some (.int .u64 0) := HX24.out.cell 10
  have l61 : (w.heap.size + 1) < w20.heap.size := HX24.out.lt
  have fr0 := HX24.out.frozen 0
  have fr1 := HX24.out.frozen 1
  have fr2 := HX24.out.frozen 2
  have fr3 := HX24.out.frozen 3
  have fr4 := HX24.out.frozen 4
  have fr5 := HX24.out.frozen 5
  have fr6 := HX24.out.frozen 6
  have fr7 := HX24.out.frozen 7
  have fr8 := HX24.out.frozen 8
  have fr9 := HX24.out.frozen 9
  have fr10 := HX24.out.frozen 10
  by_cases hfu : c.most < (P.length : Int)
  case pos =>
    have HX := Lib.hid (HF9.out (by omega))
    go_wp2_with fail
    have bz := put11 HX24.out (.int .u8 0) (.int .i64 0) (.int .i64 0) (.int .i64 0) (.int .i64 0) (.int .i64 0) (.int .i64 0) (.int .i64 0) (.int .i64 0) (.slice none 0 0) (.int .u64 0)
    have z0 := bz.cell 0
    have z1 := bz.cell 1
    have z2 := bz.cell 2
    have z3 := bz.cell 3
    have z4 := bz.cell 4
    have z5 := bz.cell 5
    have z6 := bz.cell 6
    have z7 := bz.cell 7
    have z8 := bz.cell 8
    have z9 := bz.cell 9
    have z10 := bz.cell 10
    simp only [List.getElem?_toArray, List.getElem?_cons_zero, List.getElem?_cons_succ] at z0 z1 z2 z3 z4 z5 z6 z7 z8 z9 z10
    refine bodyPost_ret (v := .tuple #[.agg #[.int .u8 0, .int .i64 0, .int .i64 0, .int .i64 0, .int .i64 0, .int .i64 0, .int .i64 0, .int .i64 0, .int .i64 0, .slice none 0 0, .int .u64 0], .int .i64 9]) (by simp [results, Tryz.results7, go_sem, z0, z1, z2, z3, z4, z5, z6, z7, z8, z9, z10]) rfl ?_
    rw [HX.out.1, HX.out.2.1, HX.out.2.2, HZ9.out 9 (by omega)]
    exact ⟨none, 0, [], rfl, rfl, OwnRs.nil _ _, below11 HF22.out (by omega) _ _ _ _ _ _ _ _ _ _ _⟩
  case neg =>
  have HX := Lib.hid (HG9.out (by omega))
  go_wp2_with fail
  clear c38 c39 c40 c41 c42 c43 c44 c45 c46 c47 c48 l49 c50 c51 c52 c53 c54 c55 c56 c57 c58 c59 c60 l61
  clear fr0 fr1 fr2 fr3 fr4 fr5 fr6 fr7 fr8 fr9 fr10
  refine (HAN.out _ _ _ HY25.out).mono ?_
  rintro e w62 ⟨B2, k2, R2, rfl, hl2, ho2, hb63⟩
  have HL2 := Lib.hid hl2
  have HO9 := Lib.hid (ho2.mono HF22.out.size)
  obtain ⟨an, hanq⟩ : ∃ z, IntKind.u64.wrap (n + (P.length : Int)) = z := ⟨_, rfl⟩
  rw [hanq]
  have HZ3 := Lib.hid hanq
  clear hl2 ho2 hanq
  have HF64 := Lib.hid (bext HF22.out hb63)
  have HX65 := Lib.hid (HX23.out.below hb63 HX23.out.lt)
  have HX66 := Lib.hid (HX24.out.below hb63 HX24.out.lt)
  have HY67 := Lib.hid (HY25.out.below hb63)
  clear HF22 HX23 HX24 HY25
  clear hb63
  have HY68 := Lib.hid (HO9.out)
  have c69 : w62.cell? ⟨(w.heap.size + 1), 0, none⟩ = some (.int .u8 0) := HX66.out.cell 0
  have c70 : w62.cell? ⟨(w.heap.size + 1), 1, none⟩ = some (.int .i64 0) := HX66.out.cell 1
  have c71 : w62.cell? ⟨(w.heap.size + 1), 2, none⟩ = some (.int .i64 0) := HX66.out.cell 2
  have c72 : w62.cell? ⟨(w.heap.size + 1), 3, none⟩ = some (.int .i64 0) := HX66.out.cell 3
  have c73 : w62.cell? ⟨(w.heap.size + 1), 4, none⟩ = some (.int .i64 0) := HX66.out.cell 4
  have c74 : w62.cell? ⟨(w.heap.size + 1), 5, none⟩ = some (.int .i64 0) := HX66.out.cell 5
  have c75 : w62.cell? ⟨(w.heap.size + 1), 6, none⟩ = some (.int .i64 0) := HX66.out.cell 6
  have c76 : w62.cell? ⟨(w.heap.size + 1), 7, none⟩ = some (.int .i64 0) := HX66.out.cell 7
  have c77 : w62.cell? ⟨(w.heap.size + 1), 8, none⟩ = some (.int .i64 0) := HX66.out.cell 8
  have c78 : w62.cell? ⟨(w.heap.size + 1), 9, none⟩ = some (.slice none 0 0) := HX66.out.cell 9
  have c79 : w62.cell? ⟨(w.heap.size + 1), 10, none⟩ = some (.int .u64 0) := HX66.out.cell 10
  have l80 : (w.heap.size + 1) < w62.heap.size := HX66.out.lt
  have fr0 := HX66.out.frozen 0
  have fr1 := HX66.out.frozen 1
  have fr2 := HX66.out.frozen 2
  have fr3 := HX66.out.frozen 3
  have fr4 := HX66.out.frozen 4
  have fr5 := HX66.out.frozen 5
  have fr6 := HX66.out.frozen 6
  have fr7 := HX66.out.frozen 7
  have fr8 := HX66.out.frozen 8
  have fr9 := HX66.out.frozen 9
  have fr10 := HX66.out.frozen 10
  go_wp2_with fail
  have bz := put11 HX66.out (.int .u8 c.tag) (.int .i64 c.most) (.int .i64 c.seg) (.int .i64 c.least) (.int .i64 c.den) (.int .i64 c.leafLow) (.int .i64 c.rootLow) (.int .i64 c.rootHigh) (.int .i64 c.leafHigh) (.slice B2 R2.length k2) (.int .u64 an)
  have z0 := bz.cell 0
  have z1 := bz.cell 1
  have z2 := bz.cell 2
  have z3 := bz.cell 3
  have z4 := bz.cell 4
  have z5 := bz.cell 5
  have z6 := bz.cell 6
  have z7 := bz.cell 7
  have z8 := bz.cell 8
  have z9 := bz.cell 9
  have z10 := bz.cell 10
  simp only [List.getElem?_toArray, List.getElem?_cons_zero, List.getElem?_cons_succ] at z0 z1 z2 z3 z4 z5 z6 z7 z8 z9 z10
  refine bodyPost_ret (v := .tuple #[.agg #[.int .u8 c.tag, .int .i64 c.most, .int .i64 c.seg, .int .i64 c.least, .int .i64 c.den, .int .i64 c.leafLow, .int .i64 c.rootLow, .int .i64 c.rootHigh, .int .i64 c.leafHigh, .slice B2 R2.length k2, .int .u64 an], .int .i64 0]) (by simp [results, Tryz.results7, go_sem, z0, z1, z2, z3, z4, z5, z6, z7, z8, z9, z10]) rfl ?_
  rw [HX.out.1, HX.out.2.1, HX.out.2.2, HZ3.out]
  exact ⟨B2, k2, R2, rfl, HL2.out, HY68.out.set11 HX66.out (by decide) (by decide) _ _ _ _ _ _ _ _ _ _ _, below11 HF64.out (by omega) _ _ _ _ _ _ _ _ _ _ _⟩
set_option maxHeartbeats 16000000 in
theorem merge27_any (B : Option Addr) (Rs : List Rm) (k : Nat) (c : Cfg) (n : Int) (d : Cfg) (D : Option Addr) (Ts : List Rm) (q : Nat) (m : Int) (w : World) (hB : RunsAt w B Rs) (hT : tot (lvs Rs) ≤ 1000000) (hl : Rs.length ≤ 1000000) (hD : RunsAt w D Ts) (hT3 : tot (lvs Rs) ≤ 300) (hK3 : tot (lvs Ts) ≤ 300) (hlT : Ts.length ≤ 1000000) :
    Calls Tryz.prog 9 #[.agg (lrow c B Rs.length k n), .agg (lrow d D Ts.length q m)] w (GivesLd (ldC c (meE c (lvs Rs) d (lvs Ts))) (meL c (lvs Rs) d (lvs Ts)) (meN c (lvs Rs) n d (lvs Ts)) (meE c (lvs Rs) d (lvs Ts)) w) := by
  obtain ⟨W0, hW0⟩ : ∃ W0, ((w.alloc (.cells #[.int .u8 c.tag, .int .i64 c.most, .int .i64 c.seg, .int .i64 c.least, .int .i64 c.den, .int .i64 c.leafLow, .int .i64 c.rootLow, .int .i64 c.rootHigh, .int .i64 c.leafHigh, .slice B Rs.length k, .int .u64 n] 29)).alloc (.cells #[.int .u8 d.tag, .int .i64 d.most, .int .i64 d.seg, .int .i64 d.least, .int .i64 d.den, .int .i64 d.leafLow, .int .i64 d.rootLow, .int .i64 d.rootHigh, .int .i64 d.leafHigh, .slice D Ts.length q, .int .u64 m] 29)).alloc (.cells #[.int .u8 0, .int .i64 0, .int .i64 0, .int .i64 0, .int .i64 0, .int .i64 0, .int .i64 0, .int .i64 0, .int .i64 0, .slice none 0 0, .int .u64 0] 29) = W0 := ⟨_, rfl⟩
  have hb0 : Below w.heap.size w W0 := by rw [← hW0]; exact (((Below.refl _ _).alloc (Nat.le_refl _) _).alloc (by simp) _).alloc (by simp; omega) _
  have b1 : Blk W0 w.heap.size 29 #[.int .u8 c.tag, .int .i64 c.most, .int .i64 c.seg, .int .i64 c.least, .int .i64 c.den, .int .i64 c.leafLow, .int .i64 c.rootLow, .int .i64 c.rootHigh, .int .i64 c.leafHigh, .slice B Rs.length k, .int .u64 n] := by rw [← hW0]; exact ((Blk.new _ _ _).alloc _).alloc _
  have b2 : Blk W0 (w.heap.size + 1) 29 #[.int .u8 d.tag, .int .i64 d.most, .int .i64 d.seg, .int .i64 d.least, .int .i64 d.den, .int .i64 d.leafLow, .int .i64 d.rootLow, .int .i64 d.rootHigh, .int .i64 d.leafHigh, .slice D Ts.length q, .int .u64 m] := by
    rw [← hW0]
    have := Blk.new (w.alloc (.cells #[.int .u8 c.tag, .int .i64 c.most, .int .i64 c.seg, .int .i64 c.least, .int .i64 c.den, .int .i64 c.leafLow, .int .i64 c.rootLow, .int .i64 c.rootHigh, .int .i64 c.leafHigh, .slice B Rs.length k, .int .u64 n] 29)) 29 #[.int .u8 d.tag, .int .i64 d.most, .int .i64 d.seg, .int .i64 d.least, .int .i64 d.den, .int .i64 d.leafLow, .int .i64 d.rootLow, .int .i64 d.rootHigh, .int .i64 d.leafHigh, .slice D Ts.length q, .int .u64 m]
    rw [World.size_alloc] at this
    exact this.alloc _
  have br0 : Blk W0 (w.heap.size + 1 + 1) 29 #[.int .u8 0, .int .i64 0, .int .i64 0, .int .i64 0, .int .i64 0, .int .i64 0, .int .i64 0, .int .i64 0, .int .i64 0, .slice none 0 0, .int .u64 0] := by
    rw [← hW0]
    have := Blk.new ((w.alloc (.cells #[.int .u8 c.tag, .int .i64 c.most, .int .i64 c.seg, .int .i64 c.least, .int .i64 c.den, .int .i64 c.leafLow, .int .i64 c.rootLow, .int .i64 c.rootHigh, .int .i64 c.leafHigh, .slice B Rs.length k, .int .u64 n] 29)).alloc (.cells #[.int .u8 d.tag, .int .i64 d.most, .int .i64 d.seg, .int .i64 d.least, .int .i64 d.den, .int .i64 d.leafLow, .int .i64 d.rootLow, .int .i64 d.rootHigh, .int .i64 d.leafHigh, .slice D Ts.length q, .int .u64 m] 29)) 29 #[.int .u8 0, .int .i64 0, .int .i64 0, .int .i64 0, .int .i64 0, .int .i64 0, .int .i64 0, .int .i64 0, .int .i64 0, .slice none 0 0, .int .u64 0]
    rwa [World.size_alloc, World.size_alloc] at this
  have HW0 := Lib.hid hW0
  have HB := Lib.hid (hB.below hb0)
  have HD := Lib.hid (hD.below hb0)
  have HB0 := Lib.hid hb0
  have HX1 := Lib.hid b1
  have HX2 := Lib.hid b2
  have HR0 := Lib.hid br0
  have hpa := fun W (hW : RunsAt W B Rs) => pairs27_any B Rs k c n W hW hT hl
  have hpb := fun W (hW : RunsAt W D Ts) => pairs27_any D Ts q d m W hW (by omega) hlT
  have ra := prD_ris c (lvs Rs)
  have rb := prD_ris d (lvs Ts)
  have la := prD_len c (lvs Rs)
  have lb := prD_len d (lvs Ts)
  have hmg := mg_both ra rb (by omega)
  have hbr := both_ris _ _ _ (Nat.le_refl _) ra rb
  have hbl := both_len _ (prD c (lvs Rs)) (prD d (lvs Ts)) (Nat.le_refl _)
  have h1E : meE c (lvs Rs) d (lvs Ts) = if errL c (lvs Rs) = 0 then (if errL d (lvs Ts) = 0 then anE c (lvs Rs) (mgP (prD c (lvs Rs)) (prD d (lvs Ts))) else errL d (lvs Ts)) else errL c (lvs Rs) := rfl
  have h1L : meL c (lvs Rs) d (lvs Ts) = if errL c (lvs Rs) = 0 then (if errL d (lvs Ts) = 0 then anL c (lvs Rs) (mgP (prD c (lvs Rs)) (prD d (lvs Ts))) else []) else [] := rfl
  have h1N : meN c (lvs Rs) n d (lvs Ts) = if errL c (lvs Rs) = 0 then (if errL d (lvs Ts) = 0 then anN c (lvs Rs) n (mgP (prD c (lvs Rs)) (prD d (lvs Ts))) else 0) else 0 := rfl
  rw [hmg] at h1E h1L h1N
  obtain ⟨E9, hE9⟩ : ∃ x, meE c (lvs Rs) d (lvs Ts) = x := ⟨_, rfl⟩
  obtain ⟨L9, hL9⟩ : ∃ x, meL c (lvs Rs) d (lvs Ts) = x := ⟨_, rfl⟩
  obtain ⟨N9, hN9⟩ : ∃ x, meN c (lvs Rs) n d (lvs Ts) = x := ⟨_, rfl⟩
  rw [hE9, hL9, hN9]
  rw [hE9] at h1E
  rw [hL9] at h1L
  rw [hN9] at h1N
  obtain ⟨a, ha⟩ : ∃ x, prD c (lvs Rs) = x := ⟨_, rfl⟩
  obtain ⟨b, hb⟩ : ∃ x, prD d (lvs Ts) = x := ⟨_, rfl⟩
  rw [ha] at hpa la h1E h1L h1N hbr hbl
  rw [hb] at hpb lb h1E h1L h1N hbr hbl
  have hbo := fun (A B : Option Addr) (ca cb : Nat) W (hA : Sl W A (a.flatMap Pr.cells)) (hB : Sl W B (b.flatMap Pr.cells)) h1 h2 => both13_any A a ca B b cb W hA hB h1 h2 (by omega)
  obtain ⟨P, hP⟩ : ∃ x, bothL a b = x := ⟨_, rfl⟩
  rw [hP] at h1E h1L h1N hbo hbr hbl
  have hrl := fun he => anew_rl (c := c) (L := lvs Rs) (l := P) n he hbr (by omega)
  have han := fun A ca W (hA : Sl W A (P.flatMap Pr.cells)) => anew27_any B Rs k c n A P ca W hA (by omega)
  obtain ⟨E, hE⟩ : ∃ x, errL c (lvs Rs) = x := ⟨_, rfl⟩
  obtain ⟨K, hK⟩ : ∃ x, errL d (lvs Ts) = x := ⟨_, rfl⟩
  rw [hE] at h1E h1L h1N hpa hrl
  rw [hK] at h1E h1L h1N hpb
  have hbad : E ≠ 0 → E9 = E ∧ L9 = [] ∧ N9 = 0 := fun h => by
    rw [h1E, h1L, h1N, if_neg h, if_neg h, if_neg h]; exact ⟨rfl, rfl, rfl⟩
  have hno : E = 0 → K ≠ 0 → E9 = K ∧ L9 = [] ∧ N9 = 0 := fun h h2 => by
    rw [h1E, h1L, h1N, if_pos h, if_pos h, if_pos h, if_neg h2, if_neg h2, if_neg h2]; exact ⟨rfl, rfl, rfl⟩
  have hf9 : E = 0 → K = 0 → c.most < (P.length : Int) → E9 = 9 ∧ L9 = [] ∧ N9 = 0 := fun h h2 h3 => by
    obtain ⟨a1, a2, a3⟩ := hrl h
    rw [h1E, h1L, h1N, if_pos h, if_pos h, if_pos h, if_pos h2, if_pos h2, if_pos h2, a1, a2, a3, if_pos h3, if_pos h3, if_pos h3]; exact ⟨rfl, rfl, rfl⟩
  have hg9 : E = 0 → K = 0 → ¬ c.most < (P.length : Int) → E9 = 0 ∧ L9 = newL P ∧ N9 = IntKind.u64.wrap (n + P.length) := fun h h2 h3 => by
    obtain ⟨a1, a2, a3⟩ := hrl h
    rw [h1E, h1L, h1N, if_pos h, if_pos h, if_pos h, if_pos h2, if_pos h2, if_pos h2, a1, a2, a3, if_neg h3, if_neg h3, if_neg h3]; exact ⟨rfl, rfl, rfl⟩
  have hz9 : ∀ e : Int, e ≠ 0 → ldC c e = cz := fun e h => by unfold ldC; rw [if_neg h]
  have hz0 : ldC c 0 = c := rfl
  have HPA := Lib.hid hpa
  have HPB := Lib.hid hpb
  have HBO := Lib.hid hbo
  have HAN := Lib.hid han
  have HBA := Lib.hid hbad
  have HNO := Lib.hid hno
  have HF0 := Lib.hid hf9
  have HG0 := Lib.hid hg9
  have HZ9 := Lib.hid hz9
  have HZ0 := Lib.hid hz0
  clear hW0 hB hD hpa hpb hbo han hrl hmg hbr hbl h1E h1L h1N hE9 hL9 hN9 hbad hno hf9 hg9 ha hb hP hE hK hz9 hz0 ra rb la lb hT hT3 hK3
  have q0 : W0.cell? ⟨w.heap.size, 0, none⟩ = some (.int .u8 c.tag) := b1.cell 0
  have q1 : W0.cell? ⟨w.heap.size, 1, none⟩ = some (.int .i64 c.most) := b1.cell 1
  have q2 : W0.cell? ⟨w.heap.size, 2, none⟩ = some (.int .i64 c.seg) := b1.cell 2
  have q3 : W0.cell? ⟨w.heap.size, 3, none⟩ = some (.int .i64 c.least) := b1.cell 3
  have q4 : W0.cell? ⟨w.heap.size, 4, none⟩ = some (.int .i64 c.den) := b1.cell 4
  have q5 : W0.cell? ⟨w.heap.size, 5, none⟩ = some (.int .i64 c.leafLow) := b1.cell 5
  have q6 : W0.cell? ⟨w.heap.size, 6, none⟩ = some (.int .i64 c.rootLow) := b1.cell 6
  have q7 : W0.cell? ⟨w.heap.size, 7, none⟩ = some (.int .i64 c.rootHigh) := b1.cell 7
  have q8 : W0.cell? ⟨w.heap.size, 8, none⟩ = some (.int .i64 c.leafHigh) := b1.cell 8
  have q9 : W0.cell? ⟨w.heap.size, 9, none⟩ = some (.slice B Rs.length k) := b1.cell 9
  have q10 : W0.cell? ⟨w.heap.size, 10, none⟩ = some (.int .u64 n) := b1.cell 10
  clear b1 b2 hb0 br0
  go_enter Tryz.func9, Tryz.ntmps9
  go_upto_region 1 with fail
  rw [HW0.out]
  have HY1 := Lib.hid (HB.out)
  have HY2 := Lib.hid (HD.out)
  go_wp2_with fail
  refine (HPA.out _ HY1.out).mono ?_
  rintro e w3 ⟨Ax1, cx1, rfl, hox1, hb4⟩
  have HLEx1 := Lib.hid (own_form2e hox1).1
  have HPx1 := Lib.hid (own_sl hox1)
  clear hox1 q0 q1 q2 q3 q4 q5 q6 q7 q8 q9 q10
  have HF5 := Lib.hid (bext HB0.out hb4)
  have HX6 := Lib.hid (HX1.out.below hb4 HX1.out.lt)
  have HX7 := Lib.hid (HX2.out.below hb4 HX2.out.lt)
  have HX8 := Lib.hid (HR0.out.below hb4 HR0.out.lt)
  have HY9 := Lib.hid (RunsAt.below HY1.out hb4)
  have HY10 := Lib.hid (RunsAt.below HY2.out hb4)
  clear HX1 HX2 HR0 HY1 HY2
  clear hb4
  have HY11 := Lib.hid (HPx1.out)
  have c12 : w3.cell? ⟨(w.heap.size + 1 + 1), 0, none⟩ = some (.int .u8 0) := HX8.out.cell 0
  have c13 : w3.cell? ⟨(w.heap.size + 1 + 1), 1, none⟩ = some (.int .i64 0) := HX8.out.cell 1
  have c14 : w3.cell? ⟨(w.heap.size + 1 + 1), 2, none⟩ = some (.int .i64 0) := HX8.out.cell 2
  have c15 : w3.cell? ⟨(w.heap.size + 1 + 1), 3, none⟩ = some (.int .i64 0) := HX8.out.cell 3
  have c16 : w3.cell? ⟨(w.heap.size + 1 + 1), 4, none⟩ = some (.int .i64 0) := HX8.out.cell 4
  have c17 : w3.cell? ⟨(w.heap.size + 1 + 1), 5, none⟩ = some (.int .i64 0) := HX8.out.cell 5
  have c18 : w3.cell? ⟨(w.heap.size + 1 + 1), 6, none⟩ = some (.int .i64 0) := HX8.out.cell 6
  have c19 : w3.cell? ⟨(w.heap.size + 1 + 1), 7, none⟩ = some (.int .i64 0) := HX8.out.cell 7
  have c20 : w3.cell? ⟨(w.heap.size + 1 + 1), 8, none⟩ = some (.int .i64 0) := HX8.out.cell 8
  have c21 : w3.cell? ⟨(w.heap.size + 1 + 1), 9, none⟩ = some (.slice none 0 0) := HX8.out.cell 9
  have c22 : w3.cell? ⟨(w.heap.size + 1 + 1), 10, none⟩ = some (.int .u64 0) := HX8.out.cell 10
  have l23 : (w.heap.size + 1 + 1) < w3.heap.size := HX8.out.lt
  have fr0 := HX8.out.frozen 0
  have fr1 := HX8.out.frozen 1
  have fr2 := HX8.out.frozen 2
  have fr3 := HX8.out.frozen 3
  have fr4 := HX8.out.frozen 4
  have fr5 := HX8.out.frozen 5
  have fr6 := HX8.out.frozen 6
  have fr7 := HX8.out.frozen 7
  have fr8 := HX8.out.frozen 8
  have fr9 := HX8.out.frozen 9
  have fr10 := HX8.out.frozen 10
  by_cases hE0 : E = 0
  case neg =>
    have h1 : (E != 0) = true := by simpa using hE0
    have HX := Lib.hid (HBA.out hE0)
    go_wp2_with fail
    have bz := put11 HX8.out (.int .u8 0) (.int .i64 0) (.int .i64 0) (.int .i64 0) (.int .i64 0) (.int .i64 0) (.int .i64 0) (.int .i64 0) (.int .i64 0) (.slice none 0 0) (.int .u64 0)
    have z0 := bz.cell 0
    have z1 := bz.cell 1
    have z2 := bz.cell 2
    have z3 := bz.cell 3
    have z4 := bz.cell 4
    have z5 := bz.cell 5
    have z6 := bz.cell 6
    have z7 := bz.cell 7
    have z8 := bz.cell 8
    have z9 := bz.cell 9
    have z10 := bz.cell 10
    simp only [List.getElem?_toArray, List.getElem?_cons_zero, List.getElem?_cons_succ] at z0 z1 z2 z3 z4 z5 z6 z7 z8 z9 z10
    refine bodyPost_ret (v := .tuple #[.agg #[.int .u8 0, .int .i64 0, .int .i64 0, .int .i64 0, .int .i64 0, .int .i64 0, .int .i64 0, .int .i64 0, .int .i64 0, .slice none 0 0, .int .u64 0], .int .i64 E]) (by simp [results, Tryz.results9, go_sem, z0, z1, z2, z3, z4, z5, z6, z7, z8, z9, z10]) rfl ?_
    rw [HX.out.1, HX.out.2.1, HX.out.2.2, HZ9.out E hE0]
    exact ⟨none, 0, [], rfl, rfl, OwnRs.nil _ _, below11 HF5.out (by omega) _ _ _ _ _ _ _ _ _ _ _⟩
  case pos =>
  have HN0 := Lib.hid (HNO.out hE0)
  have HF1 := Lib.hid (HF0.out hE0)
  have HG1 := Lib.hid (HG0.out hE0)
  clear HNO HF0 HG0 HBA
  subst hE0
  clear c12 c13 c14 c15 c16 c17 c18 c19 c20 c21 c22 l23
  clear fr0 fr1 fr2 fr3 fr4 fr5 fr6 fr7 fr8 fr9 fr10
  have c24 : w3.cell? ⟨(w.heap.size + 1), 0, none⟩ = some (.int .u8 d.tag) := HX7.out.cell 0
  have c25 : w3.cell? ⟨(w.heap.size + 1), 1, none⟩ = some (.int .i64 d.most) := HX7.out.cell 1
  have c26 : w3.cell? ⟨(w.heap.size + 1), 2, none⟩ = some (.int .i64 d.seg) := HX7.out.cell 2
  have c27 : w3.cell? ⟨(w.heap.size + 1), 3, none⟩ = some (.int .i64 d.least) := HX7.out.cell 3
  have c28 : w3.cell? ⟨(w.heap.size + 1), 4, none⟩ = some (.int .i64 d.den) := HX7.out.cell 4
  have c29 : w3.cell? ⟨(w.heap.size + 1), 5, none⟩ = some (.int .i64 d.leafLow) := HX7.out.cell 5
  have c30 : w3.cell? ⟨(w.heap.size + 1), 6, none⟩ = some (.int .i64 d.rootLow) := HX7.out.cell 6
  have c31 : w3.cell? ⟨(w.heap.size + 1), 7, none⟩ = some (.int .i64 d.rootHigh) := HX7.out.cell 7
  have c32 : w3.cell? ⟨(w.heap.size + 1), 8, none⟩ = some (.int .i64 d.leafHigh) := HX7.out.cell 8
  have c33 : w3.cell? ⟨(w.heap.size + 1), 9, none⟩ = some (.slice D Ts.length q) := HX7.out.cell 9
  have c34 : w3.cell? ⟨(w.heap.size + 1), 10, none⟩ = some (.int .u64 m) := HX7.out.cell 10
  have l35 : (w.heap.size + 1) < w3.heap.size := HX7.out.lt
  go_wp2_with fail
  clear c24 c25 c26 c27 c28 c29 c30 c31 c32 c33 c34 l35
  refine (HPB.out _ HY10.out).mono ?_
  rintro e w36 ⟨Ax2, cx2, rfl, hox2, hb37⟩
  have HLEx2 := Lib.hid (own_form2e hox2).1
  have HPx2 := Lib.hid (own_sl hox2)
  clear hox2
  have HF38 := Lib.hid (bext HF5.out hb37)
  have HX39 := Lib.hid (HX6.out.below hb37 HX6.out.lt)
  have HX40 := Lib.hid (HX7.out.below hb37 HX7.out.lt)
  have HX41 := Lib.hid (HX8.out.below hb37 HX8.out.lt)
  have HY42 := Lib.hid (RunsAt.below HY9.out hb37)
  have HY43 := Lib.hid (RunsAt.below HY10.out hb37)
  have HY44 := Lib.hid (HY11.out.below hb37)
  clear HF5 HX6 HX7 HX8 HY9 HY10 HY11
  clear hb37
  have HY45 := Lib.hid (HPx2.out)
  have c46 : w36.cell? ⟨(w.heap.size + 1 + 1), 0, none⟩ = some (.int .u8 0) := HX41.out.cell 0
  have c47 : w36.cell? ⟨(w.heap.size + 1 + 1), 1, none⟩ = some (.int .i64 0) := HX41.out.cell 1
  have c48 : w36.cell? ⟨(w.heap.size + 1 + 1), 2, none⟩ = some (.int .i64 0) := HX41.out.cell 2
  have c49 : w36.cell? ⟨(w.heap.size + 1 + 1), 3, none⟩ = some (.int .i64 0) := HX41.out.cell 3
  have c50 : w36.cell? ⟨(w.heap.size + 1 + 1), 4, none⟩ = some (.int .i64 0) := HX41.out.cell 4
  have c51 : w36.cell? ⟨(w.heap.size + 1 + 1), 5, none⟩ = some (.int .i64 0) := HX41.out.cell 5
  have c52 : w36.cell? ⟨(w.heap.size + 1 + 1), 6, none⟩ = some (.int .i64 0) := HX41.out.cell 6
  have c53 : w36.cell? ⟨(w.heap.size + 1 + 1), 7, none⟩ = some (.int .i64 0) := HX41.out.cell 7
  have c54 : w36.cell? ⟨(w.heap.size + 1 + 1), 8, none⟩ = some (.int .i64 0) := HX41.out.cell 8
  have c55 : w36.cell? ⟨(w.heap.size + 1 + 1), 9, none⟩ = some (.slice none 0 0) := HX41.out.cell 9
  have c56 : w36.cell? ⟨(w.heap.size + 1 + 1), 10, none⟩ = some (.int .u64 0) := HX41.out.cell 10
  have l57 : (w.heap.size + 1 + 1) < w36.heap.size := HX41.out.lt
  have fr0 := HX41.out.frozen 0
  have fr1 := HX41.out.frozen 1
  have fr2 := HX41.out.frozen 2
  have fr3 := HX41.out.frozen 3
  have fr4 := HX41.out.frozen 4
  have fr5 := HX41.out.frozen 5
  have fr6 := HX41.out.frozen 6
  have fr7 := HX41.out.frozen 7
  have fr8 := HX41.out.frozen 8
  have fr9 := HX41.out.frozen 9
  have fr10 := HX41.out.frozen 10
  by_cases hK0 : K = 0
  case neg =>
    have h1 : (K != 0) = true := by simpa using hK0
    have HX := Lib.hid (HN0.out hK0)
    go_wp2_with fail
    have bz := put11 HX41.out (.int .u8 0) (.int .i64 0) (.int .i64 0) (.int .i64 0) (.int .i64 0) (.int .i64 0) (.int .i64 0) (.int .i64 0) (.int .i64 0) (.slice none 0 0) (.int .u64 0)
    have z0 := bz.cell 0
    have z1 := bz.cell 1
    have z2 := bz.cell 2
    have z3 := bz.cell 3
    have z4 := bz.cell 4
    have z5 := bz.cell 5
    have z6 := bz.cell 6
    have z7 := bz.cell 7
    have z8 := bz.cell 8
    have z9 := bz.cell 9
    have z10 := bz.cell 10
    simp only [List.getElem?_toArray, List.getElem?_cons_zero, List.getElem?_cons_succ] at z0 z1 z2 z3 z4 z5 z6 z7 z8 z9 z10
    refine bodyPost_ret (v := .tuple #[.agg #[.int .u8 0, .int .i64 0, .int .i64 0, .int .i64 0, .int .i64 0, .int .i64 0, .int .i64 0, .int .i64 0, .int .i64 0, .slice none 0 0, .int .u64 0], .int .i64 K]) (by simp [results, Tryz.results9, go_sem, z0, z1, z2, z3, z4, z5, z6, z7, z8, z9, z10]) rfl ?_
    rw [HX.out.1, HX.out.2.1, HX.out.2.2, HZ9.out K hK0]
    exact ⟨none, 0, [], rfl, rfl, OwnRs.nil _ _, below11 HF38.out (by omega) _ _ _ _ _ _ _ _ _ _ _⟩
  case pos =>
  have HF9 := Lib.hid (HF1.out hK0)
  have HG9 := Lib.hid (HG1.out hK0)
  clear HN0 HF1 HG1
  subst hK0
  go_wp2_with fail
  clear c46 c47 c48 c49 c50 c51 c52 c53 c54 c55 c56 l57
  clear fr0 fr1 fr2 fr3 fr4 fr5 fr6 fr7 fr8 fr9 fr10
  refine (HBO.out _ _ _ _ _ HY44.out HY45.out HLEx1.out HLEx2.out).mono ?_
  rintro e w58 ⟨Ab, cb, rfl, hf3, hb59⟩
  have HFB := Lib.hid hf3.sl
  clear hf3
  have HF60 := Lib.hid (bext HF38.out hb59)
  have HX61 := Lib.hid (HX39.out.below hb59 HX39.out.lt)
  have HX62 := Lib.hid (HX40.out.below hb59 HX40.out.lt)
  have HX63 := Lib.hid (HX41.out.below hb59 HX41.out.lt)
  have HY64 := Lib.hid (RunsAt.below HY42.out hb59)
  have HY65 := Lib.hid (RunsAt.below HY43.out hb59)
  have HY66 := Lib.hid (HY44.out.below hb59)
  have HY67 := Lib.hid (HY45.out.below hb59)
  clear HF38 HX39 HX40 HX41 HY42 HY43 HY44 HY45
  clear hb59
  have HY68 := Lib.hid (HFB.out)
  have c69 : w58.cell? ⟨w.heap.size, 0, none⟩ = some (.int .u8 c.tag) := HX61.out.cell 0
  have c70 : w58.cell? ⟨w.heap.size, 1, none⟩ = some (.int .i64 c.most) := HX61.out.cell 1
  have c71 : w58.cell? ⟨w.heap.size, 2, none⟩ = some (.int .i64 c.seg) := HX61.out.cell 2
  have c72 : w58.cell? ⟨w.heap.size, 3, none⟩ = some (.int .i64 c.least) := HX61.out.cell 3
  have c73 : w58.cell? ⟨w.heap.size, 4, none⟩ = some (.int .i64 c.den) := HX61.out.cell 4
  have c74 : w58.cell? ⟨w.heap.size, 5, none⟩ = some (.int .i64 c.leafLow) := HX61.out.cell 5
  have c75 : w58.cell? ⟨w.heap.size, 6, none⟩ = some (.int .i64 c.rootLow) := HX61.out.cell 6
  have c76 : w58.cell? ⟨w.heap.size, 7, none⟩ = some (.int .i64 c.rootHigh) := HX61.out.cell 7
  have c77 : w58.cell? ⟨w.heap.size, 8, none⟩ = some (.int .i64 c.leafHigh) := HX61.out.cell 8
  have c78 : w58.cell? ⟨w.heap.size, 9, none⟩ = some (.slice B Rs.length k) := HX61.out.cell 9
  have c79 : w58.cell? ⟨w.heap.size, 10, none⟩ = some (.int .u64 n) := HX61.out.cell 10
  have l80 : w.heap.size < w58.heap.size := HX61.out.lt
  have c81 : w58.cell? ⟨(w.heap.size + 1 + 1), 0, none⟩ = some (.int .u8 0) := HX63.out.cell 0
  have c82 : w58.cell? ⟨(w.heap.size + 1 + 1), 1, none⟩ = some (.int .i64 0) := HX63.out.cell 1
  have c83 : w58.cell? ⟨(w.heap.size + 1 + 1), 2, none⟩ = some (.int .i64 0) := HX63.out.cell 2
  have c84 : w58.cell? ⟨(w.heap.size + 1 + 1), 3, none⟩ = some (.int .i64 0) := HX63.out.cell 3
  have c85 : w58.cell? ⟨(w.heap.size + 1 + 1), 4, none⟩ = some (.int .i64 0) := HX63.out.cell 4
  have c86 : w58.cell? ⟨(w.heap.size + 1 + 1), 5, none⟩ = some (.int .i64 0) := HX63.out.cell 5
  have c87 : w58.cell? ⟨(w.heap.size + 1 + 1), 6, none⟩ = some (.int .i64 0) := HX63.out.cell 6
  have c88 : w58.cell? ⟨(w.heap.size + 1 + 1), 7, none⟩ = some (.int .i64 0) := HX63.out.cell 7
  have c89 : w58.cell? ⟨(w.heap.size + 1 + 1), 8, none⟩ = some (.int .i64 0) := HX63.out.cell 8
  have c90 : w58.cell? ⟨(w.heap.size + 1 + 1), 9, none⟩ = some (.slice none 0 0) := HX63.out.cell 9
  have c91 : w58.cell? ⟨(w.heap.size + 1 + 1), 10, none⟩ = some (.int .u64 0) := HX63.out.cell 10
  have l92 : (w.heap.size + 1 + 1) < w58.heap.size := HX63.out.lt
  have fr0 := HX63.out.frozen 0
  have fr1 := HX63.out.frozen 1
  have fr2 := HX63.out.frozen 2
  have fr3 := HX63.out.frozen 3
  have fr4 := HX63.out.frozen 4
  have fr5 := HX63.out.frozen 5
  have fr6 := HX63.out.frozen 6
  have fr7 := HX63.out.frozen 7
  have fr8 := HX63.out.frozen 8
  have fr9 := HX63.out.frozen 9
  have fr10 := HX63.out.frozen 10
  by_cases hfu : c.most < (P.length : Int)
  case pos =>
    have HX := Lib.hid (HF9.out (by omega))
    go_wp2_with fail
    have bz := put11 HX63.out (.int .u8 0) (.int .i64 0) (.int .i64 0) (.int .i64 0) (.int .i64 0) (.int .i64 0) (.int .i64 0) (.int .i64 0) (.int .i64 0) (.slice none 0 0) (.int .u64 0)
    have z0 := bz.cell 0
    have z1 := bz.cell 1
    have z2 := bz.cell 2
    have z3 := bz.cell 3
    have z4 := bz.cell 4
    have z5 := bz.cell 5
    have z6 := bz.cell 6
    have z7 := bz.cell 7
    have z8 := bz.cell 8
    have z9 := bz.cell 9
    have z10 := bz.cell 10
    simp only [List.getElem?_toArray, List.getElem?_cons_zero, List.getElem?_cons_succ] at z0 z1 z2 z3 z4 z5 z6 z7 z8 z9 z10
    refine bodyPost_ret (v := .tuple #[.agg #[.int .u8 0, .int .i64 0, .int .i64 0, .int .i64 0, .int .i64 0, .int .i64 0, .int .i64 0, .int .i64 0, .int .i64 0, .slice none 0 0, .int .u64 0], .int .i64 9]) (by simp [results, Tryz.results9, go_sem, z0, z1, z2, z3, z4, z5, z6, z7, z8, z9, z10]) rfl ?_
    rw [HX.out.1, HX.out.2.1, HX.out.2.2, HZ9.out 9 (by omega)]
    exact ⟨none, 0, [], rfl, rfl, OwnRs.nil _ _, below11 HF60.out (by omega) _ _ _ _ _ _ _ _ _ _ _⟩
  case neg =>
  have HX := Lib.hid (HG9.out (by omega))
  go_wp2_with fail
  clear c69 c70 c71 c72 c73 c74 c75 c76 c77 c78 c79 l80 c81 c82 c83 c84 c85 c86 c87 c88 c89 c90 c91 l92
  clear fr0 fr1 fr2 fr3 fr4 fr5 fr6 fr7 fr8 fr9 fr10
  refine (HAN.out _ _ _ HY68.out).mono ?_
  rintro e w93 ⟨B2, k2, R2, rfl, hl2, ho2, hb94⟩
  have HL2 := Lib.hid hl2
  have HO9 := Lib.hid (ho2.mono HF60.out.size)
  obtain ⟨an, hanq⟩ : ∃ z, IntKind.u64.wrap (n + (P.length : Int)) = z := ⟨_, rfl⟩
  rw [hanq]
  have HZ3 := Lib.hid hanq
  clear hl2 ho2 hanq
  have HF95 := Lib.hid (bext HF60.out hb94)
  have HX96 := Lib.hid (HX61.out.below hb94 HX61.out.lt)
  have HX97 := Lib.hid (HX62.out.below hb94 HX62.out.lt)
  have HX98 := Lib.hid (HX63.out.below hb94 HX63.out.lt)
  have HY99 := Lib.hid (RunsAt.below HY64.out hb94)
  have HY100 := Lib.hid (RunsAt.below HY65.out hb94)
  have HY101 := Lib.hid (HY66.out.below hb94)
  have HY102 := Lib.hid (HY67.out.below hb94)
  have HY103 := Lib.hid (HY68.out.below hb94)
  clear HF60 HX61 HX62 HX63 HY64 HY65 HY66 HY67 HY68
  clear hb94
  have HY104 := Lib.hid (HO9.out)
  have c105 : w93.cell? ⟨(w.heap.size + 1 + 1), 0, none⟩ = some (.int .u8 0) := HX98.out.cell 0
  have c106 : w93.cell? ⟨(w.heap.size + 1 + 1), 1, none⟩ = some (.int .i64 0) := HX98.out.cell 1
  have c107 : w93.cell? ⟨(w.heap.size + 1 + 1), 2, none⟩ = some (.int .i64 0) := HX98.out.cell 2
  have c108 : w93.cell? ⟨(w.heap.size + 1 + 1), 3, none⟩ = some (.int .i64 0) := HX98.out.cell 3
  have c109 : w93.cell? ⟨(w.heap.size + 1 + 1), 4, none⟩ = some (.int .i64 0) := HX98.out.cell 4
  have c110 : w93.cell? ⟨(w.heap.size + 1 + 1), 5, none⟩ = some (.int .i64 0) := HX98.out.cell 5
  have c111 : w93.cell? ⟨(w.heap.size + 1 + 1), 6, none⟩ = some (.int .i64 0) := HX98.out.cell 6
  have c112 : w93.cell? ⟨(w.heap.size + 1 + 1), 7, none⟩ = some (.int .i64 0) := HX98.out.cell 7
  have c113 : w93.cell? ⟨(w.heap.size + 1 + 1), 8, none⟩ = some (.int .i64 0) := HX98.out.cell 8
  have c114 : w93.cell? ⟨(w.heap.size + 1 + 1), 9, none⟩ = some (.slice none 0 0) := HX98.out.cell 9
  have c115 : w93.cell? ⟨(w.heap.size + 1 + 1), 10, none⟩ = some (.int .u64 0) := HX98.out.cell 10
  have l116 : (w.heap.size + 1 + 1) < w93.heap.size := HX98.out.lt
  have fr0 := HX98.out.frozen 0
  have fr1 := HX98.out.frozen 1
  have fr2 := HX98.out.frozen 2
  have fr3 := HX98.out.frozen 3
  have fr4 := HX98.out.frozen 4
  have fr5 := HX98.out.frozen 5
  have fr6 := HX98.out.frozen 6
  have fr7 := HX98.out.frozen 7
  have fr8 := HX98.out.frozen 8
  have fr9 := HX98.out.frozen 9
  have fr10 := HX98.out.frozen 10
  go_wp2_with fail
  have bz := put11 HX98.out (.int .u8 c.tag) (.int .i64 c.most) (.int .i64 c.seg) (.int .i64 c.least) (.int .i64 c.den) (.int .i64 c.leafLow) (.int .i64 c.rootLow) (.int .i64 c.rootHigh) (.int .i64 c.leafHigh) (.slice B2 R2.length k2) (.int .u64 an)
  have z0 := bz.cell 0
  have z1 := bz.cell 1
  have z2 := bz.cell 2
  have z3 := bz.cell 3
  have z4 := bz.cell 4
  have z5 := bz.cell 5
  have z6 := bz.cell 6
  have z7 := bz.cell 7
  have z8 := bz.cell 8
  have z9 := bz.cell 9
  have z10 := bz.cell 10
  simp only [List.getElem?_toArray, List.getElem?_cons_zero, List.getElem?_cons_succ] at z0 z1 z2 z3 z4 z5 z6 z7 z8 z9 z10
  refine bodyPost_ret (v := .tuple #[.agg #[.int .u8 c.tag, .int .i64 c.most, .int .i64 c.seg, .int .i64 c.least, .int .i64 c.den, .int .i64 c.leafLow, .int .i64 c.rootLow, .int .i64 c.rootHigh, .int .i64 c.leafHigh, .slice B2 R2.length k2, .int .u64 an], .int .i64 0]) (by simp [results, Tryz.results9, go_sem, z0, z1, z2, z3, z4, z5, z6, z7, z8, z9, z10]) rfl ?_
  rw [HX.out.1, HX.out.2.1, HX.out.2.2, HZ3.out]
  exact ⟨B2, k2, R2, rfl, HL2.out, HY104.out.set11 HX98.out (by decide) (by decide) _ _ _ _ _ _ _ _ _ _ _, below11 HF95.out (by omega) _ _ _ _ _ _ _ _ _ _ _⟩
end Go.Proofs.YtolclahkfmplfaaGreat
