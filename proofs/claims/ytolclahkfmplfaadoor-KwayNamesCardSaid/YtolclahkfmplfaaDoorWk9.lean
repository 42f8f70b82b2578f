/- The law KwayNames: it returns true. As a card: math/bits' tables read as their initialisers lay them; no further condition. -/
import Derived.Test.YtolclahkfmplfaaDoorWd1
import Derived.ProofKit
import Derived.OpenShut
import Derived.JoinedCond
import Derived.Deep.Slices
import Derived.Test.YtolclahkfmplfaaDoorProg
import Derived.Test.YtolclahkfmplfaaDoorCards
import Derived.Test.YtolclahkfmplfaaDoorTie
import Derived.Lib.LaidTab
import Derived.Lib.TrailingZeros
import Derived.Shelf.Spec.TrailingZeros
import Derived.Stop.LaidErr
import Derived.Deep.DeepHandedRow
import Derived.Test.YtolclahkfmplfaaDoorWk8
import Derived.Carry
/- Reading a law's arguments as data, and the last step of a law's row: it returned true and nothing that was there has turned. No program in sight. -/
namespace Go.Proofs.YtolclahkfmplfaaDoor
open Go Go.ChangeShapes Go.WideShapes Go.ChangeAt Go.RowKit Go.Deep

section
variable {H : Type} {enc : TypeId × Value → H} {P : Program}

theorem trodAll_stays (hl : laidOutB P = true) {W W' : World} {sp : Nat → Bool} : ∀ {ts : List TypeId} {vs : List Value} {ds : List (DataW H)} {ps : List MemPlace},
    (∀ t ∈ ts, P.readableRec t = true ∧ t < P.types.size) → DataW.TrodAll enc P W 0 (fun _ => true) true ts vs ds ps → (∀ p ∈ ps, W.sameAt W' p) → (∀ p ∈ ps, sp p.block = true) →
    DataW.TrodAll enc P W' 0 sp true ts vs ds ps := by
  intro ts
  induction ts with
  | nil =>
    intro vs ds ps _ h _ _
    obtain ⟨rfl, rfl, rfl⟩ := trodAll_nil h
    exact trodAll_mk0
  | cons t ts ih =>
    intro vs ds ps hr h hs hsp
    obtain ⟨v, vs', d, ds', p, q, rfl, rfl, rfl, h0, h1⟩ := trodAll_cons h
    exact ⟨p, q, WideElems.Trod_stays hl (hr t (by simp)).1 (hr t (by simp)).2 h0 (fun x hx => hs x (by simp [hx])) (fun x hx => hsp x (by simp [hx])),
      ih (fun t' ht' => hr t' (by simp [ht'])) h1 (fun x hx => hs x (by simp [hx])) (fun x hx => hsp x (by simp [hx])), rfl⟩

/-- a law's row, its last step -/
theorem law_post {f : Func} {s : ChangeSpec} {W W' : World} {args : Array Value} {ds : List (DataW H)} {before : List MemPlace} {tb : TypeId}
    (hl : laidOutB P = true) (hr : ∀ t ∈ f.params.toList, P.readableRec t = true ∧ t < P.types.size) (hv : s.vars = [])
    (hW : DataW.Whole enc P f.params.toList s.vars false W args.toList ds [] before)
    (hres : (s.fn H (ds ++ [])).results = [.lit (.bool true)]) (harg : (s.fn H (ds ++ [])).args = ds) (hvr : (s.fn H (ds ++ [])).vars = [])
    (hrt : f.resultTypes = #[tb]) (hbt : P.underlying tb = some .bool) (hb : Below W.heap.size W W') :
    s.post enc P f false true false false W args (.bool true) W' := by
  have hlt := hW.lt
  have hW0 := hW
  obtain ⟨p, q, hA, hV, rfl, _, _⟩ := hW
  rw [hv] at hV
  obtain ⟨_, rfl⟩ := trodVars_none hV
  refine ⟨ds, [], p ++ [], [], p, [], hW0, ?_, ?_, ?_, World.keptBut_mono (fun x hx => ⟨hx, ?_⟩) (hb.frame (· ∈ p ++ [])), fun h => by cases h⟩
  · rw [hres, hrt]
    exact trodAll_cons_mk (shut_bool hbt _) trodAll_mk0
  · rw [harg]
    refine trodAll_stays hl hr hA (fun x hx => hb.same (hlt x (by simp [hx]))) (fun x hx => ?_)
    have := hlt x (by simp [hx])
    simpa using this
  · rw [hv, hvr]; rfl
  · rw [List.append_nil] at hx; exact .inr (.inl hx)

theorem addr_flat {w : World} {a : Addr} {v : Value} (h : w.cell? a = some v) : a = ⟨a.block, a.off, none⟩ := by
  obtain ⟨b, o, s⟩ := a
  cases s with
  | none => rfl
  | some s =>
    unfold World.cell? at h
    split at h <;> simp at h

/-- a slice's reading, where each element's cells are those of some datum x of which R holds -/
theorem read_slice {α : Type} {w : World} {t e : TypeId} {s fuel : Nat} {v : Value} {x : DataW H × List MemPlace} (f : α → List Value) (R : α → Prop) (hf : ∀ x, (f x).length = s) (hs : 0 < s)
    (ht : P.underlying t = some (.slice e)) (hc : P.cellsOf e = s)
    (hdec : ∀ fuel cs y, DataW.trod enc P w 0 (fun _ => true) true fuel e cs = some y → ∃ x, cs = f x ∧ R x)
    (hv : ∃ a len cap, v = .slice a len cap) (h : DataW.trod enc P w 0 (fun _ => true) true fuel t v.cells.toList = some x) :
    ∃ (A : Option Addr) (l : List α) (c : Nat), v = .slice A l.length c ∧ l.length ≤ c ∧ c ≤ maxLen ∧ Sl w A (l.flatMap f) ∧ ∀ x ∈ l, R x := by
  obtain ⟨a0, len0, cap0, rfl⟩ := hv
  rcases open_slice ht h with ⟨hcs, _⟩ | ⟨a, len, cap, m, n, D, Pl, hcs, -, hlc, hcm, hm, -, hi⟩
  · simp only [Value.cells] at hcs
    injection hcs with hcs _
    rw [hcs]
    exact ⟨none, [], 0, rfl, Nat.le_refl _, Nat.zero_le _, .inl rfl, by simp⟩
  · simp only [Value.cells] at hcs
    injection hcs with hcs _
    rw [hcs]
    have hlm : len ≤ m := by rw [hm]; simp; exact hlc
    have hx : ∀ i, i < len → ∃ x, (∀ j, j < s → w.cell? (a.add (i * s + j)) = (f x)[j]?) ∧ R x := fun i hil => by
      obtain ⟨cs', h1, h2⟩ := hi i (by omega)
      obtain ⟨x, rfl, hR⟩ := hdec _ _ _ h2
      rw [hc] at h1
      obtain ⟨_, _, h3⟩ := World.cells?_some h1
      refine ⟨x, fun j hj => ?_, hR⟩
      rw [← h3 j hj, Go.Deep.add_add]
    have hl : ∃ l : List α, l.length = len ∧ ∀ i (hil : i < l.length), (∀ j, j < s → w.cell? (a.add (i * s + j)) = (f (l[i]'hil))[j]?) ∧ R (l[i]'hil) := by
      clear hi hlm hcs hm hlc hcm h
      induction len with
      | zero => exact ⟨[], rfl, fun i hil => by simp at hil⟩
      | succ len ih =>
        obtain ⟨l, hl, hg⟩ := ih fun i hi => hx i (by omega)
        obtain ⟨y, hy⟩ := hx len (by omega)
        refine ⟨l ++ [y], by simp [hl], fun i hil => ?_⟩
        by_cases e : i < l.length
        · rw [List.getElem_append_left e]; exact hg i e
        · have : i = len := by simp at hil; omega
          subst this
          rw [List.getElem_append_right (by omega)]
          simpa [hl] using hy
    obtain ⟨l, rfl, hg⟩ := hl
    refine ⟨some a, l, cap, rfl, hlc, hcm, ?_, fun x hx => ?_⟩
    · by_cases h0 : l.length = 0
      · left; rw [List.eq_nil_of_length_eq_zero h0]; rfl
      · right
        have hc0 := (hg 0 (by omega)).1 0 hs
        have hf0 : (f (l[0]'(by omega)))[0]? = some ((f (l[0]'(by omega)))[0]'(by rw [hf]; exact hs)) := List.getElem?_eq_getElem _
        rw [hf0] at hc0
        have ha0 : a.add (0 * s + 0) = a := by simp [Addr.add]
        rw [ha0] at hc0
        have ha := addr_flat hc0
        refine ⟨a.block, a.off, by rw [← ha], World.block_lt_of_cell? w a hc0, fun j u hu => ?_⟩
        have hjl : j < l.length * s := by
          have := (List.getElem?_eq_some_iff.1 hu).1
          rwa [flat_length f s hf] at this
        have hi : j / s < l.length := Nat.div_lt_of_lt_mul (by rw [Nat.mul_comm]; exact hjl)
        have hjs : j % s < s := Nat.mod_lt _ hs
        have hj : j / s * s + j % s = j := by rw [Nat.mul_comm]; exact Nat.div_add_mod j s
        have hc1 := (hg (j / s) hi).1 (j % s) hjs
        rw [hj] at hc1
        have hfl := flat_get f s hf l (j / s) (j % s) hi hjs
        rw [hj, hu] at hfl
        rw [← hfl] at hc1
        rw [ha, Addr.add_lit] at hc1
        exact hc1
    · obtain ⟨i, hi, rfl⟩ := List.getElem_of_mem hx
      exact (hg i hi).2

theorem dec_ent {w : World} {e ti tb : TypeId} (he : P.underlying e = some (.struct #[⟨ "Key", ti, 0, false, "", "", 0⟩, ⟨ "Val", ti, 1, false, "", "", 8⟩, ⟨ "Dead", tb, 2, false, "", "", 16⟩]))
    (hi : P.underlying ti = some (.int .i64)) (hb : P.underlying tb = some .bool) (hc : P.cellsOf e = 3) (hci : P.cellsOf ti = 1) (hcb : P.cellsOf tb = 1)
    (fuel : Nat) (cs : List Value) (y : DataW H × List MemPlace) (h : DataW.trod enc P w 0 (fun _ => true) true fuel e cs = some y) : ∃ x : Ent, cs = x.cells ∧ True := by
  obtain ⟨xs, n, _, _, hlen, hxl, hf⟩ := DataW.trod_struct he h
  rw [hc] at hlen
  match cs, hlen with
  | [c0, c1, c2], _ =>
    match xs, hxl with
    | [x0, x1, x2], _ =>
      have h0 := hf 0 ⟨ "Key", ti, 0, false, "", "", 0⟩ rfl
      have h1 := hf 1 ⟨ "Val", ti, 1, false, "", "", 8⟩ rfl
      have h2 := hf 2 ⟨ "Dead", tb, 2, false, "", "", 16⟩ rfl
      dsimp only at h0 h1 h2
      rw [hci] at h0 h1
      rw [hcb] at h2
      obtain ⟨k, e0, _⟩ := DataW.trod_int hi h0
      obtain ⟨v, e1, _⟩ := DataW.trod_int hi h1
      obtain ⟨d, e2, _⟩ := DataW.trod_bool hb h2
      simp at e0 e1 e2
      subst e0 e1 e2
      exact ⟨⟨k, v, d⟩, rfl, trivial⟩

theorem dec_pr {w : World} {e ti : TypeId} (he : P.underlying e = some (.struct #[⟨ "Key", ti, 0, false, "", "", 0⟩, ⟨ "Val", ti, 1, false, "", "", 8⟩]))
    (hi : P.underlying ti = some (.int .i64)) (hc : P.cellsOf e = 2) (hci : P.cellsOf ti = 1)
    (fuel : Nat) (cs : List Value) (y : DataW H × List MemPlace) (h : DataW.trod enc P w 0 (fun _ => true) true fuel e cs = some y) : ∃ x : Pr, cs = x.cells ∧ True := by
  obtain ⟨xs, n, _, _, hlen, hxl, hf⟩ := DataW.trod_struct he h
  rw [hc] at hlen
  match cs, hlen with
  | [c0, c1], _ =>
    match xs, hxl with
    | [x0, x1], _ =>
      have h0 := hf 0 ⟨ "Key", ti, 0, false, "", "", 0⟩ rfl
      have h1 := hf 1 ⟨ "Val", ti, 1, false, "", "", 8⟩ rfl
      dsimp only at h0 h1
      rw [hci] at h0 h1
      obtain ⟨k, e0, _⟩ := DataW.trod_int hi h0
      obtain ⟨v, e1, _⟩ := DataW.trod_int hi h1
      simp at e0 e1
      subst e0 e1
      exact ⟨⟨k, v⟩, rfl, trivial⟩
end
end Go.Proofs.YtolclahkfmplfaaDoor

/- The arguments of this seat's laws, read as data. -/
namespace Go.Proofs.YtolclahkfmplfaaDoor
open Go Go.ChangeShapes Go.WideShapes Go.ChangeAt Go.RowKit
set_option maxRecDepth 100000

theorem own : ownKnob Tryd.prog.godebug = none := by kernel_rfl
theorem laidOut : laidOutB Tryd.prog = true := by kernel_rfl

theorem read_ents {H : Type} {enc : TypeId × Value → H} {w : World} {base : Nat} {v : Value} {d : DataW H} {p : List MemPlace} (hok : Value.okWide Tryd.prog w .any base 22 v)
    (h : DataW.Trod enc Tryd.prog w 0 (fun _ => true) true 22 v d p) : ∃ (A : Option Addr) (l : List Ent) (c : Nat), v = .slice A l.length c ∧ l.length ≤ c ∧ c ≤ maxLen ∧ Sl w A (l.flatMap Ent.cells) := by
  obtain ⟨fuel, hf⟩ := h
  obtain ⟨A, l, c, h1, h2, h3, h4, _⟩ := read_slice Ent.cells (fun _ => True) Ent.cells_length (by omega) Tryd.underlying22 (by kernel_rfl)
    (fun fuel cs y h => dec_ent Tryd.underlying29 Tryd.underlying2 Tryd.underlying4 (by kernel_rfl) (by kernel_rfl) (by kernel_rfl) fuel cs y h) (okWide_slice Tryd.underlying22 hok) hf
  exact ⟨A, l, c, h1, h2, h3, h4⟩


theorem read_ent {H : Type} {enc : TypeId × Value → H} {w : World} {base : Nat} {v : Value} {d : DataW H} {p : List MemPlace} (hok : Value.okWide Tryd.prog w .any base 29 v)
    (h : DataW.Trod enc Tryd.prog w 0 (fun _ => true) true 29 v d p) : ∃ x : Ent, v = .agg #[.int .i64 x.key, .int .i64 x.val, .bool x.dead] := by
  obtain ⟨cs, rfl, _⟩ := okWide_struct Tryd.underlying29 hok
  obtain ⟨fuel, hf⟩ := h
  obtain ⟨x, hx, _⟩ := dec_ent Tryd.underlying29 Tryd.underlying2 Tryd.underlying4 (by kernel_rfl) (by kernel_rfl) (by kernel_rfl) fuel _ _ hf
  refine ⟨x, ?_⟩
  obtain ⟨l⟩ := cs
  simp only [Value.cells] at hx
  simp only [Value.agg.injEq]
  rw [show l = x.cells from hx]
  rfl
end Go.Proofs.YtolclahkfmplfaaDoor

/- The table of math/bits out of the row's list; a run read as data; a world for the witness. -/
namespace Go.Proofs.YtolclahkfmplfaaDoor
open Go Go.ChangeShapes Go.WideShapes Go.ChangeAt Go.RowKit
set_option maxRecDepth 100000

theorem gTab : Tryd.prog.globalNamed "math/bits.deBruijn64tab" = some 1 := by kernel_rfl
theorem gTabType : (Tryd.prog.globals[1]?).map (·.type) = some 80 := by kernel_rfl
theorem cellsTab : Tryd.prog.cellsOf 80 = 64 := by kernel_rfl
theorem cellsU8 : Tryd.prog.cellsOf 5 = 1 := by kernel_rfl
def tabZ : List Int := Lib.deBruijn64tab.map fun n : Nat => (n : Int)
theorem tabZ_is : (Rows.laid_math_bits_deBruijn64tab : DataW Unit) = Lib.tabData .u8 tabZ := by kernel_rfl
theorem tab_at {W : World} (h : laidMetH Tryd.prog [("math/bits.deBruijn32tab", Rows.laid_math_bits_deBruijn32tab), ("math/bits.deBruijn64tab", Rows.laid_math_bits_deBruijn64tab)] W) : TabAt 1 Lib.deBruijn64tab W := by
  have h1 : laidMet Tryd.prog [("math/bits.deBruijn32tab", Rows.laid_math_bits_deBruijn32tab), ("math/bits.deBruijn64tab", Rows.laid_math_bits_deBruijn64tab)] W := h
  have h2 := laidMet.tail h1
  have h3 : laidMet Tryd.prog [("math/bits.deBruijn64tab", Lib.tabData .u8 tabZ)] W := by rw [← tabZ_is]; exact h2
  have h4 : Lib.TabIs Tryd.prog W "math/bits.deBruijn64tab" .u8 tabZ := Lib.tabIs_of_head (rest := []) gTab gTabType Tryd.underlying80 Tryd.underlying5 cellsU8 cellsTab h3
  intro j hj
  have := h4.cell gTab j (by simpa [tabZ] using hj)
  rw [this]
  congr 2
  simp only [tabZ, List.getD_eq_getElem?_getD, List.getElem?_map]
  rw [List.getElem?_eq_getElem hj]
  rfl

theorem dec_ents {H : Type} {enc : TypeId × Value → H} {w : World} (fuel : Nat) (cs : List Value) (y : DataW H × List MemPlace) (h : DataW.trod enc Tryd.prog w 0 (fun _ => true) true fuel 22 cs = some y) :
    ∃ (A : Option Addr) (l : List Ent) (c : Nat), cs = [.slice A l.length c] ∧ l.length ≤ c ∧ c ≤ maxLen ∧ Sl w A (l.flatMap Ent.cells) := by
  have hv : ∃ a len cap, cs = [.slice a len cap] := by
    rcases Go.Deep.open_slice Tryd.underlying22 h with ⟨h1, _⟩ | ⟨a, len, cap, _, _, _, _, h1, _⟩
    · exact ⟨_, _, _, h1⟩
    · exact ⟨_, _, _, h1⟩
  obtain ⟨a, len, cap, rfl⟩ := hv
  obtain ⟨A, l, c, h1, h2, h3, h4, _⟩ := read_slice (v := .slice a len cap) Ent.cells (fun _ => True) Ent.cells_length (by omega) Tryd.underlying22 (by kernel_rfl)
    (fun fuel cs y h => dec_ent Tryd.underlying29 Tryd.underlying2 Tryd.underlying4 (by kernel_rfl) (by kernel_rfl) (by kernel_rfl) fuel cs y h) ⟨_, _, _, rfl⟩ h
  exact ⟨A, l, c, by rw [h1], h2, h3, h4⟩
theorem read_run {H : Type} {enc : TypeId × Value → H} {w : World} {base : Nat} {v : Value} {d : DataW H} {p : List MemPlace} (hok : Value.okWide Tryd.prog w .any base 24 v)
    (h : DataW.Trod enc Tryd.prog w 0 (fun _ => true) true 24 v d p) : ∃ (A : Option Addr) (l : List Ent) (c : Nat), v = .agg #[.slice A l.length c] ∧ l.length ≤ c ∧ c ≤ maxLen ∧ Sl w A (l.flatMap Ent.cells) := by
  obtain ⟨cs, rfl, _⟩ := okWide_struct Tryd.underlying24 hok
  obtain ⟨fuel, hf⟩ := h
  obtain ⟨xs, n, _, _, hlen, hxl, hg⟩ := DataW.trod_struct Tryd.underlying24 hf
  rw [show Tryd.prog.cellsOf 24 = 1 from by kernel_rfl] at hlen
  obtain ⟨cl⟩ := cs
  match cl, hlen with
  | [c0], _ =>
    match xs, hxl with
    | [x0], _ =>
      have h0 : DataW.trod enc Tryd.prog w 0 (fun _ => true) true n 22 (List.take (Tryd.prog.cellsOf 22) (List.drop 0 [c0])) = some x0 := hg 0 _ rfl
      rw [show Tryd.prog.cellsOf 22 = 1 from by kernel_rfl] at h0
      obtain ⟨A, l, c, e, h2, h3, h4⟩ := dec_ents _ _ _ h0
      simp at e
      subst e
      exact ⟨A, l, c, rfl, h2, h3, h4⟩

def put32 : Obj → Obj
  | .cells _ t frozen => .cells (Lib.deBruijn32tab.map fun n : Nat => Value.int .u8 (n : Int)).toArray t frozen
  | o => o
def put64 : Obj → Obj
  | .cells _ t frozen => .cells (Lib.deBruijn64tab.map fun n : Nat => Value.int .u8 (n : Int)).toArray t frozen
  | o => o
/-- the settled world, the tables as their initialisers lay them -/
noncomputable def laidWorld (os : Os) : World :=
  { World.holding Tryd.prog os ⟨#[], #[], []⟩ with heap := ((World.holding Tryd.prog os ⟨#[], #[], []⟩).heap.modify 0 put32).modify 1 put64 }
end Go.Proofs.YtolclahkfmplfaaDoor

namespace Go.Proofs.YtolclahkfmplfaaDoor
open Go Go.ChangeShapes Go.WideShapes Go.ChangeAt Go.RowKit
set_option maxRecDepth 100000

theorem kwayNames_contract (H : Type) (enc : TypeId × Value → H) (W : World) (base : Nat) (args : Array Value) (ds gs : List (DataW H)) (before : List MemPlace)
    (hval0 : ∀ (j : Nat) t v, Tryd.f3.params[j]? = some t → args[j]? = some v → Value.okWide Tryd.prog W .any base t v)
    (hW : DataW.Whole enc Tryd.prog Tryd.f3.params.toList Rows.kwayNamesSpec.vars false W args.toList ds gs before) (hL : laidMetH Tryd.prog Rows.kwayNamesRow.laid W) :
    Calls Tryd.prog 3 args W fun e W' => ∃ v, e = .returned v ∧ Rows.kwayNamesSpec.post enc Tryd.prog Tryd.f3 false true false false W args v W' := by
  have hval : ∀ (j : Nat) t v, Tryd.f3.params[j]? = some t → args[j]? = some v → Value.okWide Tryd.prog W .any base t v := hval0
  have hT := tab_at hL
  have hW' := hW
  obtain ⟨p, q, hA0, hV, rfl, hfz, hnd⟩ := hW
  have hA : DataW.TrodAll enc Tryd.prog W 0 (fun _ => true) true Tryd.f3.params.toList args.toList ds p := hA0
  rw [Tryd.params3] at hA hval
  obtain ⟨hargs, rfl, rfl⟩ := trodAll_nil hA
  obtain rfl : args = #[] := by cases args; simp_all
  obtain ⟨rfl, rfl⟩ := trodVars_none hV

  refine (kwayNames_any W hT).mono fun e W' ⟨he, hb⟩ => ?_
  subst he
  exact ⟨_, rfl, law_post (tb := 4) laidOut (by intro t ht; rw [Tryd.params3] at ht; simp at ht) rfl hW' rfl rfl rfl (by kernel_rfl) Tryd.underlying4 hb⟩

theorem kwayNames_met (os : Os) : laidMet Tryd.prog Rows.kwayNamesRow.laid ((laidWorld os).forCall (fun _ _ => 0) ⟨#[], #[], []⟩).memory :=
  laidMet_of_run' 8 (by kernel_rfl) (by kernel_rfl)
theorem kwayNames_reads (os : Os) {H : Type} (enc : TypeId × Value → H) : ∃ places, DataW.whole enc Tryd.prog ((laidWorld os).forCall (fun _ _ => 0) ⟨#[], #[], []⟩).memory Tryd.f3.params.toList Rows.kwayNamesSpec.vars false (#[] : Array Value).toList 8 = some ([], [], places) :=
  ⟨[], by kernel_rfl⟩
theorem kwayNames_lifted (os : Os) (started : os.Started) (H : Type) (enc : TypeId × Value → H) (F : Stop.Interp) :
    ReturnsInHanded {} Tryd.checked os 3 .any ((OpenSpec.ofChange Rows.kwayNamesSpec).preRow enc Tryd.prog Tryd.f3 Rows.kwayNamesRow.domain false Rows.kwayNamesRow.laid) (((OpenSpec.ofChange Rows.kwayNamesSpec).at F).post enc Tryd.prog Tryd.f3 false true false false) := by
  obtain ⟨places, hx⟩ := kwayNames_reads os enc
  refine returnsInHanded_of_row (C := Tryd.checked) (s := OpenSpec.ofChange Rows.kwayNamesSpec) own started (by kernel_rfl) Tryd.func3
    (witness_row_at (enc := enc) (C := Tryd.checked) false (laidWorld os) #[] rfl (by kernel_rfl) (by kernel_rfl) (by kernel_rfl)
      (OpenSpec.preRow_of_cond 8 hx (by kernel_rfl) (fun k hk => by cases hk) (by kernel_rfl) (kwayNames_met os))) ?_
  intro W base args ds gs before hval hW _ _ _ hL _ _
  exact kwayNames_contract H enc W base args ds gs before hval hW hL
theorem kwayNames_said : Rows.KwayNamesSaid :=
  OpenClaim.holds_of_cond 3 Tryd.f3 rfl rfl rfl rfl rfl rfl rfl ⟨rfl, rfl, rfl, rfl, rfl⟩ rfl rfl rfl rfl rfl (by kernel_rfl) Tryd.func3 (by kernel_rfl)
    (of_decide_eq_true (by kernel_rfl)) (by unfold Func.isWrapper; first | (rw [if_pos (by decide +kernel)]; kernel_rfl) | (rw [if_neg (by decide +kernel)]; exact ⟨rfl, rfl⟩))
    (fun os started H enc _ F => by rw [OpenClaim.pre_eq_preRow]; exact kwayNames_lifted os started H enc F)
theorem kwayNames_plain (f : FuncId) (fn : Func) (hf : Tryd.pinned.checked.prog.funcNamed "shelfmark/shelfmarklaw25.KwayNames" = some f) (hfn : Tryd.pinned.checked.prog.funcs[f]? = some fn) :
    false = Tryd.pinned.checked.prog.looks [] ∧ ∀ (j : Nat) t, fn.params[j]? = some t → Tryd.pinned.checked.prog.wantsStandIn t = false := by
  obtain rfl : f = 3 := Option.some.inj ((show Tryd.prog.funcNamed "shelfmark/shelfmarklaw25.KwayNames" = some 3 by kernel_rfl).symm.trans hf) |>.symm
  obtain rfl : fn = Tryd.f3 := (Option.some.inj (Tryd.func3.symm.trans hfn)).symm
  refine ⟨by kernel_rfl, fun j t ht => ?_⟩
  rw [Tryd.params3] at ht
  simp at ht

/-- the card -/
theorem kwayNames_card : Rows.KwayNamesCardSaid :=
  Claim7.holds_tied_plain_at .later [] _ _ _ _ kwayNames_said (fun _ h => by cases h) (by kernel_rfl) (fun _ h => by cases h) kwayNames_row_tie rfl ⟨rfl, rfl⟩ (by kernel_rfl) rfl kwayNames_plain (by kernel_rfl)
end Go.Proofs.YtolclahkfmplfaaDoor
