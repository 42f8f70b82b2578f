/- Contract: what the reference says an operation leaves that turns some pairs. -/
import Derived.Test.YtibgpghlnfcilaaBo
import Derived.Test.YtibgpghlnfcilaaRh
import Derived.IntWalk
namespace Go.Proofs.Ytibgpghlnfcilaa
open Go Go.RowKit
set_option maxRecDepth 100000

/-- hands back pairs, a number and an error; where there is an error, any pairs -/
def GivesTurned (m : List Pr) (n e : Int) (w : World) (r : Ending) (w' : World) : Prop :=
  ∃ A c, ∃ m' : List Pr, ∃ n' : Int, r = .returned (.tuple #[.slice A m'.length c, .int .i64 n', .int .i64 e]) ∧ Fr w' w.heap.size 23 A c m' ∧ Below w.heap.size w w' ∧ (e = 0 → m' = m ∧ n' = n)
theorem own_zero {w : World} {g B : Nat} (h : Blk w g 23 #[]) (hB : B ≤ g) : w.ownsRow B 23 2 (.slice (some ⟨g, 0, none⟩) 0 0) 0 [] :=
  ⟨rfl, .inr ⟨g, 0, _, rfl, hB, h, Nat.le_refl _, Nat.zero_le _, rfl, rfl⟩⟩


set_option maxHeartbeats 2000000 in
theorem turned2 (most : Int) (A : Option Addr) (l : List Pr) (c : Nat) (o : Opn) (Ao : Option Addr) (co : Nat) (w : World) (hA : Sl w A (l.flatMap Pr.cells)) (hO : Sl w Ao (o.pairs.flatMap Pr.cells)) (hl : l.length ≤ 400000) (hp : o.pairs.length ≤ 400000) (hlc : l.length ≤ c) (hpc : o.pairs.length ≤ co) (E : Int) (hE : Hid ((if most < ((bothL (withoutL l o.key o.key) [⟨o.key, o.val⟩]).length : Int) then 9 else 0) = E)) :
    Calls Try.prog 39 #[.int .i64 most, .slice A l.length c, .agg #[.int .u8 2, .int .i64 o.key, .int .i64 o.val, .int .i64 o.to, .int .i64 o.n, .slice Ao o.pairs.length co]] w (GivesTurned (bothL (withoutL l o.key o.key) [⟨o.key, o.val⟩]) (0) (E) w) := by
  obtain ⟨L, hL⟩ : ∃ L, withoutL l o.key o.key = L := ⟨_, rfl⟩
  have hLl : L.length ≤ l.length := by rw [← hL]; exact without_len l o.key o.key
  have HL := Lib.hid hL
  try rw [hL] at hq
  try rw [hL] at hE
  try rw [hL]
  clear hL
  have hb0 : Below w.heap.size w (w.alloc (.cells #[.int .u8 2, .int .i64 o.key, .int .i64 o.val, .int .i64 o.to, .int .i64 o.n, .slice Ao o.pairs.length co] 28)) := (Below.refl _ _).alloc (Nat.le_refl _) _
  have bO0 := Blk.new w 28 #[.int .u8 2, .int .i64 o.key, .int .i64 o.val, .int .i64 o.to, .int .i64 o.n, .slice Ao o.pairs.length co]
  have hA' := Lib.hid hA
  have hO' := Lib.hid hO
  clear hA hO
  go_enter Try.func39, Try.ntmps39
  go_wp2_with fail
  refine (without_any A l c o.key o.key _ (hA'.out.below hb0) (by omega)).mono ?_
  rw [HL.out]
  rintro e w1 ⟨A1, c1, rfl, hf1, hb1⟩
  have hb01 := bext hb0 hb1
  have hf1 := hf1.mono hb0.size
  have bO := bO0.below hb1 bO0.lt
  have cO0 : w1.cell? ⟨w.heap.size, 0, none⟩ = some (.int .u8 2) := bO.cell 0
  have cO1 : w1.cell? ⟨w.heap.size, 1, none⟩ = some (.int .i64 o.key) := bO.cell 1
  have cO2 : w1.cell? ⟨w.heap.size, 2, none⟩ = some (.int .i64 o.val) := bO.cell 2
  have cO3 : w1.cell? ⟨w.heap.size, 3, none⟩ = some (.int .i64 o.to) := bO.cell 3
  have cO5 : w1.cell? ⟨w.heap.size, 5, none⟩ = some (.slice Ao o.pairs.length co) := bO.cell 5
  clear bO0 hb1
  go_wp2_with fail
  refine (both_any A1 L c1 (some ⟨w1.heap.size, 0, none⟩) [⟨o.key, o.val⟩] 1 _ (hf1.sl.below ((Below.refl _ _).alloc (Nat.le_refl _) _)) (by exact sl_new1 _ _ _) hf1.1 (Nat.le_refl _) (by simp; omega)).mono ?_
  rintro e w2 ⟨A2, c2, rfl, hf2, hb2⟩
  have hb12 := bext ((Below.refl w1.heap.size w1).alloc (Nat.le_refl _) (.cells #[.int .i64 o.key, .int .i64 o.val] 23)) hb2
  have hb02 := bext hb01 hb12
  have hf2 := hf2.mono (show w.heap.size ≤ _ by have := hb01.size; simp; omega)
  clear hb2 hb12
  go_wp2_with fail
  refine (room_any _ (bothL L [⟨o.key, o.val⟩]) _ most _).mono ?_
  rw [hE.out]
  rintro e w9 ⟨rfl, hb9⟩
  go_wp2
  refine bodyPost_ret (v := .tuple #[.slice A2 (bothL L [⟨o.key, o.val⟩]).length c2, .int .i64 (0), .int .i64 (E)]) (by simp [results, Try.results39, go_sem]) rfl ?_
  exact ⟨A2, c2, _, 0, rfl, hf2.below hb9, bext hb02 hb9, fun _ => ⟨rfl, rfl⟩⟩


set_option maxHeartbeats 2000000 in
theorem turned3a (most : Int) (A : Option Addr) (l : List Pr) (c : Nat) (o : Opn) (Ao : Option Addr) (co : Nat) (w : World) (hA : Sl w A (l.flatMap Pr.cells)) (hO : Sl w Ao (o.pairs.flatMap Pr.cells)) (hl : l.length ≤ 400000) (hp : o.pairs.length ≤ 400000) (hlc : l.length ≤ c) (hpc : o.pairs.length ≤ co) (hq : ((withoutL l o.key o.key).length : Int) = l.length) :
    Calls Try.prog 39 #[.int .i64 most, .slice A l.length c, .agg #[.int .u8 3, .int .i64 o.key, .int .i64 o.val, .int .i64 o.to, .int .i64 o.n, .slice Ao o.pairs.length co]] w (GivesTurned ([]) (0) (6) w) := by
  obtain ⟨L, hL⟩ : ∃ L, withoutL l o.key o.key = L := ⟨_, rfl⟩
  have hLl : L.length ≤ l.length := by rw [← hL]; exact without_len l o.key o.key
  have HL := Lib.hid hL
  try rw [hL] at hq
  try rw [hL] at hE
  try rw [hL]
  clear hL
  have hb0 : Below w.heap.size w (w.alloc (.cells #[.int .u8 3, .int .i64 o.key, .int .i64 o.val, .int .i64 o.to, .int .i64 o.n, .slice Ao o.pairs.length co] 28)) := (Below.refl _ _).alloc (Nat.le_refl _) _
  have bO0 := Blk.new w 28 #[.int .u8 3, .int .i64 o.key, .int .i64 o.val, .int .i64 o.to, .int .i64 o.n, .slice Ao o.pairs.length co]
  have hA' := Lib.hid hA
  have hO' := Lib.hid hO
  clear hA hO
  go_enter Try.func39, Try.ntmps39
  go_wp2_with fail
  refine (without_any A l c o.key o.key _ (hA'.out.below hb0) (by omega)).mono ?_
  rw [HL.out]
  rintro e w1 ⟨A1, c1, rfl, hf1, hb1⟩
  have hb01 := bext hb0 hb1
  have hf1 := hf1.mono hb0.size
  have bO := bO0.below hb1 bO0.lt
  have cO0 : w1.cell? ⟨w.heap.size, 0, none⟩ = some (.int .u8 3) := bO.cell 0
  have cO1 : w1.cell? ⟨w.heap.size, 1, none⟩ = some (.int .i64 o.key) := bO.cell 1
  have cO2 : w1.cell? ⟨w.heap.size, 2, none⟩ = some (.int .i64 o.val) := bO.cell 2
  have cO3 : w1.cell? ⟨w.heap.size, 3, none⟩ = some (.int .i64 o.to) := bO.cell 3
  have cO5 : w1.cell? ⟨w.heap.size, 5, none⟩ = some (.slice Ao o.pairs.length co) := bO.cell 5
  clear bO0 hb1
  go_wp2
  refine bodyPost_ret (v := .tuple #[.slice none 0 0, .int .i64 (0), .int .i64 (6)]) (by simp [results, Try.results39, go_sem]) rfl ?_
  exact ⟨none, 0, [], 0, rfl, Fr.nil, hb01, fun h => absurd h (by decide)⟩


set_option maxHeartbeats 2000000 in
theorem turned3b (most : Int) (A : Option Addr) (l : List Pr) (c : Nat) (o : Opn) (Ao : Option Addr) (co : Nat) (w : World) (hA : Sl w A (l.flatMap Pr.cells)) (hO : Sl w Ao (o.pairs.flatMap Pr.cells)) (hl : l.length ≤ 400000) (hp : o.pairs.length ≤ 400000) (hlc : l.length ≤ c) (hpc : o.pairs.length ≤ co) (hq : ¬ ((withoutL l o.key o.key).length : Int) = l.length) :
    Calls Try.prog 39 #[.int .i64 most, .slice A l.length c, .agg #[.int .u8 3, .int .i64 o.key, .int .i64 o.val, .int .i64 o.to, .int .i64 o.n, .slice Ao o.pairs.length co]] w (GivesTurned (withoutL l o.key o.key) (0) (0) w) := by
  obtain ⟨L, hL⟩ : ∃ L, withoutL l o.key o.key = L := ⟨_, rfl⟩
  have hLl : L.length ≤ l.length := by rw [← hL]; exact without_len l o.key o.key
  have HL := Lib.hid hL
  try rw [hL] at hq
  try rw [hL] at hE
  try rw [hL]
  clear hL
  have hb0 : Below w.heap.size w (w.alloc (.cells #[.int .u8 3, .int .i64 o.key, .int .i64 o.val, .int .i64 o.to, .int .i64 o.n, .slice Ao o.pairs.length co] 28)) := (Below.refl _ _).alloc (Nat.le_refl _) _
  have bO0 := Blk.new w 28 #[.int .u8 3, .int .i64 o.key, .int .i64 o.val, .int .i64 o.to, .int .i64 o.n, .slice Ao o.pairs.length co]
  have hA' := Lib.hid hA
  have hO' := Lib.hid hO
  clear hA hO
  go_enter Try.func39, Try.ntmps39
  go_wp2_with fail
  refine (without_any A l c o.key o.key _ (hA'.out.below hb0) (by omega)).mono ?_
  rw [HL.out]
  rintro e w1 ⟨A1, c1, rfl, hf1, hb1⟩
  have hb01 := bext hb0 hb1
  have hf1 := hf1.mono hb0.size
  have bO := bO0.below hb1 bO0.lt
  have cO0 : w1.cell? ⟨w.heap.size, 0, none⟩ = some (.int .u8 3) := bO.cell 0
  have cO1 : w1.cell? ⟨w.heap.size, 1, none⟩ = some (.int .i64 o.key) := bO.cell 1
  have cO2 : w1.cell? ⟨w.heap.size, 2, none⟩ = some (.int .i64 o.val) := bO.cell 2
  have cO3 : w1.cell? ⟨w.heap.size, 3, none⟩ = some (.int .i64 o.to) := bO.cell 3
  have cO5 : w1.cell? ⟨w.heap.size, 5, none⟩ = some (.slice Ao o.pairs.length co) := bO.cell 5
  clear bO0 hb1
  go_wp2
  refine bodyPost_ret (v := .tuple #[.slice A1 L.length c1, .int .i64 (0), .int .i64 (0)]) (by simp [results, Try.results39, go_sem]) rfl ?_
  exact ⟨A1, c1, L, 0, rfl, hf1, hb01, fun _ => ⟨rfl, rfl⟩⟩


set_option maxHeartbeats 2000000 in
theorem turned11 (most : Int) (A : Option Addr) (l : List Pr) (c : Nat) (o : Opn) (Ao : Option Addr) (co : Nat) (w : World) (hA : Sl w A (l.flatMap Pr.cells)) (hO : Sl w Ao (o.pairs.flatMap Pr.cells)) (hl : l.length ≤ 400000) (hp : o.pairs.length ≤ 400000) (hlc : l.length ≤ c) (hpc : o.pairs.length ≤ co) :
    Calls Try.prog 39 #[.int .i64 most, .slice A l.length c, .agg #[.int .u8 11, .int .i64 o.key, .int .i64 o.val, .int .i64 o.to, .int .i64 o.n, .slice Ao o.pairs.length co]] w (GivesTurned (withoutL l o.key o.to) ((l.length : Int) - (withoutL l o.key o.to).length) (0) w) := by
  obtain ⟨L, hL⟩ : ∃ L, withoutL l o.key o.key = L := ⟨_, rfl⟩
  have hLl : L.length ≤ l.length := by rw [← hL]; exact without_len l o.key o.key
  have HL := Lib.hid hL
  try rw [hL] at hq
  try rw [hL] at hE
  try rw [hL]
  clear hL
  have hb0 : Below w.heap.size w (w.alloc (.cells #[.int .u8 11, .int .i64 o.key, .int .i64 o.val, .int .i64 o.to, .int .i64 o.n, .slice Ao o.pairs.length co] 28)) := (Below.refl _ _).alloc (Nat.le_refl _) _
  have bO0 := Blk.new w 28 #[.int .u8 11, .int .i64 o.key, .int .i64 o.val, .int .i64 o.to, .int .i64 o.n, .slice Ao o.pairs.length co]
  have hA' := Lib.hid hA
  have hO' := Lib.hid hO
  clear hA hO
  go_enter Try.func39, Try.ntmps39
  go_wp2_with fail
  refine (without_any A l c o.key o.key _ (hA'.out.below hb0) (by omega)).mono ?_
  rw [HL.out]
  rintro e w1 ⟨A1, c1, rfl, hf1, hb1⟩
  have hb01 := bext hb0 hb1
  have hf1 := hf1.mono hb0.size
  have bO := bO0.below hb1 bO0.lt
  have cO0 : w1.cell? ⟨w.heap.size, 0, none⟩ = some (.int .u8 11) := bO.cell 0
  have cO1 : w1.cell? ⟨w.heap.size, 1, none⟩ = some (.int .i64 o.key) := bO.cell 1
  have cO2 : w1.cell? ⟨w.heap.size, 2, none⟩ = some (.int .i64 o.val) := bO.cell 2
  have cO3 : w1.cell? ⟨w.heap.size, 3, none⟩ = some (.int .i64 o.to) := bO.cell 3
  have cO5 : w1.cell? ⟨w.heap.size, 5, none⟩ = some (.slice Ao o.pairs.length co) := bO.cell 5
  clear bO0 hb1
  go_wp2_with fail
  refine (without_any A l c o.key o.to _ (hA'.out.below hb01) (by omega)).mono ?_
  rintro e w2 ⟨A2, c2, rfl, hf2, hb2⟩
  have hb02 := bext hb01 hb2
  have hf2 := hf2.mono hb01.size
  have hM := without_len l o.key o.to
  have hwr : IntKind.i64.wrap ((l.length : Int) - ((withoutL l o.key o.to).length : Int)) = (l.length : Int) - ((withoutL l o.key o.to).length : Int) := IntWalk.i64_in _ (by omega)
  clear hLl hM hl hp
  go_wp2
  refine bodyPost_ret (v := .tuple #[.slice A2 (withoutL l o.key o.to).length c2, .int .i64 ((l.length : Int) - ((withoutL l o.key o.to).length : Int)), .int .i64 (0)]) (by simp [results, Try.results39, go_sem]) rfl ?_
  exact ⟨A2, c2, _, _, rfl, hf2, hb02, fun _ => ⟨rfl, rfl⟩⟩


set_option maxHeartbeats 2000000 in
theorem turned12a (most : Int) (A : Option Addr) (l : List Pr) (c : Nat) (o : Opn) (Ao : Option Addr) (co : Nat) (w : World) (hA : Sl w A (l.flatMap Pr.cells)) (hO : Sl w Ao (o.pairs.flatMap Pr.cells)) (hl : l.length ≤ 400000) (hp : o.pairs.length ≤ 400000) (hlc : l.length ≤ c) (hpc : o.pairs.length ≤ co) (hR : decide (Ris o.pairs) = false) :
    Calls Try.prog 39 #[.int .i64 most, .slice A l.length c, .agg #[.int .u8 12, .int .i64 o.key, .int .i64 o.val, .int .i64 o.to, .int .i64 o.n, .slice Ao o.pairs.length co]] w (GivesTurned ([]) (0) (130) w) := by
  obtain ⟨L, hL⟩ : ∃ L, withoutL l o.key o.key = L := ⟨_, rfl⟩
  have hLl : L.length ≤ l.length := by rw [← hL]; exact without_len l o.key o.key
  have HL := Lib.hid hL
  try rw [hL] at hq
  try rw [hL] at hE
  try rw [hL]
  clear hL
  have hb0 : Below w.heap.size w (w.alloc (.cells #[.int .u8 12, .int .i64 o.key, .int .i64 o.val, .int .i64 o.to, .int .i64 o.n, .slice Ao o.pairs.length co] 28)) := (Below.refl _ _).alloc (Nat.le_refl _) _
  have bO0 := Blk.new w 28 #[.int .u8 12, .int .i64 o.key, .int .i64 o.val, .int .i64 o.to, .int .i64 o.n, .slice Ao o.pairs.length co]
  have hA' := Lib.hid hA
  have hO' := Lib.hid hO
  clear hA hO
  go_enter Try.func39, Try.ntmps39
  go_wp2_with fail
  refine (without_any A l c o.key o.key _ (hA'.out.below hb0) (by omega)).mono ?_
  rw [HL.out]
  rintro e w1 ⟨A1, c1, rfl, hf1, hb1⟩
  have hb01 := bext hb0 hb1
  have hf1 := hf1.mono hb0.size
  have bO := bO0.below hb1 bO0.lt
  have cO0 : w1.cell? ⟨w.heap.size, 0, none⟩ = some (.int .u8 12) := bO.cell 0
  have cO1 : w1.cell? ⟨w.heap.size, 1, none⟩ = some (.int .i64 o.key) := bO.cell 1
  have cO2 : w1.cell? ⟨w.heap.size, 2, none⟩ = some (.int .i64 o.val) := bO.cell 2
  have cO3 : w1.cell? ⟨w.heap.size, 3, none⟩ = some (.int .i64 o.to) := bO.cell 3
  have cO5 : w1.cell? ⟨w.heap.size, 5, none⟩ = some (.slice Ao o.pairs.length co) := bO.cell 5
  clear bO0 hb1
  go_wp2_with fail
  refine (refRising_any Ao o.pairs co _ (hO'.out.below hb01) (by omega)).mono ?_
  rw [hR]
  rintro e w2 ⟨rfl, hb2⟩
  have hb02 := bext hb01 hb2
  have bO0 := bO
  have bO := bO0.below hb2 bO0.lt
  have cO0 : w2.cell? ⟨w.heap.size, 0, none⟩ = some (.int .u8 12) := bO.cell 0
  have cO1 : w2.cell? ⟨w.heap.size, 1, none⟩ = some (.int .i64 o.key) := bO.cell 1
  have cO2 : w2.cell? ⟨w.heap.size, 2, none⟩ = some (.int .i64 o.val) := bO.cell 2
  have cO3 : w2.cell? ⟨w.heap.size, 3, none⟩ = some (.int .i64 o.to) := bO.cell 3
  have cO5 : w2.cell? ⟨w.heap.size, 5, none⟩ = some (.slice Ao o.pairs.length co) := bO.cell 5
  clear bO0 hb2
  go_wp2
  refine bodyPost_ret (v := .tuple #[.slice none 0 0, .int .i64 (0), .int .i64 (130)]) (by simp [results, Try.results39, go_sem]) rfl ?_
  exact ⟨none, 0, [], 0, rfl, Fr.nil, hb02, fun h => absurd h (by decide)⟩


set_option maxHeartbeats 2000000 in
theorem turned13a (most : Int) (A : Option Addr) (l : List Pr) (c : Nat) (o : Opn) (Ao : Option Addr) (co : Nat) (w : World) (hA : Sl w A (l.flatMap Pr.cells)) (hO : Sl w Ao (o.pairs.flatMap Pr.cells)) (hl : l.length ≤ 400000) (hp : o.pairs.length ≤ 400000) (hlc : l.length ≤ c) (hpc : o.pairs.length ≤ co) (hR : decide (Ris o.pairs) = false) :
    Calls Try.prog 39 #[.int .i64 most, .slice A l.length c, .agg #[.int .u8 13, .int .i64 o.key, .int .i64 o.val, .int .i64 o.to, .int .i64 o.n, .slice Ao o.pairs.length co]] w (GivesTurned ([]) (0) (130) w) := by
  obtain ⟨L, hL⟩ : ∃ L, withoutL l o.key o.key = L := ⟨_, rfl⟩
  have hLl : L.length ≤ l.length := by rw [← hL]; exact without_len l o.key o.key
  have HL := Lib.hid hL
  try rw [hL] at hq
  try rw [hL] at hE
  try rw [hL]
  clear hL
  have hb0 : Below w.heap.size w (w.alloc (.cells #[.int .u8 13, .int .i64 o.key, .int .i64 o.val, .int .i64 o.to, .int .i64 o.n, .slice Ao o.pairs.length co] 28)) := (Below.refl _ _).alloc (Nat.le_refl _) _
  have bO0 := Blk.new w 28 #[.int .u8 13, .int .i64 o.key, .int .i64 o.val, .int .i64 o.to, .int .i64 o.n, .slice Ao o.pairs.length co]
  have hA' := Lib.hid hA
  have hO' := Lib.hid hO
  clear hA hO
  go_enter Try.func39, Try.ntmps39
  go_wp2_with fail
  refine (without_any A l c o.key o.key _ (hA'.out.below hb0) (by omega)).mono ?_
  rw [HL.out]
  rintro e w1 ⟨A1, c1, rfl, hf1, hb1⟩
  have hb01 := bext hb0 hb1
  have hf1 := hf1.mono hb0.size
  have bO := bO0.below hb1 bO0.lt
  have cO0 : w1.cell? ⟨w.heap.size, 0, none⟩ = some (.int .u8 13) := bO.cell 0
  have cO1 : w1.cell? ⟨w.heap.size, 1, none⟩ = some (.int .i64 o.key) := bO.cell 1
  have cO2 : w1.cell? ⟨w.heap.size, 2, none⟩ = some (.int .i64 o.val) := bO.cell 2
  have cO3 : w1.cell? ⟨w.heap.size, 3, none⟩ = some (.int .i64 o.to) := bO.cell 3
  have cO5 : w1.cell? ⟨w.heap.size, 5, none⟩ = some (.slice Ao o.pairs.length co) := bO.cell 5
  clear bO0 hb1
  go_wp2_with fail
  refine (refRising_any Ao o.pairs co _ (hO'.out.below hb01) (by omega)).mono ?_
  rw [hR]
  rintro e w2 ⟨rfl, hb2⟩
  have hb02 := bext hb01 hb2
  have bO0 := bO
  have bO := bO0.below hb2 bO0.lt
  have cO0 : w2.cell? ⟨w.heap.size, 0, none⟩ = some (.int .u8 13) := bO.cell 0
  have cO1 : w2.cell? ⟨w.heap.size, 1, none⟩ = some (.int .i64 o.key) := bO.cell 1
  have cO2 : w2.cell? ⟨w.heap.size, 2, none⟩ = some (.int .i64 o.val) := bO.cell 2
  have cO3 : w2.cell? ⟨w.heap.size, 3, none⟩ = some (.int .i64 o.to) := bO.cell 3
  have cO5 : w2.cell? ⟨w.heap.size, 5, none⟩ = some (.slice Ao o.pairs.length co) := bO.cell 5
  clear bO0 hb2
  go_wp2
  refine bodyPost_ret (v := .tuple #[.slice none 0 0, .int .i64 (0), .int .i64 (130)]) (by simp [results, Try.results39, go_sem]) rfl ?_
  exact ⟨none, 0, [], 0, rfl, Fr.nil, hb02, fun h => absurd h (by decide)⟩


set_option maxHeartbeats 2000000 in
theorem turned13b (most : Int) (A : Option Addr) (l : List Pr) (c : Nat) (o : Opn) (Ao : Option Addr) (co : Nat) (w : World) (hA : Sl w A (l.flatMap Pr.cells)) (hO : Sl w Ao (o.pairs.flatMap Pr.cells)) (hl : l.length ≤ 400000) (hp : o.pairs.length ≤ 400000) (hlc : l.length ≤ c) (hpc : o.pairs.length ≤ co) (hR : decide (Ris o.pairs) = true) (E : Int) (hE : Hid ((if most < ((bothL l o.pairs).length : Int) then 9 else 0) = E)) :
    Calls Try.prog 39 #[.int .i64 most, .slice A l.length c, .agg #[.int .u8 13, .int .i64 o.key, .int .i64 o.val, .int .i64 o.to, .int .i64 o.n, .slice Ao o.pairs.length co]] w (GivesTurned (bothL l o.pairs) ((bothL l o.pairs).length) (E) w) := by
  obtain ⟨L, hL⟩ : ∃ L, withoutL l o.key o.key = L := ⟨_, rfl⟩
  have hLl : L.length ≤ l.length := by rw [← hL]; exact without_len l o.key o.key
  have HL := Lib.hid hL
  try rw [hL] at hq
  try rw [hL] at hE
  try rw [hL]
  clear hL
  have hb0 : Below w.heap.size w (w.alloc (.cells #[.int .u8 13, .int .i64 o.key, .int .i64 o.val, .int .i64 o.to, .int .i64 o.n, .slice Ao o.pairs.length co] 28)) := (Below.refl _ _).alloc (Nat.le_refl _) _
  have bO0 := Blk.new w 28 #[.int .u8 13, .int .i64 o.key, .int .i64 o.val, .int .i64 o.to, .int .i64 o.n, .slice Ao o.pairs.length co]
  have hA' := Lib.hid hA
  have hO' := Lib.hid hO
  clear hA hO
  go_enter Try.func39, Try.ntmps39
  go_wp2_with fail
  refine (without_any A l c o.key o.key _ (hA'.out.below hb0) (by omega)).mono ?_
  rw [HL.out]
  rintro e w1 ⟨A1, c1, rfl, hf1, hb1⟩
  have hb01 := bext hb0 hb1
  have hf1 := hf1.mono hb0.size
  have bO := bO0.below hb1 bO0.lt
  have cO0 : w1.cell? ⟨w.heap.size, 0, none⟩ = some (.int .u8 13) := bO.cell 0
  have cO1 : w1.cell? ⟨w.heap.size, 1, none⟩ = some (.int .i64 o.key) := bO.cell 1
  have cO2 : w1.cell? ⟨w.heap.size, 2, none⟩ = some (.int .i64 o.val) := bO.cell 2
  have cO3 : w1.cell? ⟨w.heap.size, 3, none⟩ = some (.int .i64 o.to) := bO.cell 3
  have cO5 : w1.cell? ⟨w.heap.size, 5, none⟩ = some (.slice Ao o.pairs.length co) := bO.cell 5
  clear bO0 hb1
  go_wp2_with fail
  refine (refRising_any Ao o.pairs co _ (hO'.out.below hb01) (by omega)).mono ?_
  rw [hR]
  rintro e w2 ⟨rfl, hb2⟩
  have hb02 := bext hb01 hb2
  have bO0 := bO
  have bO := bO0.below hb2 bO0.lt
  have cO0 : w2.cell? ⟨w.heap.size, 0, none⟩ = some (.int .u8 13) := bO.cell 0
  have cO1 : w2.cell? ⟨w.heap.size, 1, none⟩ = some (.int .i64 o.key) := bO.cell 1
  have cO2 : w2.cell? ⟨w.heap.size, 2, none⟩ = some (.int .i64 o.val) := bO.cell 2
  have cO3 : w2.cell? ⟨w.heap.size, 3, none⟩ = some (.int .i64 o.to) := bO.cell 3
  have cO5 : w2.cell? ⟨w.heap.size, 5, none⟩ = some (.slice Ao o.pairs.length co) := bO.cell 5
  clear bO0 hb2
  go_wp2_with fail
  refine (both_any A l c Ao o.pairs co _ (hA'.out.below hb02) (hO'.out.below hb02) hlc hpc (by omega)).mono ?_
  rintro e w3 ⟨A2, c2, rfl, hf2, hb3⟩
  have hb03 := bext hb02 hb3
  have hf2 := hf2.mono hb02.size
  go_wp2_with fail
  refine (room_any _ (bothL l o.pairs) _ most _).mono ?_
  rw [hE.out]
  rintro e w9 ⟨rfl, hb9⟩
  go_wp2
  refine bodyPost_ret (v := .tuple #[.slice A2 (bothL l o.pairs).length c2, .int .i64 (((bothL l o.pairs).length : Nat)), .int .i64 (E)]) (by simp [results, Try.results39, go_sem]) rfl ?_
  exact ⟨A2, c2, _, _, rfl, hf2.below hb9, bext hb03 hb9, fun _ => ⟨rfl, rfl⟩⟩


set_option maxHeartbeats 2000000 in
theorem turned12b (most : Int) (A : Option Addr) (l : List Pr) (c : Nat) (o : Opn) (Ao : Option Addr) (co : Nat) (w : World) (hA : Sl w A (l.flatMap Pr.cells)) (hO : Sl w Ao (o.pairs.flatMap Pr.cells)) (hl : l.length ≤ 400000) (hp : o.pairs.length ≤ 400000) (hlc : l.length ≤ c) (hpc : o.pairs.length ≤ co) (hR : decide (Ris o.pairs) = true) (E : Int) (hE : Hid ((if most < (o.pairs.length : Int) then 9 else 0) = E)) :
    Calls Try.prog 39 #[.int .i64 most, .slice A l.length c, .agg #[.int .u8 12, .int .i64 o.key, .int .i64 o.val, .int .i64 o.to, .int .i64 o.n, .slice Ao o.pairs.length co]] w (GivesTurned (o.pairs) (0) (E) w) := by
  obtain ⟨L, hL⟩ : ∃ L, withoutL l o.key o.key = L := ⟨_, rfl⟩
  have hLl : L.length ≤ l.length := by rw [← hL]; exact without_len l o.key o.key
  have HL := Lib.hid hL
  try rw [hL] at hq
  try rw [hL] at hE
  try rw [hL]
  clear hL
  have hb0 : Below w.heap.size w (w.alloc (.cells #[.int .u8 12, .int .i64 o.key, .int .i64 o.val, .int .i64 o.to, .int .i64 o.n, .slice Ao o.pairs.length co] 28)) := (Below.refl _ _).alloc (Nat.le_refl _) _
  have bO0 := Blk.new w 28 #[.int .u8 12, .int .i64 o.key, .int .i64 o.val, .int .i64 o.to, .int .i64 o.n, .slice Ao o.pairs.length co]
  have hA' := Lib.hid hA
  have hO' := Lib.hid hO
  clear hA hO
  go_enter Try.func39, Try.ntmps39
  go_wp2_with fail
  refine (without_any A l c o.key o.key _ (hA'.out.below hb0) (by omega)).mono ?_
  rw [HL.out]
  rintro e w1 ⟨A1, c1, rfl, hf1, hb1⟩
  have hb01 := bext hb0 hb1
  have hf1 := hf1.mono hb0.size
  have bO := bO0.below hb1 bO0.lt
  have cO0 : w1.cell? ⟨w.heap.size, 0, none⟩ = some (.int .u8 12) := bO.cell 0
  have cO1 : w1.cell? ⟨w.heap.size, 1, none⟩ = some (.int .i64 o.key) := bO.cell 1
  have cO2 : w1.cell? ⟨w.heap.size, 2, none⟩ = some (.int .i64 o.val) := bO.cell 2
  have cO3 : w1.cell? ⟨w.heap.size, 3, none⟩ = some (.int .i64 o.to) := bO.cell 3
  have cO5 : w1.cell? ⟨w.heap.size, 5, none⟩ = some (.slice Ao o.pairs.length co) := bO.cell 5
  clear bO0 hb1
  obtain ⟨ti0, hi, hz0, hz1, hz2⟩ := info_parts pr_info0
  have HI := Lib.hid (And.intro hi (And.intro hz0 (And.intro hz1 hz2)))
  clear hi hz0 hz1 hz2
  go_wp2_with fail
  refine (refRising_any Ao o.pairs co _ (hO'.out.below hb01) (by omega)).mono ?_
  rw [hR]
  rintro e w2 ⟨rfl, hb2⟩
  have hb02 := bext hb01 hb2
  have bO0 := bO
  have bO := bO0.below hb2 bO0.lt
  have cO0 : w2.cell? ⟨w.heap.size, 0, none⟩ = some (.int .u8 12) := bO.cell 0
  have cO1 : w2.cell? ⟨w.heap.size, 1, none⟩ = some (.int .i64 o.key) := bO.cell 1
  have cO2 : w2.cell? ⟨w.heap.size, 2, none⟩ = some (.int .i64 o.val) := bO.cell 2
  have cO3 : w2.cell? ⟨w.heap.size, 3, none⟩ = some (.int .i64 o.to) := bO.cell 3
  have cO5 : w2.cell? ⟨w.heap.size, 5, none⟩ = some (.slice Ao o.pairs.length co) := bO.cell 5
  clear bO0 hb2
  have hbl : w.heap.size < w2.heap.size := bO.lt
  go_wp2_with fail
  go_region_held3 (fun w' => (∀ bq jq, bq < w2.heap.size → w'.cell? ⟨bq, jq, none⟩ = w2.cell? ⟨bq, jq, none⟩) ∧ (∀ bq jq, bq < w2.heap.size → w'.frozen? ⟨bq, jq, none⟩ = w2.frozen? ⟨bq, jq, none⟩) ∧ w2.heap.size ≤ w'.heap.size ∧ Below w2.heap.size w2 w') ((with_reducible first | exact SB.init | exact SB.alloc _ (by assumption) | exact SB.allocD _ (by assumption) | exact SB.below (by assumption) (by assumption) | assumption))
    (first
      | (go_at_call 49; refine (room_any Ao o.pairs co most _).mono ?_; rw [hE.out]; rintro e1 w3 ⟨rfl, hb3⟩; have hl3 := SB.le hb3 (by assumption); obtain ⟨hc3, hz3, hs3⟩ := wfacts hb3)
      | (refine step_append_sl _ (by rfl) (.tmp 64) (.tmp 66) _ (by rfl) w2.heap.size 23 ti0 _ 2 16 Try.underlying24 HI.out.1 HI.out.2.1 HI.out.2.2.1 HI.out.2.2.2 rfl (by omega) _ 0 [] (by rfl) (by first | exact own_zero (Blk.new w3 _ _) (by assumption) | exact own_zero (Blk.below (by exact Blk.new w2 _ _) hb3 (by first | simp | exact Nat.lt_succ_self _)) (Nat.le_refl _) | exact own_zero (by exact Blk.new w2 _ _) (Nat.le_refl _)) Ao o.pairs.length co (o.pairs.flatMap Pr.cells) (by rfl) (hO'.out.below (bext hb02 (SB.bel (by assumption)))) (prs_length _) (one_prs _) (by unfold maxLen; omega) (by omega) (SB.bel (by assumption)).size ?_; intro v4 w4 hown4 hg4; simp only [Nat.zero_add, List.nil_append] at hown4; obtain ⟨A4, q4, rfl, hle4, hmx4⟩ := own_form hown4; have hs4 : SB w2 w4 := SB.of ((SB.bel (by assumption)).grown hg4 (SB.bel (by assumption)).size (fun k hk => by first | (have hk2 : some w2.heap.size = some k := hk; injection hk2; omega) | (have hk2 : some w3.heap.size = some k := hk; injection hk2; omega))))
      | fail "no arm")
  all_goals
    go_wp2
    refine bodyPost_ret (v := .tuple #[.slice A4 o.pairs.length q4, .int .i64 0, .int .i64 E]) (by simp [results, Try.results39, go_sem]) rfl ?_
    first
      | exact ⟨A4, q4, o.pairs, 0, rfl, (Fr.of_own hown4 rfl).mono hb02.size, bext hb02 (SB.bel (by assumption)), fun _ => ⟨rfl, rfl⟩⟩
      | exact ⟨A4, q4, o.pairs, 0, rfl, (Fr.of_own (own_below hown4 hb3) rfl).mono hb02.size, bext hb02 (SB.bel (by assumption)), fun _ => ⟨rfl, rfl⟩⟩


set_option maxHeartbeats 2000000 in
theorem turned0 (most : Int) (A : Option Addr) (l : List Pr) (c : Nat) (o : Opn) (Ao : Option Addr) (co : Nat) (w : World) (hA : Sl w A (l.flatMap Pr.cells)) (hO : Sl w Ao (o.pairs.flatMap Pr.cells)) (hl : l.length ≤ 400000) (hp : o.pairs.length ≤ 400000) (hlc : l.length ≤ c) (hpc : o.pairs.length ≤ co) (n2 : (o.kind == 2) = false) (n3 : (o.kind == 3) = false) (n11 : (o.kind == 11) = false) (n12 : (o.kind == 12) = false) (n13 : (o.kind == 13) = false) :
    Calls Try.prog 39 #[.int .i64 most, .slice A l.length c, .agg #[.int .u8 o.kind, .int .i64 o.key, .int .i64 o.val, .int .i64 o.to, .int .i64 o.n, .slice Ao o.pairs.length co]] w (GivesTurned ([]) (0) (291) w) := by
  obtain ⟨L, hL⟩ : ∃ L, withoutL l o.key o.key = L := ⟨_, rfl⟩
  have hLl : L.length ≤ l.length := by rw [← hL]; exact without_len l o.key o.key
  have HL := Lib.hid hL
  try rw [hL] at hq
  try rw [hL] at hE
  try rw [hL]
  clear hL
  have hb0 : Below w.heap.size w (w.alloc (.cells #[.int .u8 o.kind, .int .i64 o.key, .int .i64 o.val, .int .i64 o.to, .int .i64 o.n, .slice Ao o.pairs.length co] 28)) := (Below.refl _ _).alloc (Nat.le_refl _) _
  have bO0 := Blk.new w 28 #[.int .u8 o.kind, .int .i64 o.key, .int .i64 o.val, .int .i64 o.to, .int .i64 o.n, .slice Ao o.pairs.length co]
  have hA' := Lib.hid hA
  have hO' := Lib.hid hO
  clear hA hO
  go_enter Try.func39, Try.ntmps39
  go_wp2_with fail
  refine (without_any A l c o.key o.key _ (hA'.out.below hb0) (by omega)).mono ?_
  rw [HL.out]
  rintro e w1 ⟨A1, c1, rfl, hf1, hb1⟩
  have hb01 := bext hb0 hb1
  have hf1 := hf1.mono hb0.size
  have bO := bO0.below hb1 bO0.lt
  have cO0 : w1.cell? ⟨w.heap.size, 0, none⟩ = some (.int .u8 o.kind) := bO.cell 0
  have cO1 : w1.cell? ⟨w.heap.size, 1, none⟩ = some (.int .i64 o.key) := bO.cell 1
  have cO2 : w1.cell? ⟨w.heap.size, 2, none⟩ = some (.int .i64 o.val) := bO.cell 2
  have cO3 : w1.cell? ⟨w.heap.size, 3, none⟩ = some (.int .i64 o.to) := bO.cell 3
  have cO5 : w1.cell? ⟨w.heap.size, 5, none⟩ = some (.slice Ao o.pairs.length co) := bO.cell 5
  clear bO0 hb1
  go_wp2
  refine bodyPost_ret (v := .tuple #[.slice none 0 0, .int .i64 (0), .int .i64 (291)]) (by simp [results, Try.results39, go_sem]) rfl ?_
  exact ⟨none, 0, [], 0, rfl, Fr.nil, hb01, fun h => absurd h (by decide)⟩

theorem GivesTurned.mono {m m2 : List Pr} {n n2 e : Int} {w : World} {r : Ending} {w' : World} (he : e = 0 → m = m2 ∧ n = n2) (h : GivesTurned m n e w r w') : GivesTurned m2 n2 e w r w' := by
  obtain ⟨A, c, m', n', h1, h2, h3, h4⟩ := h
  refine ⟨A, c, m', n', h1, h2, h3, fun h0 => ?_⟩
  obtain ⟨g1, g2⟩ := h4 h0
  obtain ⟨g3, g4⟩ := he h0
  exact ⟨g1.trans g3, g2.trans g4⟩
theorem without_ris {l : List Pr} (h : Ris l) (a b : Int) : withoutL l a b = l.take (bel l a) ++ l.drop (max (bel l a) (upk l b)) := filter_or_ris h a b
theorem without_one {l : List Pr} (h : Ris l) (p : Pr) : bothL (withoutL l p.key p.key) [p] = putL l p := both_one h p

theorem turned_any (most : Int) (A : Option Addr) (l : List Pr) (c : Nat) (o : Opn) (Ao : Option Addr) (co : Nat) (w : World) (hA : Sl w A (l.flatMap Pr.cells)) (hO : Sl w Ao (o.pairs.flatMap Pr.cells)) (hl : l.length ≤ 400000) (hp : o.pairs.length ≤ 400000) (hlc : l.length ≤ c) (hpc : o.pairs.length ≤ co) (hr : Ris l) (hm : (l.length : Int) ≤ most) :
    Calls Try.prog 39 #[.int .i64 most, .slice A l.length c, .agg #[.int .u8 o.kind, .int .i64 o.key, .int .i64 o.val, .int .i64 o.to, .int .i64 o.n, .slice Ao o.pairs.length co]] w (GivesTurned (turnL most l o) (turnN most l o) (turnE most l o) w) := by
  by_cases k2 : o.kind = 2
  · have e1 : leftL l o = bothL (withoutL l o.key o.key) [⟨o.key, o.val⟩] := by rw [show leftL l o = putL l ⟨o.key, o.val⟩ by simp [leftL, k2]]; exact (without_one hr ⟨o.key, o.val⟩).symm
    have e2 : turnE most l o = (if most < ((bothL (withoutL l o.key o.key) [⟨o.key, o.val⟩]).length : Int) then 9 else 0) := by rw [← e1]; simp [turnE, k2]
    have e3 : turnE most l o = 0 → turnL most l o = leftL l o ∧ turnN most l o = 0 := fun h => ⟨by unfold turnL; rw [if_pos h], by unfold turnN; rw [if_pos h]; simp [k2]⟩
    rw [k2]
    exact (turned2 most A l c o Ao co w hA hO hl hp hlc hpc _ (Lib.hid e2.symm)).mono (fun r w' => GivesTurned.mono fun h => ⟨by rw [(e3 h).1, e1], (e3 h).2.symm⟩)
  by_cases k3 : o.kind = 3
  · have hup := upk_has hr o.key
    have hle := upk_le l o.key
    have hW := without_ris hr o.key o.key
    have hbu := bel_upk l o.key
    rw [Nat.max_eq_right hbu] at hW
    have hlen : (withoutL l o.key o.key).length = bel l o.key + (l.length - upk l o.key) := by rw [hW]; simp; omega
    by_cases hh : has l o.key = true
    · rw [if_pos hh] at hup
      have e1 : leftL l o = withoutL l o.key o.key := by rw [hW, hup]; simp [leftL, k3]
      have e2 : turnE most l o = 0 := by
        unfold turnE
        rw [if_neg (by simp [hh]), if_neg (by simp [k3]), if_neg (by simp [k3]), e1, hlen, if_neg (by omega)]
      have e3 : turnL most l o = withoutL l o.key o.key ∧ turnN most l o = 0 := ⟨by unfold turnL; rw [if_pos e2, e1], by unfold turnN; rw [if_pos e2]; simp [k3]⟩
      rw [e3.1, e3.2, e2, k3]
      exact turned3b most A l c o Ao co w hA hO hl hp hlc hpc (by omega)
    · rw [if_neg hh] at hup
      have hf : has l o.key = false := by simpa using hh
      have e2 : turnE most l o = 6 := by unfold turnE; rw [if_pos ⟨k3, hf⟩]
      have e3 : turnL most l o = [] ∧ turnN most l o = 0 := ⟨by unfold turnL; rw [e2]; rfl, by unfold turnN; rw [e2]; rfl⟩
      rw [e3.1, e3.2, e2, k3]
      exact turned3a most A l c o Ao co w hA hO hl hp hlc hpc (by omega)
  by_cases k11 : o.kind = 11
  · have hle := upk_le l o.to
    have hbl := bel_le l o.key
    have hW := without_ris hr o.key o.to
    have hlen : (withoutL l o.key o.to).length = bel l o.key + (l.length - max (bel l o.key) (upk l o.to)) := by rw [hW]; simp; omega
    have e1 : leftL l o = withoutL l o.key o.to := by rw [hW]; simp [leftL, k11]
    have e2 : turnE most l o = 0 := by
      unfold turnE
      rw [if_neg (by simp [k11]), if_neg (by simp [k11]), if_neg (by simp [k11]), e1, hlen, if_neg (by omega)]
    have e3 : turnL most l o = withoutL l o.key o.to ∧ turnN most l o = (l.length : Int) - ((withoutL l o.key o.to).length : Int) := ⟨by unfold turnL; rw [if_pos e2, e1], by unfold turnN; rw [if_pos e2, if_pos k11, hlen]; omega⟩
    rw [e3.1, e3.2, e2, k11]
    exact turned11 most A l c o Ao co w hA hO hl hp hlc hpc
  by_cases k12 : o.kind = 12
  · by_cases hR : Ris o.pairs
    · have e1 : leftL l o = o.pairs := by simp [leftL, k12]
      have e2 : turnE most l o = (if most < (o.pairs.length : Int) then 9 else 0) := by rw [← e1]; simp [turnE, k12, hR]
      have e3 : turnE most l o = 0 → turnL most l o = leftL l o ∧ turnN most l o = 0 := fun h => ⟨by unfold turnL; rw [if_pos h], by unfold turnN; rw [if_pos h]; simp [k12]⟩
      rw [k12]
      exact (turned12b most A l c o Ao co w hA hO hl hp hlc hpc (decide_eq_true hR) _ (Lib.hid e2.symm)).mono (fun r w' => GivesTurned.mono fun h => ⟨by rw [(e3 h).1, e1], (e3 h).2.symm⟩)
    · have e2 : turnE most l o = 130 := by unfold turnE; rw [if_neg (by simp [k12]), if_pos ⟨.inl k12, hR⟩]
      have e3 : turnL most l o = [] ∧ turnN most l o = 0 := ⟨by unfold turnL; rw [e2]; rfl, by unfold turnN; rw [e2]; rfl⟩
      rw [e3.1, e3.2, e2, k12]
      exact turned12a most A l c o Ao co w hA hO hl hp hlc hpc (decide_eq_false hR)
  by_cases k13 : o.kind = 13
  · by_cases hR : Ris o.pairs
    · have e1 : leftL l o = bothL l o.pairs := by rw [both_puts _ hr hR]; simp [leftL, k13]
      have e2 : turnE most l o = (if most < ((bothL l o.pairs).length : Int) then 9 else 0) := by rw [← e1]; simp [turnE, k13, hR]
      have e3 : turnE most l o = 0 → turnL most l o = leftL l o ∧ turnN most l o = ((leftL l o).length : Int) := fun h => ⟨by unfold turnL; rw [if_pos h], by unfold turnN; rw [if_pos h]; simp [k13]⟩
      rw [k13]
      exact (turned13b most A l c o Ao co w hA hO hl hp hlc hpc (decide_eq_true hR) _ (Lib.hid e2.symm)).mono (fun r w' => GivesTurned.mono fun h => ⟨by rw [(e3 h).1, e1], by rw [(e3 h).2, e1]⟩)
    · have e2 : turnE most l o = 130 := by unfold turnE; rw [if_neg (by simp [k13]), if_pos ⟨.inr k13, hR⟩]
      have e3 : turnL most l o = [] ∧ turnN most l o = 0 := ⟨by unfold turnL; rw [e2]; rfl, by unfold turnN; rw [e2]; rfl⟩
      rw [e3.1, e3.2, e2, k13]
      exact turned13a most A l c o Ao co w hA hO hl hp hlc hpc (decide_eq_false hR)
  have e2 : turnE most l o = 291 := by simp [turnE, *]
  have e3 : turnL most l o = [] ∧ turnN most l o = 0 := ⟨by unfold turnL; rw [e2]; rfl, by unfold turnN; rw [e2]; rfl⟩
  rw [e3.1, e3.2, e2]
  exact turned0 most A l c o Ao co w hA hO hl hp hlc hpc (by simpa using k2) (by simpa using k3) (by simpa using k11) (by simpa using k12) (by simpa using k13)

end Go.Proofs.Ytibgpghlnfcilaa