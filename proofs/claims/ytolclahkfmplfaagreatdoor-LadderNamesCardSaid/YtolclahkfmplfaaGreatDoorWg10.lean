/- Rq Ku Gt: texts of the claim, in this order. -/
import Derived.Test.YtolclahkfmplfaaGreatDoorWg9
import Derived.OrdersIn
import Derived.Test.YtolclahkfmplfaaGreatDoorWg7
import Derived.Test.YtolclahkfmplfaaGreatDoorWg8
import Derived.IntWalk
/- Contract: run.Pairs. -/
namespace Go.Proofs.YtolclahkfmplfaaGreatDoor
open Go Go.RowKit Go.Shelf
set_option maxRecDepth 100000
attribute [local go_sem] Oper.semAt_some

theorem invIn_any {F : Fence} {n : Nat} {P : Program} {ops : Array Oper} {Q : Exit → Act → World → Prop} {md : Region.Mode} (I : (Nat → Bool) → Act → World → Prop)
    (hwf : ∀ (i : Nat) (o : Oper), ops[i]? = some o → ∀ e ∈ o.after, Region.binds md e = true → e.on < i)
    (hstep : ∀ (L : Nat → Bool) (a : Act) (w : World) (i : Nat) (o : Oper), ops[i]? = some o → L i = false → (∀ e ∈ o.after, Region.binds md e = true → L e.on = true) → I L a w → wpOpIn F n P ops Q i (fun a' w' => I (fun j => if j = i then true else L j) a' w') a w)
    (hend : ∀ L a w, (∀ i, i < ops.size → L i = true) → I L a w → Q .normal a w) :
    ∀ (fuel : Nat) (listed : Array Bool) a w, listed.size = ops.size → listed.toList.countP (· = false) ≤ fuel → I (fun j => listed.getD j false) a w → wpAnyIn F n P md ops Q fuel listed a w := by
  have hfull : ∀ (listed : Array Bool), listed.size = ops.size → Region.ready md ops listed = [] → ∀ i, i < ops.size → listed.getD i false = true := by
    intro listed hsz hr i
    induction i using Nat.strongRecOn with
    | _ i ih =>
      intro hi
      have hmem : i ∉ Region.ready md ops listed := by rw [hr]; simp
      have ho : ops[i]? = some ops[i] := Array.getElem?_eq_getElem hi
      rw [mem_ready] at hmem
      have hall : ∀ e ∈ (ops[i]).after, Region.binds md e = true → listed.getD e.on false = true := fun e he hb => ih e.on (hwf i _ ho e he hb) (by have := hwf i _ ho e he hb; omega)
      have h2 : ¬ listed.getD i true = false := fun h => hmem ⟨h, _, ho, hall⟩
      have hl : i < listed.size := by omega
      simp [Array.getD, hl] at h2 ⊢
      exact h2
  intro fuel
  induction fuel with
  | zero =>
    intro listed a w hsz hc hI
    have hall : ∀ i, i < ops.size → listed.getD i false = true := by
      intro i hi
      have hl : i < listed.size := by omega
      have hz : listed.toList.countP (· = false) = 0 := by omega
      rw [List.countP_eq_zero] at hz
      have := hz (listed[i]) (by simp)
      simp [Array.getD, hl]
      simpa using this
    refine ⟨?_, hend _ a w hall hI⟩
    cases hr : Region.ready md ops listed with
    | nil => rfl
    | cons x xs =>
      have hx : x ∈ Region.ready md ops listed := by rw [hr]; simp
      rw [mem_ready] at hx
      obtain ⟨h1, o, ho, _⟩ := hx
      have hxs : x < ops.size := (Array.getElem?_eq_some_iff.1 ho).1
      have h2 := hall x hxs
      have hl : x < listed.size := by omega
      simp [Array.getD, hl] at h1 h2
      rw [h1] at h2
      cases h2
  | succ fuel ih =>
    intro listed a w hsz hc hI
    refine ⟨fun hr => hend _ a w (hfull listed hsz hr) hI, fun i hi => ?_⟩
    rw [mem_ready] at hi
    obtain ⟨h1, o, ho, hall⟩ := hi
    have his : i < listed.size := by have := (Array.getElem?_eq_some_iff.1 ho).1; omega
    have hLi : listed.getD i false = false := by simpa [Array.getD, his] using h1
    refine wpOpIn_mono (fun a' w' h => ih (listed.setIfInBounds i true) a' w' (by simpa using hsz) ?_ ?_) (hstep _ a w i o ho hLi hall hI)
    · have hcnt : ∀ (l : List Bool) (i : Nat) (hi : i < l.length), l[i]'hi = false → (l.set i true).countP (· = false) + 1 = l.countP (· = false) := by
        intro l
        induction l with
        | nil => intro i hi; simp at hi
        | cons x l ihl =>
          intro i hi hx
          cases i with
          | zero => simp at hx; subst hx; simp
          | succ i =>
            have := ihl i (by simpa using hi) (by simpa using hx)
            simp only [List.set_cons_succ, List.countP_cons]
            omega
      have hb : listed[i]'his = false := by simpa [Array.getD, his] using hLi
      have := hcnt listed.toList i (by simpa using his) (by simpa using hb)
      rw [Array.toList_setIfInBounds]
      omega
    · have hfun : (fun j => (listed.setIfInBounds i true).getD j false) = (fun j => if j = i then true else listed.getD j false) := by
        funext j
        by_cases hj : j = i
        · subst hj; simp [Array.getD, his]
        · rw [if_neg hj]; exact getD_set_ne false (fun e => hj e.symm)
      rw [hfun]
      exact h

/-- a region that draws its order, in a fence -/
theorem region_invIn {F : Fence} {n : Nat} {P : Program} {id : Nat} {ops : Array Oper} {Q : Exit → Act → World → Prop} {a0 : Act} {w0 : World} (hm : P.follows .mixedOrders = true)
    (hwf : (List.range ops.size).all (fun i => ((ops[i]?).map fun o => o.after.all fun e => !Region.binds .any e || decide (e.on < i)).getD true) = true)
    (I : (Nat → Bool) → Act → World → Prop) (h0 : I (fun _ => false) a0 w0.drew)
    (hstep : ∀ (L : Nat → Bool) (a : Act) (w : World) (i : Nat) (o : Oper), ops[i]? = some o → L i = false → (∀ e ∈ o.after, Region.binds .any e = true → L e.on = true) → I L a w → wpOpIn F n P ops Q i (fun a' w' => I (fun j => if j = i then true else L j) a' w') a w)
    (hend : ∀ L a w, (∀ i, i < ops.size → L i = true) → I L a w → Q .normal a w) : (Code.region id ops true).wpIn F n P Q a0 w0 := by
  refine wpIn_region_any hm ?_
  refine invIn_any I ?_ hstep hend ops.size (Array.replicate ops.size false) a0 _ (by simp) (Nat.le_trans List.countP_le_length (by simp)) ?_
  · intro i o ho e he hb
    rw [List.all_eq_true] at hwf
    have := hwf i (by simpa using (Array.getElem?_eq_some_iff.1 ho).1)
    rw [ho] at this
    simp [Array.all_eq_true] at this
    obtain ⟨k, hk, rfl⟩ := Array.mem_iff_getElem.1 he
    have h := this k hk
    rw [hb] at h
    simpa using h
  · have : (fun j => (Array.replicate ops.size false).getD j false) = fun _ => false := by
      funext j
      by_cases hj : j < ops.size <;> simp [Array.getD, hj]
    rw [this]
    exact h0

theorem stepIn_append_sl {F : Fence} {n : Nat} {P : Program} (w : World) {ops : Array Oper} {o : Oper} {a : Act} {K : Act → World → Prop} {Q : Exit → Act → World → Prop} {E : Prop} (hgd : o.guard = none) (s x : Operand) (t : TypeId)
    (ho : o.op = .call { callee := .builtin .append, args := #[s, x], argTypes := #[t, t] })
    (base : Nat) (e : TypeId) (i : TypeInfo) (z : Value) (size bytes : Nat) (ht : P.underlying t = some (.slice e)) (hi : P.info? e = some i) (hz : i.zero = some z)
    (hsize : i.size = size) (hby : i.bytes = bytes) (hzs : z.cells.size = size) (hsz : 0 < size)
    (v : Value) (k : Nat) (xs : List Value) (hs : a.eval s = v) (hown : w.ownsRow base e size v k xs)
    (A : Option Addr) (m c : Nat) (news : List Value) (hx : a.eval x = .slice A m c) (hr : Sl w A news) (hl : news.length = m * size) (h1 : ∀ u ∈ news, u.oneCell' = true)
    (h63 : k + m ≤ maxLen) (hbytes : (k + m) * bytes ≤ 140737488355328) (hbase : base ≤ w.heap.size)
    (h : ∀ v' w', w'.ownsRow base e size v' (k + m) (xs ++ news) → w.grownBy w' v.ownBlock → K (a.put o.dst v') w') :
    if Region.wanted o (yielded ops a.tmps) = true then Oper.wpIn F n P o a w K Q else E := by
  have hw : Region.wanted o (yielded ops a.tmps) = true := by simp [Region.wanted, hgd]
  rw [if_pos hw]
  obtain ⟨v', w', hrun, h2, h3⟩ := run_append_sl (P := P) w base t o.type e i z size bytes ht hi hz hsize hby hzs hsz v k xs hown A m c news hr hl h1 h63 hbytes hbase
  unfold Oper.wpIn
  refine ⟨?_, ?_⟩
  · simp [Oper.about, ho, resolve, Target.leads, Sem.run_pure]
  · rw [Oper.semAt_plain F _ _ (by rw [ho]; intro c hc'; cases hc')]
    simp [execOp, ho, resolve, invoke, builtin, hs, hx, hrun, Result.andThen]
    exact h v' w' h2 h3
theorem pairs1_any (e : Ent) (w : World) : Calls Tryz.prog 55 #[.agg #[.int .i64 e.key, .int .i64 e.val, .bool e.dead]] w fun r w' => r = .returned (.bool (!e.dead)) ∧ Below w.heap.size w w' := by
  go_enter Tryz.func55, Tryz.ntmps55
  go_wp2
  go_ret
  exact ⟨rfl, (Below.refl _ _).alloc (Nat.le_refl _) _⟩
theorem pairs2_any (e : Ent) (w : World) : Calls Tryz.prog 56 #[.agg #[.int .i64 e.key, .int .i64 e.val, .bool e.dead]] w fun r w' => r = .returned (.agg #[.int .i64 e.key, .int .i64 e.val]) ∧ Below w.heap.size w w' := by
  go_enter Tryz.func56, Tryz.ntmps56
  go_wp2_with fail
  refine bodyPost_ret (v := .agg #[.int .i64 e.key, .int .i64 e.val]) (by simp [results, Tryz.results56, go_sem]) rfl ⟨rfl, ?_⟩
  exact ((Below.refl _ _).alloc (Nat.le_refl _) _).alloc (by simp) _
theorem callsRound {F : Fence} {n : Nat} {P : Program} {f : FuncId} {args : Array Value} {w : World} {R : Ending → World → Prop} (l : Nat) (h : CallsIn F n P f args w R) : CallsIn (F.inRound l) n P f args w R := h
theorem bext' {B : Nat} {a b c : World} (h : Below B a b) (k : Below b.heap.size b c) (hB : B ≤ b.heap.size := by omega) : Below B a c := h.trans (k.mono hB)
theorem inOrder_any (A : Option Addr) (n c : Nat) (x : Nat) (w : World) :
    Calls Tryz.prog 76 #[.agg #[.slice A n c], .int .i64 (x : Nat)] w fun r w' =>
      r = .returned (.func (.func 95) #[] #[.pointer (some ⟨w.heap.size, 0, none⟩), .pointer (some ⟨w.heap.size + 1, 0, none⟩)]) ∧ w' = (w.alloc (.cells #[.slice A n c] 49)).alloc (.cells #[.int .i64 (x : Nat)] 3) := by
  go_enter Tryz.func76, Tryz.ntmps76
  go_wp2
  go_ret
  exact ⟨rfl, rfl⟩
theorem place0_any (n : Nat) (hn : n ≤ 65536) (w : World) : Calls Tryz.prog 60 #[.int .i64 (n : Nat), .int .i64 0] w fun r w' => ∃ e : Int, r = .returned (.tuple #[.int .i64 ((inord n 0).getD 0 0 : Nat), .int .i64 e]) ∧ Below w.heap.size w w' := by
  by_cases h : n = 0
  · subst h
    refine (place_zero w).mono ?_
    rintro r w' ⟨rfl, hb⟩
    exact ⟨2, by simp [inord], hb⟩
  · refine (place_ok n 0 hn (by omega) w).mono ?_
    rintro r w' ⟨rfl, hb⟩
    exact ⟨0, rfl, hb⟩
/-- what stands behind each operation of the region that appends a pair -/
structure R8 (A2 : World) (S o : Nat) (e : Ent) (q : List Pr) (c' : Nat) (A' : Option Addr) (L : Nat → Bool) (t31 t32 t33 t34 t35 t36 : Value) (W : World) : Prop where
  d6 : L 6 = true → L 5 = true
  d5 : L 5 = true → L 0 = true ∧ L 4 = true
  d4 : L 4 = true → L 3 = true
  d3 : L 3 = true → L 1 = true ∧ L 2 = true
  h0 : L 0 = true → t31 = .slice A' q.length c'
  h1 : L 1 = true → t32 = .func (.func 56) #[] #[]
  h2 : L 2 = true → t33 = .agg #[.int .i64 e.key, .int .i64 e.val, .bool false]
  h3 : L 3 = true → t34 = .agg #[.int .i64 e.key, .int .i64 e.val]
  h4 : L 5 = false → L 4 = true → ∃ gs, t35 = .slice (some ⟨gs, 0, none⟩) 1 1 ∧ Sl W (some ⟨gs, 0, none⟩) [.int .i64 e.key, .int .i64 e.val]
  hb : L 5 = false → Below A2.heap.size A2 W
  h5 : L 6 = false → L 5 = true → ∃ A3 c3, t36 = .slice A3 (q.length + 1) c3 ∧ W.ownsRow S 40 2 (.slice A3 (q.length + 1) c3) (q.length + 1) ((q ++ [(⟨e.key, e.val⟩ : Pr)]).flatMap Pr.cells) ∧ Mod (fun b => S ≤ b) A2 W
  h7 : L 6 = true → ∃ A3 c3, W.ownsRow S 40 2 (.slice A3 (q.length + 1) c3) (q.length + 1) ((q ++ [(⟨e.key, e.val⟩ : Pr)]).flatMap Pr.cells) ∧ Blk W o 41 #[.slice A3 (q.length + 1) c3] ∧ Mod (fun b => b = o ∨ S ≤ b) A2 W
theorem ffalse {b : Bool} (h : ¬ b = true) : b = false := by simpa using h
set_option maxHeartbeats 4000000 in
theorem all_ok (A : Option Addr) (l : List Ent) (c : Nat) (w : World) (hA : Sl w A (l.flatMap Ent.cells)) (hC : chkE l = 0) :
    Calls Tryz.prog 54 #[.agg #[.slice A l.length c], .func (.func 55) #[] #[], .func (.func 56) #[] #[]] w fun r w' =>
      ∃ A' c', r = .returned (.tuple #[.slice A' (plainE (inL l)).length c', .int .i64 0]) ∧ w'.ownsRow w.heap.size 40 2 (.slice A' (plainE (inL l)).length c') (plainE (inL l)).length ((plainE (inL l)).flatMap Pr.cells) ∧ Below w.heap.size w w' := by
  have hl := (chk_ok hC).2.2
  have HC := Lib.hid hC
  have HA := Lib.hid hA
  clear hC hA
  refine calls_of_in (_F := Fence.wide) ?_
  have hdd : ∀ k : Nat, (Fence.wide.depth.isSome = true → 1 ≤ k) := fun k h => by cases h
  have hwf : ∀ f, Fence.wide.fn f := fun _ => trivial
  have hdp : Fence.wide.depth = none := rfl
  have hro : Fence.wide.round = none := rfl
  obtain ⟨W0, hW0⟩ : ∃ W0, (((w.alloc (.cells #[.slice A l.length c] 49)).alloc (.cells #[.func (.func 55) #[] #[]] 96)).alloc (.cells #[.func (.func 56) #[] #[]] 97)).alloc (.cells #[.slice none 0 0] 41) = W0 := ⟨_, rfl⟩
  have hb0 : Below w.heap.size w W0 := by
    rw [← hW0]; exact ((((Below.refl _ w).alloc (Nat.le_refl _) _).alloc (by simp) _).alloc (by simp; omega) _).alloc (by simp; omega) _
  have hs0 : W0.heap.size = w.heap.size + 4 := by rw [← hW0]; simp
  have k3 : Blk W0 w.heap.size 49 #[.slice A l.length c] := by rw [← hW0]; exact (((Blk.new w _ _).alloc _).alloc _).alloc _
  have k4 : Blk W0 (w.heap.size + 1) 96 #[.func (.func 55) #[] #[]] := by
    rw [← hW0]
    have := Blk.new (w.alloc (.cells #[.slice A l.length c] 49)) 96 #[.func (.func 55) #[] #[]]
    rw [World.size_alloc] at this
    exact (this.alloc _).alloc _
  have k5 : Blk W0 (w.heap.size + 1 + 1) 97 #[.func (.func 56) #[] #[]] := by
    rw [← hW0]
    have := Blk.new ((w.alloc (.cells #[.slice A l.length c] 49)).alloc (.cells #[.func (.func 55) #[] #[]] 96)) 97 #[.func (.func 56) #[] #[]]
    rw [World.size_alloc, World.size_alloc] at this
    exact this.alloc _
  have k6 : Blk W0 (w.heap.size + 1 + 1 + 1) 41 #[.slice none 0 0] := by
    rw [← hW0]
    have := Blk.new (((w.alloc (.cells #[.slice A l.length c] 49)).alloc (.cells #[.func (.func 55) #[] #[]] 96)).alloc (.cells #[.func (.func 56) #[] #[]] 97)) 41 #[.slice none 0 0]
    rwa [World.size_alloc, World.size_alloc, World.size_alloc] at this
  have c3 : W0.cell? ⟨w.heap.size, 0, none⟩ = some (.slice A l.length c) := k3.cell 0
  have K := Lib.hid (And.intro k3 (And.intro k4 (And.intro k5 k6)))
  clear k3 k4 k5 k6
  refine callsIn_of_wp_marks Tryz.func54 rfl (hwf _) ?_ hro
  simp only [Tryz.ntmps54, List.size_toArray, List.length_cons, List.length_nil, Nat.reduceAdd, Nat.reduceSub, Array.replicate_succ, Array.replicate_zero, List.push_toArray, List.append_toArray, List.nil_append, List.cons_append]
  gi_wp2_with fail
  try rw [hW0]
  clear hW0
  (try first | refine ⟨hdp, ?_⟩ | refine ⟨hdd _, ?_⟩)
  refine (callsIn_wide.2 (check_any A l c _ (HA.out.below hb0) (by omega))).mono ?_
  rw [HC.out]
  rintro e w1 ⟨rfl, hb1⟩
  have hb01 := bext hb0 hb1
  have k3 := K.out.1.below hb1 K.out.1.lt
  clear c3
  have c3 : w1.cell? ⟨w.heap.size, 0, none⟩ = some (.slice A l.length c) := k3.cell 0
  have hs1 : w.heap.size + 4 ≤ w1.heap.size := by have := hb1.size; omega
  gi_wp2_with fail
  (try first | refine ⟨hdp, ?_⟩ | refine ⟨hdd _, ?_⟩)
  obtain ⟨p0, hp0⟩ : ∃ p0, (inord l.length 0).getD 0 0 = p0 := ⟨_, rfl⟩
  refine (callsIn_wide.2 (place0_any l.length hl _)).mono ?_
  rw [hp0]
  have HP0 := Lib.hid hp0
  clear hp0
  rintro e w2 ⟨e0, rfl, hb2⟩
  have hb02 := bext hb01 hb2
  have k3' := k3.below hb2 k3.lt
  clear c3
  have c3 : w2.cell? ⟨w.heap.size, 0, none⟩ = some (.slice A l.length c) := k3'.cell 0
  have hs2 : w.heap.size + 4 ≤ w2.heap.size := by have := hb2.size; omega
  gi_wp2_with fail
  (try first | refine ⟨hdp, ?_⟩ | refine ⟨hdd _, ?_⟩)
  refine (callsIn_wide.2 (inOrder_any A l.length c _ _)).mono ?_
  rintro e w3 ⟨rfl, rfl⟩
  gi_wp2_with fail
  obtain ⟨W3, hW3⟩ : ∃ W3, (w2.alloc (.cells #[.slice A l.length c] 49)).alloc (.cells #[.int .i64 (p0 : Nat)] 3) = W3 := ⟨_, rfl⟩
  have hb3 : Below w2.heap.size w2 W3 := by rw [← hW3]; exact ((Below.refl _ _).alloc (Nat.le_refl _) _).alloc (by simp) _
  have m1 : Blk W3 w2.heap.size 49 #[.slice A l.length c] := by rw [← hW3]; exact (Blk.new _ _ _).alloc _
  have m2 : Blk W3 (w2.heap.size + 1) 3 #[.int .i64 (p0 : Nat)] := by
    rw [← hW3]
    have := Blk.new (w2.alloc (.cells #[.slice A l.length c] 49)) 3 #[.int .i64 (p0 : Nat)]
    rwa [World.size_alloc] at this
  have hs3 : W3.heap.size = w2.heap.size + 2 := by rw [← hW3]; simp
  rw [hW3]
  clear hW3
  have hb03 := bext hb02 hb3
  have hA3 := HA.out.below hb03
  have hA3lt : l.length ≠ 0 → ∀ a, A = some a → a.block < w.heap.size := by
    intro h0l a ha
    obtain ⟨b, off, h1, h2, _⟩ := HA.out.ent 0 (by omega)
    rw [h1] at ha; cases ha; show b < _; omega
  have h1w := hb1.size
  have n4 := K.out.2.1.below (bext hb1 (bext hb2 hb3)) K.out.2.1.lt
  have n5 := K.out.2.2.1.below (bext hb1 (bext hb2 hb3)) K.out.2.2.1.lt
  have n6 := K.out.2.2.2.below (bext hb1 (bext hb2 hb3)) K.out.2.2.2.lt
  rw [← HP0.out] at m2
  obtain ⟨g, hg⟩ : ∃ g, w.heap.size = g := ⟨_, rfl⟩
  obtain ⟨B1, hB1⟩ : ∃ B1, w2.heap.size = B1 := ⟨_, rfl⟩
  rw [hB1] at m1 m2 hs3 hs2 ⊢
  rw [hg] at n4 n5 n6 hb03 hs2 hA3lt ⊢
  have HF := Lib.hid (And.intro hb03 hg)
  clear hb0 hb01 hb02 hb1 hb2 hb3 k3 k3' c3 hs1 hs0 hB1 h1w
  refine wpIn_range hdp hwf hro rfl (enters_of Tryz.func95 (by kernel_rfl) rfl)
    (inOrder1_in B1 (B1 + 1) A l c hl W3 (m1.cell 0) m2 (by omega) hA3 (fun h a ha => by have := hA3lt h a ha; omega))
    (by rintro b (rfl | rfl | ⟨h, a, ha, rfl⟩) <;> first | omega | (have := hA3lt h a ha; omega)) (by rintro b rfl; omega) (fun _ => rfl)
    (fun k W => ∃ A' c', Hid (Blk W (g + 1) 96 #[.func (.func 55) #[] #[]] ∧ Blk W (g + 1 + 1) 97 #[.func (.func 56) #[] #[]] ∧
      Blk W (g + 1 + 1 + 1) 41 #[.slice A' (plainE ((inL l).take k)).length c'] ∧ W.ownsRow (W3.heap.size + 2) 40 2 (.slice A' (plainE ((inL l).take k)).length c') (plainE ((inL l).take k)).length ((plainE ((inL l).take k)).flatMap Pr.cells) ∧ Below g w W))
    (fun _ _ => False) ?stab (fun _ _ _ h _ => h) ?start
    (fun k a' W => ∃ gy, a' = ⟨#[.agg #[.slice A l.length c], .func (.func 55) #[] #[], .func (.func 56) #[] #[], .pointer (some ⟨g, 0, none⟩), .pointer (some ⟨g + 1, 0, none⟩), .pointer (some ⟨g + 1 + 1, 0, none⟩), .pointer (some ⟨g + 1 + 1 + 1, 0, none⟩), .int .i64 0, .int .i64 0, .int .i64 (p0 : Nat), .int .i64 e0, .pointer (some ⟨gy, 0, none⟩), .agg #[.slice A l.length c], .int .i64 0, .int .i64 0, .bool false, undef, .tuple #[.int .i64 (p0 : Nat), .int .i64 e0], .pointer (some ⟨g, 0, none⟩), .slice A l.length c, .int .i64 (l.length : Nat), .tuple #[.int .i64 (p0 : Nat), .int .i64 e0], .int .i64 (p0 : Nat), .int .i64 e0, .agg #[.slice A l.length c], .int .i64 (p0 : Nat), .func (.func 95) #[] #[.pointer (some ⟨B1, 0, none⟩), .pointer (some ⟨B1 + 1, 0, none⟩)], (entX l k).getD 0 undef, undef, undef, undef, undef, undef, undef, undef, undef, undef, undef], []⟩ ∧ Hid (Blk W gy 46 #[.int .i64 (inAt l k).key, .int .i64 (inAt l k).val, .bool (inAt l k).dead] ∧ W3.heap.size + 2 ≤ gy))
    ?stabx ?assign ?body ?done (fun _ _ h _ => h.elim)
  case start => exact ⟨none, 0, n4, n5, n6, World.ownsRow_nil _ _ _ _, hb03⟩
  case stab =>
    rintro k A1 B ⟨A', c', h⟩ hm
    obtain ⟨h4, h5, h6, ho, hb⟩ := h.out
    have h6l := h6.lt
    refine ⟨A', c', h4.mod hm (by omega), h5.mod hm (by omega), h6.mod hm (by omega), own_mod ho hm (by intro k hk; omega), hb.trans (hm.below (by omega) (by intro k hk; omega))⟩
  case stabx =>
    rintro k a' A1 B ⟨gy, rfl, h⟩ hm
    obtain ⟨hy, hgy⟩ := h.out
    exact ⟨gy, rfl, hy.mod hm (by omega), hgy⟩
  case assign =>
    intro y k hk A1 C hi hsz hC
    simp only [entX] at hC ⊢
    gi_wp2
    refine hC _ _ ((Mod.refl _ _).alloc _) ?_ ⟨A1.heap.size, rfl, Blk.new _ _ _, hsz⟩
    obtain ⟨A', c', h⟩ := hi
    obtain ⟨h4, h5, h6, ho, hb⟩ := h.out
    exact ⟨A', c', h4.alloc _, h5.alloc _, h6.alloc _, ho.alloc _, hb.alloc (by omega) _⟩
  case body =>
    rintro y k hk a' A1 hi ⟨gy, rfl, hy⟩ hsz
    obtain ⟨A', c', h⟩ := hi
    obtain ⟨h4, h5, h6, ho, hb⟩ := h.out
    obtain ⟨hyb, hgy⟩ := hy.out
    have hkl : k < (inL l).length := by rw [inL_length]; exact hk
    have hpl : plainE ((inL l).take (k + 1)) = plainE ((inL l).take k) ++ (if (inAt l k).dead = true then [] else [⟨(inAt l k).key, (inAt l k).val⟩]) := by
      have hg1 : (inL l)[k]'hkl = inAt l k := by unfold inAt; rw [List.getD_eq_getElem?_getD, List.getElem?_eq_getElem hkl]; rfl
      unfold plainE
      rw [live_succ hkl, hg1]
      split <;> simp
    have hql : (plainE ((inL l).take k)).length ≤ k := by unfold plainE; rw [List.length_map]; have := live_le ((inL l).take k); simp at this; omega
    obtain ⟨e, he⟩ : ∃ e, inAt l k = e := ⟨_, rfl⟩
    obtain ⟨q, hq⟩ : ∃ q, plainE ((inL l).take k) = q := ⟨_, rfl⟩
    rw [he] at hyb hpl
    rw [hq] at h6 ho hpl hql
    have HPL := Lib.hid hpl
    have HE := Lib.hid he
    simp only [entX]
    rw [show (#[Value.agg #[.int .i64 (inAt l k).key, .int .i64 (inAt l k).val, .bool (inAt l k).dead]] : Array Value).getD 0 undef = .agg #[.int .i64 (inAt l k).key, .int .i64 (inAt l k).val, .bool (inAt l k).dead] from rfl, HE.out]
    clear he hq hpl h hy
    have c4 : A1.cell? ⟨g + 1, 0, none⟩ = some (.func (.func 55) #[] #[]) := h4.cell 0
    have y0 : A1.cell? ⟨gy, 0, none⟩ = some (.int .i64 e.key) := hyb.cell 0
    have y1 : A1.cell? ⟨gy, 1, none⟩ = some (.int .i64 e.val) := hyb.cell 1
    have y2 : A1.cell? ⟨gy, 2, none⟩ = some (.bool e.dead) := hyb.cell 2
    have HIV := Lib.hid (And.intro h4 (And.intro h5 (And.intro h6 (And.intro ho hb))))
    have HYB := Lib.hid hyb
    clear h4 h5 h6 ho hb hyb
    gi_wp2_with fail
    (try first | refine ⟨hdp, ?_⟩ | refine ⟨hdd _, ?_⟩)
    refine (callsRound y (callsIn_wide.2 (pairs1_any e _))).mono ?_
    rintro ee A2 ⟨rfl, hbA⟩
    have h4 := HIV.out.1.below hbA HIV.out.1.lt
    have h5 := HIV.out.2.1.below hbA HIV.out.2.1.lt
    have h6 := HIV.out.2.2.1.below hbA HIV.out.2.2.1.lt
    have ho := own_below HIV.out.2.2.2.1 hbA
    have hb := bext' HIV.out.2.2.2.2 hbA
    have hyb := HYB.out.below hbA HYB.out.lt
    have hmd : ∀ S : Nat → Prop, Mod S A1 A2 := fun S => Mod.of_ext hbA
    clear c4 y0 y1 y2
    cases hd : e.dead with
    | true =>
      have HQ : Hid (plainE ((inL l).take (k + 1)) = q) := by show _ = _; rw [HPL.out, hd]; simp
      have HI2 := Lib.hid (And.intro h4 (And.intro h5 (And.intro h6 (And.intro ho hb))))
      have HMD := Lib.hid (hmd (fun b => b ≠ W3.heap.size ∧ b ≠ W3.heap.size + 1 ∧ ¬ (b = B1 ∨ b = B1 + 1 ∨ (l.length ≠ 0 ∧ ∃ a, A = some a ∧ b = a.block))))
      clear h4 h5 h6 ho hb hyb hmd
      gi_wp2
      exact ⟨HMD.out, A', c', by rw [HQ.out]; exact HI2.out⟩
    | false =>
      have HP2 : Hid (∀ W, Calls Tryz.prog 56 #[.agg #[.int .i64 e.key, .int .i64 e.val, .bool false]] W fun r w' => r = .returned (.agg #[.int .i64 e.key, .int .i64 e.val]) ∧ Below W.heap.size W w') := by
        show ∀ _, _
        intro W
        have h := pairs2_any e W
        rw [hd] at h
        exact h
      have HQ : Hid (plainE ((inL l).take (k + 1)) = q ++ [(⟨e.key, e.val⟩ : Pr)]) := by show _ = _; rw [HPL.out, hd]; simp
      gi_wp2_with fail
      have H6 := Lib.hid h6
      have H5 := Lib.hid h5
      have HYB := Lib.hid hyb
      have HO := Lib.hid ho
      have hsz2 : W3.heap.size + 2 ≤ A2.heap.size := Nat.le_trans hsz hbA.size
      have H4 := Lib.hid h4
      have HBG := Lib.hid hb
      have HBA := Lib.hid hbA
      obtain ⟨ti0, hti⟩ := info_parts pr_info
      have HI := Lib.hid hti
      clear h4 h5 h6 ho hb hyb hmd hti hbA
      refine region_invIn (by kernel_rfl) (by kernel_rfl) (fun L a W => ∃ t31 t32 t33 t34 t35 t36 : Value, a = ⟨#[.agg #[.slice A l.length c], .func (.func 55) #[] #[], .func (.func 56) #[] #[], .pointer (some ⟨g, 0, none⟩), .pointer (some ⟨g + 1, 0, none⟩), .pointer (some ⟨g + 1 + 1, 0, none⟩), .pointer (some ⟨g + 1 + 1 + 1, 0, none⟩), .int .i64 0, .int .i64 0, .int .i64 (p0 : Nat), .int .i64 e0, .pointer (some ⟨gy, 0, none⟩), .agg #[.slice A l.length c], .int .i64 0, .int .i64 0, .bool false, undef, .tuple #[.int .i64 (p0 : Nat), .int .i64 e0], .pointer (some ⟨g, 0, none⟩), .slice A l.length c, .int .i64 (l.length : Nat), .tuple #[.int .i64 (p0 : Nat), .int .i64 e0], .int .i64 (p0 : Nat), .int .i64 e0, .agg #[.slice A l.length c], .int .i64 (p0 : Nat), .func (.func 95) #[] #[.pointer (some ⟨B1, 0, none⟩), .pointer (some ⟨B1 + 1, 0, none⟩)], .agg #[.int .i64 e.key, .int .i64 e.val, .bool false], .func (.func 55) #[] #[], .agg #[.int .i64 e.key, .int .i64 e.val, .bool false], .bool true, t31, t32, t33, t34, t35, t36, undef], []⟩ ∧ R8 A2 (W3.heap.size + 2) (g + 1 + 1 + 1) e q c' A' L t31 t32 t33 t34 t35 t36 W) ?h0 ?hstep ?hend
      case h0 =>
        have no : ∀ {X : Prop}, (fun _ : Nat => false) 0 = true → X := fun h => absurd h Bool.false_ne_true
        exact ⟨undef, undef, undef, undef, undef, undef, rfl, no, no, no, no, no, no, no, no, fun _ h => no h, fun _ => (Below.refl _ _).drew, fun _ h => no h, no⟩
      case hend =>
        rintro L a W hall ⟨t31, t32, t33, t34, t35, t36, rfl, hR⟩
        obtain ⟨A3, c3, ho3, hb3, hm3⟩ := hR.h7 (hall 6 (by decide))
        have hm1 : Mod (fun b => b = g + 1 + 1 + 1 ∨ W3.heap.size + 2 ≤ b) A1 W := (Mod.of_ext HBA.out).trans hm3
        have n4 := H4.out.mod hm3 (by omega)
        have n5 := H5.out.mod hm3 (by omega)
        have nb : Below g w W := HBG.out.trans (hm3.below (by omega) (by intro k hk; omega))
        have hfin : rPost W3.heap.size (fun b => b = B1 ∨ b = B1 + 1 ∨ (l.length ≠ 0 ∧ ∃ a, A = some a ∧ b = a.block)) (fun W => ∃ A' c', Hid (Blk W (g + 1) 96 #[.func (.func 55) #[] #[]] ∧ Blk W (g + 1 + 1) 97 #[.func (.func 56) #[] #[]] ∧
            Blk W (g + 1 + 1 + 1) 41 #[.slice A' (plainE ((inL l).take (k + 1))).length c'] ∧ W.ownsRow (W3.heap.size + 2) 40 2 (.slice A' (plainE ((inL l).take (k + 1))).length c') (plainE ((inL l).take (k + 1))).length ((plainE ((inL l).take (k + 1))).flatMap Pr.cells) ∧ Below g w W)) (fun _ _ => False) A1 .normal ⟨#[.agg #[.slice A l.length c], .func (.func 55) #[] #[], .func (.func 56) #[] #[], .pointer (some ⟨g, 0, none⟩), .pointer (some ⟨g + 1, 0, none⟩), .pointer (some ⟨g + 1 + 1, 0, none⟩), .pointer (some ⟨g + 1 + 1 + 1, 0, none⟩), .int .i64 0, .int .i64 0, .int .i64 (p0 : Nat), .int .i64 e0, .pointer (some ⟨gy, 0, none⟩), .agg #[.slice A l.length c], .int .i64 0, .int .i64 0, .bool false, undef, .tuple #[.int .i64 (p0 : Nat), .int .i64 e0], .pointer (some ⟨g, 0, none⟩), .slice A l.length c, .int .i64 (l.length : Nat), .tuple #[.int .i64 (p0 : Nat), .int .i64 e0], .int .i64 (p0 : Nat), .int .i64 e0, .agg #[.slice A l.length c], .int .i64 (p0 : Nat), .func (.func 95) #[] #[.pointer (some ⟨B1, 0, none⟩), .pointer (some ⟨B1 + 1, 0, none⟩)], .agg #[.int .i64 e.key, .int .i64 e.val, .bool false], .func (.func 55) #[] #[], .agg #[.int .i64 e.key, .int .i64 e.val, .bool false], .bool true, t31, t32, t33, t34, t35, t36, undef], []⟩ W := by
          refine ⟨hm1.mono (fun b hb1 hb2 => ?_), A3, c3, n4, n5, ?_, ?_, nb⟩
          · rcases hb2 with rfl | hb2
            · refine ⟨by omega, by omega, ?_⟩
              rintro (h | h | ⟨h, a, ha, h2⟩)
              · omega
              · omega
              · have := hA3lt h a ha; omega
            · refine ⟨by omega, by omega, ?_⟩
              rintro (h | h | ⟨h, a, ha, h2⟩)
              · omega
              · omega
              · have := hA3lt h a ha; omega
          · rw [HQ.out, List.length_append]; exact hb3
          · rw [HQ.out, List.length_append]; exact ho3
        exact hfin
      case hstep =>
        rintro L a W i o' ho' hLi hdep ⟨t31, t32, t33, t34, t35, t36, rfl, hR⟩
        have HR := Lib.hid hR
        have HL := Lib.hid hLi
        match i, ho' with
        | 0, ho' =>
          obtain rfl := Option.some.inj ho'
          have l5 : L 5 = false := ffalse (fun h => absurd (hR.d5 h).1 (by rw [HL.out]; exact Bool.false_ne_true))
          have hbW := hR.hb l5
          have k6 := H6.out.below hbW H6.out.lt
          have cc : W.cell? ⟨g + 1 + 1 + 1, 0, none⟩ = some (.slice A' q.length c') := k6.cell 0
          clear k6
          refine wpOpIn_step rfl (fun K1 hK1 => ?_)
          have hK := Lib.hid hK1
          clear hK1 hR hLi hdep
          gi_wp2_with fail
          exact hK.out _ _ ⟨_, _, _, _, _, _, rfl, (fun h => by simpa using HR.out.d6 (by simpa using h)), (fun h => by have h2 := HR.out.d5 (by simpa using h); exact ⟨by first | rfl | (simpa using h2.1), by first | rfl | (simpa using h2.2)⟩), (fun h => by have h2 := HR.out.d4 (by simpa using h); first | rfl | (simpa using h2)), (fun h => by have h2 := HR.out.d3 (by simpa using h); exact ⟨by first | rfl | (simpa using h2.1), by first | rfl | (simpa using h2.2)⟩), (fun _ => rfl), (fun h => HR.out.h1 (by simpa using h)), (fun h => HR.out.h2 (by simpa using h)), (fun h => HR.out.h3 (by simpa using h)), (fun h h' => HR.out.h4 (by simpa using h) (by simpa using h')), (fun h => HR.out.hb (by simpa using h)), (fun h h' => HR.out.h5 (by simpa using h) (by simpa using h')), (fun h => HR.out.h7 (by simpa using h))⟩
        | 1, ho' =>
          obtain rfl := Option.some.inj ho'
          have l5 : L 5 = false := ffalse (fun h => absurd (hR.d3 (hR.d4 (hR.d5 h).2)).1 (by rw [HL.out]; exact Bool.false_ne_true))
          have hbW := hR.hb l5
          have k5 := H5.out.below hbW H5.out.lt
          have cc : W.cell? ⟨g + 1 + 1, 0, none⟩ = some (.func (.func 56) #[] #[]) := k5.cell 0
          clear k5
          refine wpOpIn_step rfl (fun K1 hK1 => ?_)
          have hK := Lib.hid hK1
          clear hK1 hR hLi hdep
          gi_wp2_with fail
          exact hK.out _ _ ⟨_, _, _, _, _, _, rfl, (fun h => by simpa using HR.out.d6 (by simpa using h)), (fun h => by have h2 := HR.out.d5 (by simpa using h); exact ⟨by first | rfl | (simpa using h2.1), by first | rfl | (simpa using h2.2)⟩), (fun h => by have h2 := HR.out.d4 (by simpa using h); first | rfl | (simpa using h2)), (fun h => by have h2 := HR.out.d3 (by simpa using h); exact ⟨by first | rfl | (simpa using h2.1), by first | rfl | (simpa using h2.2)⟩), (fun h => HR.out.h0 (by simpa using h)), (fun _ => rfl), (fun h => HR.out.h2 (by simpa using h)), (fun h => HR.out.h3 (by simpa using h)), (fun h h' => HR.out.h4 (by simpa using h) (by simpa using h')), (fun h => HR.out.hb (by simpa using h)), (fun h h' => HR.out.h5 (by simpa using h) (by simpa using h')), (fun h => HR.out.h7 (by simpa using h))⟩
        | 2, ho' =>
          obtain rfl := Option.some.inj ho'
          have l5 : L 5 = false := ffalse (fun h => absurd (hR.d3 (hR.d4 (hR.d5 h).2)).2 (by rw [HL.out]; exact Bool.false_ne_true))
          have hbW := hR.hb l5
          have ky := HYB.out.below hbW HYB.out.lt
          have cc : W.cell? ⟨gy, 0, none⟩ = some (.int .i64 e.key) := ky.cell 0
          have cc1 : W.cell? ⟨gy, 1, none⟩ = some (.int .i64 e.val) := ky.cell 1
          have cc2 : W.cell? ⟨gy, 2, none⟩ = some (.bool e.dead) := ky.cell 2
          clear ky
          refine wpOpIn_step rfl (fun K1 hK1 => ?_)
          have hK := Lib.hid hK1
          clear hK1 hR hLi hdep
          gi_wp2_with fail
          exact hK.out _ _ ⟨_, _, _, _, _, _, rfl, (fun h => by simpa using HR.out.d6 (by simpa using h)), (fun h => by have h2 := HR.out.d5 (by simpa using h); exact ⟨by first | rfl | (simpa using h2.1), by first | rfl | (simpa using h2.2)⟩), (fun h => by have h2 := HR.out.d4 (by simpa using h); first | rfl | (simpa using h2)), (fun h => by have h2 := HR.out.d3 (by simpa using h); exact ⟨by first | rfl | (simpa using h2.1), by first | rfl | (simpa using h2.2)⟩), (fun h => HR.out.h0 (by simpa using h)), (fun h => HR.out.h1 (by simpa using h)), (fun _ => rfl), (fun h => HR.out.h3 (by simpa using h)), (fun h h' => HR.out.h4 (by simpa using h) (by simpa using h')), (fun h => HR.out.hb (by simpa using h)), (fun h h' => HR.out.h5 (by simpa using h) (by simpa using h')), (fun h => HR.out.h7 (by simpa using h))⟩
        | 3, ho' =>
          obtain rfl := Option.some.inj ho'
          have dep1 : L 1 = true := hdep ⟨1, .data⟩ (by simp) rfl
          have dep2 : L 2 = true := hdep ⟨2, .data⟩ (by simp) rfl
          have l5 : L 5 = false := ffalse (fun h => absurd (hR.d4 (hR.d5 h).2) (by rw [HL.out]; exact Bool.false_ne_true))
          have hbW := hR.hb l5
          obtain rfl := hR.h1 dep1
          obtain rfl := hR.h2 dep2
          refine wpOpIn_step rfl (fun K1 hK1 => ?_)
          have hK := Lib.hid hK1
          clear hK1 hR hLi hdep
          gi_wp2_with fail
          (try first | refine ⟨hdp, ?_⟩ | refine ⟨hdd _, ?_⟩)
          refine (callsRound y (callsIn_wide.2 (HP2.out _))).mono ?_
          rintro ee W5 ⟨rfl, hbc⟩
          gi_wp2_with fail
          exact hK.out _ _ ⟨_, _, _, _, _, _, rfl, (fun h => by simpa using HR.out.d6 (by simpa using h)), (fun h => by have h2 := HR.out.d5 (by simpa using h); exact ⟨by first | rfl | (simpa using h2.1), by first | rfl | (simpa using h2.2)⟩), (fun h => by have h2 := HR.out.d4 (by simpa using h); first | rfl | (simpa using h2)), (fun _ => ⟨by simpa using dep1, by simpa using dep2⟩), (fun h => HR.out.h0 (by simpa using h)), (fun h => HR.out.h1 (by simpa using h)), (fun h => HR.out.h2 (by simpa using h)), (fun _ => rfl), (fun _ h => absurd (HR.out.d4 (by simpa using h)) (by rw [HL.out]; exact Bool.false_ne_true)), (fun _ => bext hbW hbc), (fun _ h => absurd (HR.out.d4 (HR.out.d5 (by simpa using h)).2) (by rw [HL.out]; exact Bool.false_ne_true)), (fun h => absurd (HR.out.d4 (HR.out.d5 (HR.out.d6 (by simpa using h))).2) (by rw [HL.out]; exact Bool.false_ne_true))⟩
        | 4, ho' =>
          obtain rfl := Option.some.inj ho'
          have dep3 : L 3 = true := hdep ⟨3, .data⟩ (by simp) rfl
          have l5 : L 5 = false := ffalse (fun h => absurd (hR.d5 h).2 (by rw [HL.out]; exact Bool.false_ne_true))
          have hbW := hR.hb l5
          obtain rfl := hR.h3 dep3
          refine wpOpIn_step rfl (fun K1 hK1 => ?_)
          have hK := Lib.hid hK1
          clear hK1 hR hLi hdep
          gi_wp2_with fail
          exact hK.out _ _ ⟨_, _, _, _, _, _, rfl, (fun h => by simpa using HR.out.d6 (by simpa using h)), (fun h => by have h2 := HR.out.d5 (by simpa using h); exact ⟨by first | rfl | (simpa using h2.1), by first | rfl | (simpa using h2.2)⟩), (fun _ => by simpa using dep3), (fun h => by have h2 := HR.out.d3 (by simpa using h); exact ⟨by first | rfl | (simpa using h2.1), by first | rfl | (simpa using h2.2)⟩), (fun h => HR.out.h0 (by simpa using h)), (fun h => HR.out.h1 (by simpa using h)), (fun h => HR.out.h2 (by simpa using h)), (fun h => HR.out.h3 (by simpa using h)), (fun _ _ => ⟨_, rfl, sl_new1 _ _ _⟩), (fun _ => hbW.alloc hbW.size _), (fun _ h => absurd (HR.out.d5 (by simpa using h)).2 (by rw [HL.out]; exact Bool.false_ne_true)), (fun h => absurd (HR.out.d5 (HR.out.d6 (by simpa using h))).2 (by rw [HL.out]; exact Bool.false_ne_true))⟩
        | 5, ho' =>
          obtain rfl := Option.some.inj ho'
          have dep0 : L 0 = true := hdep ⟨0, .data⟩ (by simp) rfl
          have dep4 : L 4 = true := hdep ⟨4, .data⟩ (by simp) rfl
          have hbW := hR.hb hLi
          obtain rfl := hR.h0 dep0
          obtain ⟨gs, rfl, hsl⟩ := hR.h4 hLi dep4
          have how := own_below HO.out hbW
          have hsw := hbW.size
          refine wpOpIn_step rfl (fun K1 hK1 => ?_)
          have hK := Lib.hid hK1
          clear hK1 hR hLi hdep
          refine stepIn_append_sl W rfl (.tmp 31) (.tmp 35) _ rfl (W3.heap.size + 2) 40 ti0 _ 2 16 Tryz.underlying41 HI.out.1 HI.out.2.1 HI.out.2.2.1 HI.out.2.2.2 rfl (by omega) (.slice A' q.length c') q.length _ (by rfl) how (some ⟨gs, 0, none⟩) 1 1 [.int .i64 e.key, .int .i64 e.val] (by rfl) hsl rfl (by simp [Value.oneCell']) (by unfold maxLen; omega) (by omega) (by omega) ?_
          intro v' w' hoA hgA
          obtain ⟨A3, c3, rfl, _, _⟩ := own_form hoA
          exact hK.out _ _ ⟨_, _, _, _, _, _, rfl, (fun _ => by simp), (fun _ => ⟨by simpa using dep0, by simpa using dep4⟩), (fun h => by have h2 := HR.out.d4 (by simpa using h); first | rfl | (simpa using h2)), (fun h => by have h2 := HR.out.d3 (by simpa using h); exact ⟨by first | rfl | (simpa using h2.1), by first | rfl | (simpa using h2.2)⟩), (fun h => HR.out.h0 (by simpa using h)), (fun h => HR.out.h1 (by simpa using h)), (fun h => HR.out.h2 (by simpa using h)), (fun h => HR.out.h3 (by simpa using h)), (fun h => absurd h (by simp)), (fun h => absurd h (by simp)), (fun _ _ => ⟨A3, c3, rfl, by rw [List.flatMap_append]; simpa [Pr.cells] using hoA, (Mod.of_ext hbW).grown hgA (fun k hk => .inl (how.lt k hk).1)⟩), (fun h => absurd (HR.out.d6 (by simpa using h)) (by rw [HL.out]; exact Bool.false_ne_true))⟩
        | 6, ho' =>
          obtain rfl := Option.some.inj ho'
          have dep5 : L 5 = true := hdep ⟨5, .data⟩ (by simp) rfl
          obtain ⟨A3, c3, rfl, ho3, hm3⟩ := hR.h5 hLi dep5
          have k6 := H6.out.mod hm3 (by have := H6.out.lt; omega)
          have cc : W.cell? ⟨g + 1 + 1 + 1, 0, none⟩ = some (.slice A' q.length c') := k6.cell 0
          have cf : W.frozen? ⟨g + 1 + 1 + 1, 0, none⟩ = false := k6.frozen 0
          have K6 := Lib.hid k6
          have HO3 := Lib.hid ho3
          have HM3 := Lib.hid hm3
          clear k6 ho3 hm3
          refine wpOpIn_step rfl (fun K1 hK1 => ?_)
          have hK := Lib.hid hK1
          clear hK1 hR hLi hdep
          gi_wp2_with fail
          exact hK.out _ _ ⟨_, _, _, _, _, _, rfl, (fun _ => by simpa using dep5), (fun h => by have h2 := HR.out.d5 (by simpa using h); exact ⟨by first | rfl | (simpa using h2.1), by first | rfl | (simpa using h2.2)⟩), (fun h => by have h2 := HR.out.d4 (by simpa using h); first | rfl | (simpa using h2)), (fun h => by have h2 := HR.out.d3 (by simpa using h); exact ⟨by first | rfl | (simpa using h2.1), by first | rfl | (simpa using h2.2)⟩), (fun h => HR.out.h0 (by simpa using h)), (fun h => HR.out.h1 (by simpa using h)), (fun h => HR.out.h2 (by simpa using h)), (fun h => HR.out.h3 (by simpa using h)), (fun h => absurd dep5 (by simp at h; simp [h])), (fun h => absurd dep5 (by simp at h; simp [h])), (fun h => absurd h (by simp)), (fun _ => ⟨A3, c3, own_far HO3.out (fun e => by have := (HO3.out.lt _ e).1; dsimp only at this; omega) _, by have := K6.out.set_ 0 (.slice A3 (q.length + 1) c3); simpa using this, (HM3.out.mono (fun _ _ h => .inr h)).setCell (p := ⟨g + 1 + 1 + 1, 0, none⟩) (.inl rfl) _⟩)⟩
        | n + 7, ho' => exact absurd ho' (by simp)
  case done =>
    rintro W ⟨A', c', h⟩ hD
    have htk : (inL l).take l.length = inL l := List.take_of_length_le (by rw [inL_length]; exact Nat.le_refl _)
    rw [htk] at h
    obtain ⟨h4, h5, h6, ho, hb⟩ := h.out
    have c6 : W.cell? ⟨g + 1 + 1 + 1, 0, none⟩ = some (.slice A' (plainE (inL l)).length c') := h6.cell 0
    have f6 := h6.frozen 0
    have h6l := h6.lt
    have h6s : Blk (W.setCell ⟨g + 1 + 1 + 1, 0, none⟩ (.slice A' (plainE (inL l)).length c')) (g + 1 + 1 + 1) 41 #[.slice A' (plainE (inL l)).length c'] := by
      have := h6.set_ 0 (.slice A' (plainE (inL l)).length c')
      simpa using this
    have HO := Lib.hid (own_far ho (p := ⟨g + 1 + 1 + 1, 0, none⟩) (fun e => by have := (ho.lt _ e).1; dsimp only at this; omega) (.slice A' (plainE (inL l)).length c'))
    have HBB := Lib.hid (hb.setCell (p := ⟨g + 1 + 1 + 1, 0, none⟩) (by show g ≤ g + 1 + 1 + 1; omega) (.slice A' (plainE (inL l)).length c'))
    have HD2 : Hid ((W.setCell ⟨g + 1 + 1 + 1, 0, none⟩ (.slice A' (plainE (inL l)).length c')).heap[W3.heap.size]? = some (.deferred (some []))) := (Below.heap_setCell W ⟨g + 1 + 1 + 1, 0, none⟩ _ W3.heap.size (by show W3.heap.size ≠ g + 1 + 1 + 1; omega)).trans hD
    obtain ⟨W4, hW4⟩ : ∃ W4, W.setCell ⟨g + 1 + 1 + 1, 0, none⟩ (.slice A' (plainE (inL l)).length c') = W4 := ⟨_, rfl⟩
    rw [hW4] at h6s HO HBB HD2
    have hB6 : Blk (W4.putObj W3.heap.size (.deferred none)) (g + 1 + 1 + 1) 41 #[.slice A' (plainE (inL l)).length c'] := h6s.of (World.putObj_heap_other (by omega))
    have e6 : (W4.putObj W3.heap.size (.deferred none)).cell? ⟨g + 1 + 1 + 1, 0, none⟩ = some (.slice A' (plainE (inL l)).length c') := hB6.cell 0
    have HE6 := Lib.hid e6
    clear e6 hB6 h6s
    gi_wp2_with fail
    try rw [hW4]
    have e6 := HE6.out
    refine postM_gen (v := .tuple #[.slice A' (plainE (inL l)).length c', .int .i64 0]) HD2.out (by simp [results, Tryz.results54, go_sem, e6]) ⟨A', c', rfl, ?_, ?_⟩
    · rw [hg]
      exact own_mono (own_mod (Sx := fun b => b = W3.heap.size) HO.out (Mod.putObj (S := fun b => b = W3.heap.size) (Mod.refl _ _) rfl _) (fun k hk h => by omega)) (by omega)
    · rw [hg]
      exact HBB.out.trans ⟨rfl, rfl, rfl, by simp [World.putObj], fun k hk => World.putObj_heap_other (by omega)⟩
end Go.Proofs.YtolclahkfmplfaaGreatDoor

/- Small facts on runs in new memory (as in Ktw, for seats without KwayTwo). -/
namespace Go.Proofs.YtolclahkfmplfaaGreatDoor
open Go Go.RowKit
set_option maxRecDepth 100000

/-- a run of the call's own, in a box at g -/
structure BoxAt (w : World) (B g : Nat) (l : List Ent) (A : Option Addr) (c : Nat) : Prop where
  cell : w.cell? ⟨g, 0, none⟩ = some (.slice A l.length c)
  own : w.ownsRow B 46 3 (.slice A l.length c) l.length (l.flatMap Ent.cells)
  lc : l.length ≤ c
  cm : c ≤ maxLen
  lt : g < w.heap.size
theorem GivesTwin.form {l : List Ent} {w : World} {r : Ending} {w' : World} (h : GivesTwin l w r w') : ∃ A c B, Hid (B = w.heap.size) ∧ r = .returned (.agg #[.slice A l.length c]) ∧ (w'.ownsRow B 46 3 (.slice A l.length c) l.length (l.flatMap Ent.cells) ∧ l.length ≤ c ∧ c ≤ maxLen) ∧ Below w.heap.size w w' := by
  obtain ⟨A, c, h1, h2, h3⟩ := h
  obtain ⟨A', c', h4, h5, h6⟩ := own_form h2
  obtain ⟨rfl, rfl⟩ : A = A' ∧ c = c' := by simpa using h4
  exact ⟨A, c, _, rfl, h1, ⟨h2, h5, h6⟩, h3⟩
theorem GivesRun.form {t : TypeId} {m : List Ent} {e : Int} {w : World} {r : Ending} {w' : World} (h : GivesRun t m e w r w') : ∃ A c B, Hid (B = w.heap.size) ∧ r = .returned (.tuple #[.agg #[.slice A m.length c], .int .i64 e]) ∧ (w'.ownsRow B t 3 (.slice A m.length c) m.length (m.flatMap Ent.cells) ∧ m.length ≤ c ∧ c ≤ maxLen) ∧ Below w.heap.size w w' := by
  obtain ⟨A, c, h1, h2, h3⟩ := h
  obtain ⟨A', c', h4, h5, h6⟩ := own_form h2
  obtain ⟨rfl, rfl⟩ : A = A' ∧ c = c' := by simpa using h4
  exact ⟨A, c, _, rfl, h1, ⟨h2, h5, h6⟩, h3⟩
theorem drew_hs (w : World) : w.drew.heap.size = w.heap.size := rfl
theorem own_al {w : World} {B s n : Nat} {e : TypeId} {v : Value} {xs : List Value} (h : w.ownsRow B e s v n xs) (o : Obj) : (w.alloc o).ownsRow B e s v n xs := h.alloc o
theorem own_dr {w : World} {B s n : Nat} {e : TypeId} {v : Value} {xs : List Value} (h : w.ownsRow B e s v n xs) : w.drew.ownsRow B e s v n xs := h

end Go.Proofs.YtolclahkfmplfaaGreatDoor

/- Contracts: run.Get and Next, kway.Find, and the references'; copies of runs. -/
namespace Go.Proofs.YtolclahkfmplfaaGreatDoor
open Go Go.RowKit
set_option maxRecDepth 100000

theorem put3 {w : World} {g : Nat} {t : TypeId} {x0 x1 x2 : Value} (h : Blk w g t #[x0, x1, x2]) (y0 y1 y2 : Value) : Blk (((w.setCell ⟨g, 0, none⟩ y0).setCell ⟨g, 1, none⟩ y1).setCell ⟨g, 2, none⟩ y2) g t #[y0, y1, y2] := by
  have := ((h.set_ 0 y0).set_ 1 y1).set_ 2 y2
  simpa using this
theorem below3 {B : Nat} {a w : World} {g : Nat} (h : Below B a w) (hg : B ≤ g) (y0 y1 y2 : Value) : Below B a (((w.setCell ⟨g, 0, none⟩ y0).setCell ⟨g, 1, none⟩ y1).setCell ⟨g, 2, none⟩ y2) :=
  ((h.setCell (p := ⟨g, 0, none⟩) hg _).setCell (p := ⟨g, 1, none⟩) hg _).setCell (p := ⟨g, 2, none⟩) hg _
/-- hands back an entry and an error -/
def GivesX (x : Ent) (e : Int) (w : World) (r : Ending) (w' : World) : Prop := r = .returned (.tuple #[.agg #[.int .i64 x.key, .int .i64 x.val, .bool x.dead], .int .i64 e]) ∧ Below w.heap.size w w'
/-- hands back an entry, if there is one -/
def GivesO (o : Option Ent) (w : World) (r : Ending) (w' : World) : Prop := r = .returned (.tuple #[.agg #[.int .i64 (o.getD zeroE).key, .int .i64 (o.getD zeroE).val, .bool (o.getD zeroE).dead], .bool o.isSome]) ∧ Below w.heap.size w w'

set_option maxHeartbeats 1000000 in
theorem runGet_any (A : Option Addr) (l : List Ent) (c : Nat) (key : Int) (w : World) (hA : Sl w A (l.flatMap Ent.cells)) (hl : l.length ≤ 4611686018427387903) (hT : TabAt 1 Lib.deBruijn64tab w) :
    Calls Tryz.prog 58 #[.agg #[.slice A l.length c], .int .i64 key] w (GivesX (gtX l key) (gtE l key) w) := by
  obtain ⟨W0, hW0⟩ : ∃ W0, (w.alloc (.cells #[.slice A l.length c] 49)).alloc (.cells #[.int .i64 0, .int .i64 0, .bool false] 46) = W0 := ⟨_, rfl⟩
  have hb0 : Below w.heap.size w W0 := by rw [← hW0]; exact ((Below.refl _ _).alloc (Nat.le_refl _) _).alloc (by simp) _
  have bX0 : Blk W0 w.heap.size 49 #[.slice A l.length c] := by rw [← hW0]; exact (Blk.new _ _ _).alloc _
  have bR0 : Blk W0 (w.heap.size + 1) 46 #[.int .i64 0, .int .i64 0, .bool false] := by
    rw [← hW0]
    have := Blk.new (w.alloc (.cells #[.slice A l.length c] 49)) 46 #[.int .i64 0, .int .i64 0, .bool false]
    rwa [World.size_alloc] at this
  have cX0 : W0.cell? ⟨w.heap.size, 0, none⟩ = some (.slice A l.length c) := bX0.cell 0
  have hT0 := Lib.hid (tab_below (tab_lt hT) hT hb0)
  have HA := Lib.hid hA
  obtain ⟨g1, g2, g3⟩ := gt_fd l key
  obtain ⟨E, hE⟩ : ∃ E, gtE l key = E := ⟨_, rfl⟩
  obtain ⟨at_, hat⟩ : ∃ at_, fdAt l key = at_ := ⟨_, rfl⟩
  obtain ⟨p, hp⟩ : ∃ p, gtX l key = p := ⟨_, rfl⟩
  rw [hE, hp]
  rw [hE] at g1
  rw [← g1, hp, hat] at g2
  rw [← g1, hp] at g3
  have HG := Lib.hid (And.intro g1 (And.intro g2 g3))
  have HAT := Lib.hid hat
  clear hE hat hp g1 g2 g3 hA hT
  go_enter Tryz.func58, Tryz.ntmps58
  go_wp2_with fail
  try rw [hW0]
  clear hW0 cX0
  refine (find_any A l c key _ (HA.out.below hb0) hl hT0.out).mono ?_
  unfold GivesII
  rw [← HG.out.1, HAT.out]
  rintro e w1 ⟨rfl, hb1⟩
  have bX1 := bX0.below hb1 bX0.lt
  have bR1 := bR0.below hb1 bR0.lt
  have hb01 := bext hb0 hb1
  have cX1 : w1.cell? ⟨w.heap.size, 0, none⟩ = some (.slice A l.length c) := bX1.cell 0
  have d0 : w1.cell? ⟨w.heap.size + 1, 0, none⟩ = some (.int .i64 0) := bR1.cell 0
  have d1 : w1.cell? ⟨w.heap.size + 1, 1, none⟩ = some (.int .i64 0) := bR1.cell 1
  have d2 : w1.cell? ⟨w.heap.size + 1, 2, none⟩ = some (.bool false) := bR1.cell 2
  have f0 := bR1.frozen 0
  have f1 := bR1.frozen 1
  have f2 := bR1.frozen 2
  by_cases h0 : E = 0
  · subst h0
    obtain ⟨hlt, hpe⟩ := HG.out.2.1 rfl
    rw [entAt_get hlt] at hpe
    obtain ⟨b, off, rfl, hbl, c1, c2, c3⟩ := HA.out.entB hb01 at_ hlt
    rw [← hpe] at c1 c2 c3
    have i0 : (0 : Int) ≤ (at_ : Int) := by omega
    have i1 : (at_ : Int) < (l.length : Int) := by omega
    clear hpe
    go_wp2_with fail
    have bFy := put3 bR1 (.int .i64 p.key) (.int .i64 p.val) (.bool p.dead)
    have e0y := bFy.cell 0
    have e1y := bFy.cell 1
    have e2y := bFy.cell 2
    simp only [List.getElem?_toArray, List.getElem?_cons_zero, List.getElem?_cons_succ] at e0y e1y e2y
    refine bodyPost_ret (v := .tuple #[.agg #[.int .i64 p.key, .int .i64 p.val, .bool p.dead], .int .i64 0]) (by simp [results, Tryz.results58, go_sem, e0y, e1y, e2y]) rfl ?_
    exact ⟨rfl, below3 hb01 (Nat.le_succ _) _ _ _⟩
  · have hz := HG.out.2.2 h0
    subst hz
    have h1 : (E != 0) = true := by simpa using h0
    clear h0
    go_wp2_with fail
    have bFz := put3 bR1 (.int .i64 0) (.int .i64 0) (.bool false)
    have e0z := bFz.cell 0
    have e1z := bFz.cell 1
    have e2z := bFz.cell 2
    simp only [List.getElem?_toArray, List.getElem?_cons_zero, List.getElem?_cons_succ] at e0z e1z e2z
    refine bodyPost_ret (v := .tuple #[.agg #[.int .i64 0, .int .i64 0, .bool false], .int .i64 E]) (by simp [results, Tryz.results58, go_sem, e0z, e1z, e2z]) rfl ?_
    exact ⟨rfl, below3 hb01 (Nat.le_succ _) _ _ _⟩

end Go.Proofs.YtolclahkfmplfaaGreatDoor
