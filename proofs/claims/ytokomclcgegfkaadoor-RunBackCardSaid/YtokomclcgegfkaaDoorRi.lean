/- A region that draws its order, by what holds behind each operation, whichever have come up. No program in sight. -/
import Derived.Test.YtokomclcgegfkaaDoorSb
import Derived.Orders
import Derived.RegionTactic
namespace Go.Proofs.YtokomclcgegfkaaDoor
open Go Go.RowKit

theorem inv_any {P : Program} {ops : Array Oper} {Q : Exit → Act → World → Prop} {md : Region.Mode} (I : (Nat → Bool) → Act → World → Prop)
    (hwf : ∀ (i : Nat) (o : Oper), ops[i]? = some o → ∀ e ∈ o.after, Region.binds md e = true → e.on < i)
    (hstep : ∀ (L : Nat → Bool) (a : Act) (w : World) (i : Nat) (o : Oper), ops[i]? = some o → L i = false → (∀ e ∈ o.after, Region.binds md e = true → L e.on = true) → I L a w → wpOp P ops Q i (fun a' w' => I (fun j => if j = i then true else L j) a' w') a w)
    (hend : ∀ L a w, (∀ i, i < ops.size → L i = true) → I L a w → Q .normal a w) :
    ∀ (fuel : Nat) (listed : Array Bool) a w, listed.size = ops.size → listed.toList.countP (· = false) ≤ fuel → I (fun j => listed.getD j false) a w → wpAny P md ops Q fuel listed a w := by
  have hfull : ∀ (listed : Array Bool), listed.size = ops.size → Region.ready md ops listed = [] → ∀ i, i < ops.size → listed.getD i false = true := by
    intro listed hsz hr i
    induction i using Nat.strongRecOn with
    | _ i ih =>
      intro hi
      have hmem : i ∉ Region.ready md ops listed := by rw [hr]; simp
      have ho : ops[i]? = some ops[i] := Array.getElem?_eq_getElem hi
      rw [mem_ready] at hmem
      have hall : ∀ e ∈ (ops[i]).after, Region.binds md e = true → listed.getD e.on false = true := fun e he hb => ih e.on (hwf i _ ho e he hb) (by have := hwf i _ ho e he hb; omega)
      have h2 : ¬ listed.getD i true = false := fun h => hmem ⟨h, _, ho, hall⟩
      have hl : i < listed.size := by omega
      simp [Array.getD, hl] at h2 ⊢
      exact h2
  intro fuel
  induction fuel with
  | zero =>
    intro listed a w hsz hc hI
    have hall : ∀ i, i < ops.size → listed.getD i false = true := by
      intro i hi
      have hl : i < listed.size := by omega
      have hz : listed.toList.countP (· = false) = 0 := by omega
      rw [List.countP_eq_zero] at hz
      have := hz (listed[i]) (by simp)
      simp [Array.getD, hl]
      simpa using this
    refine ⟨?_, hend _ a w hall hI⟩
    cases hr : Region.ready md ops listed with
    | nil => rfl
    | cons x xs =>
      have hx : x ∈ Region.ready md ops listed := by rw [hr]; simp
      rw [mem_ready] at hx
      obtain ⟨h1, o, ho, _⟩ := hx
      have hxs : x < ops.size := (Array.getElem?_eq_some_iff.1 ho).1
      have h2 := hall x hxs
      have hl : x < listed.size := by omega
      simp [Array.getD, hl] at h1 h2
      rw [h1] at h2
      cases h2
  | succ fuel ih =>
    intro listed a w hsz hc hI
    refine ⟨fun hr => hend _ a w (hfull listed hsz hr) hI, fun i hi => ?_⟩
    rw [mem_ready] at hi
    obtain ⟨h1, o, ho, hall⟩ := hi
    have his : i < listed.size := by have := (Array.getElem?_eq_some_iff.1 ho).1; omega
    have hLi : listed.getD i false = false := by simpa [Array.getD, his] using h1
    refine wpOp_mono (fun a' w' h => ih (listed.setIfInBounds i true) a' w' (by simpa using hsz) ?_ ?_) (hstep _ a w i o ho hLi hall hI)
    · have hcnt : ∀ (l : List Bool) (i : Nat) (hi : i < l.length), l[i]'hi = false → (l.set i true).countP (· = false) + 1 = l.countP (· = false) := by
        intro l
        induction l with
        | nil => intro i hi; simp at hi
        | cons x l ihl =>
          intro i hi hx
          cases i with
          | zero => simp at hx; subst hx; simp
          | succ i =>
            have := ihl i (by simpa using hi) (by simpa using hx)
            simp only [List.set_cons_succ, List.countP_cons]
            omega
      have hb : listed[i]'his = false := by simpa [Array.getD, his] using hLi
      have := hcnt listed.toList i (by simpa using his) (by simpa using hb)
      rw [Array.toList_setIfInBounds]
      omega
    · have hfun : (fun j => (listed.setIfInBounds i true).getD j false) = (fun j => if j = i then true else listed.getD j false) := by
        funext j
        by_cases hj : j = i
        · subst hj; simp [Array.getD, his]
        · rw [if_neg hj]; exact getD_set_ne false (fun e => hj e.symm)
      rw [hfun]
      exact h

/-- a region that draws its order -/
theorem region_inv {P : Program} {id : Nat} {ops : Array Oper} {Q : Exit → Act → World → Prop} {a0 : Act} {w0 : World} (hm : P.follows .mixedOrders = true)
    (hwf : (List.range ops.size).all (fun i => ((ops[i]?).map fun o => o.after.all fun e => !Region.binds .any e || decide (e.on < i)).getD true) = true)
    (I : (Nat → Bool) → Act → World → Prop) (h0 : I (fun _ => false) a0 w0.drew)
    (hstep : ∀ (L : Nat → Bool) (a : Act) (w : World) (i : Nat) (o : Oper), ops[i]? = some o → L i = false → (∀ e ∈ o.after, Region.binds .any e = true → L e.on = true) → I L a w → wpOp P ops Q i (fun a' w' => I (fun j => if j = i then true else L j) a' w') a w)
    (hend : ∀ L a w, (∀ i, i < ops.size → L i = true) → I L a w → Q .normal a w) : (Code.region id ops true).wp P Q a0 w0 := by
  refine wp_region_any hm ?_
  refine inv_any I ?_ hstep hend ops.size (Array.replicate ops.size false) a0 _ (by simp) (Nat.le_trans List.countP_le_length (by simp)) ?_
  · intro i o ho e he hb
    rw [List.all_eq_true] at hwf
    have := hwf i (by simpa using (Array.getElem?_eq_some_iff.1 ho).1)
    rw [ho] at this
    simp [Array.all_eq_true] at this
    obtain ⟨k, hk, rfl⟩ := Array.mem_iff_getElem.1 he
    have h := this k hk
    rw [hb] at h
    simpa using h
  · have : (fun j => (Array.replicate ops.size false).getD j false) = fun _ => false := by
      funext j
      by_cases hj : j < ops.size <;> simp [Array.getD, hj]
    rw [this]
    exact h0
end Go.Proofs.YtokomclcgegfkaaDoor
