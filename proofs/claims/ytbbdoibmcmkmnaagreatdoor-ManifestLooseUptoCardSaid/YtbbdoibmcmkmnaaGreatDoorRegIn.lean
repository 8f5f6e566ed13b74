/- A rule for a region that draws its order inside a fence: an invariant over the set of operations that have been carried out. -/
import Derived.Test.YtbbdoibmcmkmnaaGreatDoorReg
import Derived.OrdersIn
import Derived.TacticsIn
namespace Go.Proofs.YtbbdoibmcmkmnaaGreatDoor
open Go.RowKit

section
variable {F : Fence} {n : Nat} {P : Program} {ops : Array Oper} {Q : Exit → Act → World → Prop}
theorem wpAnyIn_inv {md : Region.Mode} (Inv : Array Bool → Act → World → Prop) (hsz : ∀ L a w, Inv L a w → L.size = ops.size)
    (step : ∀ L a w i, i ∈ Region.ready md ops L → Inv L a w → wpOpIn F n P ops Q i (Inv (L.setIfInBounds i true)) a w)
    (fin : ∀ L a w, Region.ready md ops L = [] → Inv L a w → Q .normal a w) :
    ∀ fuel L a w, unlisted ops L ≤ fuel → Inv L a w → wpAnyIn F n P md ops Q fuel L a w := by
  intro fuel
  induction fuel with
  | zero =>
    intro L a w hu hI
    have hr : Region.ready md ops L = [] := by
      unfold unlisted at hu
      have h0 : ((List.range ops.size).filter fun i => !L.getD i true) = [] := List.eq_nil_of_length_eq_zero (by omega)
      unfold Region.ready
      rw [List.filter_eq_nil_iff] at h0 ⊢
      intro i hi hc
      have := h0 i hi
      simp only [Bool.and_eq_true] at hc
      exact this hc.1
    exact ⟨hr, fin L a w hr hI⟩
  | succ fuel ih =>
    intro L a w hu hI
    refine ⟨fun hr => fin L a w hr hI, fun i hi => ?_⟩
    have hi' := hi
    unfold Region.ready at hi'
    obtain ⟨h1, h2⟩ := List.mem_filter.1 hi'
    simp only [Bool.and_eq_true, Bool.not_eq_true'] at h2
    refine wpOpIn_mono (fun a' w' h => ?_) (step L a w i hi hI)
    refine ih _ _ _ ?_ h
    have := unlisted_set (ops := ops) (List.mem_range.1 h1) (hsz L a w hI) h2.1
    omega
/-- The rule, an operation at a time. -/
theorem wpIn_region_each {id : Nat} {a : Act} {w : World} (hm : P.follows .mixedOrders = true) (Inv : Array Bool → Act → World → Prop) (hsz : ∀ L a w, Inv L a w → L.size = ops.size)
    (h0 : Inv (Array.replicate ops.size false) a w.drew)
    (step : ∀ i o, ops[i]? = some o → ∀ L a w, L.getD i true = false → (o.after.all fun e => !Region.binds .any e || L.getD e.on false) = true → Inv L a w →
      if Region.wanted o (yielded ops a.tmps) then o.wpIn F n P a w (Inv (L.setIfInBounds i true)) Q else (∀ f, o.about P w a.eval = some f → F.fn f) ∧ Inv (L.setIfInBounds i true) (a.put o.dst undef) w)
    (hwf : wfOps ops = true) (fin : ∀ L a w, (∀ i, i < ops.size → L.getD i false = true) → Inv L a w → Q .normal a w) : (Code.region id ops true).wpIn F n P Q a w :=
  wpIn_region_any hm (wpAnyIn_inv Inv hsz (fun L a w i hi hI => by
    unfold Region.ready at hi
    obtain ⟨h1, h2⟩ := List.mem_filter.1 hi
    simp only [Bool.and_eq_true, Bool.not_eq_true'] at h2
    have hlt := List.mem_range.1 h1
    have ho : ops[i]? = some ops[i] := Array.getElem?_eq_getElem hlt
    have h3 := h2.2
    rw [ho] at h3
    simp only [Option.map_some, Option.getD_some] at h3
    unfold wpOpIn
    rw [ho]
    exact step i _ ho L a w h2.1 h3 hI) (fun L a w hr hI => fin L a w (all_listed hwf hr (hsz L a w hI)) hI) _ _ _ _ (by
    unfold unlisted
    exact Nat.le_trans (List.length_filter_le _ _) (by simp)) h0)
end
end Go.Proofs.YtbbdoibmcmkmnaaGreatDoor
