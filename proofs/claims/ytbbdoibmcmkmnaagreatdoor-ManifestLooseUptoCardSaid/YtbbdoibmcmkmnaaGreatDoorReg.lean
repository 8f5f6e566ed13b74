/- A rule for a region that draws its order: an invariant over the set of operations that have been carried out. -/
import Derived.Test.YtbbdoibmcmkmnaaGreatDoorMem
import Derived.Orders
namespace Go.Proofs.YtbbdoibmcmkmnaaGreatDoor
open Go.RowKit

section
variable {P : Program} {ops : Array Oper} {Q : Exit → Act → World → Prop}
def unlisted (ops : Array Oper) (L : Array Bool) : Nat := ((List.range ops.size).filter fun i => !L.getD i true).length
theorem filter_le {p q : Nat → Bool} (h : ∀ j, p j = true → q j = true) : ∀ l : List Nat, (l.filter p).length ≤ (l.filter q).length
  | [] => by simp
  | x :: l => by
    have ih := filter_le h l
    cases hp : p x
    · cases hq : q x
      · simpa [List.filter_cons, hp, hq] using ih
      · simp only [List.filter_cons, hp, hq, if_true, List.length_cons, Bool.false_eq_true, if_false]; omega
    · simp only [List.filter_cons, hp, h x hp, if_true, List.length_cons]; omega
theorem filter_lt {p q : Nat → Bool} {i : Nat} (h : ∀ j, p j = true → q j = true) (hp : p i = false) (hq : q i = true) : ∀ l : List Nat, i ∈ l → (l.filter p).length < (l.filter q).length
  | [], h => by cases h
  | x :: l, hm => by
    have hle := filter_le h l
    by_cases hx : i = x
    · subst hx
      simp only [List.filter_cons, hp, hq, if_true, List.length_cons, Bool.false_eq_true, if_false]; omega
    · have hm' : i ∈ l := by
        rcases List.mem_cons.1 hm with e | e
        · exact absurd e hx
        · exact e
      have ih := filter_lt h hp hq l hm'
      cases hp' : p x
      · cases hq' : q x
        · simpa [List.filter_cons, hp', hq'] using ih
        · simp only [List.filter_cons, hp', hq', if_true, List.length_cons, Bool.false_eq_true, if_false]; omega
      · simp only [List.filter_cons, hp', h x hp', if_true, List.length_cons]; omega
theorem unlisted_set {L : Array Bool} {i : Nat} (hi : i < ops.size) (hL : L.size = ops.size) (hf : L.getD i true = false) : unlisted ops (L.setIfInBounds i true) < unlisted ops L := by
  refine filter_lt (i := i) (fun j h => ?_) ?_ (by simp [hf]) _ (List.mem_range.2 hi)
  · by_cases hj : i = j
    · subst hj
      simp [hL, hi] at h
    · simpa [Array.getElem?_setIfInBounds_ne hj] using h
  · simp [hL, hi]

theorem wpAny_inv {md : Region.Mode} (Inv : Array Bool → Act → World → Prop) (hsz : ∀ L a w, Inv L a w → L.size = ops.size)
    (step : ∀ L a w i, i ∈ Region.ready md ops L → Inv L a w → wpOp P ops Q i (Inv (L.setIfInBounds i true)) a w)
    (fin : ∀ L a w, Region.ready md ops L = [] → Inv L a w → Q .normal a w) :
    ∀ fuel L a w, unlisted ops L ≤ fuel → Inv L a w → wpAny P md ops Q fuel L a w := by
  intro fuel
  induction fuel with
  | zero =>
    intro L a w hu hI
    have hr : Region.ready md ops L = [] := by
      unfold unlisted at hu
      have h0 : ((List.range ops.size).filter fun i => !L.getD i true) = [] := List.eq_nil_of_length_eq_zero (by omega)
      unfold Region.ready
      rw [List.filter_eq_nil_iff] at h0 ⊢
      intro i hi hc
      have := h0 i hi
      simp only [Bool.and_eq_true] at hc
      exact this hc.1
    exact ⟨hr, fin L a w hr hI⟩
  | succ fuel ih =>
    intro L a w hu hI
    refine ⟨fun hr => fin L a w hr hI, fun i hi => ?_⟩
    have hi' := hi
    unfold Region.ready at hi'
    obtain ⟨h1, h2⟩ := List.mem_filter.1 hi'
    simp only [Bool.and_eq_true, Bool.not_eq_true'] at h2
    refine wpOp_mono (fun a' w' h => ?_) (step L a w i hi hI)
    refine ih _ _ _ ?_ h
    have := unlisted_set (ops := ops) (List.mem_range.1 h1) (hsz L a w hI) h2.1
    omega

/-- The rule. -/
theorem wp_region_inv {id : Nat} {a : Act} {w : World} (hm : P.follows .mixedOrders = true) (Inv : Array Bool → Act → World → Prop) (hsz : ∀ L a w, Inv L a w → L.size = ops.size)
    (h0 : Inv (Array.replicate ops.size false) a w.drew)
    (step : ∀ L a w i, i ∈ Region.ready .any ops L → Inv L a w → wpOp P ops Q i (Inv (L.setIfInBounds i true)) a w)
    (fin : ∀ L a w, Region.ready .any ops L = [] → Inv L a w → Q .normal a w) : (Code.region id ops true).wp P Q a w :=
  wp_region_any hm (wpAny_inv Inv hsz step fin _ _ _ _ (by
    unfold unlisted
    exact Nat.le_trans (List.length_filter_le _ _) (by simp)) h0)

/-- each operation waits for earlier ones alone -/
def wfOps (ops : Array Oper) : Bool := (List.range ops.size).all fun i => ((ops[i]?).map fun o => o.after.all fun e => !Region.binds .any e || decide (e.on < i)).getD false
theorem all_listed {L : Array Bool} (hwf : wfOps ops = true) (hr : Region.ready .any ops L = []) (hL : L.size = ops.size) : ∀ i, i < ops.size → L.getD i false = true := by
  intro i
  induction i using Nat.strongRecOn with
  | _ i ih =>
    intro hi
    cases hb : L.getD i false with
    | true => rfl
    | false =>
      exfalso
      have hb' : L.getD i true = false := by
        have : i < L.size := by omega
        simpa [this] using hb
      unfold Region.ready at hr
      rw [List.filter_eq_nil_iff] at hr
      refine hr i (List.mem_range.2 hi) ?_
      have ho : ops[i]? = some ops[i] := Array.getElem?_eq_getElem hi
      unfold wfOps at hwf
      have h1 := (List.all_eq_true.1 hwf) i (List.mem_range.2 hi)
      rw [ho] at h1 ⊢
      simp only [Option.map_some, Option.getD_some, hb', Bool.not_false, Bool.true_and] at h1 ⊢
      rw [Array.all_eq_true'] at h1 ⊢
      intro e he
      have h2 := h1 e he
      simp only [Bool.or_eq_true, Bool.not_eq_true', decide_eq_true_eq] at h2 ⊢
      rcases h2 with h2 | h2
      · exact .inl h2
      · exact .inr (ih e.on h2 (by omega))

/-- The rule, an operation at a time: 'hj': its place; the operations that it waits for have been carried out. -/
theorem wp_region_each {id : Nat} {a : Act} {w : World} (hm : P.follows .mixedOrders = true) (Inv : Array Bool → Act → World → Prop) (hsz : ∀ L a w, Inv L a w → L.size = ops.size)
    (h0 : Inv (Array.replicate ops.size false) a w.drew)
    (step : ∀ i o, ops[i]? = some o → ∀ L a w, L.getD i true = false → (o.after.all fun e => !Region.binds .any e || L.getD e.on false) = true → Inv L a w →
      if Region.wanted o (yielded ops a.tmps) then o.wp P a w (Inv (L.setIfInBounds i true)) Q ∨ (o.asks P a w ∧ LetsOut Q) else Inv (L.setIfInBounds i true) (a.put o.dst undef) w)
    (hwf : wfOps ops = true) (fin : ∀ L a w, (∀ i, i < ops.size → L.getD i false = true) → Inv L a w → Q .normal a w) : (Code.region id ops true).wp P Q a w :=
  wp_region_inv hm Inv hsz h0 (fun L a w i hi hI => by
    unfold Region.ready at hi
    obtain ⟨h1, h2⟩ := List.mem_filter.1 hi
    simp only [Bool.and_eq_true, Bool.not_eq_true'] at h2
    have hlt := List.mem_range.1 h1
    have ho : ops[i]? = some ops[i] := Array.getElem?_eq_getElem hlt
    have h3 := h2.2
    rw [ho] at h3
    simp only [Option.map_some, Option.getD_some] at h3
    unfold wpOp
    rw [ho]
    exact step i _ ho L a w h2.1 h3 hI) (fun L a w hr hI => fin L a w (all_listed hwf hr (hsz L a w hI)) hI)
end
end Go.Proofs.YtbbdoibmcmkmnaaGreatDoor
