/- Plain: the greatest module of a path. -/
import Derived.Test.YtfiilbdkhelhgaaDoorPE1
import Derived.Test.YtfiilbdkhelhgaaDoorG3
namespace Go.Proofs.YtfiilbdkhelhgaaDoor
open Go.RowKit Go.Sort

/-- the greatest version of a path so far -/
def gstep (p : List UInt8) (b : Option Mod) (x : Mod) : Option Mod := if x.1 = p then (match b with | none => some x | some u => if vcmpV u.2 x.2 < 0 then some x else some u) else b
def greatestP (l : List Mod) (p : List UInt8) : Option Mod := l.foldl (gstep p) none
theorem gfold_take {p : List UInt8} {l : List Mod} {k : Nat} (hk : k < l.length) : (l.take (k + 1)).foldl (gstep p) none = gstep p ((l.take k).foldl (gstep p) none) l[k] := by
  rw [List.take_succ_eq_append_getElem hk, List.foldl_append]; rfl
theorem greatest_spec (p : List UInt8) : ∀ (l : List Mod), (greatestP l p = none ↔ ∀ x ∈ l, x.1 ≠ p) ∧ ∀ m, greatestP l p = some m → m ∈ l ∧ m.1 = p ∧ ∀ x ∈ l, x.1 = p → vcmpV x.2 m.2 ≤ 0 := by
  intro l
  induction l using snoc_ind with
  | h0 => exact ⟨by simp [greatestP], by simp [greatestP]⟩
  | h1 l x ih =>
    have e : greatestP (l ++ [x]) p = gstep p (greatestP l p) x := by unfold greatestP; rw [List.foldl_append]; rfl
    rw [e]
    unfold gstep
    by_cases hx : x.1 = p
    · rw [if_pos hx]
      cases hg : greatestP l p with
      | none =>
        have h0 := ih.1.1 hg
        refine ⟨⟨fun h => by simp at h, fun h => absurd hx (h x (by simp))⟩, fun m hm => ?_⟩
        obtain rfl := Option.some.inj hm
        refine ⟨by simp, hx, fun y hy hyp => ?_⟩
        rcases List.mem_append.1 hy with h | h
        · exact absurd hyp (h0 y h)
        · rw [List.mem_singleton.1 h, vcmpV_refl]; exact Int.le_refl _
      | some u =>
        obtain ⟨h1, h2, h3⟩ := ih.2 u hg
        refine ⟨⟨fun h => by simp at h; split at h <;> simp at h, fun h => absurd hx (h x (by simp))⟩, fun m hm => ?_⟩
        simp only at hm
        by_cases hc : vcmpV u.2 x.2 < 0
        · rw [if_pos hc] at hm
          obtain rfl := Option.some.inj hm
          refine ⟨by simp, hx, fun y hy hyp => ?_⟩
          rcases List.mem_append.1 hy with h | h
          · exact vcmpV_trans (h3 y h hyp) (by omega)
          · rw [List.mem_singleton.1 h, vcmpV_refl]; exact Int.le_refl _
        · rw [if_neg hc] at hm
          obtain rfl := Option.some.inj hm
          refine ⟨by simp [h1], h2, fun y hy hyp => ?_⟩
          rcases List.mem_append.1 hy with h | h
          · exact h3 y h hyp
          · rw [List.mem_singleton.1 h, vcmpV_anti]; omega
    · rw [if_neg hx]
      refine ⟨ih.1.trans ⟨fun h y hy => ?_, fun h y hy => h y (by simp [hy])⟩, fun m hm => ?_⟩
      · rcases List.mem_append.1 hy with h1 | h1
        · exact h y h1
        · rw [List.mem_singleton.1 h1]; exact hx
      · obtain ⟨h1, h2, h3⟩ := ih.2 m hm
        refine ⟨by simp [h1], h2, fun y hy hyp => ?_⟩
        rcases List.mem_append.1 hy with h | h
        · exact h3 y h hyp
        · rw [List.mem_singleton.1 h] at hyp; exact absurd hyp hx
theorem greatest_iff (l : List Mod) (p : List UInt8) (m : Mod) : greatestP l p = some m ↔ m ∈ l ∧ m.1 = p ∧ ∀ x ∈ l, x.1 = p → vcmpV x.2 m.2 ≤ 0 := by
  refine ⟨(greatest_spec p l).2 m, fun ⟨h1, h2, h3⟩ => ?_⟩
  cases hg : greatestP l p with
  | none => exact absurd h2 ((greatest_spec p l).1.1 hg m h1)
  | some u =>
    obtain ⟨k1, k2, k3⟩ := (greatest_spec p l).2 u hg
    have a1 := h3 u k1 k2
    have a2 := k3 m h1 h2
    rw [vcmpV_anti] at a2
    have e := vcmpV_eq (a := u.2) (b := m.2) (by omega)
    congr 1
    exact Prod.ext (k2.trans h2.symm) e
theorem down_fold (R : Regy) (rp : List UInt8) (m x : Mod) : ∀ (L : List Mod) (b : Option Mod), (∀ u, b = some u → u.1 = x.1) → L.foldl (dstep R rp m x) b = (L.filter (fitP R rp m x)).foldl (gstep x.1) b
  | [], _, _ => rfl
  | z :: L, b, hb => by
    rw [List.foldl_cons, List.filter_cons]
    by_cases hf : fitP R rp m x z = true
    · have hz : z.1 = x.1 := by
        unfold fitP at hf
        simp only [Bool.and_eq_true, decide_eq_true_eq] at hf
        exact hf.1
      rw [if_pos hf, List.foldl_cons]
      have e : dstep R rp m x b z = gstep x.1 b z := by
        unfold dstep gstep
        rw [if_pos hf, if_pos hz]
        unfold takeM
        cases b with
        | none => rfl
        | some u =>
          have hu := hb u rfl
          have e1 : mcmp z u = vcmpV z.2 u.2 := by
            have h := vcmpV_mcmp x.1 z.2 u.2
            have e2 : z = (x.1, z.2) := Prod.ext hz rfl
            have e3 : u = (x.1, u.2) := Prod.ext hu rfl
            rw [← e2, ← e3] at h
            exact h
          have e2 := vcmpV_anti u.2 z.2
          simp only [e1]
          by_cases h : 0 < vcmpV z.2 u.2
          · rw [if_pos h, if_pos (by omega)]
          · rw [if_neg h, if_neg (by omega)]
      rw [e]
      refine down_fold R rp m x L _ fun u hu => ?_
      unfold gstep at hu
      rw [if_pos hz] at hu
      cases b with
      | none => rw [← Option.some.inj hu]; exact hz
      | some v =>
        simp only at hu
        split at hu
        · rw [← Option.some.inj hu]; exact hz
        · rw [← Option.some.inj hu]; exact hb v rfl
    · rw [if_neg hf]
      unfold dstep
      rw [if_neg hf]
      exact down_fold R rp m x L b hb
theorem downB_eq (R : Regy) (rp : List UInt8) (m x : Mod) : downB R rp m x = greatestP ((R.map (·.1)).filter (fitP R rp m x)) x.1 := down_fold R rp m x _ none (fun _ h => by cases h)
end Go.Proofs.YtfiilbdkhelhgaaDoor
