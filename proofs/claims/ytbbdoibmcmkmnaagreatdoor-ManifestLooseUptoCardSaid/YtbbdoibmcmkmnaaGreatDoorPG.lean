/- Plain laws: insertion into a sorted list; sorted permutations are equal. -/
import Derived.Test.YtbbdoibmcmkmnaaGreatDoorWL
namespace Go.Proofs.YtbbdoibmcmkmnaaGreatDoor
open Go.RowKit Go.Sort

section
variable {α : Type} {lt : α → α → Bool}
/-- not greater -/
def leOf (lt : α → α → Bool) (a b : α) : Prop := lt b a = false
theorem le_of_lt (hO : SWO lt) {a b : α} (h : lt a b = true) : leOf lt a b := by
  unfold leOf
  cases hb : lt b a
  · rfl
  · have := hO.trans a b a h hb
    rw [hO.irrefl] at this; cases this
theorem le_trans_of (hO : SWO lt) {a b c : α} (h1 : leOf lt a b) (h2 : leOf lt b c) : leOf lt a c := hO.ntrans c b a h2 h1
theorem le_refl_of (hO : SWO lt) (a : α) : leOf lt a a := hO.irrefl a
theorem ins_sorted (hO : SWO lt) (P : List α) (x : α) (k : Nat) (hkl : k ≤ P.length) (hs : P.Pairwise (leOf lt)) (h1 : ∀ i, i + 1 = k → ∀ h : i < P.length, lt x P[i] = false) (h2 : ∀ i, k ≤ i → ∀ h : i < P.length, lt x P[i] = true) :
    (P.take k ++ x :: P.drop k).Pairwise (leOf lt) := by
  have hsplit : (P.take k ++ P.drop k).Pairwise (leOf lt) := by rw [List.take_append_drop]; exact hs
  rw [List.pairwise_append] at hsplit ⊢
  obtain ⟨ha, hb, hc⟩ := hsplit
  have hx : ∀ a ∈ P.take k, leOf lt a x := by
    intro a hm
    obtain ⟨i, hi, rfl⟩ := List.mem_take_iff_getElem.1 hm
    have hk : k - 1 < P.length ∨ P.length ≤ k - 1 := by omega
    rcases hk with hk | hk
    · have hlast : leOf lt P[k - 1] x := h1 (k - 1) (by omega) hk
      rcases (show i = k - 1 ∨ i < k - 1 by omega) with rfl | hlt
      · exact hlast
      · exact le_trans_of hO (List.pairwise_iff_getElem.1 hs i (k - 1) (by omega) hk hlt) hlast
    · exfalso; omega
  refine ⟨ha, ?_, ?_⟩
  · rw [List.pairwise_cons]
    refine ⟨fun y hy => ?_, hb⟩
    obtain ⟨i, hi, rfl⟩ := List.getElem_of_mem hy
    rw [List.getElem_drop]
    exact le_of_lt hO (h2 (k + i) (by omega) (by simp at hi; omega))
  · intro a hm b hb'
    rcases List.mem_cons.1 hb' with rfl | hb'
    · exact hx a hm
    · exact hc a hm b hb'
theorem ins_perm (P Q : List α) (x : α) (k : Nat) (h : P.Perm Q) : (P.take k ++ x :: P.drop k).Perm (Q ++ [x]) := by
  have h1 : (P.take k ++ x :: P.drop k).Perm (x :: (P.take k ++ P.drop k)) := List.perm_middle
  rw [List.take_append_drop] at h1
  exact h1.trans ((List.Perm.cons x h).trans (List.perm_append_singleton x Q).symm)
theorem sorted_eq (hO : SWO lt) (hT : ∀ x y, lt x y = false → lt y x = false → x = y) (P l : List α) (hs : P.Pairwise (leOf lt)) (hp : P.Perm l) : P = l.mergeSort fun x y => !lt y x := by
  have htr : ∀ a b c : α, (!lt b a) = true → (!lt c b) = true → (!lt c a) = true := fun a b c h1 h2 => by
    simp at *; exact hO.ntrans c b a h2 h1
  have hto : ∀ a b : α, ((!lt b a) || (!lt a b)) = true := fun a b => by
    cases hab : lt a b
    · simp
    · have := le_of_lt hO hab
      unfold leOf at this
      simp [this]
  have h2 := List.pairwise_mergeSort htr hto l
  refine List.Perm.eq_of_pairwise (le := leOf lt) (fun a b _ _ h1 h2 => (hT a b h2 h1)) hs (h2.imp (fun h => by simpa [leOf] using h)) (hp.trans (List.mergeSort_perm l _).symm)
end
end Go.Proofs.YtbbdoibmcmkmnaaGreatDoor
