/- Plain laws: paths joined; the order of modules. -/
import Derived.Test.YtbbdoibmcmkmnaaGreatDoorWL
namespace Go.Proofs.YtbbdoibmcmkmnaaGreatDoor
open Go.RowKit Go.Sort

theorem splitL_join (b : List UInt8) : ∀ a : List UInt8, splitL 47 (a ++ 47 :: b) = splitL 47 a ++ splitL 47 b
  | [] => by simp [splitL]
  | c :: a => by
    have ih := splitL_join b a
    have hne : splitL 47 a ≠ [] := by
      cases a with
      | nil => simp [splitL]
      | cons d a =>
        unfold splitL
        split
        · simp
        · split <;> simp
    by_cases hc : c = 47
    · simp [splitL, hc, ih]
    · obtain ⟨h, t, he⟩ := List.exists_cons_of_ne_nil hne
      simp [splitL, hc, ih, he]
theorem pathOk_join (a b : List UInt8) : pathOk (a ++ [47] ++ b) = (pathOk a && (pathOk b && decide (a.length + b.length < 60))) := by
  have e : a ++ [47] ++ b = a ++ 47 :: b := by simp
  unfold pathOk
  rw [e, splitL_join, List.all_append]
  have hl : (a ++ 47 :: b).length = a.length + b.length + 1 := by simp; omega
  rw [hl]
  by_cases h : a.length + b.length < 60
  · rw [decide_eq_true (show a.length + b.length + 1 ≤ 60 by omega), decide_eq_true (show a.length ≤ 60 by omega), decide_eq_true (show b.length ≤ 60 by omega), decide_eq_true h]
    simp
  · rw [decide_eq_false (show ¬ a.length + b.length + 1 ≤ 60 by omega), decide_eq_false h]
    simp
theorem vcmp_anti (x y z x' y' z' : Int) : vcmp x y z x' y' z' = - vcmp x' y' z' x y z := by
  unfold vcmp
  repeat' split
  all_goals omega
theorem mcmp_anti (m n : Mod) : mcmp m n = - mcmp n m := by
  unfold mcmp
  by_cases h1 : Op.bytesLess m.1 n.1 = true
  · rw [if_pos h1, if_neg (by rw [bl_asymm _ _ h1]; simp), if_neg (fun e => by rw [e, bl_irrefl] at h1; cases h1)]
  · by_cases h2 : m.1 = n.1
    · rw [if_neg h1, if_pos h2, if_neg (by rw [h2, bl_irrefl]; simp), if_pos h2.symm]
      exact vcmp_anti _ _ _ _ _ _
    · have h3 : Op.bytesLess n.1 m.1 = true := by
        cases hb : Op.bytesLess n.1 m.1
        · exact absurd (bl_total _ _ (Bool.eq_false_iff.2 h1) hb) h2
        · rfl
      rw [if_neg h1, if_neg h2, if_pos h3]
      rfl
theorem mcmp_range (m n : Mod) : mcmp m n = -1 ∨ mcmp m n = 0 ∨ mcmp m n = 1 := by
  unfold mcmp
  repeat' split
  · simp
  · exact vcmp_range _ _ _ _ _ _
  · simp
theorem ltM_false {m n : Mod} (h : 0 ≤ mcmp m n) : ltOf mcmp m n = false := by
  unfold ltOf
  exact decide_eq_false (by omega)
theorem mcmp_law (a b c : Mod) (hx : mcmp a b ≤ 0) (hy : mcmp b c ≤ 0) : mcmp a c ≤ 0 ∧ (mcmp a c = 0 → mcmp a b = 0 ∧ mcmp b c = 0) := by
  have h1 := mcmp_anti a b
  have h2 := mcmp_anti b c
  have h3 := mcmp_anti a c
  have k1 : ltOf mcmp b a = false := ltM_false (by omega)
  have k2 : ltOf mcmp c b = false := ltM_false (by omega)
  have k3 := mlt_swo.ntrans c b a k2 k1
  have k4 : 0 ≤ mcmp c a := by
    unfold ltOf at k3
    have := of_decide_eq_false k3
    omega
  refine ⟨by omega, fun h => ?_⟩
  obtain rfl := (mcmp_eq a c).1 h
  omega
end Go.Proofs.YtbbdoibmcmkmnaaGreatDoor
