/- Plain laws: strings and modules compared. -/
import Derived.Test.YtbbdoibmcmkmnaaGreatDoorPA
import GoSem.Step
namespace Go.Proofs.YtbbdoibmcmkmnaaGreatDoor
open Go (Op.bytesLess)

theorem bl_irrefl : ∀ a : List UInt8, Op.bytesLess a a = false
  | [] => rfl
  | c :: a => by simp [Op.bytesLess, bl_irrefl a]
theorem bl_trans : ∀ a b c : List UInt8, Op.bytesLess a b = true → Op.bytesLess b c = true → Op.bytesLess a c = true
  | _, [], _, h, _ => by simp [Op.bytesLess] at h
  | _, _ :: _, [], _, h => by simp [Op.bytesLess] at h
  | [], _ :: _, _ :: _, _, _ => rfl
  | x :: a, y :: b, z :: c, h1, h2 => by
    simp only [Op.bytesLess, Bool.or_eq_true, decide_eq_true_eq, Bool.and_eq_true, beq_iff_eq] at *
    rcases h1 with h1 | ⟨rfl, h1⟩
    · rcases h2 with h2 | ⟨rfl, h2⟩
      · exact .inl (UInt8.lt_trans h1 h2)
      · exact .inl h1
    · rcases h2 with h2 | ⟨rfl, h2⟩
      · exact .inl h2
      · exact .inr ⟨rfl, bl_trans a b c h1 h2⟩
theorem bl_total : ∀ a b : List UInt8, Op.bytesLess a b = false → Op.bytesLess b a = false → a = b
  | [], [], _, _ => rfl
  | [], _ :: _, h, _ => by simp [Op.bytesLess] at h
  | _ :: _, [], _, h => by simp [Op.bytesLess] at h
  | x :: a, y :: b, h1, h2 => by
    simp only [Op.bytesLess, Bool.or_eq_false_iff, decide_eq_false_iff_not, Bool.and_eq_false_iff, beq_eq_false_iff_ne] at *
    have hxy : x = y := by
      rcases h1 with ⟨h1, _⟩
      rcases h2 with ⟨h2, _⟩
      exact UInt8.le_antisymm (UInt8.not_lt.1 h2) (UInt8.not_lt.1 h1)
    subst hxy
    rcases h1.2 with h | h
    · exact absurd rfl h
    · rcases h2.2 with h' | h'
      · exact absurd rfl h'
      · rw [bl_total a b h h']
theorem bl_asymm (a b : List UInt8) (h : Op.bytesLess a b = true) : Op.bytesLess b a = false := by
  cases hb : Op.bytesLess b a
  · rfl
  · have := bl_trans a b a h hb
    rw [bl_irrefl] at this
    cases this

/-- strings compared -/
def scmp (a b : List UInt8) : Int := if Op.bytesLess a b = true then -1 else if a = b then 0 else 1
/-- versions compared -/
def vcmp (x y z x' y' z' : Int) : Int := if x < x' then -1 else if x' < x then 1 else if y < y' then -1 else if y' < y then 1 else if z < z' then -1 else if z' < z then 1 else 0

/-- a module: its path and the three numbers of its version -/
abbrev Mod := List UInt8 × Int × Int × Int
/-- modules compared -/
def mcmp (m n : Mod) : Int := if Op.bytesLess m.1 n.1 = true then -1 else if m.1 = n.1 then vcmp m.2.1 m.2.2.1 m.2.2.2 n.2.1 n.2.2.1 n.2.2.2 else 1
def vok (x y z : Int) : Bool := decide (0 ≤ x ∧ x ≤ 9999) && decide (0 ≤ y ∧ y ≤ 9999) && decide (0 ≤ z ∧ z ≤ 9999)
theorem mcmp_refl (m : Mod) : mcmp m m = 0 := by simp [mcmp, bl_irrefl, vcmp]
theorem mcmp_eq (m n : Mod) : mcmp m n = 0 ↔ m = n := by
  constructor
  · intro h
    unfold mcmp at h
    split at h
    · omega
    · split at h
      · rename_i h2
        unfold vcmp at h
        obtain ⟨p, x, y, z⟩ := m
        obtain ⟨p', x', y', z'⟩ := n
        simp only at *
        subst h2
        have : x = x' ∧ y = y' ∧ z = z' := by
          (try (split at h <;> try omega))
          (try (split at h <;> try omega))
          (try (split at h <;> try omega))
          (try (split at h <;> try omega))
          (try (split at h <;> try omega))
          (try (split at h <;> try omega))
        obtain ⟨rfl, rfl, rfl⟩ := this
        rfl
      · omega
  · rintro rfl; exact mcmp_refl m
theorem vcmp_range (x y z x' y' z' : Int) : vcmp x y z x' y' z' = -1 ∨ vcmp x y z x' y' z' = 0 ∨ vcmp x y z x' y' z' = 1 := by
  unfold vcmp; repeat' split
  all_goals simp
theorem vcmp_neg (x y z x' y' z' : Int) : vcmp x y z x' y' z' < 0 ↔ x < x' ∨ x = x' ∧ (y < y' ∨ y = y' ∧ z < z') := by
  unfold vcmp; repeat' split
  all_goals omega
end Go.Proofs.YtbbdoibmcmkmnaaGreatDoor
