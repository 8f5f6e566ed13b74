/- Plain definitions and laws: the module that owns a path. -/
import Derived.Test.YtbbdoibmcmkmnaaGreatDoorPB
namespace Go.Proofs.YtbbdoibmcmkmnaaGreatDoor

/-- one module more: the best so far, and the rest of the path -/
def ostep (l : List Mod) (path : List UInt8) (q : Int × List UInt8) (k : Nat) : Int × List UInt8 :=
  let p := (l.getD k default).1
  if 0 ≤ q.1 ∧ p.length ≤ (l.getD q.1.toNat default).1.length then q
  else if p = path then ((k : Nat), [])
  else if (p ++ [47]).isPrefixOf path = true then ((k : Nat), path.drop (p.length + 1))
  else q
def ownK (l : List Mod) (path : List UInt8) : Nat → Int × List UInt8
  | 0 => (-1, [])
  | k + 1 => ostep l path (ownK l path k) k
theorem ownK_range (l : List Mod) (path : List UInt8) : ∀ k, -1 ≤ (ownK l path k).1 ∧ (ownK l path k).1 < (k : Nat) ∨ k = 0 ∧ (ownK l path k).1 = -1
  | 0 => .inr ⟨rfl, rfl⟩
  | k + 1 => by
    have ih := ownK_range l path k
    left
    have hq : ownK l path (k + 1) = ostep l path (ownK l path k) k := rfl
    rw [hq]
    generalize ownK l path k = q at ih
    unfold ostep
    simp only
    split
    · omega
    · split
      · simp only; omega
      · split
        · simp only; omega
        · omega
theorem ownK_law (l : List Mod) (path : List UInt8) : ∀ k, k ≤ l.length →
    ((ownK l path k).1 = -1 ∧ (ownK l path k).2 = []) ∨ (0 ≤ (ownK l path k).1 ∧ (((l.getD (ownK l path k).1.toNat default).1 = path ∧ (ownK l path k).2 = []) ∨ (l.getD (ownK l path k).1.toNat default).1 ++ [47] ++ (ownK l path k).2 = path))
  | 0, _ => .inl ⟨rfl, rfl⟩
  | k + 1, hk => by
    have ih := ownK_law l path k (by omega)
    have hq : ownK l path (k + 1) = ostep l path (ownK l path k) k := rfl
    rw [hq]
    generalize ownK l path k = q at ih
    unfold ostep
    simp only
    split
    · exact ih
    · split
      · rename_i h1 h2
        exact .inr ⟨by simp, .inl ⟨by simpa using h2, rfl⟩⟩
      · split
        · rename_i h1 h2 h3
          refine .inr ⟨by simp, .inr ?_⟩
          obtain ⟨t, ht⟩ := List.isPrefixOf_iff_prefix.1 h3
          simp only [Int.toNat_natCast]
          rw [← ht]
          simp [List.drop_append]
        · exact ih
end Go.Proofs.YtbbdoibmcmkmnaaGreatDoor
