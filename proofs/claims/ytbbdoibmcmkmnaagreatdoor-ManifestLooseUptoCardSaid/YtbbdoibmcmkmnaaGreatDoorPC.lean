/- Plain definitions: parts of module paths, splitting. -/
import Derived.Test.YtbbdoibmcmkmnaaGreatDoorPB
namespace Go.Proofs.YtbbdoibmcmkmnaaGreatDoor

def lowc (c : UInt8) : Bool := decide (97 ≤ c.toNat ∧ c.toNat ≤ 122)
def othc (c : UInt8) : Bool := decide (48 ≤ c.toNat ∧ c.toNat ≤ 57 ∨ c.toNat = 45 ∨ c.toNat = 46 ∨ c.toNat = 95)
/-- may stand at place i of a part -/
def pok (i : Nat) (c : UInt8) : Bool := lowc c || (othc c && decide (i ≠ 0))
/-- the first k bytes of a part -/
def partK (l : List UInt8) (k : Nat) : Bool := (List.range k).all fun i => pok i (l.getD i 0)
def partOk (l : List UInt8) : Bool := partK l l.length && decide (l ≠ [])
theorem partK_succ (l : List UInt8) (k : Nat) : partK l (k + 1) = (partK l k && pok k (l.getD k 0)) := by
  simp [partK, List.range_succ]
theorem partK_false (l : List UInt8) (k n : Nat) (h : k < n) (hp : pok k (l.getD k 0) = false) : partK l n = false := by
  unfold partK
  rw [List.all_eq_false]
  exact ⟨k, List.mem_range.2 h, by rw [hp]; simp⟩

theorem pok_low {i : Nat} {c : UInt8} (h : (97 : Int) ≤ (c.toNat : Int)) (h' : (c.toNat : Int) ≤ 122) : pok i c = true := by
  have : lowc c = true := by simp [lowc]; omega
  simp [pok, this]
theorem pok_oth {i : Nat} {c : UInt8} (hi : 0 < i) (h : (48 ≤ (c.toNat : Int) ∧ (c.toNat : Int) ≤ 57) ∨ (c.toNat : Int) = 45 ∨ (c.toNat : Int) = 46 ∨ (c.toNat : Int) = 95) : pok i c = true := by
  have h1 : othc c = true := by simp [othc]; omega
  have h2 : i ≠ 0 := by omega
  simp [pok, h1, h2]
theorem pok_zero {i : Nat} {c : UInt8} (hi : i = 0) (h : (c.toNat : Int) < 97 ∨ 122 < (c.toNat : Int)) : pok i c = false := by
  have h1 : lowc c = false := by simp [lowc]; omega
  simp [pok, h1, hi]
theorem pok_bad {i : Nat} {c : UInt8} (h : (c.toNat : Int) < 45 ∨ (c.toNat : Int) = 47 ∨ (58 ≤ (c.toNat : Int) ∧ (c.toNat : Int) ≤ 94) ∨ (c.toNat : Int) = 96 ∨ 122 < (c.toNat : Int)) : pok i c = false := by
  have h1 : lowc c = false := by simp [lowc]; omega
  have h2 : othc c = false := by simp [othc]; omega
  simp [pok, h1, h2]

/-- the pieces between separators -/
def splitL (b : UInt8) : List UInt8 → List (List UInt8)
  | [] => [[]]
  | c :: l => if c = b then [] :: splitL b l else match splitL b l with
    | h :: t => (c :: h) :: t
    | [] => [[c]]
def pathOk (l : List UInt8) : Bool := decide (l.length ≤ 60) && (splitL 47 l).all partOk
end Go.Proofs.YtbbdoibmcmkmnaaGreatDoor
