/- Plain definitions: the texts of versions and modules. -/
import Derived.Test.YtbbdoibmcmkmnaaGreatDoorPC
import Derived.Lib.ItoaNum
namespace Go.Proofs.YtbbdoibmcmkmnaaGreatDoor

def dec (n : Int) : List UInt8 := Lib.decDigits n.toNat
def dig (m : Nat) : UInt8 := UInt8.ofNat (48 + m % 10)
theorem decDigits_step (n : Nat) : Lib.decDigits n = (if n / 10 = 0 then [] else Lib.decDigits (n / 10)) ++ [dig n] := by
  unfold dig
  rw [Lib.decDigits]
  by_cases h : n < 10
  · have h1 : n / 10 = 0 := by omega
    have h2 : n % 10 = n := by omega
    simp [h, h1, h2]
  · have h1 : ¬ n / 10 = 0 := by omega
    simp [h, h1]
theorem decDigits_len : ∀ (k n : Nat), n < 10 ^ (k + 1) → (Lib.decDigits n).length ≤ k + 1
  | 0, n, h => by
    have : n < 10 := by simpa using h
    rw [Lib.decDigits]; simp [this]
  | k + 1, n, h => by
    rw [decDigits_step]
    split
    · simp
    · have : n / 10 < 10 ^ (k + 1) := by
        rw [Nat.pow_succ] at h
        omega
      have := decDigits_len k (n / 10) this
      simp; omega
theorem dec_len (n : Int) (h : n ≤ 9999) : (dec n).length ≤ 4 := decDigits_len 3 n.toNat (by simp; omega)
/-- the text of a version -/
def vtext (x y z : Int) : List UInt8 := if vok x y z = true then [118] ++ dec x ++ [46] ++ dec y ++ [46] ++ dec z else [63]
theorem vtext_len (x y z : Int) : (vtext x y z).length ≤ 20 := by
  unfold vtext
  split
  · rename_i h
    simp [vok] at h
    have h1 := dec_len x (by omega)
    have h2 := dec_len y (by omega)
    have h3 := dec_len z (by omega)
    simp; omega
  · simp
end Go.Proofs.YtbbdoibmcmkmnaaGreatDoor
