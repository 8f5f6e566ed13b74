/- Plain definitions on lists of bytes and numbers: what the functions of the packages digest, quote and their references compute. No program in sight. -/
import Derived.Below
namespace Go.Proofs.YtbbdoibmcmkmnaaGreatDoor
open Go.RowKit

/-- one step of the sum of bytes -/
def fstep (n : Nat) (c : UInt8) : Nat := ((n ^^^ c.toNat) * 1099511628211) % 18446744073709551616
/-- the sum of bytes, continued -/
def fnv (n : Nat) (l : List UInt8) : Nat := l.foldl fstep n
def fstart : Nat := 14695981039346656037
theorem fstep_lt (n : Nat) (c : UInt8) : fstep n c < 18446744073709551616 := by unfold fstep; omega
theorem fnv_lt (n : Nat) (l : List UInt8) (h : n < 18446744073709551616) : fnv n l < 18446744073709551616 := by
  unfold fnv
  induction l generalizing n with
  | nil => simpa only [List.foldl_nil] using h
  | cons c l ih => rw [List.foldl_cons]; exact ih _ (fstep_lt n c)
theorem fnv_snoc (n : Nat) (l : List UInt8) (c : UInt8) : fnv n (l ++ [c]) = fstep (fnv n l) c := by unfold fnv; rw [List.foldl_append, List.foldl_cons, List.foldl_nil]
theorem fnv_append (n : Nat) (l m : List UInt8) : fnv n (l ++ m) = fnv (fnv n l) m := by unfold fnv; rw [List.foldl_append]
theorem fnv_nil (n : Nat) : fnv n [] = n := rfl
theorem take_snoc (l : List UInt8) (k : Nat) (h : k < l.length) : l.take (k + 1) = l.take k ++ [l[k]] := by
  rw [List.take_succ_eq_append_getElem h]

/-- a hexadecimal digit -/
def hexd (n : Nat) : UInt8 := [48, 49, 50, 51, 52, 53, 54, 55, 56, 57, 97, 98, 99, 100, 101, 102].getD n 0
/-- k hexadecimal digits of n, the lowest k -/
def hexs : Nat → Nat → List UInt8
  | 0, _ => []
  | k + 1, n => hexs k (n / 16) ++ [hexd (n % 16)]
/-- the text of a sum -/
def dtext (n : Nat) : List UInt8 := [104, 58] ++ hexs 16 n
end Go.Proofs.YtbbdoibmcmkmnaaGreatDoor
