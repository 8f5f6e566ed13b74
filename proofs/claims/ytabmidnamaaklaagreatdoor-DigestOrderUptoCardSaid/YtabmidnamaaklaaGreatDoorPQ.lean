/- Plain definitions: literals, what the package quote and its reference compute. -/
import Derived.Test.YtabmidnamaaklaaGreatDoorPA
import GoSem.Core.Utf8
namespace Go.Proofs.YtabmidnamaaklaaGreatDoor
open Go.RowKit

/-- what stands for a byte in a literal -/
def escB (c : UInt8) : List UInt8 :=
  if c.toNat = 34 ∨ c.toNat = 92 then [92, c] else if c.toNat = 10 then [92, 110] else if c.toNat = 9 then [92, 116] else if c.toNat = 13 then [92, 114]
  else if c.toNat < 32 ∨ 126 < c.toNat then [92, 120, hexd (c.toNat / 16), hexd (c.toNat % 16)] else [c]
theorem escB_len (c : UInt8) : (escB c).length ≤ 4 ∧ 0 < (escB c).length := by
  unfold escB
  repeat' split
  all_goals simp
def escL (s : List UInt8) : List UInt8 := s.flatMap escB
def qtext (s : List UInt8) : List UInt8 := [34] ++ escL s ++ [34]
theorem escL_snoc (s : List UInt8) (k : Nat) (h : k < s.length) : escL (s.take (k + 1)) = escL (s.take k) ++ escB s[k] := by
  unfold escL
  rw [List.take_succ_eq_append_getElem h, List.flatMap_append]
  simp
theorem escL_len (s : List UInt8) : (escL s).length ≤ 4 * s.length := by
  unfold escL
  induction s with
  | nil => simp
  | cons c s ih => have := (escB_len c).1; simp only [List.flatMap_cons, List.length_append, List.length_cons]; omega
theorem qtext_len (s : List UInt8) : (qtext s).length ≤ 4 * s.length + 2 := by
  have := escL_len s
  simp [qtext]; omega
theorem enc_ascii (c : UInt8) (h : c.toNat < 128) : Utf8.encode (c.toNat : Int) = ⟨([c] : List UInt8).toArray⟩ := by
  unfold Utf8.encode
  have h1 : Utf8.valid (c.toNat : Int) = true := by simp [Utf8.valid]; left; omega
  simp only [h1, if_true, Int.toNat_natCast]
  rw [if_pos (by omega)]
  simp
theorem u8_eq (c : UInt8) (n : Nat) (hn : n < 256) (h : c.toNat = n) : c = UInt8.ofNat n := by
  subst h; simp
end Go.Proofs.YtabmidnamaaklaaGreatDoor
