/- Plain laws: digits of a number as a text, and back. -/
import Derived.Test.YtabmidnamaaklaaGreatDoorWB
namespace Go.Proofs.YtabmidnamaaklaaGreatDoor
open Go.RowKit

/-- a digit of a number's text -/
def lowhex (c : UInt8) : Bool := decide (48 ≤ c.toNat ∧ c.toNat ≤ 57) || decide (97 ≤ c.toNat ∧ c.toNat ≤ 102)
def hval (c : UInt8) : Nat := if c.toNat ≤ 57 then c.toNat - 48 else c.toNat - 87
def pval (l : List UInt8) : Nat := l.foldl (fun n c => 16 * n + hval c) 0
def pOk (s : List UInt8) : Bool := decide (s.length = 18) && decide (s.take 2 = [104, 58]) && (s.drop 2).all lowhex
/-- the number with a text, and the error -/
def presN (s : List UInt8) : Nat := if pOk s = true then pval (s.drop 2) else 0
def presE (s : List UInt8) : Int := if pOk s = true then 0 else 8
theorem pval_snoc (l : List UInt8) (c : UInt8) : pval (l ++ [c]) = 16 * pval l + hval c := by simp [pval]
theorem hval_lt (c : UInt8) (h : lowhex c = true) : hval c < 16 := by
  simp [lowhex] at h
  unfold hval
  split <;> omega
theorem pval_lt : ∀ (k : Nat) (l : List UInt8), l.length ≤ k → l.all lowhex = true → pval l < 16 ^ k := by
  intro k
  induction k with
  | zero =>
    intro l h _
    obtain rfl : l = [] := List.eq_nil_of_length_eq_zero (by omega)
    simp [pval]
  | succ k ih =>
    intro l h ha
    rcases List.eq_nil_or_concat l with rfl | ⟨l', c, rfl⟩
    · simp [pval]; exact Nat.pow_pos (by decide)
    · rw [List.concat_eq_append] at *
      rw [List.all_append] at ha
      simp at ha h
      have h1 := ih l' (by omega) (by simpa using ha.1)
      have h2 := hval_lt c ha.2
      rw [pval_snoc, Nat.pow_succ]
      omega
theorem pOk_len (s : List UInt8) (h : s.length ≠ 18) : pOk s = false := by simp [pOk, h]
theorem pOk_head (s : List UInt8) (h : s.take 2 ≠ [104, 58]) : pOk s = false := by simp [pOk, h]
theorem pOk_bad (s : List UInt8) (k : Nat) (hk : k < (s.drop 2).length) (h : lowhex (s.drop 2)[k] = false) : pOk s = false := by
  have : (s.drop 2).all lowhex = false := List.all_eq_false.2 ⟨_, List.getElem_mem hk, by rw [h]; simp⟩
  simp [pOk, this]
theorem pOk_good (s : List UInt8) (h1 : s.length = 18) (h2 : s.take 2 = [104, 58]) (h3 : (s.drop 2).all lowhex = true) : pOk s = true := by simp [pOk, h1, h2, h3]
theorem all_take_succ {α : Type} (p : α → Bool) (l : List α) (k : Nat) (h : k < l.length) : (l.take (k + 1)).all p = ((l.take k).all p && p l[k]) := by
  rw [List.take_succ_eq_append_getElem h, List.all_append]
  simp
theorem pval_take (l : List UInt8) (k : Nat) (h : k < l.length) : pval (l.take (k + 1)) = 16 * pval (l.take k) + hval l[k] := by
  rw [List.take_succ_eq_append_getElem h, pval_snoc]
end Go.Proofs.YtabmidnamaaklaaGreatDoor
