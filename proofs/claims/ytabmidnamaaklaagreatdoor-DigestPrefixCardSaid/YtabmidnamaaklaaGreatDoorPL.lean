/- Plain laws: digits of a number as a text and back; sums of texts that differ in one byte. -/
import Derived.Test.YtabmidnamaaklaaGreatDoorPJ
namespace Go.Proofs.YtabmidnamaaklaaGreatDoor
open Go.RowKit

theorem hexd_low : ∀ d : Fin 16, lowhex (hexd d.1) = true ∧ hval (hexd d.1) = d.1 := by decide +kernel
theorem hexd_hval (c : UInt8) (h : lowhex c = true) : hexd (hval c) = c := by
  have : ∀ n : Fin 256, lowhex (UInt8.ofNat n.1) = true → hexd (hval (UInt8.ofNat n.1)) = UInt8.ofNat n.1 := by decide +kernel
  have := this ⟨c.toNat, c.toNat_lt⟩
  simpa using this (by simpa using h)
theorem hexs_low : ∀ (k n : Nat), (hexs k n).all lowhex = true
  | 0, _ => rfl
  | k + 1, n => by
    rw [hexs, List.all_append, hexs_low k]
    have := (hexd_low ⟨n % 16, Nat.mod_lt _ (by decide)⟩).1
    simpa using this
theorem pval_hexs : ∀ (k n : Nat), pval (hexs k n) = n % 16 ^ k
  | 0, n => by simp [hexs, pval, Nat.mod_one]
  | k + 1, n => by
    rw [hexs, pval_snoc, pval_hexs k]
    have := (hexd_low ⟨n % 16, Nat.mod_lt _ (by decide)⟩).2
    simp only at this
    rw [this, Nat.pow_succ, Nat.mul_comm (16 ^ k) 16, Nat.mod_mul]
    omega
theorem hexs_pval : ∀ (k : Nat) (l : List UInt8), l.length = k → l.all lowhex = true → hexs k (pval l) = l := by
  intro k
  induction k with
  | zero =>
    intro l h _
    obtain rfl : l = [] := List.eq_nil_of_length_eq_zero h
    rfl
  | succ k ih =>
    intro l h ha
    rcases List.eq_nil_or_concat l with rfl | ⟨l', c, rfl⟩
    · simp at h
    · rw [List.concat_eq_append] at *
      rw [List.all_append] at ha
      simp at ha h
      have hc := hval_lt c ha.2
      have h1 : (16 * pval l' + hval c) / 16 = pval l' := by omega
      have h2 : (16 * pval l' + hval c) % 16 = hval c := by omega
      rw [pval_snoc, hexs, h1, h2, ih l' h (by simpa using ha.1), hexd_hval c ha.2]
theorem dtext_drop (n : Nat) : (dtext n).drop 2 = hexs 16 n := by
  unfold dtext
  generalize hexs 16 n = l
  rfl
theorem dtext_take (n : Nat) : (dtext n).take 2 = [104, 58] := by
  unfold dtext
  generalize hexs 16 n = l
  rfl
theorem dtext_length (n : Nat) : (dtext n).length = 18 := by
  unfold dtext
  rw [List.length_append, hexs_length]
  rfl
/-- printing gives a text of a number -/
theorem pOk_dtext (n : Nat) : pOk (dtext n) = true :=
  pOk_good _ (dtext_length n) (dtext_take n) (by rw [dtext_drop]; exact hexs_low 16 n)
theorem presN_dtext (n : Nat) (h : n < 18446744073709551616) : presN (dtext n) = n := by
  unfold presN
  rw [if_pos (pOk_dtext n), dtext_drop, pval_hexs]
  exact Nat.mod_eq_of_lt (by simpa using h)
theorem presE_dtext (n : Nat) : presE (dtext n) = 0 := by unfold presE; rw [if_pos (pOk_dtext n)]
theorem dtext_presN (s : List UInt8) (h : pOk s = true) : dtext (presN s) = s := by
  unfold presN
  rw [if_pos h]
  unfold pOk at h
  simp only [Bool.and_eq_true, decide_eq_true_eq] at h
  unfold dtext
  rw [hexs_pval 16 (s.drop 2) (by simp; omega) h.2, ← h.1.2, List.take_append_drop]
theorem presN_lt (s : List UInt8) : presN s < 18446744073709551616 := by
  unfold presN
  split
  · rename_i h
    unfold pOk at h
    simp only [Bool.and_eq_true, decide_eq_true_eq] at h
    have := pval_lt 16 (s.drop 2) (by simp; omega) h.2
    exact Nat.lt_of_lt_of_le this (by decide)
  · decide
/-- a text is a number's just if the number's text is it -/
theorem dtext_ne (s : List UInt8) (h : pOk s = false) (n : Nat) : dtext n ≠ s := fun e => by
  rw [← e, pOk_dtext] at h
  cases h

theorem xor_left {n a b : Nat} (h : n ^^^ a = n ^^^ b) : a = b := by
  have := congrArg (n ^^^ ·) h
  simpa [← Nat.xor_assoc] using this
theorem xor_right {n m c : Nat} (h : n ^^^ c = m ^^^ c) : n = m := by
  rw [Nat.xor_comm n, Nat.xor_comm m] at h
  exact xor_left h
theorem prime_inj (x y : Nat) (hx : x < 18446744073709551616) (hy : y < 18446744073709551616) (h : (x * 1099511628211) % 18446744073709551616 = (y * 1099511628211) % 18446744073709551616) : x = y := by
  have hi : (1099511628211 * 14886173955864302971) % 18446744073709551616 = 1 := by decide
  have h2 : ((x * 1099511628211) * 14886173955864302971) % 18446744073709551616 = ((y * 1099511628211) * 14886173955864302971) % 18446744073709551616 := by
    rw [Nat.mul_mod, h, ← Nat.mul_mod]
  rw [Nat.mul_assoc, Nat.mul_assoc, Nat.mul_mod x, Nat.mul_mod y, hi, Nat.mul_one, Nat.mul_one, Nat.mod_mod, Nat.mod_mod, Nat.mod_eq_of_lt hx, Nat.mod_eq_of_lt hy] at h2
  exact h2
theorem xor_lt64 (n : Nat) (c : UInt8) (h : n < 18446744073709551616) : n ^^^ c.toNat < 18446744073709551616 := by
  have hc := c.toNat_lt
  exact Nat.xor_lt_two_pow (n := 64) h (by omega)
theorem fstep_inj (n m : Nat) (a b : UInt8) (hn : n < 18446744073709551616) (hm : m < 18446744073709551616) (h : fstep n a = fstep m b) : n ^^^ a.toNat = m ^^^ b.toNat :=
  prime_inj _ _ (xor_lt64 n a hn) (xor_lt64 m b hm) h
theorem fnv_inj (t : List UInt8) : ∀ (n m : Nat), n < 18446744073709551616 → m < 18446744073709551616 → fnv n t = fnv m t → n = m := by
  induction t with
  | nil => intro n m _ _ h; exact h
  | cons c t ih =>
    intro n m hn hm h
    have h1 := ih _ _ (fstep_lt n c) (fstep_lt m c) h
    have h2 := fstep_inj n m c c hn hm h1
    exact xor_right h2
/-- texts that differ in one byte have different sums -/
theorem fnv_one (s t : List UInt8) (a b : UInt8) : fnv fstart (s ++ [a] ++ t) = fnv fstart (s ++ [b] ++ t) ↔ a = b := by
  constructor
  · intro h
    rw [fnv_append, fnv_append fstart (s ++ [b])] at h
    have h1 := fnv_inj t _ _ (fnv_lt _ _ (by decide)) (fnv_lt _ _ (by decide)) h
    rw [fnv_snoc, fnv_snoc] at h1
    have hlt := fnv_lt fstart s (by decide)
    have h2 := fstep_inj _ _ a b hlt hlt h1
    have h3 : a.toNat = b.toNat := xor_left h2
    exact UInt8.toNat_inj.1 h3
  · rintro rfl; rfl
end Go.Proofs.YtabmidnamaaklaaGreatDoor
