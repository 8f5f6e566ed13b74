/- Walks: digest.sum, digest.Sum, digest.Text and their references. -/
import Derived.Test.YtabmidnamaaklaaGreatDoorProg
import Derived.Test.YtabmidnamaaklaaGreatDoorPA
import Derived.Test.YtabmidnamaaklaaGreatDoorMem
import Derived.WalkKit
import Derived.Lib.Hide
import Derived.WalkSpells
import Derived.WalkLawsBesides
namespace Go.Proofs.YtabmidnamaaklaaGreatDoor
open Go.RowKit

theorem fstep_val (m : Nat) (c : UInt8) (hm : m < 18446744073709551616) :
    IntKind.u64.wrap (bits BinOp.xor IntKind.u64 (m : Int) (IntKind.u64.wrap (c.toNat : Int)) * 1099511628211) = (fstep m c : Int) := by
  have hc : c.toNat < 256 := c.toNat_lt
  have e1 : IntKind.u64.wrap (c.toNat : Int) = (c.toNat : Int) := by simp [IntKind.wrap, IntKind.bits, IntKind.signed]; omega
  rw [e1, u64_xor_nat m c.toNat hm (by omega)]
  simp only [IntKind.wrap, IntKind.bits, IntKind.signed, fstep]
  simp

set_option maxHeartbeats 400000 in
theorem cont_any (n : Nat) (l : List UInt8) (w : World) (hs : l.length ≤ maxLen) (h1 : n < 18446744073709551616) :
    Calls Tryz.prog 27 #[.int .u64 n, .string ⟨l.toArray⟩] w fun e w' => e = .returned (.int .u64 (fnv n l)) ∧ w = w' := by
  unfold maxLen at hs
  go_enter Tryz.func27, Tryz.ntmps27
  go_wp2
  go_loop [0, 5] (fun u i => ∃ k m : Nat, k ≤ l.length ∧ m < 18446744073709551616 ∧ m = fnv n (l.take k) ∧ i = .int .i64 k ∧ u = .int .u64 m) (fun _ i => l.length - (intOf i).toNat)
  case atStart => exact ⟨0, n, Nat.zero_le _, h1, rfl, rfl, rfl⟩
  case round =>
    obtain ⟨k, m, hk, hm, hf, rfl, rfl⟩ := hrel
    have HF := Lib.hid hf; clear hf
    by_cases hlt : k < l.length
    · go_wp2
      go_round
      case rel => exact ⟨k + 1, fstep m l[k], by omega, fstep_lt _ _, by rw [take_snoc l k hlt, fnv_snoc, ← HF.out], by go_num, by rw [fstep_val m _ hm]; rfl⟩
      case measure => simp [intOf]; omega
    · go_wp2
      go_ret
      exact ⟨by show Ending.returned (.int .u64 m) = _; rw [HF.out, List.take_of_length_le (by omega)], rfl⟩

theorem refSum_any (l : List UInt8) (w : World) (hs : l.length ≤ maxLen) :
    Calls Tryz.prog 13 #[.string ⟨l.toArray⟩] w fun e w' => e = .returned (.int .u64 (fnv fstart l)) ∧ w = w' := by
  have hc := Lib.hid (cont_any fstart l w hs (by decide))
  go_enter Tryz.func13, Tryz.ntmps13
  go_wp2_with (go_at_call 27; refine hc.out.mono ?_; rintro e w' ⟨rfl, rfl⟩)
  go_ret
  exact ⟨rfl, rfl⟩

/-- the sum of several texts -/
def fnvs (n : Nat) (l : List (List UInt8)) : Nat := l.foldl fnv n
theorem fnvs_lt (n : Nat) (l : List (List UInt8)) (h : n < 18446744073709551616) : fnvs n l < 18446744073709551616 := by
  unfold fnvs
  induction l generalizing n with
  | nil => simpa only [List.foldl_nil] using h
  | cons c l ih => rw [List.foldl_cons]; exact ih _ (fnv_lt _ _ h)
theorem fnvs_snoc (n : Nat) (l : List (List UInt8)) (s : List UInt8) : fnvs n (l ++ [s]) = fnv (fnvs n l) s := by unfold fnvs; rw [List.foldl_append, List.foldl_cons, List.foldl_nil]
theorem take_snoc' {α : Type} (l : List α) (k : Nat) (h : k < l.length) : l.take (k + 1) = l.take k ++ [l[k]] := by
  rw [List.take_succ_eq_append_getElem h]

set_option maxHeartbeats 400000 in
theorem sum_any (n : Nat) (A : Option Addr) (c : Nat) (l : List (List UInt8)) (w : World) (hn : l.length ≤ maxLen) (h1 : n < 18446744073709551616) (hA : Sl w w.heap.size 1 encS A l) (hl : ∀ s ∈ l, s.length ≤ maxLen) :
    Calls Tryz.prog 26 #[.int .u64 n, .slice A l.length c] w fun e w' => e = .returned (.int .u64 (fnvs n l)) ∧ w = w' := by
  unfold maxLen at hn
  go_enter Tryz.func26, Tryz.ntmps26
  go_wp2
  go_loop [0, 10] (fun u i => ∃ k m : Nat, k ≤ l.length ∧ m < 18446744073709551616 ∧ m = fnvs n (l.take k) ∧ i = .int .i64 k ∧ u = .int .u64 m) (fun _ i => l.length - (intOf i).toNat)
  case atStart => exact ⟨0, n, Nat.zero_le _, h1, rfl, rfl, rfl⟩
  case round =>
    obtain ⟨k, m, hk, hm, hf, rfl, rfl⟩ := hrel
    have HF := Lib.hid hf; clear hf
    by_cases hlt : k < l.length
    · obtain ⟨b, off, rfl, hb, hc⟩ := hA.str hlt
      have hsl := hl l[k] (List.getElem_mem hlt)
      obtain ⟨s, hs⟩ : ∃ s, s = l[k] := ⟨_, rfl⟩
      rw [← hs] at hc hsl
      have HS := Lib.hid hs; clear hs
      unfold maxLen at hsl
      go_wp2
      go_loop [0, 16] (fun u i => ∃ k2 m2 : Nat, k2 ≤ s.length ∧ m2 < 18446744073709551616 ∧ m2 = fnv m (s.take k2) ∧ i = .int .i64 k2 ∧ u = .int .u64 m2) (fun _ i => s.length - (intOf i).toNat)
      case atStart => exact ⟨0, m, Nat.zero_le _, hm, rfl, rfl, rfl⟩
      case round =>
        obtain ⟨k2, m2, hk2, hm2, hf2, rfl, rfl⟩ := hrel
        have HF2 := Lib.hid hf2; clear hf2
        by_cases hlt2 : k2 < s.length
        · go_wp2
          go_round
          case rel => exact ⟨k2 + 1, fstep m2 s[k2], by omega, fstep_lt _ _, by rw [take_snoc s k2 hlt2, fnv_snoc, ← HF2.out], by go_num, by rw [fstep_val m2 _ hm2]; rfl⟩
          case measure => simp [intOf]; omega
        · go_wp2
          go_round
          case rel => exact ⟨k + 1, m2, by omega, hm2, by rw [take_snoc' l k hlt, fnvs_snoc, ← HF.out, HF2.out, List.take_of_length_le (by omega), HS.out], by go_num, rfl⟩
          case measure => simp [intOf]; omega
    · go_wp2
      go_ret
      exact ⟨by show Ending.returned (.int .u64 m) = _; rw [HF.out, List.take_of_length_le (by omega)], rfl⟩
end Go.Proofs.YtabmidnamaaklaaGreatDoor
