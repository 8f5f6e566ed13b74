/- Walk: a line with spaces around its words, and a comment (law44.loose). -/
import Derived.Test.YtbbdoibmcmkmnaaGreatDoorPS
import Derived.Test.YtbbdoibmcmkmnaaGreatDoorWF
namespace Go.Proofs.YtbbdoibmcmkmnaaGreatDoor
open Go.RowKit

set_option maxRecDepth 100000 in
set_option maxHeartbeats 4000000 in
theorem loose_any (s note : List UInt8) (n : Nat) (w : World) (hn : n < 256) (hs : s.length ≤ 100000) (ht : note.length ≤ 100000) :
    Calls Tryz.prog 25 #[.string ⟨s.toArray⟩, .string ⟨note.toArray⟩, .int .u8 n] w fun e w' => e = .returned (.string ⟨(looseT s note n).toArray⟩) ∧ w' = w := by
  have hL := Lib.hid (show looseT s note n = loN (decide (3 < n % 8)) note (loP (decide (1 < n % 4)) (looseB (decide (n % 2 = 1)) s)) from rfl)
  generalize looseT s note n = R at hL ⊢
  obtain ⟨r2, h2⟩ : ∃ r, r = n % 2 := ⟨_, rfl⟩
  obtain ⟨r4, h4⟩ : ∃ r, r = n % 4 := ⟨_, rfl⟩
  obtain ⟨r8, h8⟩ : ∃ r, r = n % 8 := ⟨_, rfl⟩
  have m2 : (n : Int).tmod 2 = (r2 : Int) := by rw [Int.tmod_eq_emod_of_nonneg (by omega), h2]; omega
  have m4 : (n : Int).tmod 4 = (r4 : Int) := by rw [Int.tmod_eq_emod_of_nonneg (by omega), h4]; omega
  have m8 : (n : Int).tmod 8 = (r8 : Int) := by rw [Int.tmod_eq_emod_of_nonneg (by omega), h8]; omega
  have hr2 : r2 < 2 := by omega
  rw [← h2, ← h4, ← h8] at hL
  obtain ⟨o, ho⟩ : ∃ o, o = decide (r2 = 1) := ⟨_, rfl⟩
  rw [← ho] at hL
  have HO := Lib.hid ho
  clear h2 h4 h8 ho
  go_enter Tryz.func25, Tryz.ntmps25
  go_wp2
  go_loop [7, 8] (fun v i => ∃ k : Nat, k ≤ s.length ∧ i = .int .i64 (k : Nat) ∧ v = .string ⟨(looseB o (s.take k)).toArray⟩) (fun _ i => s.length - (intOf i).toNat)
  case atStart => exact ⟨0, Nat.zero_le _, rfl, rfl⟩
  case round =>
    obtain ⟨k, hk, rfl, rfl⟩ := hrel
    have hbl := looseB_len o (s.take k)
    have htk : (s.take k).length ≤ s.length := by simp; omega
    by_cases hlt : k < s.length
    · have hlt' : (k : Int) < (s.length : Int) := by omega
      have HT := Lib.hid (looseB_take o s k hlt)
      have hg : (({ data := s.toArray } : ByteArray)[k]'hlt) = s[k] := rfl
      have hx : (({ data := s.toArray } : ByteArray).extract k (k + 1)) = { data := ([s[k]] : List UInt8).toArray } := by
        rw [ByteArray.extract_mk]
        congr 1
        rw [show k + 1 - k = 1 by omega, List.drop_eq_getElem_cons hlt]
        rfl
      have HG := Lib.hid hg
      have HX := Lib.hid hx
      clear hg hx
      have hqs : IntKind.i64.wrap ((k : Int) + 1) = (k : Int) + 1 := by simp [IntKind.wrap, IntKind.bits, IntKind.signed]; omega
      have k1 : (k : Int) + 1 ≤ (s.length : Int) := by omega
      have k2 : 0 ≤ (k : Int) + 1 := by omega
      have k3 : (k : Int) ≤ (k : Int) + 1 := by omega
      generalize looseB o (s.take k) = acc at hbl HT
      have n1 : ¬ 9223372036854775807 < acc.length + (min (k + 1) s.length - k) := by omega
      have n2 : ¬ 9223372036854775807 < acc.length + 2 := by omega
      have n3 : ¬ 9223372036854775807 < acc.length + 2 + (min (k + 1) s.length - k) := by omega
      clear htk hbl
      cases h32 : (((({ data := s.toArray } : ByteArray)[k]'hlt).toNat : Int) == 32)
      · have hne := Lib.hid (show ¬ (o = true ∧ s[k] = 32) from fun h => by
          rw [HG.out, h.2] at h32
          revert h32
          decide)
        go_wp2
        go_round
        case rel => exact ⟨k + 1, by omega, by go_num, by rw [HX.out, HT.out, if_neg hne.out, ByteArray.mk_append_mk]⟩
        case measure => simp [intOf]; omega
      · have heq := Lib.hid (show s[k] = 32 from UInt8.toNat_inj.1 (by rw [← HG.out]; have := beq_iff_eq.1 h32; simp only [UInt8.reduceToNat]; omega))
        rcases (show r2 = 0 ∨ r2 = 1 by omega) with rfl | rfl
        · have hoo : o = false := HO.out
          subst hoo
          go_wp2
          go_round
          case rel => exact ⟨k + 1, by omega, by go_num, by rw [HX.out, HT.out, if_neg (by simp), ByteArray.mk_append_mk]⟩
          case measure => simp [intOf]; omega
        · have hoo : o = true := HO.out
          subst hoo
          go_wp2
          go_round
          case rel => exact ⟨k + 1, by omega, by go_num, by
            rw [HX.out, HT.out, if_pos ⟨rfl, heq.out⟩, show ({ data := #[32, 32] } : ByteArray) = { data := ([32, 32] : List UInt8).toArray } from rfl, ByteArray.mk_append_mk, ByteArray.mk_append_mk]
            simp⟩
          case measure => simp [intOf]; omega
    · obtain rfl : k = s.length := by omega
      rw [List.take_of_length_le (Nat.le_refl _)] at hbl ⊢
      generalize looseB o s = acc at hL hbl ⊢
      have n1 : ¬ 9223372036854775807 < 1 + acc.length := by omega
      have n2 : ¬ 9223372036854775807 < 1 + acc.length + 1 := by omega
      have n3 : ¬ 9223372036854775807 < 1 + acc.length + 1 + 2 := by omega
      have n4 : ¬ 9223372036854775807 < 1 + acc.length + 1 + 2 + note.length := by omega
      have n5 : ¬ 9223372036854775807 < acc.length + 2 := by omega
      have n6 : ¬ 9223372036854775807 < acc.length + 2 + note.length := by omega
      clear htk hbl hr2 m2
      by_cases q : 1 < r4
      · have q' : (1 : Int) < (r4 : Int) := by omega
        rw [decide_eq_true q] at hL
        by_cases r : 3 < r8
        · have r' : (3 : Int) < (r8 : Int) := by omega
          rw [decide_eq_true r] at hL
          clear q r
          go_wp2
          go_ret
          exact ⟨by rw [hL.out, show ({ data := #[32] } : ByteArray) = { data := ([32] : List UInt8).toArray } from rfl, show ({ data := #[47, 47] } : ByteArray) = { data := ([47, 47] : List UInt8).toArray } from rfl]; simp only [ByteArray.mk_append_mk]; rfl, rfl⟩
        · have r' : ¬ (3 : Int) < (r8 : Int) := by omega
          rw [decide_eq_false r] at hL
          clear q r
          go_wp2
          go_ret
          exact ⟨by rw [hL.out, show ({ data := #[32] } : ByteArray) = { data := ([32] : List UInt8).toArray } from rfl]; simp only [ByteArray.mk_append_mk]; rfl, rfl⟩
      · have q' : ¬ (1 : Int) < (r4 : Int) := by omega
        rw [decide_eq_false q] at hL
        by_cases r : 3 < r8
        · have r' : (3 : Int) < (r8 : Int) := by omega
          rw [decide_eq_true r] at hL
          clear q r
          go_wp2
          go_ret
          exact ⟨by rw [hL.out, show ({ data := #[47, 47] } : ByteArray) = { data := ([47, 47] : List UInt8).toArray } from rfl]; simp only [ByteArray.mk_append_mk]; rfl, rfl⟩
        · have r' : ¬ (3 : Int) < (r8 : Int) := by omega
          rw [decide_eq_false r] at hL
          clear q r
          go_wp2
          go_ret
          exact ⟨by rw [hL.out]; rfl, rfl⟩
end Go.Proofs.YtbbdoibmcmkmnaaGreatDoor
