/- What the claim needs of: WE PD. -/
import Derived.Test.YthcgihgajdjfoaaGreatDoorV3
import Derived.Lib.SplitLaws
import Derived.Lib.CountLaws
import Derived.Lib.IndexBytes
import Derived.Lib.Split
import Derived.Laws.Strings2
namespace Go.Proofs.YthcgihgajdjfoaaGreatDoor
open Go.RowKit
set_option maxRecDepth 100000 in
set_option maxHeartbeats 4000000 in
theorem refpart_any (l : List UInt8) (w : World) (hs : l.length ≤ maxLen) :
  Calls Tryz.prog 133 #[.string ⟨l.toArray⟩] w fun e w' => e = .returned (.bool (partOk l)) ∧ w = w' := by
 unfold maxLen at hs
 go_enter Tryz.func133, Tryz.ntmps133
 go_wp2
 go_loop [3] (fun i => ∃ k : Nat, k ≤ l.length ∧ Hid (partK l k = true) ∧ i = .int .i64 k) (fun i => l.length - (intOf i).toNat)
 case atStart => exact ⟨0, Nat.zero_le _, rfl, rfl⟩
 case round =>
  obtain ⟨k, hk, HF, rfl⟩ := hrel
  by_cases hlt : k < l.length
  ·have hc : (({ data := l.toArray } : ByteArray)[k].toNat : Int) < 256 := by have := (({ data := l.toArray } : ByteArray)[k]).toNat_lt; omega
   have hg : l.getD k 0 = (({ data := l.toArray } : ByteArray)[k]) := by simp [hlt]; rfl
   have HG := Lib.hid hg; clear hg
   have hout : ∀ (b : Bool), pok k (({ data := l.toArray } : ByteArray)[k]) = b → pok k (l.getD k 0) = b := fun b h => by rw [HG.out]; exact h
   have HO := Lib.hid hout; clear hout
   by_cases hlow : (97 : Int) ≤ (({ data := l.toArray } : ByteArray)[k].toNat : Int) ∧ (({ data := l.toArray } : ByteArray)[k].toNat : Int) ≤ 122
   ·obtain ⟨h1, h2⟩ := hlow
    go_wp2
    go_round
    case rel => exact ⟨k + 1, by omega, (by rw [partK_succ, HF.out, HO.out _ (pok_low h1 h2)]; rfl : partK l (k + 1) = true), by go_num⟩
    case measure => simp [intOf]; omega
   ·have hlow' : (({ data := l.toArray } : ByteArray)[k].toNat : Int) < 97 ∨ 122 < (({ data := l.toArray } : ByteArray)[k].toNat : Int) := by omega
    clear hlow
    rcases (show (({ data := l.toArray } : ByteArray)[k].toNat : Int) < 45 ∨ (({ data := l.toArray } : ByteArray)[k].toNat : Int) = 45 ∨ (({ data := l.toArray } : ByteArray)[k].toNat : Int) = 46 ∨ (({ data := l.toArray } : ByteArray)[k].toNat : Int) = 47 ∨ (48 ≤ (({ data := l.toArray } : ByteArray)[k].toNat : Int) ∧ (({ data := l.toArray } : ByteArray)[k].toNat : Int) ≤ 57) ∨ (58 ≤ (({ data := l.toArray } : ByteArray)[k].toNat : Int) ∧ (({ data := l.toArray } : ByteArray)[k].toNat : Int) ≤ 94) ∨ (({ data := l.toArray } : ByteArray)[k].toNat : Int) = 95 ∨ (({ data := l.toArray } : ByteArray)[k].toNat : Int) = 96 ∨ 122 < (({ data := l.toArray } : ByteArray)[k].toNat : Int) by omega) with h1 | h1 | h1 | h1 | h1 | h1 | h1 | h1 | h1
    ·have hp := Lib.hid (HO.out _ (pok_bad (i := k) (.inl h1)))
     clear hlow'
     have n45 : ((({ data := l.toArray } : ByteArray)[k].toNat : Int) != 45) = true := by rw [bne_iff_ne]; omega
     have e45 : ((({ data := l.toArray } : ByteArray)[k].toNat : Int) == 45) = false := beq_eq_false_iff_ne.2 (by omega)
     have n46 : ((({ data := l.toArray } : ByteArray)[k].toNat : Int) != 46) = true := by rw [bne_iff_ne]; omega
     have e46 : ((({ data := l.toArray } : ByteArray)[k].toNat : Int) == 46) = false := beq_eq_false_iff_ne.2 (by omega)
     have n95 : ((({ data := l.toArray } : ByteArray)[k].toNat : Int) != 95) = true := by rw [bne_iff_ne]; omega
     have e95 : ((({ data := l.toArray } : ByteArray)[k].toNat : Int) == 95) = false := beq_eq_false_iff_ne.2 (by omega)
     cases hk0 : ((k : Int) == 0)
     ·skip
      go_wp2
      all_goals
       go_ret
       exact ⟨ret_bool (by rw [partOk, partK_false l k _ hlt hp.out]; rfl), rfl⟩
     ·skip
      go_wp2
      all_goals
       go_ret
       exact ⟨ret_bool (by rw [partOk, partK_false l k _ hlt hp.out]; rfl), rfl⟩
    ·cases hk0 : ((k : Int) == 0)
     ·have hp := Lib.hid (HO.out _ (pok_oth (i := k) (by simp at hk0; omega) (.inr (.inl h1))))
      clear hlow'
      go_wp2
      go_round
      case rel => exact ⟨k + 1, by omega, (by rw [partK_succ, HF.out, hp.out]; rfl : partK l (k + 1) = true), by go_num⟩
      case measure => simp [intOf]; omega
     ·have hp := Lib.hid (HO.out _ (pok_zero (i := k) (by simpa using hk0) hlow'))
      clear hlow'
      go_wp2
      all_goals
       go_ret
       exact ⟨ret_bool (by rw [partOk, partK_false l k _ hlt hp.out]; rfl), rfl⟩
    ·cases hk0 : ((k : Int) == 0)
     ·have hp := Lib.hid (HO.out _ (pok_oth (i := k) (by simp at hk0; omega) (.inr (.inr (.inl h1)))))
      clear hlow'
      go_wp2
      go_round
      case rel => exact ⟨k + 1, by omega, (by rw [partK_succ, HF.out, hp.out]; rfl : partK l (k + 1) = true), by go_num⟩
      case measure => simp [intOf]; omega
     ·have hp := Lib.hid (HO.out _ (pok_zero (i := k) (by simpa using hk0) hlow'))
      clear hlow'
      go_wp2
      all_goals
       go_ret
       exact ⟨ret_bool (by rw [partOk, partK_false l k _ hlt hp.out]; rfl), rfl⟩
    ·have hp := Lib.hid (HO.out _ (pok_bad (i := k) (.inr (.inl h1))))
     clear hlow'
     cases hk0 : ((k : Int) == 0)
     ·skip
      go_wp2
      all_goals
       go_ret
       exact ⟨ret_bool (by rw [partOk, partK_false l k _ hlt hp.out]; rfl), rfl⟩
     ·skip
      go_wp2
      all_goals
       go_ret
       exact ⟨ret_bool (by rw [partOk, partK_false l k _ hlt hp.out]; rfl), rfl⟩
    ·cases hk0 : ((k : Int) == 0)
     ·have hp := Lib.hid (HO.out _ (pok_oth (i := k) (by simp at hk0; omega) (.inl h1)))
      clear hlow'
      obtain ⟨h1, h2⟩ := h1
      go_wp2
      go_round
      case rel => exact ⟨k + 1, by omega, (by rw [partK_succ, HF.out, hp.out]; rfl : partK l (k + 1) = true), by go_num⟩
      case measure => simp [intOf]; omega
     ·have hp := Lib.hid (HO.out _ (pok_zero (i := k) (by simpa using hk0) hlow'))
      clear hlow'
      obtain ⟨h1, h2⟩ := h1
      go_wp2
      all_goals
       go_ret
       exact ⟨ret_bool (by rw [partOk, partK_false l k _ hlt hp.out]; rfl), rfl⟩
    ·have hp := Lib.hid (HO.out _ (pok_bad (i := k) (.inr (.inr (.inl h1)))))
     clear hlow'
     have n45 : ((({ data := l.toArray } : ByteArray)[k].toNat : Int) != 45) = true := by rw [bne_iff_ne]; omega
     have e45 : ((({ data := l.toArray } : ByteArray)[k].toNat : Int) == 45) = false := beq_eq_false_iff_ne.2 (by omega)
     have n46 : ((({ data := l.toArray } : ByteArray)[k].toNat : Int) != 46) = true := by rw [bne_iff_ne]; omega
     have e46 : ((({ data := l.toArray } : ByteArray)[k].toNat : Int) == 46) = false := beq_eq_false_iff_ne.2 (by omega)
     have n95 : ((({ data := l.toArray } : ByteArray)[k].toNat : Int) != 95) = true := by rw [bne_iff_ne]; omega
     have e95 : ((({ data := l.toArray } : ByteArray)[k].toNat : Int) == 95) = false := beq_eq_false_iff_ne.2 (by omega)
     cases hk0 : ((k : Int) == 0)
     ·skip
      obtain ⟨h1, h2⟩ := h1
      go_wp2
      all_goals
       go_ret
       exact ⟨ret_bool (by rw [partOk, partK_false l k _ hlt hp.out]; rfl), rfl⟩
     ·skip
      obtain ⟨h1, h2⟩ := h1
      go_wp2
      all_goals
       go_ret
       exact ⟨ret_bool (by rw [partOk, partK_false l k _ hlt hp.out]; rfl), rfl⟩
    ·cases hk0 : ((k : Int) == 0)
     ·have hp := Lib.hid (HO.out _ (pok_oth (i := k) (by simp at hk0; omega) (.inr (.inr (.inr h1)))))
      clear hlow'
      go_wp2
      go_round
      case rel => exact ⟨k + 1, by omega, (by rw [partK_succ, HF.out, hp.out]; rfl : partK l (k + 1) = true), by go_num⟩
      case measure => simp [intOf]; omega
     ·have hp := Lib.hid (HO.out _ (pok_zero (i := k) (by simpa using hk0) hlow'))
      clear hlow'
      go_wp2
      all_goals
       go_ret
       exact ⟨ret_bool (by rw [partOk, partK_false l k _ hlt hp.out]; rfl), rfl⟩
    ·have hp := Lib.hid (HO.out _ (pok_bad (i := k) (.inr (.inr (.inr (.inl h1))))))
     clear hlow'
     cases hk0 : ((k : Int) == 0)
     ·skip
      go_wp2
      all_goals
       go_ret
       exact ⟨ret_bool (by rw [partOk, partK_false l k _ hlt hp.out]; rfl), rfl⟩
     ·skip
      go_wp2
      all_goals
       go_ret
       exact ⟨ret_bool (by rw [partOk, partK_false l k _ hlt hp.out]; rfl), rfl⟩
    ·have hp := Lib.hid (HO.out _ (pok_bad (i := k) (.inr (.inr (.inr (.inr h1))))))
     clear hlow'
     have n45 : ((({ data := l.toArray } : ByteArray)[k].toNat : Int) != 45) = true := by rw [bne_iff_ne]; omega
     have e45 : ((({ data := l.toArray } : ByteArray)[k].toNat : Int) == 45) = false := beq_eq_false_iff_ne.2 (by omega)
     have n46 : ((({ data := l.toArray } : ByteArray)[k].toNat : Int) != 46) = true := by rw [bne_iff_ne]; omega
     have e46 : ((({ data := l.toArray } : ByteArray)[k].toNat : Int) == 46) = false := beq_eq_false_iff_ne.2 (by omega)
     have n95 : ((({ data := l.toArray } : ByteArray)[k].toNat : Int) != 95) = true := by rw [bne_iff_ne]; omega
     have e95 : ((({ data := l.toArray } : ByteArray)[k].toNat : Int) == 95) = false := beq_eq_false_iff_ne.2 (by omega)
     have h3 : ¬ (({ data := l.toArray } : ByteArray)[k].toNat : Int) ≤ 122 := by omega
     have h4 : ¬ (({ data := l.toArray } : ByteArray)[k].toNat : Int) ≤ 57 := by omega
     cases hk0 : ((k : Int) == 0)
     ·skip
      go_wp2
      all_goals
       go_ret
       exact ⟨ret_bool (by rw [partOk, partK_false l k _ hlt hp.out]; rfl), rfl⟩
     ·skip
      go_wp2
      all_goals
       go_ret
       exact ⟨ret_bool (by rw [partOk, partK_false l k _ hlt hp.out]; rfl), rfl⟩
  ·obtain rfl : k = l.length := by omega
   cases l with
   | nil =>
     go_wp2
     go_ret
     exact ⟨ret_bool (by simp [partOk]), rfl⟩
   | cons c l =>
     have h0' : (0 : Nat) < (c :: l).length := by simp
     have h0 : (0 : Int) < ((c :: l).length : Int) := by omega
     go_wp2
     go_ret
     exact ⟨ret_bool (by rw [partOk, HF.out]; simp), rfl⟩
set_option maxRecDepth 100000 in
set_option maxHeartbeats 4000000 in
theorem part_any (l : List UInt8) (w : World) (hs : l.length ≤ maxLen) :
  Calls Tryz.prog 128 #[.string ⟨l.toArray⟩] w fun e w' => e = .returned (.bool (partOk l)) ∧ w = w' := by
 unfold maxLen at hs
 go_enter Tryz.func128, Tryz.ntmps128
 go_wp2
 go_loop [8] (fun i => ∃ k : Nat, k ≤ l.length ∧ Hid (partK l k = true) ∧ i = .int .i64 k) (fun i => l.length - (intOf i).toNat)
 case atStart => exact ⟨0, Nat.zero_le _, rfl, rfl⟩
 case round =>
  obtain ⟨k, hk, HF, rfl⟩ := hrel
  by_cases hlt : k < l.length
  ·have hc : (({ data := l.toArray } : ByteArray)[k].toNat : Int) < 256 := by have := (({ data := l.toArray } : ByteArray)[k]).toNat_lt; omega
   have hg : l.getD k 0 = (({ data := l.toArray } : ByteArray)[k]) := by simp [hlt]; rfl
   have HG := Lib.hid hg; clear hg
   have hout : ∀ (b : Bool), pok k (({ data := l.toArray } : ByteArray)[k]) = b → pok k (l.getD k 0) = b := fun b h => by rw [HG.out]; exact h
   have HO := Lib.hid hout; clear hout
   by_cases hlow : (97 : Int) ≤ (({ data := l.toArray } : ByteArray)[k].toNat : Int) ∧ (({ data := l.toArray } : ByteArray)[k].toNat : Int) ≤ 122
   ·obtain ⟨h1, h2⟩ := hlow
    go_wp2
    go_round
    case rel => exact ⟨k + 1, by omega, (by rw [partK_succ, HF.out, HO.out _ (pok_low h1 h2)]; rfl : partK l (k + 1) = true), by go_num⟩
    case measure => simp [intOf]; omega
   ·have hlow' : (({ data := l.toArray } : ByteArray)[k].toNat : Int) < 97 ∨ 122 < (({ data := l.toArray } : ByteArray)[k].toNat : Int) := by omega
    clear hlow
    rcases (show (({ data := l.toArray } : ByteArray)[k].toNat : Int) < 45 ∨ (({ data := l.toArray } : ByteArray)[k].toNat : Int) = 45 ∨ (({ data := l.toArray } : ByteArray)[k].toNat : Int) = 46 ∨ (({ data := l.toArray } : ByteArray)[k].toNat : Int) = 47 ∨ (48 ≤ (({ data := l.toArray } : ByteArray)[k].toNat : Int) ∧ (({ data := l.toArray } : ByteArray)[k].toNat : Int) ≤ 57) ∨ (58 ≤ (({ data := l.toArray } : ByteArray)[k].toNat : Int) ∧ (({ data := l.toArray } : ByteArray)[k].toNat : Int) ≤ 94) ∨ (({ data := l.toArray } : ByteArray)[k].toNat : Int) = 95 ∨ (({ data := l.toArray } : ByteArray)[k].toNat : Int) = 96 ∨ 122 < (({ data := l.toArray } : ByteArray)[k].toNat : Int) by omega) with h1 | h1 | h1 | h1 | h1 | h1 | h1 | h1 | h1
    ·have hp := Lib.hid (HO.out _ (pok_bad (i := k) (.inl h1)))
     clear hlow'
     have n45 : ((({ data := l.toArray } : ByteArray)[k].toNat : Int) != 45) = true := by rw [bne_iff_ne]; omega
     have e45 : ((({ data := l.toArray } : ByteArray)[k].toNat : Int) == 45) = false := beq_eq_false_iff_ne.2 (by omega)
     have n46 : ((({ data := l.toArray } : ByteArray)[k].toNat : Int) != 46) = true := by rw [bne_iff_ne]; omega
     have e46 : ((({ data := l.toArray } : ByteArray)[k].toNat : Int) == 46) = false := beq_eq_false_iff_ne.2 (by omega)
     have n95 : ((({ data := l.toArray } : ByteArray)[k].toNat : Int) != 95) = true := by rw [bne_iff_ne]; omega
     have e95 : ((({ data := l.toArray } : ByteArray)[k].toNat : Int) == 95) = false := beq_eq_false_iff_ne.2 (by omega)
     cases hk0 : ((k : Int) == 0)
     ·skip
      go_wp2
      all_goals
       go_ret
       exact ⟨ret_bool (by rw [partOk, partK_false l k _ hlt hp.out]; rfl), rfl⟩
     ·skip
      go_wp2
      all_goals
       go_ret
       exact ⟨ret_bool (by rw [partOk, partK_false l k _ hlt hp.out]; rfl), rfl⟩
    ·cases hk0 : ((k : Int) == 0)
     ·have hp := Lib.hid (HO.out _ (pok_oth (i := k) (by simp at hk0; omega) (.inr (.inl h1))))
      clear hlow'
      go_wp2
      go_round
      case rel => exact ⟨k + 1, by omega, (by rw [partK_succ, HF.out, hp.out]; rfl : partK l (k + 1) = true), by go_num⟩
      case measure => simp [intOf]; omega
     ·have hp := Lib.hid (HO.out _ (pok_zero (i := k) (by simpa using hk0) hlow'))
      clear hlow'
      go_wp2
      all_goals
       go_ret
       exact ⟨ret_bool (by rw [partOk, partK_false l k _ hlt hp.out]; rfl), rfl⟩
    ·cases hk0 : ((k : Int) == 0)
     ·have hp := Lib.hid (HO.out _ (pok_oth (i := k) (by simp at hk0; omega) (.inr (.inr (.inl h1)))))
      clear hlow'
      go_wp2
      go_round
      case rel => exact ⟨k + 1, by omega, (by rw [partK_succ, HF.out, hp.out]; rfl : partK l (k + 1) = true), by go_num⟩
      case measure => simp [intOf]; omega
     ·have hp := Lib.hid (HO.out _ (pok_zero (i := k) (by simpa using hk0) hlow'))
      clear hlow'
      go_wp2
      all_goals
       go_ret
       exact ⟨ret_bool (by rw [partOk, partK_false l k _ hlt hp.out]; rfl), rfl⟩
    ·have hp := Lib.hid (HO.out _ (pok_bad (i := k) (.inr (.inl h1))))
     clear hlow'
     cases hk0 : ((k : Int) == 0)
     ·skip
      go_wp2
      all_goals
       go_ret
       exact ⟨ret_bool (by rw [partOk, partK_false l k _ hlt hp.out]; rfl), rfl⟩
     ·skip
      go_wp2
      all_goals
       go_ret
       exact ⟨ret_bool (by rw [partOk, partK_false l k _ hlt hp.out]; rfl), rfl⟩
    ·cases hk0 : ((k : Int) == 0)
     ·have hp := Lib.hid (HO.out _ (pok_oth (i := k) (by simp at hk0; omega) (.inl h1)))
      clear hlow'
      obtain ⟨h1, h2⟩ := h1
      go_wp2
      go_round
      case rel => exact ⟨k + 1, by omega, (by rw [partK_succ, HF.out, hp.out]; rfl : partK l (k + 1) = true), by go_num⟩
      case measure => simp [intOf]; omega
     ·have hp := Lib.hid (HO.out _ (pok_zero (i := k) (by simpa using hk0) hlow'))
      clear hlow'
      obtain ⟨h1, h2⟩ := h1
      go_wp2
      all_goals
       go_ret
       exact ⟨ret_bool (by rw [partOk, partK_false l k _ hlt hp.out]; rfl), rfl⟩
    ·have hp := Lib.hid (HO.out _ (pok_bad (i := k) (.inr (.inr (.inl h1)))))
     clear hlow'
     have n45 : ((({ data := l.toArray } : ByteArray)[k].toNat : Int) != 45) = true := by rw [bne_iff_ne]; omega
     have e45 : ((({ data := l.toArray } : ByteArray)[k].toNat : Int) == 45) = false := beq_eq_false_iff_ne.2 (by omega)
     have n46 : ((({ data := l.toArray } : ByteArray)[k].toNat : Int) != 46) = true := by rw [bne_iff_ne]; omega
     have e46 : ((({ data := l.toArray } : ByteArray)[k].toNat : Int) == 46) = false := beq_eq_false_iff_ne.2 (by omega)
     have n95 : ((({ data := l.toArray } : ByteArray)[k].toNat : Int) != 95) = true := by rw [bne_iff_ne]; omega
     have e95 : ((({ data := l.toArray } : ByteArray)[k].toNat : Int) == 95) = false := beq_eq_false_iff_ne.2 (by omega)
     cases hk0 : ((k : Int) == 0)
     ·skip
      obtain ⟨h1, h2⟩ := h1
      go_wp2
      all_goals
       go_ret
       exact ⟨ret_bool (by rw [partOk, partK_false l k _ hlt hp.out]; rfl), rfl⟩
     ·skip
      obtain ⟨h1, h2⟩ := h1
      go_wp2
      all_goals
       go_ret
       exact ⟨ret_bool (by rw [partOk, partK_false l k _ hlt hp.out]; rfl), rfl⟩
    ·cases hk0 : ((k : Int) == 0)
     ·have hp := Lib.hid (HO.out _ (pok_oth (i := k) (by simp at hk0; omega) (.inr (.inr (.inr h1)))))
      clear hlow'
      go_wp2
      go_round
      case rel => exact ⟨k + 1, by omega, (by rw [partK_succ, HF.out, hp.out]; rfl : partK l (k + 1) = true), by go_num⟩
      case measure => simp [intOf]; omega
     ·have hp := Lib.hid (HO.out _ (pok_zero (i := k) (by simpa using hk0) hlow'))
      clear hlow'
      go_wp2
      all_goals
       go_ret
       exact ⟨ret_bool (by rw [partOk, partK_false l k _ hlt hp.out]; rfl), rfl⟩
    ·have hp := Lib.hid (HO.out _ (pok_bad (i := k) (.inr (.inr (.inr (.inl h1))))))
     clear hlow'
     cases hk0 : ((k : Int) == 0)
     ·skip
      go_wp2
      all_goals
       go_ret
       exact ⟨ret_bool (by rw [partOk, partK_false l k _ hlt hp.out]; rfl), rfl⟩
     ·skip
      go_wp2
      all_goals
       go_ret
       exact ⟨ret_bool (by rw [partOk, partK_false l k _ hlt hp.out]; rfl), rfl⟩
    ·have hp := Lib.hid (HO.out _ (pok_bad (i := k) (.inr (.inr (.inr (.inr h1))))))
     clear hlow'
     have n45 : ((({ data := l.toArray } : ByteArray)[k].toNat : Int) != 45) = true := by rw [bne_iff_ne]; omega
     have e45 : ((({ data := l.toArray } : ByteArray)[k].toNat : Int) == 45) = false := beq_eq_false_iff_ne.2 (by omega)
     have n46 : ((({ data := l.toArray } : ByteArray)[k].toNat : Int) != 46) = true := by rw [bne_iff_ne]; omega
     have e46 : ((({ data := l.toArray } : ByteArray)[k].toNat : Int) == 46) = false := beq_eq_false_iff_ne.2 (by omega)
     have n95 : ((({ data := l.toArray } : ByteArray)[k].toNat : Int) != 95) = true := by rw [bne_iff_ne]; omega
     have e95 : ((({ data := l.toArray } : ByteArray)[k].toNat : Int) == 95) = false := beq_eq_false_iff_ne.2 (by omega)
     have h3 : ¬ (({ data := l.toArray } : ByteArray)[k].toNat : Int) ≤ 122 := by omega
     have h4 : ¬ (({ data := l.toArray } : ByteArray)[k].toNat : Int) ≤ 57 := by omega
     cases hk0 : ((k : Int) == 0)
     ·skip
      go_wp2
      all_goals
       go_ret
       exact ⟨ret_bool (by rw [partOk, partK_false l k _ hlt hp.out]; rfl), rfl⟩
     ·skip
      go_wp2
      all_goals
       go_ret
       exact ⟨ret_bool (by rw [partOk, partK_false l k _ hlt hp.out]; rfl), rfl⟩
  ·obtain rfl : k = l.length := by omega
   cases l with
   | nil =>
     go_wp2
     go_ret
     exact ⟨ret_bool (by simp [partOk]), rfl⟩
   | cons c l =>
     have h0' : (0 : Nat) < (c :: l).length := by simp
     have h0 : (0 : Int) < ((c :: l).length : Int) := by omega
     go_wp2
     go_ret
     exact ⟨ret_bool (by rw [partOk, HF.out]; simp), rfl⟩
end Go.Proofs.YthcgihgajdjfoaaGreatDoor
namespace Go.Proofs.YthcgihgajdjfoaaGreatDoor
open Go.Lib
theorem splitL_ne (b : UInt8) (l : List UInt8) : splitL b l ≠ [] := by
 cases l with
 | nil => simp [splitL]
 | cons c l =>
   unfold splitL
   split
   ·simp
   ·split <;> simp
theorem splitL_miss (b : UInt8) : ∀ l : List UInt8, indexByte l b = -1 → splitL b l = [l]
 | [], _ => rfl
 | c :: l, h => by
   unfold indexByte at h
   have hc : ¬ c = b := by intro e; subst e; simp at h
   have hl : indexByte l b = -1 := by
    have hg := indexByte_ge l b
    simp [hc] at h
    by_cases h0 : indexByte l b = -1
    ·exact h0
    ·have := h h0; omega
   simp [splitL, hc, splitL_miss b l hl]
theorem splitL_hit (b : UInt8) : ∀ (l : List UInt8) (i : Nat), indexByte l b = i → splitL b l = l.take i :: splitL b (l.drop (i + 1))
 | [], i, h => by simp [indexByte] at h
 | c :: l, i, h => by
   unfold indexByte at h
   by_cases hc : c = b
   ·subst hc
    simp at h
    obtain rfl : i = 0 := by omega
    simp [splitL]
   ·have hg := indexByte_ge l b
    simp [hc] at h
    split at h
    ·omega
    ·obtain ⟨j, rfl⟩ : ∃ j, i = j + 1 := ⟨i - 1, by omega⟩
     have hl : indexByte l b = j := by omega
     have ih := splitL_hit b l j hl
     simp [splitL, hc, ih]
theorem indexByte_at (b : UInt8) : ∀ (l : List UInt8) (i : Nat), (∀ j, j < i → l.getD j 0 ≠ b) → i < l.length → l.getD i 0 = b → indexByte l b = i
 | [], i, _, h, _ => by simp at h
 | c :: l, 0, _, _, h => by
   have : c = b := by simpa using h
   simp [indexByte, this]
 | c :: l, i + 1, hn, hl, h => by
   have h0 : ¬ c = b := by have := hn 0 (by omega); simpa using this
   have ih := indexByte_at b l i (fun j hj => by have := hn (j + 1) (by omega); simpa using this) (by simpa using hl) (by simpa using h)
   unfold indexByte
   simp [h0, ih]
   try omega
theorem indexByte_no (b : UInt8) : ∀ (l : List UInt8), (∀ j, j < l.length → l.getD j 0 ≠ b) → indexByte l b = -1
 | [], _ => rfl
 | c :: l, hn => by
   have h0 : ¬ c = b := by have := hn 0 (by simp); simpa using this
   have ih := indexByte_no b l (fun j hj => by have := hn (j + 1) (by simp; omega); simpa using this)
   unfold indexByte
   simp [h0, ih]
theorem split_step (b : UInt8) (l : List UInt8) (P : List (List UInt8)) (f k : Nat) (hfk : f ≤ k) (hk : k < l.length) (hs : splitL b l = P ++ splitL b (l.drop f)) (hn : ∀ j, f ≤ j → j < k → l.getD j 0 ≠ b) (hb : l.getD k 0 = b) :
  splitL b l = (P ++ [(l.drop f).take (k - f)]) ++ splitL b (l.drop (k + 1)) := by
 have hfk' : f + (k - f) = k := by omega
 have hat : (l.drop f).getD (k - f) 0 = b := by simpa [hfk'] using hb
 have hi := indexByte_at b (l.drop f) (k - f) (fun j hj => by have := hn (f + j) (by omega) (by omega); simpa using this) (by simp; omega) hat
 rw [hs, splitL_hit b _ _ hi]
 have : f + (k - f + 1) = k + 1 := by omega
 simp [List.drop_drop, this]
theorem split_end (b : UInt8) (l : List UInt8) (P : List (List UInt8)) (f : Nat) (hs : splitL b l = P ++ splitL b (l.drop f)) (hn : ∀ j, f ≤ j → j < l.length → l.getD j 0 ≠ b) : splitL b l = P ++ [l.drop f] := by
 rw [hs, splitL_miss b _ (indexByte_no b _ (fun j hj => by have := hn (f + j) (by omega) (by simp at hj; omega); simpa using this))]
theorem splitB_eq (b : UInt8) : ∀ (k : Nat) (l : List UInt8), l.length ≤ k →
  splitB ⟨#[b]⟩ 0 (countB ⟨l.toArray⟩ ⟨#[b]⟩) ⟨l.toArray⟩ = (splitL b l).map (fun x => (⟨x.toArray⟩ : ByteArray)) ∧ countB ⟨l.toArray⟩ ⟨#[b]⟩ + 1 = (splitL b l).length := by
 intro k
 induction k with
 | zero =>
   intro l hl
   obtain rfl : l = [] := List.eq_nil_of_length_eq_zero (by omega)
   have h : indexB ⟨([] : List UInt8).toArray⟩ ⟨#[b]⟩ = -1 := rfl
   rw [countB_miss _ _ h]
   exact ⟨rfl, rfl⟩
 | succ k ih =>
   intro l hl
   have hi : indexB ⟨l.toArray⟩ ⟨#[b]⟩ = indexByte l b := index_one l b
   have hg := indexByte_ge l b
   rcases (show indexByte l b = -1 ∨ ∃ i : Nat, indexByte l b = i by
    by_cases h : indexByte l b = -1
    ·exact .inl h
    ·exact .inr ⟨(indexByte l b).toNat, by omega⟩) with h | ⟨i, h⟩
   ·rw [countB_miss _ _ (hi.trans h), splitL_miss b l h]
    exact ⟨rfl, rfl⟩
   ·have h' := hi.trans h
    have hle := index_le l [b]
    rw [index_one, h] at hle
    rw [countB_hit _ _ i (by simp [ByteArray.size]) h', Nat.add_comm 1, splitB_hit _ _ _ _ i h', splitL_hit b l i h]
    have e1 : (⟨l.toArray⟩ : ByteArray).extract (i + (⟨#[b]⟩ : ByteArray).size) (⟨l.toArray⟩ : ByteArray).size = ⟨(l.drop (i + 1)).toArray⟩ := by
     rw [ByteArray.extract_mk]
     congr 2
     rw [List.take_of_length_le]
     ·rfl
     ·simp [ByteArray.size]
    have e2 : (⟨l.toArray⟩ : ByteArray).extract 0 (i + 0) = ⟨(l.take i).toArray⟩ := by
     rw [ByteArray.extract_mk]; simp
    rw [e1, e2]
    have := ih (l.drop (i + 1)) (by simp; omega)
    exact ⟨by rw [this.1]; rfl, by rw [this.2]; rfl⟩
end Go.Proofs.YthcgihgajdjfoaaGreatDoor
