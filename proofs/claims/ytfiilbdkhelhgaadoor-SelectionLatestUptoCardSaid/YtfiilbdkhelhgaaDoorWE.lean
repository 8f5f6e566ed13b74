/- Walks: parts of module paths. -/
import Derived.Test.YtfiilbdkhelhgaaDoorWD
import Derived.Test.YtfiilbdkhelhgaaDoorG1
namespace Go.Proofs.YtfiilbdkhelhgaaDoor
open Go.RowKit

set_option maxRecDepth 100000 in
set_option maxHeartbeats 4000000 in
theorem part_any (l : List UInt8) (w : World) (hs : l.length ≤ maxLen) :
    Calls Tryd.prog 58 #[.string ⟨l.toArray⟩] w fun e w' => e = .returned (.bool (partOk l)) ∧ w = w' := by
  unfold maxLen at hs
  go_enter Tryd.func58, Tryd.ntmps58
  go_wp2
  go_loop [8] (fun i => ∃ k : Nat, k ≤ l.length ∧ Hid (partK l k = true) ∧ i = .int .i64 k) (fun i => l.length - (intOf i).toNat)
  case atStart => exact ⟨0, Nat.zero_le _, rfl, rfl⟩
  case round =>
    obtain ⟨k, hk, HF, rfl⟩ := hrel
    by_cases hlt : k < l.length
    · have hc : (({ data := l.toArray } : ByteArray)[k].toNat : Int) < 256 := by have := (({ data := l.toArray } : ByteArray)[k]).toNat_lt; omega
      have hg : l.getD k 0 = (({ data := l.toArray } : ByteArray)[k]) := by simp [hlt]; rfl
      have HG := Lib.hid hg; clear hg
      have hout : ∀ (b : Bool), pok k (({ data := l.toArray } : ByteArray)[k]) = b → pok k (l.getD k 0) = b := fun b h => by rw [HG.out]; exact h
      have HO := Lib.hid hout; clear hout
      by_cases hlow : (97 : Int) ≤ (({ data := l.toArray } : ByteArray)[k].toNat : Int) ∧ (({ data := l.toArray } : ByteArray)[k].toNat : Int) ≤ 122
      · obtain ⟨h1, h2⟩ := hlow
        go_wp2
        go_round
        case rel => exact ⟨k + 1, by omega, (by rw [partK_succ, HF.out, HO.out _ (pok_low h1 h2)]; rfl : partK l (k + 1) = true), by go_num⟩
        case measure => simp [intOf]; omega
      · have hlow' : (({ data := l.toArray } : ByteArray)[k].toNat : Int) < 97 ∨ 122 < (({ data := l.toArray } : ByteArray)[k].toNat : Int) := by omega
        clear hlow
        rcases (show (({ data := l.toArray } : ByteArray)[k].toNat : Int) < 45 ∨ (({ data := l.toArray } : ByteArray)[k].toNat : Int) = 45 ∨ (({ data := l.toArray } : ByteArray)[k].toNat : Int) = 46 ∨ (({ data := l.toArray } : ByteArray)[k].toNat : Int) = 47 ∨ (48 ≤ (({ data := l.toArray } : ByteArray)[k].toNat : Int) ∧ (({ data := l.toArray } : ByteArray)[k].toNat : Int) ≤ 57) ∨ (58 ≤ (({ data := l.toArray } : ByteArray)[k].toNat : Int) ∧ (({ data := l.toArray } : ByteArray)[k].toNat : Int) ≤ 94) ∨ (({ data := l.toArray } : ByteArray)[k].toNat : Int) = 95 ∨ (({ data := l.toArray } : ByteArray)[k].toNat : Int) = 96 ∨ 122 < (({ data := l.toArray } : ByteArray)[k].toNat : Int) by omega) with h1 | h1 | h1 | h1 | h1 | h1 | h1 | h1 | h1
        · have hp := Lib.hid (HO.out _ (pok_bad (i := k) (.inl h1)))
          clear hlow'
          have n45 : ((({ data := l.toArray } : ByteArray)[k].toNat : Int) != 45) = true := by rw [bne_iff_ne]; omega
          have e45 : ((({ data := l.toArray } : ByteArray)[k].toNat : Int) == 45) = false := beq_eq_false_iff_ne.2 (by omega)
          have n46 : ((({ data := l.toArray } : ByteArray)[k].toNat : Int) != 46) = true := by rw [bne_iff_ne]; omega
          have e46 : ((({ data := l.toArray } : ByteArray)[k].toNat : Int) == 46) = false := beq_eq_false_iff_ne.2 (by omega)
          have n95 : ((({ data := l.toArray } : ByteArray)[k].toNat : Int) != 95) = true := by rw [bne_iff_ne]; omega
          have e95 : ((({ data := l.toArray } : ByteArray)[k].toNat : Int) == 95) = false := beq_eq_false_iff_ne.2 (by omega)
          cases hk0 : ((k : Int) == 0)
          · skip
            go_wp2
            all_goals
              go_ret
              exact ⟨ret_bool (by rw [partOk, partK_false l k _ hlt hp.out]; rfl), rfl⟩
          · skip
            go_wp2
            all_goals
              go_ret
              exact ⟨ret_bool (by rw [partOk, partK_false l k _ hlt hp.out]; rfl), rfl⟩
        · cases hk0 : ((k : Int) == 0)
          · have hp := Lib.hid (HO.out _ (pok_oth (i := k) (by simp at hk0; omega) (.inr (.inl h1))))
            clear hlow'
            go_wp2
            go_round
            case rel => exact ⟨k + 1, by omega, (by rw [partK_succ, HF.out, hp.out]; rfl : partK l (k + 1) = true), by go_num⟩
            case measure => simp [intOf]; omega
          · have hp := Lib.hid (HO.out _ (pok_zero (i := k) (by simpa using hk0) hlow'))
            clear hlow'
            go_wp2
            all_goals
              go_ret
              exact ⟨ret_bool (by rw [partOk, partK_false l k _ hlt hp.out]; rfl), rfl⟩
        · cases hk0 : ((k : Int) == 0)
          · have hp := Lib.hid (HO.out _ (pok_oth (i := k) (by simp at hk0; omega) (.inr (.inr (.inl h1)))))
            clear hlow'
            go_wp2
            go_round
            case rel => exact ⟨k + 1, by omega, (by rw [partK_succ, HF.out, hp.out]; rfl : partK l (k + 1) = true), by go_num⟩
            case measure => simp [intOf]; omega
          · have hp := Lib.hid (HO.out _ (pok_zero (i := k) (by simpa using hk0) hlow'))
            clear hlow'
            go_wp2
            all_goals
              go_ret
              exact ⟨ret_bool (by rw [partOk, partK_false l k _ hlt hp.out]; rfl), rfl⟩
        · have hp := Lib.hid (HO.out _ (pok_bad (i := k) (.inr (.inl h1))))
          clear hlow'
          cases hk0 : ((k : Int) == 0)
          · skip
            go_wp2
            all_goals
              go_ret
              exact ⟨ret_bool (by rw [partOk, partK_false l k _ hlt hp.out]; rfl), rfl⟩
          · skip
            go_wp2
            all_goals
              go_ret
              exact ⟨ret_bool (by rw [partOk, partK_false l k _ hlt hp.out]; rfl), rfl⟩
        · cases hk0 : ((k : Int) == 0)
          · have hp := Lib.hid (HO.out _ (pok_oth (i := k) (by simp at hk0; omega) (.inl h1)))
            clear hlow'
            obtain ⟨h1, h2⟩ := h1
            go_wp2
            go_round
            case rel => exact ⟨k + 1, by omega, (by rw [partK_succ, HF.out, hp.out]; rfl : partK l (k + 1) = true), by go_num⟩
            case measure => simp [intOf]; omega
          · have hp := Lib.hid (HO.out _ (pok_zero (i := k) (by simpa using hk0) hlow'))
            clear hlow'
            obtain ⟨h1, h2⟩ := h1
            go_wp2
            all_goals
              go_ret
              exact ⟨ret_bool (by rw [partOk, partK_false l k _ hlt hp.out]; rfl), rfl⟩
        · have hp := Lib.hid (HO.out _ (pok_bad (i := k) (.inr (.inr (.inl h1)))))
          clear hlow'
          have n45 : ((({ data := l.toArray } : ByteArray)[k].toNat : Int) != 45) = true := by rw [bne_iff_ne]; omega
          have e45 : ((({ data := l.toArray } : ByteArray)[k].toNat : Int) == 45) = false := beq_eq_false_iff_ne.2 (by omega)
          have n46 : ((({ data := l.toArray } : ByteArray)[k].toNat : Int) != 46) = true := by rw [bne_iff_ne]; omega
          have e46 : ((({ data := l.toArray } : ByteArray)[k].toNat : Int) == 46) = false := beq_eq_false_iff_ne.2 (by omega)
          have n95 : ((({ data := l.toArray } : ByteArray)[k].toNat : Int) != 95) = true := by rw [bne_iff_ne]; omega
          have e95 : ((({ data := l.toArray } : ByteArray)[k].toNat : Int) == 95) = false := beq_eq_false_iff_ne.2 (by omega)
          cases hk0 : ((k : Int) == 0)
          · skip
            obtain ⟨h1, h2⟩ := h1
            go_wp2
            all_goals
              go_ret
              exact ⟨ret_bool (by rw [partOk, partK_false l k _ hlt hp.out]; rfl), rfl⟩
          · skip
            obtain ⟨h1, h2⟩ := h1
            go_wp2
            all_goals
              go_ret
              exact ⟨ret_bool (by rw [partOk, partK_false l k _ hlt hp.out]; rfl), rfl⟩
        · cases hk0 : ((k : Int) == 0)
          · have hp := Lib.hid (HO.out _ (pok_oth (i := k) (by simp at hk0; omega) (.inr (.inr (.inr h1)))))
            clear hlow'
            go_wp2
            go_round
            case rel => exact ⟨k + 1, by omega, (by rw [partK_succ, HF.out, hp.out]; rfl : partK l (k + 1) = true), by go_num⟩
            case measure => simp [intOf]; omega
          · have hp := Lib.hid (HO.out _ (pok_zero (i := k) (by simpa using hk0) hlow'))
            clear hlow'
            go_wp2
            all_goals
              go_ret
              exact ⟨ret_bool (by rw [partOk, partK_false l k _ hlt hp.out]; rfl), rfl⟩
        · have hp := Lib.hid (HO.out _ (pok_bad (i := k) (.inr (.inr (.inr (.inl h1))))))
          clear hlow'
          cases hk0 : ((k : Int) == 0)
          · skip
            go_wp2
            all_goals
              go_ret
              exact ⟨ret_bool (by rw [partOk, partK_false l k _ hlt hp.out]; rfl), rfl⟩
          · skip
            go_wp2
            all_goals
              go_ret
              exact ⟨ret_bool (by rw [partOk, partK_false l k _ hlt hp.out]; rfl), rfl⟩
        · have hp := Lib.hid (HO.out _ (pok_bad (i := k) (.inr (.inr (.inr (.inr h1))))))
          clear hlow'
          have n45 : ((({ data := l.toArray } : ByteArray)[k].toNat : Int) != 45) = true := by rw [bne_iff_ne]; omega
          have e45 : ((({ data := l.toArray } : ByteArray)[k].toNat : Int) == 45) = false := beq_eq_false_iff_ne.2 (by omega)
          have n46 : ((({ data := l.toArray } : ByteArray)[k].toNat : Int) != 46) = true := by rw [bne_iff_ne]; omega
          have e46 : ((({ data := l.toArray } : ByteArray)[k].toNat : Int) == 46) = false := beq_eq_false_iff_ne.2 (by omega)
          have n95 : ((({ data := l.toArray } : ByteArray)[k].toNat : Int) != 95) = true := by rw [bne_iff_ne]; omega
          have e95 : ((({ data := l.toArray } : ByteArray)[k].toNat : Int) == 95) = false := beq_eq_false_iff_ne.2 (by omega)
          have h3 : ¬ (({ data := l.toArray } : ByteArray)[k].toNat : Int) ≤ 122 := by omega
          have h4 : ¬ (({ data := l.toArray } : ByteArray)[k].toNat : Int) ≤ 57 := by omega
          cases hk0 : ((k : Int) == 0)
          · skip
            go_wp2
            all_goals
              go_ret
              exact ⟨ret_bool (by rw [partOk, partK_false l k _ hlt hp.out]; rfl), rfl⟩
          · skip
            go_wp2
            all_goals
              go_ret
              exact ⟨ret_bool (by rw [partOk, partK_false l k _ hlt hp.out]; rfl), rfl⟩
    · obtain rfl : k = l.length := by omega
      cases l with
      | nil =>
        go_wp2
        go_ret
        exact ⟨ret_bool (by simp [partOk]), rfl⟩
      | cons c l =>
        have h0' : (0 : Nat) < (c :: l).length := by simp
        have h0 : (0 : Int) < ((c :: l).length : Int) := by omega
        go_wp2
        go_ret
        exact ⟨ret_bool (by rw [partOk, HF.out]; simp), rfl⟩

end Go.Proofs.YtfiilbdkhelhgaaDoor
