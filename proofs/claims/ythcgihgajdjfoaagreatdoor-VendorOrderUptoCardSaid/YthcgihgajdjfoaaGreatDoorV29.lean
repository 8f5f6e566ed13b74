/- What the claim needs of: WQ. -/
import Derived.Test.YthcgihgajdjfoaaGreatDoorV28
import Derived.Test.YthcgihgajdjfoaaGreatDoorV11
namespace Go.Proofs.YthcgihgajdjfoaaGreatDoor
open Go.RowKit
def hexv (c : UInt8) : Int := if 48 ≤ c.toNat ∧ c.toNat ≤ 57 then (c.toNat : Int) - 48 else if 97 ≤ c.toNat ∧ c.toNat ≤ 102 then (c.toNat : Int) - 87 else if 65 ≤ c.toNat ∧ c.toNat ≤ 70 then (c.toNat : Int) - 55 else -1
theorem hexv_low (c : UInt8) (h : lowhex c = true) : hexv c = (hval c : Nat) := by
 simp [lowhex] at h
 unfold hexv hval
 repeat' split
 all_goals omega
theorem hexv_range (c : UInt8) : -1 ≤ hexv c ∧ hexv c < 16 := by
 unfold hexv
 repeat' split
 all_goals omega
theorem Digit_any (c : UInt8) (w : World) : Calls Tryz.prog 171 #[.int .u8 c.toNat] w fun e w' => e = .returned (.bool (decide (48 ≤ c.toNat ∧ c.toNat ≤ 57))) ∧ w = w' := by
 rcases (show c.toNat < 48 ∨ (48 ≤ c.toNat ∧ c.toNat ≤ 57) ∨ 58 ≤ c.toNat by omega) with h | ⟨h, h'⟩ | h
 ·have hd : decide (48 ≤ c.toNat ∧ c.toNat ≤ 57) = false := decide_eq_false (by omega)
  rw [hd]
  have d1 : decide ((48 : Int) ≤ (c.toNat : Int)) = false := decide_eq_false (by omega)
  clear hd
  generalize c.toNat = m at *
  go_enter Tryz.func171, Tryz.ntmps171
  go_wp2
  go_ret
  exact ⟨rfl, rfl⟩
 ·have hd : decide (48 ≤ c.toNat ∧ c.toNat ≤ 57) = true := decide_eq_true ⟨h, h'⟩
  rw [hd]
  have d1 : decide ((48 : Int) ≤ (c.toNat : Int)) = true := decide_eq_true (by omega)
  have d2 : decide ((c.toNat : Int) ≤ 57) = true := decide_eq_true (by omega)
  clear hd
  generalize c.toNat = m at *
  go_enter Tryz.func171, Tryz.ntmps171
  go_wp2
  go_ret
  exact ⟨rfl, rfl⟩
 ·have hd : decide (48 ≤ c.toNat ∧ c.toNat ≤ 57) = false := decide_eq_false (by omega)
  rw [hd]
  have d1 : decide ((48 : Int) ≤ (c.toNat : Int)) = true := decide_eq_true (by omega)
  have d2 : decide ((c.toNat : Int) ≤ 57) = false := decide_eq_false (by omega)
  clear hd
  generalize c.toNat = m at *
  go_enter Tryz.func171, Tryz.ntmps171
  go_wp2
  go_ret
  exact ⟨rfl, rfl⟩
set_option maxHeartbeats 1000000 in
theorem Hex_any (c : UInt8) (w : World) : Calls Tryz.prog 134 #[.int .u8 c.toNat] w fun e w' => e = .returned (.int .i64 (hexv c)) ∧ w = w' := by
 have cd := Lib.hid (fun W => Digit_any c W)
 have hc := c.toNat_lt
 rcases (show (48 ≤ c.toNat ∧ c.toNat ≤ 57) ∨ (c.toNat < 48 ∨ (58 ≤ c.toNat ∧ c.toNat ≤ 64)) ∨ (65 ≤ c.toNat ∧ c.toNat ≤ 70) ∨ (71 ≤ c.toNat ∧ c.toNat ≤ 96) ∨ (97 ≤ c.toNat ∧ c.toNat ≤ 102) ∨ 103 ≤ c.toNat by omega) with h | h | h | h | h | h
 ·have hv : hexv c = (c.toNat : Int) - 48 := by unfold hexv; rw [if_pos h]
  rw [hv]
  rw [decide_eq_true h] at cd
  generalize c.toNat = m at *
  go_enter Tryz.func134, Tryz.ntmps134
  go_wp2_with (go_at_call 171; refine (cd.out _).mono ?_; rintro e w1 ⟨rfl, rfl⟩)
  go_ret
  exact ⟨rfl, rfl⟩
 ·have hv : hexv c = -1 := by unfold hexv; rw [if_neg (by omega), if_neg (by omega), if_neg (by omega)]
  rw [hv]
  rw [decide_eq_false (show ¬ (48 ≤ c.toNat ∧ c.toNat ≤ 57) by omega)] at cd
  have d3 : decide ((97 : Int) ≤ (c.toNat : Int)) = false := decide_eq_false (by omega)
  have d5 : decide ((65 : Int) ≤ (c.toNat : Int)) = false := decide_eq_false (by omega)
  clear h
  generalize c.toNat = m at *
  go_enter Tryz.func134, Tryz.ntmps134
  go_wp2_with (go_at_call 171; refine (cd.out _).mono ?_; rintro e w1 ⟨rfl, rfl⟩)
  go_ret
  exact ⟨rfl, rfl⟩
 ·have hv : hexv c = (c.toNat : Int) - 65 + 10 := by unfold hexv; rw [if_neg (by omega), if_neg (by omega), if_pos h]; omega
  rw [hv]
  rw [decide_eq_false (show ¬ (48 ≤ c.toNat ∧ c.toNat ≤ 57) by omega)] at cd
  have d3 : decide ((97 : Int) ≤ (c.toNat : Int)) = false := decide_eq_false (by omega)
  have d5 : decide ((65 : Int) ≤ (c.toNat : Int)) = true := decide_eq_true (by omega)
  have d6 : decide ((c.toNat : Int) ≤ 70) = true := decide_eq_true (by omega)
  generalize c.toNat = m at *
  go_enter Tryz.func134, Tryz.ntmps134
  go_wp2_with (go_at_call 171; refine (cd.out _).mono ?_; rintro e w1 ⟨rfl, rfl⟩)
  go_ret
  exact ⟨rfl, rfl⟩
 ·have hv : hexv c = -1 := by unfold hexv; rw [if_neg (by omega), if_neg (by omega), if_neg (by omega)]
  rw [hv]
  rw [decide_eq_false (show ¬ (48 ≤ c.toNat ∧ c.toNat ≤ 57) by omega)] at cd
  have d3 : decide ((97 : Int) ≤ (c.toNat : Int)) = false := decide_eq_false (by omega)
  have d5 : decide ((65 : Int) ≤ (c.toNat : Int)) = true := decide_eq_true (by omega)
  have d6 : decide ((c.toNat : Int) ≤ 70) = false := decide_eq_false (by omega)
  generalize c.toNat = m at *
  go_enter Tryz.func134, Tryz.ntmps134
  go_wp2_with (go_at_call 171; refine (cd.out _).mono ?_; rintro e w1 ⟨rfl, rfl⟩)
  go_ret
  exact ⟨rfl, rfl⟩
 ·have hv : hexv c = (c.toNat : Int) - 97 + 10 := by unfold hexv; rw [if_neg (by omega), if_pos h]; omega
  rw [hv]
  rw [decide_eq_false (show ¬ (48 ≤ c.toNat ∧ c.toNat ≤ 57) by omega)] at cd
  have d3 : decide ((97 : Int) ≤ (c.toNat : Int)) = true := decide_eq_true (by omega)
  have d4 : decide ((c.toNat : Int) ≤ 102) = true := decide_eq_true (by omega)
  generalize c.toNat = m at *
  go_enter Tryz.func134, Tryz.ntmps134
  go_wp2_with (go_at_call 171; refine (cd.out _).mono ?_; rintro e w1 ⟨rfl, rfl⟩)
  go_ret
  exact ⟨rfl, rfl⟩
 ·have hv : hexv c = -1 := by unfold hexv; rw [if_neg (by omega), if_neg (by omega), if_neg (by omega)]
  rw [hv]
  rw [decide_eq_false (show ¬ (48 ≤ c.toNat ∧ c.toNat ≤ 57) by omega)] at cd
  have d3 : decide ((97 : Int) ≤ (c.toNat : Int)) = true := decide_eq_true (by omega)
  have d4 : decide ((c.toNat : Int) ≤ 102) = false := decide_eq_false (by omega)
  have d5 : decide ((65 : Int) ≤ (c.toNat : Int)) = true := decide_eq_true (by omega)
  have d6 : decide ((c.toNat : Int) ≤ 70) = false := decide_eq_false (by omega)
  generalize c.toNat = m at *
  go_enter Tryz.func134, Tryz.ntmps134
  go_wp2_with (go_at_call 171; refine (cd.out _).mono ?_; rintro e w1 ⟨rfl, rfl⟩)
  go_ret
  exact ⟨rfl, rfl⟩
theorem pOk_hexv (s : List UInt8) (h : pOk s = true) (j : Nat) (h2 : 2 ≤ j) (hj : j < s.length) : lowhex s[j] = true := by
 unfold pOk at h
 simp only [Bool.and_eq_true] at h
 have := (List.all_eq_true.1 h.2) s[j] (by
  rw [List.mem_iff_getElem]
  exact ⟨j - 2, by simp; omega, by simp; congr 1; omega⟩)
 exact this
set_option maxRecDepth 100000 in
set_option maxHeartbeats 4000000 in
theorem refParse_any (s : List UInt8) (w : World) (hs : s.length ≤ 1099511627776) : Calls Tryz.prog 91 #[.string ⟨s.toArray⟩] w (RetNum w s) := by
 have hE := Lib.hid (show presE s = if pOk s = true then 0 else 8 from rfl)
 have hN := Lib.hid (show presN s = if pOk s = true then pval (s.drop 2) else 0 from rfl)
 have HQ := Lib.hid (pOk_hexv s)
 have HL := Lib.hid (show pOk s = true → s.length = 18 from fun h => by simp [pOk] at h; exact h.1.1)
 have HT := Lib.hid (dtext_presN s)
 have HNE := Lib.hid (dtext_ne s)
 go_enter Tryz.func91, Tryz.ntmps91
 go_wp2
 go_loopw [4, 5] (fun v i wr => ∃ k q : Nat, 2 ≤ k ∧ k ≤ 18 ∧ i = .int .i64 (k : Nat) ∧ v = .int .u64 (q : Nat) ∧ q < 16 ^ (k - 2) ∧ Hid (pOk s = true → q = pval ((s.drop 2).take (k - 2))) ∧ Below w.heap.size w wr) (fun _ i _ => 18 - (intOf i).toNat)
 case atStart => exact ⟨2, 0, Nat.le_refl _, by omega, rfl, rfl, by simp, fun _ => by simp [pval], Below.refl _ _⟩
 case round =>
  obtain ⟨k, q, hk2, hk, rfl, rfl, hq, HF, hb⟩ := hrel
  have hbz := hb.size
  have hpow : (16 : Nat) ^ (k - 2) ≤ 16 ^ 16 := Nat.pow_le_pow_right (by decide) (by omega)
  have hqlt : q < 18446744073709551616 := Nat.lt_of_lt_of_le hq (Nat.le_trans hpow (by decide))
  by_cases hlt : k < s.length
  ·have hl1 : (k : Int) < (s.length : Int) := by omega
   by_cases h18 : k < 18
   ·have hl2 : decide ((k : Int) < 18) = true := decide_eq_true (by omega)
    have hq15 : q < 1152921504606846976 := Nat.lt_of_lt_of_le hq (Nat.le_trans (Nat.pow_le_pow_right (by decide) (show k - 2 ≤ 15 by omega)) (by decide))
    have cH := Lib.hid (fun W => Hex_any s[k] W)
    have HLO := Lib.hid (fun h => HQ.out h k hk2 hlt)
    have HHV := Lib.hid (hexv_low s[k])
    have HR := hexv_range s[k]
    have HPT := Lib.hid (show pval ((s.drop 2).take (k + 1 - 2)) = 16 * pval ((s.drop 2).take (k - 2)) + hval s[k] from by
     have h := pval_take (s.drop 2) (k - 2) (by simp; omega)
     have e1 : k - 2 + 1 = k + 1 - 2 := by omega
     have e2 : (s.drop 2)[k - 2]'(by simp; omega) = s[k] := by simp; congr 1; omega
     rw [e1, e2] at h
     exact h)
    have hget := Lib.hid (show ({ data := s.toArray } : ByteArray)[k] = s[k] from rfl)
    generalize s[k] = cc at cH HLO HHV HR HPT hget
    generalize hd : hexv cc = d at cH HHV HR
    clear hd
    by_cases hneg : d < 0
    ·have hok : pOk s = false := by
      cases h : pOk s
      ·rfl
      ·have := HHV.out (HLO.out h); omega
     have hqv := Lib.hid (show presN s = 0 by rw [hN.out, hok]; rfl)
     have hev := Lib.hid (show presE s = 8 by rw [hE.out, hok]; rfl)
     have hdn : decide (d < 0) = true := decide_eq_true hneg
     clear hok HF hE hN HQ HL HT HNE HHV HLO HPT
     go_wp2_with (go_at_call 134; rw [hget.out]; refine (cH.out _).mono ?_; rintro e w1 ⟨rfl, rfl⟩)
     refine bodyPost_ret (v := .tuple #[.int .u64 0, .int .i64 8]) (by simp [results, Tryz.results91, go_sem]) rfl ?_
     exact ⟨by rw [hqv.out, hev.out]; rfl, hb⟩
    ·obtain ⟨e, rfl⟩ := Int.eq_ofNat_of_zero_le (show 0 ≤ d by omega)
     have he : e < 16 := by omega
     have hdn : decide ((e : Int) < 0) = false := decide_eq_false hneg
     have HF' := Lib.hid (show pOk s = true → 16 * q + e = pval ((s.drop 2).take (k + 1 - 2)) from fun h => by
      have h1 := HHV.out (HLO.out h)
      rw [HPT.out, ← HF.out h]
      omega)
     have hq' : 16 * q + e < 16 ^ (k + 1 - 2) := by
      have : (16 : Nat) ^ (k + 1 - 2) = 16 ^ (k - 2) * 16 := by rw [← Nat.pow_succ]; congr 1; omega
      rw [this]
      omega
     clear HF hE hN HQ HL HT HNE HHV HLO HPT hneg HR
     go_wp2_with (go_at_call 134; rw [hget.out]; refine (cH.out _).mono ?_; rintro e' w1 ⟨rfl, rfl⟩)
     go_roundw
     case rel => exact ⟨k + 1, 16 * q + e, by omega, by omega, by go_num, by go_num, hq', HF'.out, hb⟩
     case measure => simp [intOf]; omega
   ·have hl2 : decide ((k : Int) < 18) = false := decide_eq_false (by omega)
    by_cases hok : pOk s = true
    ·have hs18 := HL.out hok
     have hk18 : k = 18 := by omega
     have hqv := Lib.hid (show presN s = q by rw [hN.out, if_pos hok, HF.out hok, hk18, List.take_of_length_le (by simp; omega)])
     have hev := Lib.hid (show presE s = 0 by rw [hE.out, if_pos hok])
     have hts := Lib.hid (show dtext q = s by rw [← hqv.out]; exact HT.out hok)
     have cT := fun W => refText_any q W hqlt
     rw [hts.out] at cT
     have cT := Lib.hid cT
     clear hok HF hE hN HQ HL HT HNE hs18 hk18
     go_wp2_with (go_at_call 58; refine (cT.out _).mono ?_; rintro e w1 ⟨rfl, rfl⟩)
     refine bodyPost_ret (v := .tuple #[.int .u64 (q : Nat), .int .i64 0]) (by simp [results, Tryz.results91, go_sem]) rfl ?_
     exact ⟨by rw [hqv.out, hev.out], hb⟩
    ·have hok' : pOk s = false := by simpa using hok
     have hqv := Lib.hid (show presN s = 0 by rw [hN.out, if_neg hok])
     have hev := Lib.hid (show presE s = 8 by rw [hE.out, if_neg hok])
     have hne := HNE.out hok' q
     have hnb : (dtext q == s) = false := beq_eq_false_iff_ne.2 hne
     have cT := Lib.hid (fun W => refText_any q W hqlt)
     generalize dtext q = t at cT hnb
     clear hok hok' HF hE hN HQ HL HT HNE hne
     go_wp2_with (go_at_call 58; refine (cT.out _).mono ?_; rintro e w1 ⟨rfl, rfl⟩)
     refine bodyPost_ret (v := .tuple #[.int .u64 0, .int .i64 8]) (by simp [results, Tryz.results91, go_sem]) rfl ?_
     exact ⟨by rw [hqv.out, hev.out]; rfl, hb⟩
  ·have hl1 : ¬ (k : Int) < (s.length : Int) := by omega
   by_cases hok : pOk s = true
   ·have hs18 := HL.out hok
    have hk18 : k = 18 := by omega
    have hqv := Lib.hid (show presN s = q by rw [hN.out, if_pos hok, HF.out hok, hk18, List.take_of_length_le (by simp; omega)])
    have hev := Lib.hid (show presE s = 0 by rw [hE.out, if_pos hok])
    have hts := Lib.hid (show dtext q = s by rw [← hqv.out]; exact HT.out hok)
    have cT := fun W => refText_any q W hqlt
    rw [hts.out] at cT
    have cT := Lib.hid cT
    clear hok HF hE hN HQ HL HT HNE hs18 hk18
    go_wp2_with (go_at_call 58; refine (cT.out _).mono ?_; rintro e w1 ⟨rfl, rfl⟩)
    refine bodyPost_ret (v := .tuple #[.int .u64 (q : Nat), .int .i64 0]) (by simp [results, Tryz.results91, go_sem]) rfl ?_
    exact ⟨by rw [hqv.out, hev.out], hb⟩
   ·have hok' : pOk s = false := by simpa using hok
    have hqv := Lib.hid (show presN s = 0 by rw [hN.out, if_neg hok])
    have hev := Lib.hid (show presE s = 8 by rw [hE.out, if_neg hok])
    have hne := HNE.out hok' q
    have hnb : (dtext q == s) = false := beq_eq_false_iff_ne.2 hne
    have cT := Lib.hid (fun W => refText_any q W hqlt)
    generalize dtext q = t at cT hnb
    clear hok hok' HF hE hN HQ HL HT HNE hne
    go_wp2_with (go_at_call 58; refine (cT.out _).mono ?_; rintro e w1 ⟨rfl, rfl⟩)
    refine bodyPost_ret (v := .tuple #[.int .u64 0, .int .i64 8]) (by simp [results, Tryz.results91, go_sem]) rfl ?_
    exact ⟨by rw [hqv.out, hev.out]; rfl, hb⟩
end Go.Proofs.YthcgihgajdjfoaaGreatDoor
