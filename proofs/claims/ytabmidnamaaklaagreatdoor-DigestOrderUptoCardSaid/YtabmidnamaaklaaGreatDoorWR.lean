/- Walks: what stands for a byte in a literal (quote.escape and its reference). -/
import Derived.Test.YtabmidnamaaklaaGreatDoorWB
import Derived.Test.YtabmidnamaaklaaGreatDoorPQ
import Derived.Deep.QuietTactic
import Derived.BigQuiet
import Derived.Laws.Runes
import Derived.Laws.BitsAllLaws
namespace Go.Proofs.YtabmidnamaaklaaGreatDoor
open Go.RowKit

theorem ext16 (m : Nat) (h : m < 16) : ({ data := #[48, 49, 50, 51, 52, 53, 54, 55, 56, 57, 97, 98, 99, 100, 101, 102] } : ByteArray).extract m (m + 1) = ⟨([hexd m] : List UInt8).toArray⟩ := by
  match m, h with
  | 0, _ | 1, _ | 2, _ | 3, _ | 4, _ | 5, _ | 6, _ | 7, _ | 8, _ | 9, _ | 10, _ | 11, _ | 12, _ | 13, _ | 14, _ | 15, _ => rfl
  | d + 16, h => omega
theorem esc_hex (a b : Nat) (ha : a < 16) (hb : b < 16) : (({ data := #[92, 120] } : ByteArray) ++ ({ data := #[48, 49, 50, 51, 52, 53, 54, 55, 56, 57, 97, 98, 99, 100, 101, 102] } : ByteArray).extract a (a + 1)) ++ ({ data := #[48, 49, 50, 51, 52, 53, 54, 55, 56, 57, 97, 98, 99, 100, 101, 102] } : ByteArray).extract b (b + 1) = ⟨([92, 120, hexd a, hexd b] : List UInt8).toArray⟩ := by
  rw [ext16 a ha, ext16 b hb, show ({ data := #[92, 120] } : ByteArray) = ⟨([92, 120] : List UInt8).toArray⟩ from rfl, ByteArray.mk_append_mk, ByteArray.mk_append_mk]
  rfl

set_option maxRecDepth 100000 in
set_option maxHeartbeats 1000000 in
theorem escape_lit (c : UInt8) (w : World) (h : c = 34 ∨ c = 92 ∨ c = 10 ∨ c = 9 ∨ c = 13) :
    Calls Tryz.prog 72 #[.int .u8 c.toNat] w fun e w' => e = .returned (.string ⟨(escB c).toArray⟩) ∧ BelowD w.heap.size w w' := by
  rcases h with rfl | rfl | rfl | rfl | rfl <;>
  · show Calls Tryz.prog 72 #[.int .u8 (_ : Nat)] w _
    go_enter Tryz.func72, Tryz.ntmps72
    go_wp2
    go_ret
    exact ⟨rfl, BelowD.refl _ _⟩

theorem and_u8 (n : Nat) (h : n < 256) : bits BinOp.and IntKind.u8 (n : Int) 15 = ((n % 16 : Nat) : Int) := by
  rw [show (15 : Int) = ((15 : Nat) : Int) from rfl, u8_and_nat _ _ h (by decide), nat_mask4]
set_option maxRecDepth 100000 in
set_option maxHeartbeats 1000000 in
theorem escape_hex (c : UInt8) (w : World) (h : (c.toNat < 32 ∧ c.toNat ≠ 10 ∧ c.toNat ≠ 9 ∧ c.toNat ≠ 13) ∨ 126 < c.toNat) :
    Calls Tryz.prog 72 #[.int .u8 c.toNat] w fun e w' => e = .returned (.string ⟨(escB c).toArray⟩) ∧ BelowD w.heap.size w w' := by
  have hc := c.toNat_lt
  have hE : escB c = [92, 120, hexd (c.toNat / 16), hexd (c.toNat % 16)] := by
    unfold escB
    rw [if_neg (by omega), if_neg (by omega), if_neg (by omega), if_neg (by omega), if_pos (by omega)]
  rw [hE]
  have h1 : ((c.toNat : Int) == 34) = false := by simp; omega
  have h2 : ((c.toNat : Int) == 92) = false := by simp; omega
  have h3 : ((c.toNat : Int) == 10) = false := by simp; omega
  have h4 : ((c.toNat : Int) == 9) = false := by simp; omega
  have h5 : ((c.toNat : Int) == 13) = false := by simp; omega
  have ha := and_u8 c.toNat (by omega)
  have HX := Lib.hid (esc_hex (c.toNat / 16) (c.toNat % 16) (by omega) (by omega))
  have hm : c.toNat / 16 < 16 := by omega
  have hn : c.toNat % 16 < 16 := by omega
  generalize c.toNat = n at *
  by_cases h6 : n < 32
  · have h7 : decide ((n : Int) < 32) = true := by simp; omega
    clear h
    go_enter Tryz.func72, Tryz.ntmps72
    go_wp2
    go_quiet (fail)
    go_wp2
    go_ret
    exact ⟨by rw [HX.out]; rfl, (BelowD.refl _ _).drewN _⟩
  · have h7 : decide ((n : Int) < 32) = false := by simp; omega
    have h8 : decide (126 < (n : Int)) = true := by simp; omega
    clear h
    go_enter Tryz.func72, Tryz.ntmps72
    go_wp2
    go_quiet (fail)
    go_wp2
    go_ret
    exact ⟨by rw [HX.out]; rfl, (BelowD.refl _ _).drewN _⟩

set_option maxRecDepth 100000 in
set_option maxHeartbeats 1000000 in
theorem escape_self (c : UInt8) (w : World) (h : 32 ≤ c.toNat ∧ c.toNat ≤ 126 ∧ c.toNat ≠ 34 ∧ c.toNat ≠ 92) :
    Calls Tryz.prog 72 #[.int .u8 c.toNat] w fun e w' => e = .returned (.string ⟨(escB c).toArray⟩) ∧ BelowD w.heap.size w w' := by
  have hc := c.toNat_lt
  have hE : escB c = [c] := by
    unfold escB
    rw [if_neg (by omega), if_neg (by omega), if_neg (by omega), if_neg (by omega), if_neg (by omega)]
  rw [hE]
  have h1 : ((c.toNat : Int) == 34) = false := by simp; omega
  have h2 : ((c.toNat : Int) == 92) = false := by simp; omega
  have h3 : ((c.toNat : Int) == 10) = false := by simp; omega
  have h4 : ((c.toNat : Int) == 9) = false := by simp; omega
  have h5 : ((c.toNat : Int) == 13) = false := by simp; omega
  have h7 : decide ((c.toNat : Int) < 32) = false := by simp; omega
  have h8 : decide (126 < (c.toNat : Int)) = false := by simp; omega
  have ha := Lib.hid (enc_ascii c (by omega))
  have hlt : c.toNat < 256 := by omega
  clear h
  generalize c.toNat = n at *
  go_enter Tryz.func72, Tryz.ntmps72
  go_wp2
  go_ret
  exact ⟨by rw [ha.out]; rfl, BelowD.refl _ _⟩

theorem escape_any (c : UInt8) (w : World) :
    Calls Tryz.prog 72 #[.int .u8 c.toNat] w fun e w' => e = .returned (.string ⟨(escB c).toArray⟩) ∧ BelowD w.heap.size w w' := by
  by_cases h1 : c.toNat = 34
  · exact escape_lit c w (.inl (u8_eq c 34 (by decide) h1))
  by_cases h2 : c.toNat = 92
  · exact escape_lit c w (.inr (.inl (u8_eq c 92 (by decide) h2)))
  by_cases h3 : c.toNat = 10
  · exact escape_lit c w (.inr (.inr (.inl (u8_eq c 10 (by decide) h3))))
  by_cases h4 : c.toNat = 9
  · exact escape_lit c w (.inr (.inr (.inr (.inl (u8_eq c 9 (by decide) h4)))))
  by_cases h5 : c.toNat = 13
  · exact escape_lit c w (.inr (.inr (.inr (.inr (u8_eq c 13 (by decide) h5)))))
  by_cases h6 : c.toNat < 32
  · exact escape_hex c w (.inl ⟨h6, h3, h4, h5⟩)
  by_cases h7 : 126 < c.toNat
  · exact escape_hex c w (.inr h7)
  · exact escape_self c w ⟨by omega, by omega, h1, h2⟩

theorem below_drewN {B : Nat} {a w : World} (h : Below B a w) (n : Nat) : Below B a (w.drewN n) := ⟨h.os, h.tape, h.output, h.size, h.block⟩
set_option maxRecDepth 100000 in
set_option maxHeartbeats 1000000 in
theorem written_lit (c : UInt8) (w : World) (h : c = 34 ∨ c = 92 ∨ c = 10 ∨ c = 9 ∨ c = 13) :
    Calls Tryz.prog 52 #[.int .u8 c.toNat] w fun e w' => e = .returned (.string ⟨(escB c).toArray⟩) ∧ Below w.heap.size w w' := by
  rcases h with rfl | rfl | rfl | rfl | rfl <;>
  · show Calls Tryz.prog 52 #[.int .u8 (_ : Nat)] w _
    go_enter Tryz.func52, Tryz.ntmps52
    go_wp2
    go_ret
    exact ⟨rfl, Below.refl _ _⟩
set_option maxRecDepth 100000 in
set_option maxHeartbeats 1000000 in
theorem written_hex (c : UInt8) (w : World) (h : (c.toNat < 32 ∧ c.toNat ≠ 10 ∧ c.toNat ≠ 9 ∧ c.toNat ≠ 13) ∨ 126 < c.toNat) :
    Calls Tryz.prog 52 #[.int .u8 c.toNat] w fun e w' => e = .returned (.string ⟨(escB c).toArray⟩) ∧ Below w.heap.size w w' := by
  have hc := c.toNat_lt
  have hE : escB c = [92, 120, hexd (c.toNat / 16), hexd (c.toNat % 16)] := by
    unfold escB
    rw [if_neg (by omega), if_neg (by omega), if_neg (by omega), if_neg (by omega), if_pos (by omega)]
  rw [hE]
  have h1 : ((c.toNat : Int) == 34) = false := by simp; omega
  have h2 : ((c.toNat : Int) == 92) = false := by simp; omega
  have h3 : ((c.toNat : Int) == 10) = false := by simp; omega
  have h4 : ((c.toNat : Int) == 9) = false := by simp; omega
  have h5 : ((c.toNat : Int) == 13) = false := by simp; omega
  have HX := Lib.hid (esc_hex (c.toNat / 16) (c.toNat % 16) (by omega) (by omega))
  have hm : c.toNat / 16 < 16 := by omega
  have hn : c.toNat % 16 < 16 := by omega
  generalize c.toNat = n at *
  by_cases h6 : n < 32
  · have h7 : decide ((n : Int) < 32) = true := by simp; omega
    clear h
    go_enter Tryz.func52, Tryz.ntmps52
    go_wp2
    go_quiet (fail)
    go_wp2
    go_ret
    exact ⟨by rw [HX.out]; rfl, below_drewN (Below.refl _ _) _⟩
  · have h7 : decide ((n : Int) < 32) = false := by simp; omega
    have h8 : decide (126 < (n : Int)) = true := by simp; omega
    clear h
    go_enter Tryz.func52, Tryz.ntmps52
    go_wp2
    go_quiet (fail)
    go_wp2
    go_ret
    exact ⟨by rw [HX.out]; rfl, below_drewN (Below.refl _ _) _⟩
set_option maxRecDepth 100000 in
set_option maxHeartbeats 1000000 in
theorem written_self (c : UInt8) (w : World) (h : 32 ≤ c.toNat ∧ c.toNat ≤ 126 ∧ c.toNat ≠ 34 ∧ c.toNat ≠ 92) :
    Calls Tryz.prog 52 #[.int .u8 c.toNat] w fun e w' => e = .returned (.string ⟨(escB c).toArray⟩) ∧ Below w.heap.size w w' := by
  have hc := c.toNat_lt
  have hE : escB c = [c] := by
    unfold escB
    rw [if_neg (by omega), if_neg (by omega), if_neg (by omega), if_neg (by omega), if_neg (by omega)]
  rw [hE]
  have h1 : ((c.toNat : Int) == 34) = false := by simp; omega
  have h2 : ((c.toNat : Int) == 92) = false := by simp; omega
  have h3 : ((c.toNat : Int) == 10) = false := by simp; omega
  have h4 : ((c.toNat : Int) == 9) = false := by simp; omega
  have h5 : ((c.toNat : Int) == 13) = false := by simp; omega
  have h7 : decide ((c.toNat : Int) < 32) = false := by simp; omega
  have h8 : decide (126 < (c.toNat : Int)) = false := by simp; omega
  have hcv := (Acc.marked w #[.int .u8 c.toNat] w.heap.size 5 1 1 (0, 0) rfl).str (l := [c]) 52 9 Tryz.underlying52 Tryz.underlying5 Tryz.underlying9
  have hlt : c.toNat < 256 := by omega
  clear h
  generalize c.toNat = n at *
  go_enter Tryz.func52, Tryz.ntmps52
  go_wp2
  go_ret
  exact ⟨rfl, (Below.refl _ _).alloc (Nat.le_refl _) _⟩

theorem written_any (c : UInt8) (w : World) :
    Calls Tryz.prog 52 #[.int .u8 c.toNat] w fun e w' => e = .returned (.string ⟨(escB c).toArray⟩) ∧ Below w.heap.size w w' := by
  by_cases h1 : c.toNat = 34
  · exact written_lit c w (.inl (u8_eq c 34 (by decide) h1))
  by_cases h2 : c.toNat = 92
  · exact written_lit c w (.inr (.inl (u8_eq c 92 (by decide) h2)))
  by_cases h3 : c.toNat = 10
  · exact written_lit c w (.inr (.inr (.inl (u8_eq c 10 (by decide) h3))))
  by_cases h4 : c.toNat = 9
  · exact written_lit c w (.inr (.inr (.inr (.inl (u8_eq c 9 (by decide) h4)))))
  by_cases h5 : c.toNat = 13
  · exact written_lit c w (.inr (.inr (.inr (.inr (u8_eq c 13 (by decide) h5)))))
  by_cases h6 : c.toNat < 32
  · exact written_hex c w (.inl ⟨h6, h3, h4, h5⟩)
  by_cases h7 : 126 < c.toNat
  · exact written_hex c w (.inr h7)
  · exact written_self c w ⟨by omega, by omega, h1, h2⟩

set_option maxRecDepth 100000 in
set_option maxHeartbeats 1000000 in
/-- the reference's literal -/
theorem refQuote_any (l : List UInt8) (w : World) (hs : l.length ≤ 1099511627776) :
    Calls Tryz.prog 33 #[.string ⟨l.toArray⟩] w fun e w' => e = .returned (.string ⟨(qtext l).toArray⟩) ∧ Below w.heap.size w w' := by
  go_enter Tryz.func33, Tryz.ntmps33
  go_wp2
  go_loopw [3, 4] (fun v i wr => ∃ k : Nat, k ≤ l.length ∧ i = .int .i64 (k : Nat) ∧ v = .string ⟨([34] ++ escL (l.take k)).toArray⟩ ∧ Below w.heap.size w wr) (fun _ i _ => l.length - (intOf i).toNat)
  case atStart => exact ⟨0, Nat.zero_le _, rfl, rfl, Below.refl _ _⟩
  case round =>
    obtain ⟨k, hk, rfl, rfl, hb⟩ := hrel
    have hbz := hb.size
    have hlk := escL_len (l.take k)
    have hkl : (l.take k).length ≤ k := List.length_take_le _ _
    by_cases hlt : k < l.length
    · have HN := Lib.hid (escL_snoc l k hlt)
      have cw := Lib.hid (written_any l[k] wr)
      have h4 := (escB_len l[k]).1
      have hg := Lib.hid (show ({ data := l.toArray } : ByteArray)[k] = l[k] from rfl)
      generalize l[k] = c at cw HN h4 hg
      generalize escB c = ec at cw HN h4
      generalize escL (l.take k) = pre at hlk HN
      have nn : ¬ 9223372036854775807 < 1 + pre.length + ec.length := by omega
      go_wp2_with (go_at_call 52; rw [hg.out]; refine cw.out.mono ?_; rintro e w1 ⟨rfl, hb1⟩)
      go_roundw
      case rel => exact ⟨k + 1, by omega, by go_num, by rw [HN.out, ByteArray.mk_append_mk]; simp, hb.trans (hb1.mono hbz)⟩
      case measure => simp [intOf]; omega
    · obtain rfl : k = l.length := by omega
      generalize hpre : escL (l.take l.length) = pre at hlk
      have HP := Lib.hid hpre
      clear hpre
      have nn : ¬ 9223372036854775807 < 1 + pre.length + 1 := by omega
      go_wp2
      go_ret
      refine ⟨?_, hb⟩
      show Ending.returned (.string _) = _
      rw [show ({ data := #[34] } : ByteArray) = ⟨([34] : List UInt8).toArray⟩ from rfl, ByteArray.mk_append_mk, ← HP.out, List.take_length]
      rfl
end Go.Proofs.YtabmidnamaaklaaGreatDoor
