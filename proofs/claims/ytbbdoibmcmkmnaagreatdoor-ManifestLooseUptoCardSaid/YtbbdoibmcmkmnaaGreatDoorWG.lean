/- Walks: the texts of versions. -/
import Derived.Test.YtbbdoibmcmkmnaaGreatDoorWF
import Derived.Test.YtbbdoibmcmkmnaaGreatDoorPE
namespace Go.Proofs.YtbbdoibmcmkmnaaGreatDoor
open Go.RowKit

theorem digit_str (m : Nat) (w : World) : (convert 102 9 (.slice (some ⟨w.heap.size, 0, none⟩) 1 1)).run Tryz.prog (w.alloc (.cells #[.int .u8 (48 + (m : Int) % 10)] 5)) = .ok (.string ⟨([dig m] : List UInt8).toArray⟩) (w.alloc (.cells #[.int .u8 (48 + (m : Int) % 10)] 5)) := by
  have e : (48 + (m : Int) % 10) = ((dig m).toNat : Int) := by
    unfold dig
    rw [UInt8.toNat_ofNat']
    omega
  rw [e]
  exact (Acc.marked w #[.int .u8 ((dig m).toNat : Int)] 0 5 1 1 (0, 0) rfl).str (l := [dig m]) 102 9 Tryz.underlying102 Tryz.underlying5 Tryz.underlying9
theorem digit_str0 (w : World) : (convert 102 9 (.slice (some ⟨w.heap.size, 0, none⟩) 1 1)).run Tryz.prog (w.alloc (.cells #[.int .u8 48] 5)) = .ok (.string ⟨([48] : List UInt8).toArray⟩) (w.alloc (.cells #[.int .u8 48] 5)) := digit_str 0 w
def emptyS : Value → Nat
  | .string b => if b.size = 0 then 1 else 0
  | _ => 0
set_option maxRecDepth 100000 in
set_option maxHeartbeats 1000000 in
theorem Digits_any (n : Int) (w : World) (h0 : 0 ≤ n) (h1 : n ≤ 9999) :
    Calls Tryz.prog 98 #[.int .i64 n, .int .i64 1] w fun e w' => e = .returned (.string ⟨(dec n).toArray⟩) ∧ Below w.heap.size w w' := by
  obtain ⟨N, rfl⟩ := Int.eq_ofNat_of_zero_le h0
  have hd : dec (N : Int) = Lib.decDigits N := rfl
  rw [hd]
  clear hd
  go_enter Tryz.func98, Tryz.ntmps98
  go_wp2
  go_loopw [0, 5] (fun u s wr => ∃ (m j : Nat) (l : List UInt8), u = .int .i64 (m : Nat) ∧ s = .string ⟨l.toArray⟩ ∧ j + l.length = 4 ∧ m < 10 ^ j ∧ m ≤ 9999 ∧ Hid ((l = [] ∧ m = N) ∨ (l ≠ [] ∧ Lib.decDigits N = (if m = 0 then [] else Lib.decDigits m) ++ l)) ∧ Below w.heap.size w wr)
    (fun u s _ => 2 * (intOf u).toNat + emptyS s)
  case atStart => exact ⟨N, 4, [], rfl, rfl, rfl, by simp; omega, by omega, .inl ⟨rfl, rfl⟩, Below.refl _ _⟩
  case round =>
    obtain ⟨m, j, l, rfl, rfl, hj, hm, hm9, HI, hb⟩ := hrel
    have hbz := hb.size
    rcases (show 0 < m ∨ (m = 0 ∧ l = []) ∨ (m = 0 ∧ 0 < l.length) by
      cases l with
      | nil => simp; omega
      | cons c l => simp; omega) with h | ⟨rfl, rfl⟩ | ⟨rfl, h⟩
    · have h' : (0 : Int) < m := by omega
      have hl : l.length ≤ 3 := by
        rcases Nat.lt_or_ge l.length 4 with h4 | h4
        · omega
        · obtain rfl : j = 0 := by omega
          simp at hm; omega
      have hcv := digit_str m wr
      go_wp2
      go_roundw
      case rel =>
        refine ⟨m / 10, j - 1, dig m :: l, by go_num, by rw [ByteArray.mk_append_mk]; rfl, by simp; omega, ?_, by omega, .inr ⟨by simp, ?_⟩, hb.alloc hbz _⟩
        · obtain ⟨j', rfl⟩ : ∃ j', j = j' + 1 := ⟨j - 1, by omega⟩
          rw [Nat.pow_succ] at hm
          simp only [Nat.add_sub_cancel]
          omega
        · have hs := decDigits_step m
          rcases HI.out with ⟨rfl, e⟩ | ⟨_, e⟩
          · rw [← e, hs]
          · rw [if_neg (by omega)] at e
            rw [e, hs]
            simp
      case measure => simp [intOf, emptyS, ByteArray.size]; omega
    · have hcv := digit_str0 wr
      go_wp2
      go_roundw
      case rel =>
        refine ⟨0, 3, [48], rfl, rfl, rfl, by simp, by omega, .inr ⟨by simp, ?_⟩, hb.alloc hbz _⟩
        rcases HI.out with ⟨_, e⟩ | ⟨e, _⟩
        · rw [← e, decDigits_step]; rfl
        · exact absurd rfl e
      case measure => simp [intOf, emptyS, ByteArray.size]
    · have h' : ¬ (l.length : Int) < 1 := by omega
      go_wp2
      go_ret
      refine ⟨?_, hb⟩
      rcases HI.out with ⟨e, _⟩ | ⟨_, e⟩
      · rw [e] at h; simp at h
      · rw [e]; rfl

theorem digits_any (n : Int) (w : World) (h0 : 0 ≤ n) (h1 : n ≤ 9999) :
    Calls Tryz.prog 76 #[.int .i64 n] w fun e w' => e = .returned (.string ⟨(dec n).toArray⟩) ∧ Below w.heap.size w w' := by
  go_enter Tryz.func76, Tryz.ntmps76
  go_wp2_with (go_at_call 98; refine (Digits_any _ _ h0 h1).mono ?_; rintro e w' ⟨rfl, hb⟩)
  go_ret
  exact ⟨rfl, hb⟩

set_option maxRecDepth 100000 in
set_option maxHeartbeats 4000000 in
theorem refvText_any (x y z : Int) (w : World) :
    Calls Tryz.prog 60 #[.agg #[.int .i64 x, .int .i64 y, .int .i64 z]] w fun e w' => e = .returned (.string ⟨(vtext x y z).toArray⟩) ∧ Below w.heap.size w w' := by
  have hcall := fun W => refValid_any x y z W
  cases hv : vok x y z
  · have hvt := Lib.hid (show vtext x y z = [63] by simp [vtext, hv])
    rw [hv] at hcall
    clear hv
    go_enter Tryz.func60, Tryz.ntmps60
    go_wp2_with (go_at_call 35; refine (hcall _).mono ?_; rintro e w' ⟨rfl, hb⟩)
    go_ret
    exact ⟨by rw [hvt.out]; rfl, ((Below.refl _ _).alloc (Nat.le_refl _) _).trans (hb.mono (by simp))⟩
  · have hvt := Lib.hid (show vtext x y z = [118] ++ dec x ++ [46] ++ dec y ++ [46] ++ dec z by simp [vtext, hv])
    rw [hv] at hcall
    simp [vok] at hv
    obtain ⟨⟨⟨hx0, hx1⟩, hy0, hy1⟩, hz0, hz1⟩ := hv
    have lx := dec_len x hx1
    have ly := dec_len y hy1
    have lz := dec_len z hz1
    have cx := Lib.hid (fun W => digits_any x W hx0 hx1)
    have cy := Lib.hid (fun W => digits_any y W hy0 hy1)
    have cz := Lib.hid (fun W => digits_any z W hz0 hz1)
    generalize dec x = dx at lx hvt cx
    generalize dec y = dy at ly hvt cy
    generalize dec z = dz at lz hvt cz
    go_enter Tryz.func60, Tryz.ntmps60
    go_wp2_with (go_at_call 35; refine (hcall _).mono ?_; rintro e w1 ⟨rfl, hb1⟩)
    have k0 := cell_keep (p := ⟨w.heap.size, 0, none⟩) (v := .int .i64 x) hb1 (by simp)
    have k1 := cell_keep (p := ⟨w.heap.size, 1, none⟩) (v := .int .i64 y) hb1 (by simp)
    have k2 := cell_keep (p := ⟨w.heap.size, 2, none⟩) (v := .int .i64 z) hb1 (by simp)
    have hB : Below w.heap.size w w1 := ((Below.refl _ _).alloc (Nat.le_refl _) _).trans (hb1.mono (by simp))
    clear hb1 hcall
    have n1 : ¬ 9223372036854775807 < 1 + dx.length := by omega
    have n2 : ¬ 9223372036854775807 < 1 + dx.length + 1 := by omega
    have n3 : ¬ 9223372036854775807 < 1 + dx.length + 1 + dy.length := by omega
    have n4 : ¬ 9223372036854775807 < 1 + dx.length + 1 + dy.length + 1 := by omega
    have n5 : ¬ 9223372036854775807 < 1 + dx.length + 1 + dy.length + 1 + dz.length := by omega
    go_region_held3 (fun W => W.cell? ⟨w.heap.size, 0, none⟩ = some (.int .i64 x) ∧ W.cell? ⟨w.heap.size, 1, none⟩ = some (.int .i64 y) ∧ W.cell? ⟨w.heap.size, 2, none⟩ = some (.int .i64 z)) (first | (simp; done) | (go_split_ands; (repeat' apply And.intro) <;> (first | assumption | (apply cell_keep; assumption; assumption) | (apply cell_keep_alloc; assumption))))
      (first | (go_at_call 76; refine (cx.out _).mono ?_; rintro e w2 ⟨rfl, hb2⟩) | (go_at_call 76; refine (cy.out _).mono ?_; rintro e w3 ⟨rfl, hb3⟩) | (go_at_call 76; refine (cz.out _).mono ?_; rintro e w4 ⟨rfl, hb4⟩))
    go_wp2
    go_ret
    refine ⟨?_, (((hB.drew.trans (hb2.mono (by have := hB.size; simpa using this))).trans (hb3.mono ?_)).trans (hb4.mono ?_))⟩
    · rw [hvt.out, show ({ data := #[118] } : ByteArray) = ⟨([118] : List UInt8).toArray⟩ from rfl, show ({ data := #[46] } : ByteArray) = ⟨([46] : List UInt8).toArray⟩ from rfl]
      simp only [ByteArray.mk_append_mk]
      rfl
    · have := hB.size; have := hb2.size; simp at *; omega
    · have := hB.size; have := hb2.size; have := hb3.size; simp at *; omega
end Go.Proofs.YtbbdoibmcmkmnaaGreatDoor
