/- Walks: numbers out of texts (digest.Parse). -/
import Derived.Test.YtabmidnamaaklaaGreatDoorPJ
import Derived.Laws.RangeAny
import Derived.Laws.Bits64b
namespace Go.Proofs.YtabmidnamaaklaaGreatDoor
open Go.RowKit

theorem or_dig (q : Nat) (d : Int) (hq : q < 1152921504606846976) (h0 : 0 ≤ d) (h1 : d < 16) : bits BinOp.or IntKind.u64 ((q : Int) * 16) d = ((16 * q + d.toNat : Nat) : Int) := by
  obtain ⟨e, rfl⟩ := Int.eq_ofNat_of_zero_le h0
  have he : e < 2 ^ 4 := by omega
  rw [show (q : Int) * 16 = ((q * 16 : Nat) : Int) by omega, u64_or_nat _ _ (by omega) (by omega), Int.toNat_natCast]
  have := Nat.two_pow_add_eq_or_of_lt he q
  rw [show q * 16 = 2 ^ 4 * q by omega, ← this]
/-- a number and an error -/
def RetNum (w : World) (s : List UInt8) (e : Ending) (w' : World) : Prop := e = .returned (.tuple #[.int .u64 (presN s : Nat), .int .i64 (presE s)]) ∧ Below w.heap.size w w'
set_option maxRecDepth 100000 in
set_option maxHeartbeats 4000000 in
theorem Parse_any (s : List UInt8) (w : World) (hs : s.length ≤ maxLen) :
    Calls Tryz.prog 16 #[.string ⟨s.toArray⟩] w (RetNum w s) := by
  unfold maxLen at hs
  have hHL := pOk_len s
  have hHH := pOk_head s
  have hHB := pOk_bad s
  have hHG := pOk_good s
  have hN := Lib.hid (show presN s = if pOk s = true then pval (s.drop 2) else 0 from rfl)
  have hE := Lib.hid (show presE s = if pOk s = true then 0 else 8 from rfl)
  by_cases h1 : s.length = 18
  · have n1 : ((s.length : Int) != 18) = false := by rw [h1]; decide
    by_cases h2 : s.take 2 = [104, 58]
    · obtain ⟨u, hu, rfl⟩ : ∃ u : List UInt8, u.length = 16 ∧ s = 104 :: 58 :: u := ⟨s.drop 2, by simp [h1], by rw [← List.take_append_drop 2 s, h2]; rfl⟩
      have HHB := Lib.hid (show ∀ k, ∀ hk : k < u.length, lowhex u[k] = false → pOk (104 :: 58 :: u) = false from fun k hk h => hHB k (by simpa using hk) (by simpa using h))
      have HHG := Lib.hid (show u.all lowhex = true → pOk (104 :: 58 :: u) = true from fun h => hHG (by simp [hu]) rfl (by simpa using h))
      have hN' := Lib.hid (show presN (104 :: 58 :: u) = if pOk (104 :: 58 :: u) = true then pval u else 0 from hN.out)
      have HL := Lib.hid hu
      have hul2 : u.length ≤ 16 := by omega
      have hul3 : 16 ≤ u.length := by omega
      have n1 : ((u.length : Int) + 1 + 1 != 18) = false := by rw [hu]; decide
      have n2 : (u.length + 1 + 1 != 18) = false := by rw [hu]; decide
      have hx2 : ({ data := (104 :: 58 :: u).toArray } : ByteArray).extract 0 2 = { data := #[104, 58] } := by rw [ByteArray.extract_mk]; simp
      have hx16 : ({ data := (104 :: 58 :: u).toArray } : ByteArray).extract 2 (u.length + 1 + 1) = { data := u.toArray } := by rw [ByteArray.extract_mk]; simp
      clear hHL hHH hHB hHG hN h1 h2 hu
      go_enter Tryz.func16, Tryz.ntmps16
      go_wp2
      go_loopw [4] (fun v wr => ∃ k, k ≤ u.length ∧ v = .int .u64 (pval (u.take k) : Nat) ∧ Hid ((u.take k).all lowhex = true) ∧ wr = w.iter ⟨u.toArray⟩ k) (fun _ wr => u.length - wr.iterPos w.heap.size)
      case atStart => exact ⟨0, Nat.zero_le _, rfl, rfl, rfl⟩
      case round =>
        obtain ⟨k, hk, rfl, HA, rfl⟩ := hrel
        by_cases hlt : k < u.length
        · have HQ := pval_lt k (u.take k) (by simp; omega) HA.out
          have hq : pval (u.take k) < 1152921504606846976 := Nat.lt_of_lt_of_le HQ (Nat.le_trans (Nat.pow_le_pow_right (by decide) (show k ≤ 15 by omega)) (by decide))
          have HT := Lib.hid (pval_take u k hlt)
          have HAT := Lib.hid (all_take_succ lowhex u k hlt)
          have HB := Lib.hid (HHB.out k hlt)
          have hsz : k < (⟨u.toArray⟩ : ByteArray).size := hlt
          by_cases ha : u[k].toNat < 128
          · have hnx := fun ty => run_next_ascii (P := Tryz.prog) w ⟨u.toArray⟩ k ty hsz ha
            have hge : (⟨u.toArray⟩ : ByteArray)[k] = u[k] := rfl
            rw [hge] at hnx
            clear hge HQ ha
            generalize pval (u.take k) = q at hq HT ⊢
            generalize u[k] = cc at hnx HT HAT HB
            by_cases hd : 48 ≤ cc.toNat ∧ cc.toNat ≤ 57
            · obtain ⟨hd1, hd2⟩ := hd
              have d1 : decide ((48 : Int) ≤ (cc.toNat : Int)) = true := decide_eq_true (by omega)
              have d2 : decide ((cc.toNat : Int) ≤ 57) = true := decide_eq_true (by omega)
              have HV := Lib.hid (show hval cc = cc.toNat - 48 by unfold hval; rw [if_pos hd2])
              have HL2 := Lib.hid (show lowhex cc = true by simp [lowhex, hd1, hd2])
              generalize cc.toNat = m at hnx d1 d2 hd1 hd2 HV
              go_wp2
              go_roundw
              case rel => exact ⟨k + 1, by omega, by rw [HT.out, HV.out, or_dig q _ hq (by omega) (by omega)]; congr 2; omega, by show _ = true; rw [HAT.out, HA.out, HL2.out]; rfl, rfl⟩
              case measure => simp; omega
            · by_cases hd' : 97 ≤ cc.toNat ∧ cc.toNat ≤ 102
              · obtain ⟨hd1, hd2⟩ := hd'
                have d1 : decide ((48 : Int) ≤ (cc.toNat : Int)) = true := decide_eq_true (by omega)
                have d2 : decide ((cc.toNat : Int) ≤ 57) = false := decide_eq_false (by omega)
                have d3 : decide ((97 : Int) ≤ (cc.toNat : Int)) = true := decide_eq_true (by omega)
                have d4 : decide ((cc.toNat : Int) ≤ 102) = true := decide_eq_true (by omega)
                have HV := Lib.hid (show hval cc = cc.toNat - 87 by unfold hval; rw [if_neg (by omega)])
                have HL2 := Lib.hid (show lowhex cc = true by simp [lowhex, hd1, hd2])
                clear hd
                generalize cc.toNat = m at hnx d1 d2 d3 d4 hd1 hd2 HV
                go_wp2
                go_roundw
                case rel => exact ⟨k + 1, by omega, by rw [HT.out, HV.out, or_dig q _ hq (by omega) (by omega)]; congr 2; omega, by show _ = true; rw [HAT.out, HA.out, HL2.out]; rfl, rfl⟩
                case measure => simp; omega
              · have hbad := HB.out (by simp [lowhex]; omega)
                have HF := Lib.hid (show presN (104 :: 58 :: u) = 0 by rw [hN'.out, hbad]; rfl)
                have HFE := Lib.hid (show presE (104 :: 58 :: u) = 8 by rw [hE.out, hbad]; rfl)
                clear hbad
                rcases (show cc.toNat < 48 ∨ (58 ≤ cc.toNat ∧ cc.toNat ≤ 96) ∨ 103 ≤ cc.toNat by omega) with hb | ⟨hb, hb'⟩ | hb
                · have d1 : decide ((48 : Int) ≤ (cc.toNat : Int)) = false := decide_eq_false (by omega)
                  have d3 : decide ((97 : Int) ≤ (cc.toNat : Int)) = false := decide_eq_false (by omega)
                  clear hd hd'
                  generalize cc.toNat = m at hnx d1 d3 hb
                  go_wp2
                  refine bodyPost_ret (v := .tuple #[.int .u64 0, .int .i64 8]) (by simp [results, Tryz.results16, go_sem]) rfl ?_
                  exact ⟨by rw [HF.out, HFE.out]; rfl, (Below.refl _ _).alloc (Nat.le_refl _) _⟩
                · have d1 : decide ((48 : Int) ≤ (cc.toNat : Int)) = true := decide_eq_true (by omega)
                  have d2 : decide ((cc.toNat : Int) ≤ 57) = false := decide_eq_false (by omega)
                  have d3 : decide ((97 : Int) ≤ (cc.toNat : Int)) = false := decide_eq_false (by omega)
                  clear hd hd'
                  generalize cc.toNat = m at hnx d1 d2 d3 hb hb'
                  go_wp2
                  refine bodyPost_ret (v := .tuple #[.int .u64 0, .int .i64 8]) (by simp [results, Tryz.results16, go_sem]) rfl ?_
                  exact ⟨by rw [HF.out, HFE.out]; rfl, (Below.refl _ _).alloc (Nat.le_refl _) _⟩
                · have d1 : decide ((48 : Int) ≤ (cc.toNat : Int)) = true := decide_eq_true (by omega)
                  have d2 : decide ((cc.toNat : Int) ≤ 57) = false := decide_eq_false (by omega)
                  have d3 : decide ((97 : Int) ≤ (cc.toNat : Int)) = true := decide_eq_true (by omega)
                  have d4 : decide ((cc.toNat : Int) ≤ 102) = false := decide_eq_false (by omega)
                  clear hd hd'
                  generalize cc.toNat = m at hnx d1 d2 d3 d4 hb
                  go_wp2
                  refine bodyPost_ret (v := .tuple #[.int .u64 0, .int .i64 8]) (by simp [results, Tryz.results16, go_sem]) rfl ?_
                  exact ⟨by rw [HF.out, HFE.out]; rfl, (Below.refl _ _).alloc (Nat.le_refl _) _⟩
          · have hnx := fun ty => run_next_any (P := Tryz.prog) w ⟨u.toArray⟩ k ty hsz
            have hhi := (decode_high ⟨u.toArray⟩ k hsz (by show 128 ≤ u[k].toNat; omega)).1
            have hbad := HB.out (by simp [lowhex]; omega)
            have HF := Lib.hid (show presN (104 :: 58 :: u) = 0 by rw [hN'.out, hbad]; rfl)
            have HFE := Lib.hid (show presE (104 :: 58 :: u) = 8 by rw [hE.out, hbad]; rfl)
            clear hbad ha HQ
            generalize pval (u.take k) = q at hq HT ⊢
            generalize (Utf8.decode ⟨u.toArray⟩ k).1 = m at hnx hhi
            generalize k + (Utf8.decode ⟨u.toArray⟩ k).2 = k2 at hnx
            have d1 : decide ((48 : Int) ≤ (m : Int)) = true := decide_eq_true (by omega)
            have d2 : decide ((m : Int) ≤ 57) = false := decide_eq_false (by omega)
            have d3 : decide ((97 : Int) ≤ (m : Int)) = true := decide_eq_true (by omega)
            have d4 : decide ((m : Int) ≤ 102) = false := decide_eq_false (by omega)
            go_wp2
            refine bodyPost_ret (v := .tuple #[.int .u64 0, .int .i64 8]) (by simp [results, Tryz.results16, go_sem]) rfl ?_
            exact ⟨by rw [HF.out, HFE.out]; rfl, (Below.refl _ _).alloc (Nat.le_refl _) _⟩
        · have hnx := fun ty => run_next_end (P := Tryz.prog) w ⟨u.toArray⟩ k ty hlt
          have hkk : u.take k = u := List.take_of_length_le (by omega)
          have hg := HHG.out (by have := HA.out; rwa [hkk] at this)
          have HF := Lib.hid (show presN (104 :: 58 :: u) = pval (u.take k) by rw [hN'.out, hg, hkk]; rfl)
          have HFE := Lib.hid (show presE (104 :: 58 :: u) = 0 by rw [hE.out, hg]; rfl)
          clear hkk hg
          generalize pval (u.take k) = q at HF ⊢
          go_wp2
          refine bodyPost_ret (v := .tuple #[.int .u64 q, .int .i64 0]) (by simp [results, Tryz.results16, go_sem]) rfl ?_
          exact ⟨by rw [HF.out, HFE.out], (Below.refl _ _).alloc (Nat.le_refl _) _⟩
    · have hp := hHH h2
      have hN' := Lib.hid (show presN s = 0 by rw [hN.out, hp]; rfl)
      have hE' := Lib.hid (show presE s = 8 by rw [hE.out, hp]; rfl)
      have hx2 : ({ data := s.toArray } : ByteArray).extract 0 2 = { data := (s.take 2).toArray } := by rw [ByteArray.extract_mk]; simp
      have h2b : (s.take 2 == [104, 58]) = false := beq_eq_false_iff_ne.2 h2
      have hs2 : 2 ≤ s.length := by omega
      clear h1 hHL hHH hHB hHG hN hE hp h2
      go_enter Tryz.func16, Tryz.ntmps16
      go_wp2
      refine bodyPost_ret (v := .tuple #[.int .u64 0, .int .i64 8]) (by simp [results, Tryz.results16, go_sem]) rfl ?_
      exact ⟨by rw [hN'.out, hE'.out]; rfl, Below.refl _ _⟩
  · have n1 : ((s.length : Int) != 18) = true := by simp; omega
    have hp := hHL h1
    have hN' := Lib.hid (show presN s = 0 by rw [hN.out, hp]; rfl)
    have hE' := Lib.hid (show presE s = 8 by rw [hE.out, hp]; rfl)
    clear h1 hHL hHH hHB hHG hN hE hp
    go_enter Tryz.func16, Tryz.ntmps16
    go_wp2
    refine bodyPost_ret (v := .tuple #[.int .u64 0, .int .i64 8]) (by simp [results, Tryz.results16, go_sem]) rfl ?_
    exact ⟨by rw [hN'.out, hE'.out]; rfl, Below.refl _ _⟩
end Go.Proofs.YtabmidnamaaklaaGreatDoor
