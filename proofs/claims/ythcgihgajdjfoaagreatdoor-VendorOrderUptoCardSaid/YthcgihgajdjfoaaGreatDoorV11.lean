/- What the claim needs of: WY PU PV Mem3. -/
import Derived.Test.YthcgihgajdjfoaaGreatDoorV10
import Derived.Laws.RangeAny
import Derived.Laws.Bits64b
import Derived.Test.YthcgihgajdjfoaaGreatDoorV4
import Derived.Test.YthcgihgajdjfoaaGreatDoorV6
import Derived.Lib.Atoi
import Derived.Test.YthcgihgajdjfoaaGreatDoorV9
import Derived.Lib.IndexMore
import Derived.Test.YthcgihgajdjfoaaGreatDoorV7
namespace Go.Proofs.YthcgihgajdjfoaaGreatDoor
open Go.RowKit
theorem or_dig (q : Nat) (d : Int) (hq : q < 1152921504606846976) (h0 : 0 ≤ d) (h1 : d < 16) : bits BinOp.or IntKind.u64 ((q : Int) * 16) d = ((16 * q + d.toNat : Nat) : Int) := by
 obtain ⟨e, rfl⟩ := Int.eq_ofNat_of_zero_le h0
 have he : e < 2 ^ 4 := by omega
 rw [show (q : Int) * 16 = ((q * 16 : Nat) : Int) by omega, u64_or_nat _ _ (by omega) (by omega), Int.toNat_natCast]
 have := Nat.two_pow_add_eq_or_of_lt he q
 rw [show q * 16 = 2 ^ 4 * q by omega, ← this]
def RetNum (w : World) (s : List UInt8) (e : Ending) (w' : World) : Prop := e = .returned (.tuple #[.int .u64 (presN s : Nat), .int .i64 (presE s)]) ∧ Below w.heap.size w w'
set_option maxRecDepth 100000 in
set_option maxHeartbeats 4000000 in
theorem Parse_any (s : List UInt8) (w : World) (hs : s.length ≤ maxLen) :
  Calls Tryz.prog 86 #[.string ⟨s.toArray⟩] w (RetNum w s) := by
 unfold maxLen at hs
 have hHL := pOk_len s
 have hHH := pOk_head s
 have hHB := pOk_bad s
 have hHG := pOk_good s
 have hN := Lib.hid (show presN s = if pOk s = true then pval (s.drop 2) else 0 from rfl)
 have hE := Lib.hid (show presE s = if pOk s = true then 0 else 8 from rfl)
 by_cases h1 : s.length = 18
 ·have n1 : ((s.length : Int) != 18) = false := by rw [h1]; decide
  by_cases h2 : s.take 2 = [104, 58]
  ·obtain ⟨u, hu, rfl⟩ : ∃ u : List UInt8, u.length = 16 ∧ s = 104 :: 58 :: u := ⟨s.drop 2, by simp [h1], by rw [← List.take_append_drop 2 s, h2]; rfl⟩
   have HHB := Lib.hid (show ∀ k, ∀ hk : k < u.length, lowhex u[k] = false → pOk (104 :: 58 :: u) = false from fun k hk h => hHB k (by simpa using hk) (by simpa using h))
   have HHG := Lib.hid (show u.all lowhex = true → pOk (104 :: 58 :: u) = true from fun h => hHG (by simp [hu]) rfl (by simpa using h))
   have hN' := Lib.hid (show presN (104 :: 58 :: u) = if pOk (104 :: 58 :: u) = true then pval u else 0 from hN.out)
   have HL := Lib.hid hu
   have hul2 : u.length ≤ 16 := by omega
   have hul3 : 16 ≤ u.length := by omega
   have n1 : ((u.length : Int) + 1 + 1 != 18) = false := by rw [hu]; decide
   have n2 : (u.length + 1 + 1 != 18) = false := by rw [hu]; decide
   have hx2 : ({ data := (104 :: 58 :: u).toArray } : ByteArray).extract 0 2 = { data := #[104, 58] } := by rw [ByteArray.extract_mk]; simp
   have hx16 : ({ data := (104 :: 58 :: u).toArray } : ByteArray).extract 2 (u.length + 1 + 1) = { data := u.toArray } := by rw [ByteArray.extract_mk]; simp
   clear hHL hHH hHB hHG hN h1 h2 hu
   go_enter Tryz.func86, Tryz.ntmps86
   go_wp2
   go_loopw [4] (fun v wr => ∃ k, k ≤ u.length ∧ v = .int .u64 (pval (u.take k) : Nat) ∧ Hid ((u.take k).all lowhex = true) ∧ wr = w.iter ⟨u.toArray⟩ k) (fun _ wr => u.length - wr.iterPos w.heap.size)
   case atStart => exact ⟨0, Nat.zero_le _, rfl, rfl, rfl⟩
   case round =>
    obtain ⟨k, hk, rfl, HA, rfl⟩ := hrel
    by_cases hlt : k < u.length
    ·have HQ := pval_lt k (u.take k) (by simp; omega) HA.out
     have hq : pval (u.take k) < 1152921504606846976 := Nat.lt_of_lt_of_le HQ (Nat.le_trans (Nat.pow_le_pow_right (by decide) (show k ≤ 15 by omega)) (by decide))
     have HT := Lib.hid (pval_take u k hlt)
     have HAT := Lib.hid (all_take_succ lowhex u k hlt)
     have HB := Lib.hid (HHB.out k hlt)
     have hsz : k < (⟨u.toArray⟩ : ByteArray).size := hlt
     by_cases ha : u[k].toNat < 128
     ·have hnx := fun ty => run_next_ascii (P := Tryz.prog) w ⟨u.toArray⟩ k ty hsz ha
      have hge : (⟨u.toArray⟩ : ByteArray)[k] = u[k] := rfl
      rw [hge] at hnx
      clear hge HQ ha
      generalize pval (u.take k) = q at hq HT ⊢
      generalize u[k] = cc at hnx HT HAT HB
      by_cases hd : 48 ≤ cc.toNat ∧ cc.toNat ≤ 57
      ·obtain ⟨hd1, hd2⟩ := hd
       have d1 : decide ((48 : Int) ≤ (cc.toNat : Int)) = true := decide_eq_true (by omega)
       have d2 : decide ((cc.toNat : Int) ≤ 57) = true := decide_eq_true (by omega)
       have HV := Lib.hid (show hval cc = cc.toNat - 48 by unfold hval; rw [if_pos hd2])
       have HL2 := Lib.hid (show lowhex cc = true by simp [lowhex, hd1, hd2])
       generalize cc.toNat = m at hnx d1 d2 hd1 hd2 HV
       go_wp2
       go_roundw
       case rel => exact ⟨k + 1, by omega, by rw [HT.out, HV.out, or_dig q _ hq (by omega) (by omega)]; congr 2; omega, by show _ = true; rw [HAT.out, HA.out, HL2.out]; rfl, rfl⟩
       case measure => simp; omega
      ·by_cases hd' : 97 ≤ cc.toNat ∧ cc.toNat ≤ 102
       ·obtain ⟨hd1, hd2⟩ := hd'
        have d1 : decide ((48 : Int) ≤ (cc.toNat : Int)) = true := decide_eq_true (by omega)
        have d2 : decide ((cc.toNat : Int) ≤ 57) = false := decide_eq_false (by omega)
        have d3 : decide ((97 : Int) ≤ (cc.toNat : Int)) = true := decide_eq_true (by omega)
        have d4 : decide ((cc.toNat : Int) ≤ 102) = true := decide_eq_true (by omega)
        have HV := Lib.hid (show hval cc = cc.toNat - 87 by unfold hval; rw [if_neg (by omega)])
        have HL2 := Lib.hid (show lowhex cc = true by simp [lowhex, hd1, hd2])
        clear hd
        generalize cc.toNat = m at hnx d1 d2 d3 d4 hd1 hd2 HV
        go_wp2
        go_roundw
        case rel => exact ⟨k + 1, by omega, by rw [HT.out, HV.out, or_dig q _ hq (by omega) (by omega)]; congr 2; omega, by show _ = true; rw [HAT.out, HA.out, HL2.out]; rfl, rfl⟩
        case measure => simp; omega
       ·have hbad := HB.out (by simp [lowhex]; omega)
        have HF := Lib.hid (show presN (104 :: 58 :: u) = 0 by rw [hN'.out, hbad]; rfl)
        have HFE := Lib.hid (show presE (104 :: 58 :: u) = 8 by rw [hE.out, hbad]; rfl)
        clear hbad
        rcases (show cc.toNat < 48 ∨ (58 ≤ cc.toNat ∧ cc.toNat ≤ 96) ∨ 103 ≤ cc.toNat by omega) with hb | ⟨hb, hb'⟩ | hb
        ·have d1 : decide ((48 : Int) ≤ (cc.toNat : Int)) = false := decide_eq_false (by omega)
         have d3 : decide ((97 : Int) ≤ (cc.toNat : Int)) = false := decide_eq_false (by omega)
         clear hd hd'
         generalize cc.toNat = m at hnx d1 d3 hb
         go_wp2
         refine bodyPost_ret (v := .tuple #[.int .u64 0, .int .i64 8]) (by simp [results, Tryz.results86, go_sem]) rfl ?_
         exact ⟨by rw [HF.out, HFE.out]; rfl, (Below.refl _ _).alloc (Nat.le_refl _) _⟩
        ·have d1 : decide ((48 : Int) ≤ (cc.toNat : Int)) = true := decide_eq_true (by omega)
         have d2 : decide ((cc.toNat : Int) ≤ 57) = false := decide_eq_false (by omega)
         have d3 : decide ((97 : Int) ≤ (cc.toNat : Int)) = false := decide_eq_false (by omega)
         clear hd hd'
         generalize cc.toNat = m at hnx d1 d2 d3 hb hb'
         go_wp2
         refine bodyPost_ret (v := .tuple #[.int .u64 0, .int .i64 8]) (by simp [results, Tryz.results86, go_sem]) rfl ?_
         exact ⟨by rw [HF.out, HFE.out]; rfl, (Below.refl _ _).alloc (Nat.le_refl _) _⟩
        ·have d1 : decide ((48 : Int) ≤ (cc.toNat : Int)) = true := decide_eq_true (by omega)
         have d2 : decide ((cc.toNat : Int) ≤ 57) = false := decide_eq_false (by omega)
         have d3 : decide ((97 : Int) ≤ (cc.toNat : Int)) = true := decide_eq_true (by omega)
         have d4 : decide ((cc.toNat : Int) ≤ 102) = false := decide_eq_false (by omega)
         clear hd hd'
         generalize cc.toNat = m at hnx d1 d2 d3 d4 hb
         go_wp2
         refine bodyPost_ret (v := .tuple #[.int .u64 0, .int .i64 8]) (by simp [results, Tryz.results86, go_sem]) rfl ?_
         exact ⟨by rw [HF.out, HFE.out]; rfl, (Below.refl _ _).alloc (Nat.le_refl _) _⟩
     ·have hnx := fun ty => run_next_any (P := Tryz.prog) w ⟨u.toArray⟩ k ty hsz
      have hhi := (decode_high ⟨u.toArray⟩ k hsz (by show 128 ≤ u[k].toNat; omega)).1
      have hbad := HB.out (by simp [lowhex]; omega)
      have HF := Lib.hid (show presN (104 :: 58 :: u) = 0 by rw [hN'.out, hbad]; rfl)
      have HFE := Lib.hid (show presE (104 :: 58 :: u) = 8 by rw [hE.out, hbad]; rfl)
      clear hbad ha HQ
      generalize pval (u.take k) = q at hq HT ⊢
      generalize (Utf8.decode ⟨u.toArray⟩ k).1 = m at hnx hhi
      generalize k + (Utf8.decode ⟨u.toArray⟩ k).2 = k2 at hnx
      have d1 : decide ((48 : Int) ≤ (m : Int)) = true := decide_eq_true (by omega)
      have d2 : decide ((m : Int) ≤ 57) = false := decide_eq_false (by omega)
      have d3 : decide ((97 : Int) ≤ (m : Int)) = true := decide_eq_true (by omega)
      have d4 : decide ((m : Int) ≤ 102) = false := decide_eq_false (by omega)
      go_wp2
      refine bodyPost_ret (v := .tuple #[.int .u64 0, .int .i64 8]) (by simp [results, Tryz.results86, go_sem]) rfl ?_
      exact ⟨by rw [HF.out, HFE.out]; rfl, (Below.refl _ _).alloc (Nat.le_refl _) _⟩
    ·have hnx := fun ty => run_next_end (P := Tryz.prog) w ⟨u.toArray⟩ k ty hlt
     have hkk : u.take k = u := List.take_of_length_le (by omega)
     have hg := HHG.out (by have := HA.out; rwa [hkk] at this)
     have HF := Lib.hid (show presN (104 :: 58 :: u) = pval (u.take k) by rw [hN'.out, hg, hkk]; rfl)
     have HFE := Lib.hid (show presE (104 :: 58 :: u) = 0 by rw [hE.out, hg]; rfl)
     clear hkk hg
     generalize pval (u.take k) = q at HF ⊢
     go_wp2
     refine bodyPost_ret (v := .tuple #[.int .u64 q, .int .i64 0]) (by simp [results, Tryz.results86, go_sem]) rfl ?_
     exact ⟨by rw [HF.out, HFE.out], (Below.refl _ _).alloc (Nat.le_refl _) _⟩
  ·have hp := hHH h2
   have hN' := Lib.hid (show presN s = 0 by rw [hN.out, hp]; rfl)
   have hE' := Lib.hid (show presE s = 8 by rw [hE.out, hp]; rfl)
   have hx2 : ({ data := s.toArray } : ByteArray).extract 0 2 = { data := (s.take 2).toArray } := by rw [ByteArray.extract_mk]; simp
   have h2b : (s.take 2 == [104, 58]) = false := beq_eq_false_iff_ne.2 h2
   have hs2 : 2 ≤ s.length := by omega
   clear h1 hHL hHH hHB hHG hN hE hp h2
   go_enter Tryz.func86, Tryz.ntmps86
   go_wp2
   refine bodyPost_ret (v := .tuple #[.int .u64 0, .int .i64 8]) (by simp [results, Tryz.results86, go_sem]) rfl ?_
   exact ⟨by rw [hN'.out, hE'.out]; rfl, Below.refl _ _⟩
 ·have n1 : ((s.length : Int) != 18) = true := by simp; omega
  have hp := hHL h1
  have hN' := Lib.hid (show presN s = 0 by rw [hN.out, hp]; rfl)
  have hE' := Lib.hid (show presE s = 8 by rw [hE.out, hp]; rfl)
  clear h1 hHL hHH hHB hHG hN hE hp
  go_enter Tryz.func86, Tryz.ntmps86
  go_wp2
  refine bodyPost_ret (v := .tuple #[.int .u64 0, .int .i64 8]) (by simp [results, Tryz.results86, go_sem]) rfl ?_
  exact ⟨by rw [hN'.out, hE'.out]; rfl, Below.refl _ _⟩
end Go.Proofs.YthcgihgajdjfoaaGreatDoor
namespace Go.Proofs.YthcgihgajdjfoaaGreatDoor
open Go.Lib
theorem decFrom_append : ∀ (l r : List UInt8) (acc : Nat), decFrom acc (l ++ r) = (decFrom acc l).bind fun m => decFrom m r
 | [], r, acc => rfl
 | c :: l, r, acc => by
   simp only [List.cons_append, decFrom]
   cases digitVal c with
   | none => rfl
   | some d => exact decFrom_append l r _
theorem dig_nat (n : Nat) : (dig n).toNat = 48 + n % 10 := by
 unfold dig
 rw [UInt8.toNat_ofNat']
 omega
theorem digitVal_dig (n : Nat) : digitVal (dig n) = some (n % 10) := by
 unfold digitVal
 rw [dig_nat, if_pos (by omega)]
 congr 1
 omega
theorem decFrom_dec (n : Nat) : decFrom 0 (decDigits n) = some n := by
 induction n using Nat.strongRecOn with
 | _ n ih =>
   rw [decDigits_step, decFrom_append]
   by_cases h : n / 10 = 0
   ·rw [if_pos h]
    simp only [decFrom, Option.bind_some, digitVal_dig]
    congr 1
    omega
   ·rw [if_neg h, ih (n / 10) (by omega)]
    simp only [decFrom, Option.bind_some, digitVal_dig]
    congr 1
    omega
theorem dec_digit (n : Nat) : ∀ c ∈ decDigits n, 48 ≤ c.toNat ∧ c.toNat ≤ 57 := by
 induction n using Nat.strongRecOn with
 | _ n ih =>
   intro c hc
   rw [decDigits_step, List.mem_append] at hc
   rcases hc with hc | hc
   ·by_cases h : n / 10 = 0
    ·rw [if_pos h] at hc; cases hc
    ·rw [if_neg h] at hc; exact ih (n / 10) (by omega) c hc
   ·obtain rfl : c = dig n := by simpa using hc
    rw [dig_nat]
    omega
theorem dec_ne (n : Nat) : decDigits n ≠ [] := by
 rw [decDigits_step]
 simp
theorem atoi_dec (n : Nat) : atoi (decDigits n) = some (n : Int) := by
 have h1 := dec_digit n
 have h2 := decFrom_dec n
 have h3 := dec_ne n
 revert h1 h2 h3
 generalize decDigits n = l
 intro h1 h2 h3
 cases l with
 | nil => exact absurd rfl h3
 | cons c l =>
   have hc := h1 c (by simp)
   have n1 : (c == 45) = false := by
    rw [beq_eq_false_iff_ne]; rintro rfl; simp at hc
   have n2 : (c == 43) = false := by
    rw [beq_eq_false_iff_ne]; rintro rfl; simp at hc
   have h4 : decNat (c :: l) = some n := by
    unfold decNat
    simpa using h2
   simp only [atoi]
   rw [n1, n2, h4]
   rfl
theorem splitL_none (b : UInt8) : ∀ (l : List UInt8), (∀ c ∈ l, c ≠ b) → splitL b l = [l]
 | [], _ => rfl
 | c :: l, h => by
   have h1 : ¬ c = b := h c (by simp)
   have ih := splitL_none b l (fun x hx => h x (by simp [hx]))
   simp [splitL, h1, ih]
theorem splitL_app (b : UInt8) (r : List UInt8) : ∀ (l : List UInt8), (∀ c ∈ l, c ≠ b) → splitL b (l ++ b :: r) = l :: splitL b r
 | [], _ => by simp [splitL]
 | c :: l, h => by
   have h1 : ¬ c = b := h c (by simp)
   have ih := splitL_app b r l (fun x hx => h x (by simp [hx]))
   simp [splitL, h1, ih]
def vnum (l : List (List UInt8)) (i : Nat) : Int := match l[i]? with
 | some a => (atoi a).getD 0
 | none => 0
abbrev Ver := Int × Int × Int
def vparse (s : List UInt8) : Option Ver :=
 let l := splitL 46 (s.drop 1)
 if s.length ≤ 15 ∧ s.take 1 = [118] ∧ vtext (vnum l 0) (vnum l 1) (vnum l 2) = s then some (vnum l 0, vnum l 1, vnum l 2) else none
theorem vtext_ok {x y z : Int} (h : vok x y z = true) : vtext x y z = 118 :: (dec x ++ 46 :: (dec y ++ 46 :: dec z)) := by
 unfold vtext
 rw [if_pos h]
 simp
theorem vok_of_text {x y z : Int} {s : List UInt8} (h : vtext x y z = s) (hs : s.take 1 = [118]) : vok x y z = true := by
 cases hv : vok x y z
 ·subst h
  unfold vtext at hs
  rw [hv] at hs
  simp at hs
 ·rfl
theorem vok_nat {x y z : Int} (h : vok x y z = true) : ∃ a b c : Nat, x = a ∧ y = b ∧ z = c ∧ a ≤ 9999 ∧ b ≤ 9999 ∧ c ≤ 9999 := by
 simp [vok] at h
 exact ⟨x.toNat, y.toNat, z.toNat, by omega, by omega, by omega, by omega, by omega, by omega⟩
theorem dec_nat (a : Nat) : dec (a : Int) = decDigits a := by simp [dec]
theorem ne46 (n : Nat) : ∀ c ∈ decDigits n, c ≠ 46 := fun c hc e => by
 have := dec_digit n c hc
 subst e
 simp at this
theorem vsplit {x y z : Int} (h : vok x y z = true) : splitL 46 ((vtext x y z).drop 1) = [dec x, dec y, dec z] := by
 rw [vtext_ok h]
 obtain ⟨a, b, c, rfl, rfl, rfl, _⟩ := vok_nat h
 simp only [dec_nat, List.drop_succ_cons, List.drop_zero]
 rw [splitL_app _ _ _ (ne46 a), splitL_app _ _ _ (ne46 b), splitL_none _ _ (ne46 c)]
theorem vtext_len15 {x y z : Int} (h : vok x y z = true) : (vtext x y z).length ≤ 15 ∧ 6 ≤ (vtext x y z).length := by
 rw [vtext_ok h]
 obtain ⟨a, b, c, rfl, rfl, rfl, h1, h2, h3⟩ := vok_nat h
 have l1 := dec_len (a : Int) (by omega)
 have l2 := dec_len (b : Int) (by omega)
 have l3 := dec_len (c : Int) (by omega)
 have p1 := List.length_pos_iff.2 (dec_ne a)
 have p2 := List.length_pos_iff.2 (dec_ne b)
 have p3 := List.length_pos_iff.2 (dec_ne c)
 simp only [dec_nat] at *
 simp
 omega
theorem vparse_text {x y z : Int} (h : vok x y z = true) : vparse (vtext x y z) = some (x, y, z) := by
 have hs := vsplit h
 have hl := (vtext_len15 h).1
 have ht : (vtext x y z).take 1 = [118] := by rw [vtext_ok h]; rfl
 unfold vparse
 obtain ⟨a, b, c, rfl, rfl, rfl, _⟩ := vok_nat h
 have e0 : vnum [dec (a : Int), dec (b : Int), dec (c : Int)] 0 = a := by simp [vnum, dec_nat, atoi_dec]
 have e1 : vnum [dec (a : Int), dec (b : Int), dec (c : Int)] 1 = b := by simp [vnum, dec_nat, atoi_dec]
 have e2 : vnum [dec (a : Int), dec (b : Int), dec (c : Int)] 2 = c := by simp [vnum, dec_nat, atoi_dec]
 simp only [hs, e0, e1, e2]
 rw [if_pos ⟨hl, ht, trivial⟩]
theorem vparse_some {s : List UInt8} {v : Ver} (h : vparse s = some v) : vtext v.1 v.2.1 v.2.2 = s ∧ vok v.1 v.2.1 v.2.2 = true := by
 unfold vparse at h
 simp only at h
 split at h
 ·rename_i hc
  injection h with h
  subst h
  exact ⟨hc.2.2, vok_of_text hc.2.2 hc.2.1⟩
 ·cases h
abbrev RSt := Nat × Nat × Nat × Nat
def rstep (q : RSt) (c : UInt8) : Option RSt :=
 if c.toNat = 46 ∧ q.1 < 2 then some (q.1 + 1, q.2) else
 if 48 ≤ c.toNat ∧ c.toNat ≤ 57 then
  (match q.1 with
   | 0 => some (0, q.2.1 * 10 + (c.toNat - 48), q.2.2.1, q.2.2.2)
   | 1 => some (1, q.2.1, q.2.2.1 * 10 + (c.toNat - 48), q.2.2.2)
   | n + 2 => some (n + 2, q.2.1, q.2.2.1, q.2.2.2 * 10 + (c.toNat - 48)))
 else none
def rscan : Option RSt → List UInt8 → Option RSt := List.foldl fun q c => q.bind (rstep · c)
theorem rscan_append (q : Option RSt) (l r : List UInt8) : rscan q (l ++ r) = rscan (rscan q l) r := by simp [rscan]
theorem rscan_none : ∀ l : List UInt8, rscan none l = none
 | [] => rfl
 | _ :: l => rscan_none l
theorem rscan_snoc (q : Option RSt) (l : List UInt8) (c : UInt8) : rscan q (l ++ [c]) = (rscan q l).bind (rstep · c) := by simp [rscan]
theorem rscan_take (q : Option RSt) (l : List UInt8) (k : Nat) (h : k < l.length) : rscan q (l.take (k + 1)) = (rscan q (l.take k)).bind (rstep · l[k]) := by
 rw [List.take_succ_eq_append_getElem h, rscan_snoc]
theorem rscan_bad (q : Option RSt) (l : List UInt8) (k : Nat) (h : rscan q (l.take k) = none) : rscan q l = none := by
 rw [← List.take_append_drop k l, rscan_append, h, rscan_none]
def rparse (s : List UInt8) : Option Ver :=
 if 6 ≤ s.length ∧ s.length ≤ 15 ∧ s.take 1 = [118] then
  match rscan (some (0, 0, 0, 0)) (s.drop 1) with
  | some q => if vtext (q.2.1 : Nat) (q.2.2.1 : Nat) (q.2.2.2 : Nat) = s then some ((q.2.1 : Nat), (q.2.2.1 : Nat), (q.2.2.2 : Nat)) else none
  | none => none
 else none
theorem digitVal_some {c : UInt8} {d : Nat} (h : digitVal c = some d) : 48 ≤ c.toNat ∧ c.toNat ≤ 57 ∧ d = c.toNat - 48 := by
 unfold digitVal at h
 split at h
 ·injection h with h
  omega
 ·cases h
theorem rscan_dec0 : ∀ (l : List UInt8) (a b c m : Nat), decFrom a l = some m → rscan (some (0, a, b, c)) l = some (0, m, b, c)
 | [], a, b, c, m, h => by simp [decFrom] at h; subst h; rfl
 | x :: l, a, b, c, m, h => by
   simp only [decFrom] at h
   cases hd : digitVal x with
   | none => simp [hd] at h
   | some d =>
     simp only [hd] at h
     obtain ⟨h1, h2, rfl⟩ := digitVal_some hd
     have : rstep (0, a, b, c) x = some (0, a * 10 + (x.toNat - 48), b, c) := by
      unfold rstep
      rw [if_neg (by omega), if_pos ⟨h1, h2⟩]
     show rscan ((some (0, a, b, c)).bind (rstep · x)) l = _
     rw [Option.bind_some, this]
     exact rscan_dec0 l _ b c m h
theorem rscan_dec1 : ∀ (l : List UInt8) (a b c m : Nat), decFrom b l = some m → rscan (some (1, a, b, c)) l = some (1, a, m, c)
 | [], a, b, c, m, h => by simp [decFrom] at h; subst h; rfl
 | x :: l, a, b, c, m, h => by
   simp only [decFrom] at h
   cases hd : digitVal x with
   | none => simp [hd] at h
   | some d =>
     simp only [hd] at h
     obtain ⟨h1, h2, rfl⟩ := digitVal_some hd
     have : rstep (1, a, b, c) x = some (1, a, b * 10 + (x.toNat - 48), c) := by
      unfold rstep
      rw [if_neg (by omega), if_pos ⟨h1, h2⟩]
     show rscan ((some (1, a, b, c)).bind (rstep · x)) l = _
     rw [Option.bind_some, this]
     exact rscan_dec1 l a _ c m h
theorem rscan_dec2 : ∀ (l : List UInt8) (a b c m : Nat), decFrom c l = some m → rscan (some (2, a, b, c)) l = some (2, a, b, m)
 | [], a, b, c, m, h => by simp [decFrom] at h; subst h; rfl
 | x :: l, a, b, c, m, h => by
   simp only [decFrom] at h
   cases hd : digitVal x with
   | none => simp [hd] at h
   | some d =>
     simp only [hd] at h
     obtain ⟨h1, h2, rfl⟩ := digitVal_some hd
     have : rstep (2, a, b, c) x = some (2, a, b, c * 10 + (x.toNat - 48)) := by
      unfold rstep
      rw [if_neg (by omega), if_pos ⟨h1, h2⟩]
     show rscan ((some (2, a, b, c)).bind (rstep · x)) l = _
     rw [Option.bind_some, this]
     exact rscan_dec2 l a b _ m h
theorem rscan_text {x y z : Int} (h : vok x y z = true) : rscan (some (0, 0, 0, 0)) ((vtext x y z).drop 1) = some (2, x.toNat, y.toNat, z.toNat) := by
 rw [vtext_ok h]
 obtain ⟨a, b, c, rfl, rfl, rfl, _⟩ := vok_nat h
 simp only [dec_nat, List.drop_succ_cons, List.drop_zero, Int.toNat_natCast]
 rw [rscan_append, rscan_dec0 _ _ _ _ _ (decFrom_dec a)]
 show rscan (some (1, a, 0, 0)) _ = _
 rw [rscan_append, rscan_dec1 _ _ _ _ _ (decFrom_dec b)]
 show rscan (some (2, a, b, 0)) _ = _
 rw [rscan_dec2 _ _ _ _ _ (decFrom_dec c)]
theorem rparse_eq (s : List UInt8) : rparse s = vparse s := by
 cases hv : vparse s with
 | some v =>
   obtain ⟨rfl, hok⟩ := vparse_some hv
   have hl := vtext_len15 hok
   have ht : (vtext v.1 v.2.1 v.2.2).take 1 = [118] := by rw [vtext_ok hok]; rfl
   unfold rparse
   rw [if_pos ⟨hl.2, hl.1, ht⟩, rscan_text hok]
   obtain ⟨x, y, z⟩ := v
   obtain ⟨a, b, c, rfl, rfl, rfl, _⟩ := vok_nat hok
   simp
 | none =>
   cases hr : rparse s with
   | none => rfl
   | some v =>
     exfalso
     unfold rparse at hr
     split at hr
     ·rename_i hc
      split at hr
      ·rename_i q hq
       split at hr
       ·rename_i ht
        have hok := vok_of_text ht hc.2.2
        have := vparse_text hok
        rw [ht, hv] at this
        cases this
       ·cases hr
      ·cases hr
     ·cases hr
end Go.Proofs.YthcgihgajdjfoaaGreatDoor
namespace Go.Proofs.YthcgihgajdjfoaaGreatDoor
open Go.RowKit Go.Sort Go.Lib
theorem cut_rest (s : List UInt8) : (cut s [10]).2.1.length ≤ s.length ∧ (s ≠ [] → (cut s [10]).2.1.length < s.length) ∧ (cut s [10]).1.length ≤ s.length := by
 unfold cut
 split
 ·rename_i h
  have := index_room s [10] h
  simp at this ⊢
  omega
 ·refine ⟨by simp, fun h => ?_, by simp⟩
  simpa using List.length_pos_iff.2 h
abbrev MRes := (Mod × List Mod) × Int × Nat
def zeroM : Mod := ([], 0, 0, 0)
def fin (n : Nat) : List Mod × Nat → MRes
 | (_, k + 1) => ((zeroM, []), 8, k + 1)
 | ([], 0) => ((zeroM, []), 8, n + 1)
 | (m :: l, 0) => if mcheck m l = 0 then ((m, msort l), 0, 0) else ((zeroM, []), mcheck m l, 0)
end Go.Proofs.YthcgihgajdjfoaaGreatDoor
namespace Go.Proofs.YthcgihgajdjfoaaGreatDoor
open Go.RowKit
theorem Acc.slAny {α : Type} {enc : α → List Value} {w : World} {base e k c n : Nat} {A : Option Addr} {l : List α} (h : Acc w base e k (.slice A n c) n (l.flatMap enc)) (hk : ∀ x, (enc x).length = k) (h0 : 0 < k) : Sl w w.heap.size k enc A l := (h.sl hk h0).2
theorem Acc.addr {w : World} {base e size n c : Nat} {A : Option Addr} {xs : List Value} (h : Acc w base e size (.slice A n c) n xs) : (A = none ∧ n = 0 ∧ c = 0) ∨ ∃ g off, A = some ⟨g, off, none⟩ ∧ n ≤ c := by
 rcases h with h | ⟨_, g, off, e, _⟩
 ·rcases h.2 with ⟨e, h0⟩ | ⟨g, cap, cur, e, _, _, hn, _⟩
  ·injection e with e1 e2 e3
   exact .inl ⟨e1, h0, e3⟩
  ·injection e with e1 e2 e3
   exact .inr ⟨g, 0, e1, by omega⟩
 ·injection e with e1 e2 e3
  exact .inr ⟨g, off, e1, by omega⟩
theorem Acc.cap {w : World} {base e size n c : Nat} {A : Option Addr} {xs : List Value} (h : Acc w base e size (.slice A n c) n xs) : n ≤ c := by
 rcases h.addr with ⟨_, rfl, rfl⟩ | ⟨g, off, _, h⟩
 ·exact Nat.le_refl _
 ·exact h
theorem _root_.Go.RowKit.Below.drewN {B : Nat} {a w : World} (h : Below B a w) (n : Nat) : Below B a (w.drewN n) := ⟨h.os, h.tape, h.output, h.size, h.block⟩
theorem Acc.less {w : World} {base base' e size n : Nat} {v : Value} {xs : List Value} (h : Acc w base e size v n xs) (hb : base' ≤ base) : Acc w base' e size v n xs := by
 rcases h with h | h
 ·refine .inl ⟨h.1, ?_⟩
  rcases h.2 with h | ⟨g, cap, cur, h1, h2, h3⟩
  ·exact .inl h
  ·exact .inr ⟨g, cap, cur, h1, Nat.le_trans hb h2, h3⟩
 ·exact .inr h
theorem Sl.take {α : Type} {w : World} {B k : Nat} {enc : α → List Value} {A : Option Addr} {l : List α} (h : Sl w B k enc A l) (n : Nat) : Sl w B k enc A (l.take n) := by
 rcases h with rfl | ⟨b, off, e, hb, hc⟩
 ·exact .inl (by simp)
 ·refine .inr ⟨b, off, e, hb, fun i hi j v hv => ?_⟩
  simp at hi
  exact hc i (by omega) j v (by simpa using hv)
def cutA (A : Option Addr) (c a size : Nat) : Option Addr := if c = a then A else A.map (·.add (a * size))
theorem Sl.drop {α : Type} {w : World} {B k : Nat} {enc : α → List Value} {A : Option Addr} {l : List α} (h : Sl w B k enc A l) (c n : Nat) (hc : l.length ≤ c) : Sl w B k enc (cutA A c n k) (l.drop n) := by
 rcases h with rfl | ⟨b, off, rfl, hb, hcs⟩
 ·exact .inl (by simp)
 ·unfold cutA
  split
  ·subst c
   exact .inl (by simpa using hc)
  ·refine .inr ⟨b, off + n * k, by simp [Addr.add], hb, fun i hi j v hv => ?_⟩
   simp at hi
   have := hcs (n + i) (by omega) j v (by simpa using hv)
   rw [Nat.add_mul, ← Nat.add_assoc] at this
   exact this
section
variable {P : Program} {t e size bytes : Nat}
theorem run_cut_lo (hT : ElT P t e size bytes) (A : Option Addr) (n c a : Nat) (ha : a ≤ n) (w : World) :
  (Instr.slice t (.slice A n c) (some (.int .i64 (a : Int))) none none).run P w = .ok (.slice (cutA A c a size) (n - a) (c - a)) w := by
 obtain ⟨ht, hsz, i, z, hi, hz, hs, hby, hzs⟩ := hT
 have h1 : (0 : Int) ≤ (a : Int) ∧ (a : Int) ≤ (n : Int) := by omega
 simp [Instr.slice, Instr.sliceBounds, Instr.sliceBound, run_underlying ht, sizeOf, typeInfo, hi, asIntOf, h1, ha, cutA, hs]
theorem run_cut_hi (hT : ElT P t e size bytes) (A : Option Addr) (n c a : Nat) (ha : a ≤ c) (w : World) :
  (Instr.slice t (.slice A n c) none (some (.int .i64 (a : Int))) none).run P w = .ok (.slice A a c) w := by
 obtain ⟨ht, hsz, i, z, hi, hz, hs, hby, hzs⟩ := hT
 simp [Instr.slice, Instr.sliceBounds, Instr.sliceBound, run_underlying ht, sizeOf, typeInfo, hi, asIntOf, ha]
 rcases A with _ | A
 ·simp
 ·intro _; simp [Addr.add]
theorem run_own (w : World) (hT : ElT P t e size bytes) (base ty : Nat) (v : Value) (n : Nat) (xs : List Value) (hown : w.ownsRow base e size v n xs)
  (A : Option Addr) (m c : Nat) (news : List Value) (hsrc : Src w size A m news) (hm : 0 < m) (h1 : ∀ u ∈ news, u.oneCell' = true)
  (h63 : n + m ≤ maxLen) (hbytes : (n + m) * bytes ≤ 140737488355328) (hbase : base ≤ w.heap.size) :
  ∃ v' w', (Builtin.append_ #[t, t] ty #[v, .slice A m c]).run P w = .ok v' w' ∧ w'.ownsRow base e size v' (n + m) (xs ++ news) ∧ w.grownBy w' v.ownBlock ∧ Below base w w' := by
 obtain ⟨ht, hsz, i, z, hi, hz, hs, hby, hzs⟩ := hT
 obtain ⟨ad, rfl, hc⟩ := hsrc.2 hm
 obtain ⟨v', w', hr, h2, h3, h4, h5⟩ := run_append_own_at (P := P) w base t ty e i z size bytes ht hi hz hs hby hzs hsz v n xs hown ad m c news hsrc.1 hc h1 h63 hbytes hbase
 exact ⟨v', w', hr, h2, h3, (Below.refl _ _).grown h3 hbase (fun k hk => (hown.lt k hk).1)⟩
theorem wp_own {o : Oper} {a : Act} {w : World} {K : Act → World → Prop} {Q : Exit → Act → World → Prop} (s x : Operand)
  (ho : o.op = .call { callee := .builtin .append, args := #[s, x], argTypes := #[t, t] })
  (base : Nat) (hT : ElT P t e size bytes) (v : Value) (n : Nat) (xs : List Value) (hs : a.eval s = v) (hown : w.ownsRow base e size v n xs)
  (A : Option Addr) (m c : Nat) (news : List Value) (hx : a.eval x = .slice A m c) (hsrc : Src w size A m news) (hm : 0 < m) (h1 : ∀ u ∈ news, u.oneCell' = true)
  (h63 : n + m ≤ maxLen) (hbytes : (n + m) * bytes ≤ 140737488355328) (hbase : base ≤ w.heap.size)
  (h : ∀ v' w', w'.ownsRow base e size v' (n + m) (xs ++ news) → w.grownBy w' v.ownBlock → Below base w w' → K (a.put o.dst v') w') : o.wp P a w K Q := by
 obtain ⟨v', w', hrun, h2, h3, h4⟩ := run_own (P := P) w hT base o.type v n xs hown A m c news hsrc hm h1 h63 hbytes hbase
 unfold Oper.wp execOp
 simp only [ho, resolve, invoke, builtin, Sem.run_bind, Sem.run_pure, Result.andThen_ok, List.map_toArray, List.map_cons, List.map_nil, hs, hx, hrun]
 exact h v' w' h2 h3 h4
theorem wpList_own {w : World} {ops : Array Oper} {rest : List Oper} {o : Oper} {a : Act} {Q : Exit → Act → World → Prop} (hgd : o.guard = none) (s x : Operand)
  (ho : o.op = .call { callee := .builtin .append, args := #[s, x], argTypes := #[t, t] })
  (base : Nat) (hT : ElT P t e size bytes) (v : Value) (n : Nat) (xs : List Value) (hs : a.eval s = v) (hown : w.ownsRow base e size v n xs)
  (A : Option Addr) (m c : Nat) (news : List Value) (hx : a.eval x = .slice A m c) (hsrc : Src w size A m news) (hm : 0 < m) (h1 : ∀ u ∈ news, u.oneCell' = true)
  (h63 : n + m ≤ maxLen) (hbytes : (n + m) * bytes ≤ 140737488355328) (hbase : base ≤ w.heap.size)
  (h : ∀ v' w', w'.ownsRow base e size v' (n + m) (xs ++ news) → w.grownBy w' v.ownBlock → Below base w w' → wpList P ops Q rest (a.put o.dst v') w') : wpList P ops Q (o :: rest) a w :=
 wpList_plain hgd fun _ hK => wp_own s x ho base hT v n xs hs hown A m c news hx hsrc hm h1 h63 hbytes hbase fun v' w' h2 h3 h4 => hK _ _ (h v' w' h2 h3 h4)
theorem step_own {w : World} {ops : Array Oper} {o : Oper} {a : Act} {K : Act → World → Prop} {Q : Exit → Act → World → Prop} {E : Prop} (hgd : o.guard = none) (s x : Operand)
  (ho : o.op = .call { callee := .builtin .append, args := #[s, x], argTypes := #[t, t] })
  (base : Nat) (hT : ElT P t e size bytes) (v : Value) (n : Nat) (xs : List Value) (hs : a.eval s = v) (hown : w.ownsRow base e size v n xs)
  (A : Option Addr) (m c : Nat) (news : List Value) (hx : a.eval x = .slice A m c) (hsrc : Src w size A m news) (hm : 0 < m) (h1 : ∀ u ∈ news, u.oneCell' = true)
  (h63 : n + m ≤ maxLen) (hbytes : (n + m) * bytes ≤ 140737488355328) (hbase : base ≤ w.heap.size)
  (h : ∀ v' w', w'.ownsRow base e size v' (n + m) (xs ++ news) → w.grownBy w' v.ownBlock → Below base w w' → K (a.put o.dst v') w') :
  if Region.wanted o (yielded ops a.tmps) = true then Oper.wp P o a w K Q else E := by
 have hw : Region.wanted o (yielded ops a.tmps) = true := by simp [Region.wanted, hgd]
 rw [if_pos hw]
 exact wp_own s x ho base hT v n xs hs hown A m c news hx hsrc hm h1 h63 hbytes hbase h
end
end Go.Proofs.YthcgihgajdjfoaaGreatDoor
