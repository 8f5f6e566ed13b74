/- Walk: the law that spaces, comments, empty lines and the order of lines do not change what a document describes. -/
import Derived.Test.YtbbdoibmcmkmnaaGreatDoorLF
import Derived.Test.YtbbdoibmcmkmnaaGreatDoorLC
import Derived.Test.YtbbdoibmcmkmnaaGreatDoorRL
namespace Go.Proofs.YtbbdoibmcmkmnaaGreatDoor
open Go.RowKit Go.Sort

theorem cat5 (a b : List UInt8) : ({ data := #[47, 47] } ++ { data := a.toArray } ++ { data := #[10, 10] } ++ { data := b.toArray } ++ { data := #[10] } : ByteArray) = { data := ([47, 47] ++ a ++ [10, 10] ++ b ++ [10]).toArray } := by
  rw [show ({ data := #[47, 47] } : ByteArray) = { data := ([47, 47] : List UInt8).toArray } from rfl, show ({ data := #[10, 10] } : ByteArray) = { data := ([10, 10] : List UInt8).toArray } from rfl, show ({ data := #[10] } : ByteArray) = { data := ([10] : List UInt8).toArray } from rfl]
  simp only [ByteArray.mk_append_mk]
theorem cat4 (a b : List UInt8) : ({ data := a.toArray } ++ { data := #[32, 32, 10] } ++ { data := b.toArray } ++ { data := #[10] } : ByteArray) = { data := (a ++ ([32, 32, 10] ++ b ++ [10])).toArray } := by
  rw [show ({ data := #[32, 32, 10] } : ByteArray) = { data := ([32, 32, 10] : List UInt8).toArray } from rfl, show ({ data := #[10] } : ByteArray) = { data := ([10] : List UInt8).toArray } from rfl]
  simp only [ByteArray.mk_append_mk, List.append_assoc]
theorem lineB_len (s : List UInt8) (m : Mod) (hs : s.length ≤ 10) (hm : m.1.length ≤ 60) : (lineB s m).length ≤ 100 := by
  have h := lineM_len s m hs hm
  rw [lineM_B, List.length_append] at h
  omega
theorem looseD_len (m : Mod) (note : List UInt8) (n : Nat) (P : List (List UInt8 × Nat)) (hm : m.1.length ≤ 60) (hn : note.length ≤ 100) (hP : ∀ x ∈ P, x.1.length ≤ 100) (h20 : P.length ≤ 20) : (looseD m note n P).length ≤ 20000 := by
  have h1 := looseA_len note hn P hP
  have h2 := looseT_len (lineB wMod m) note n
  have h3 := lineB_len wMod m (by decide) hm
  unfold looseD
  simp only [List.length_append, List.length_cons, List.length_nil]
  omega

set_option maxRecDepth 100000 in
set_option maxHeartbeats 4000000 in
theorem loose_walk (m : Mod) (A : Option Addr) (c : Nat) (l : List Mod) (note : List UInt8) (n : Nat) (w : World) (hA : Sl w w.heap.size 4 encM A l) (hl : l.length ≤ 1048576) (hx : ∀ x ∈ m :: l, x.1.length ≤ 1048576) (ht : note.length ≤ 1048576) (hn : n < 256) (hG : Glob w) :
    Calls Tryz.prog 7 #[.agg #[.string ⟨m.1.toArray⟩, .int .i64 m.2.1, .int .i64 m.2.2.1, .int .i64 m.2.2.2, .slice A l.length c], .string ⟨note.toArray⟩, .int .u8 n] w fun e w' => e = .returned (.bool true) ∧ Below w.heap.size w w' := by
  have HA := Lib.hid hA
  have HG := Lib.hid hG
  have HX := Lib.hid hx
  have ca := Lib.hid (fun W (hW : Below w.heap.size w W) => alive_any W (HG.out.keep hW))
  have Q0 := Lib.hid (Blk.new w 28 (manA m A l.length c))
  have HB0 := Lib.hid (show Below w.heap.size w (w.alloc (.cells #[.string ⟨m.1.toArray⟩, .int .i64 m.2.1, .int .i64 m.2.2.1, .int .i64 m.2.2.2, .slice A l.length c] 28)) from (Below.refl _ _).alloc (Nat.le_refl _) _)
  clear hA hG hx
  by_cases h20 : 20 < l.length
  · have d0 : (20 : Int) < (l.length : Int) := by omega
    go_enter Tryz.func7, Tryz.ntmps7
    go_wp2_with fail
    refine (ca.out _ HB0.out).mono ?_
    rintro e w1 ⟨rfl, hb⟩
    go_wp2
    go_ret
    exact ⟨rfl, HB0.out.trans (hb.mono HB0.out.size)⟩
  have d0 : ¬ (20 : Int) < (l.length : Int) := by omega
  by_cases h100 : 100 < note.length
  · have d1 : (100 : Int) < (note.length : Int) := by omega
    go_enter Tryz.func7, Tryz.ntmps7
    go_wp2_with fail
    refine (ca.out _ HB0.out).mono ?_
    rintro e w1 ⟨rfl, hb⟩
    go_wp2
    go_ret
    exact ⟨rfl, HB0.out.trans (hb.mono HB0.out.size)⟩
  have d1 : ¬ (100 : Int) < (note.length : Int) := by omega
  have cT0 := fun W (hW : Below w.heap.size w W) => mText_any m A c l W ((HA.out.below hW).more hW.size) (by omega) (fun x hx' => by have := HX.out x hx'; unfold maxLen; omega) (HG.out.keep hW)
  go_enter Tryz.func7, Tryz.ntmps7
  go_wp2
  go_loop [7] (fun i => ∃ k : Nat, k ≤ note.length ∧ i = .int .i64 (k : Nat) ∧ Hid (∀ j (_ : j < k) (hj : j < note.length), note[j] ≠ 10)) (fun i => note.length - (intOf i).toNat)
  case atStart => exact ⟨0, Nat.zero_le _, rfl, Lib.hid (fun j h => by omega)⟩
  case round =>
    obtain ⟨k, hk, rfl, HJ⟩ := hrel
    by_cases hlt : k < note.length
    · have hlt' : (k : Int) < (note.length : Int) := by omega
      have hg : (({ data := note.toArray } : ByteArray)[k]'hlt) = note[k] := rfl
      have HGk := Lib.hid hg
      clear hg
      cases h10 : (((({ data := note.toArray } : ByteArray)[k]'hlt).toNat : Int) == 10)
      · have hne := Lib.hid (show ∀ j (_ : j < k + 1) (hj : j < note.length), note[j] ≠ 10 from fun j hj hl e => by
          by_cases hjk : j < k
          · exact HJ.out j hjk hl e
          · obtain rfl : j = k := by omega
            rw [HGk.out, e] at h10
            revert h10
            decide)
        go_wp2
        go_round
        case rel => exact ⟨k + 1, by omega, by go_num, hne⟩
        case measure => simp [intOf]; omega
      · clear HJ HGk
        go_wp2_with fail
        refine (ca.out _ HB0.out).mono ?_
        rintro e w1 ⟨rfl, hb⟩
        go_wp2
        go_ret
        exact ⟨rfl, HB0.out.trans (hb.mono HB0.out.size)⟩
    · obtain rfl : k = note.length := by omega
      have HN := Lib.hid (show ∀ x ∈ note, x ≠ 10 from fun x hx => by
        obtain ⟨j, hj, rfl⟩ := List.mem_iff_getElem.1 hx
        exact HJ.out j hj hj)
      clear HJ
      by_cases hE : mcheck m l = 0
      · rw [hE] at cT0
        have hp60 := (mcheck_ok m l hE).2
        have cP0 := fun W (hW : Below w.heap.size w W) => parse_back hE W (HG.out.keep hW)
        have hTl := mtext_len (m := m) (l := l)
        have cL0 := fun W => refLines_any (mtext m l) W (by omega)
        rw [linesP_mtext hE] at cL0
        have hloose := fun P hP t ht h => mparse_loose hE note HN.out n P hP t ht h
        have hlen := msort_len l
        have hKp := fun x (hx : x ∈ msort l) => hp60 x (List.mem_cons_of_mem _ ((msort_perm l).mem_iff.1 hx))
        generalize mtext m l = T at cT0 cP0 cL0 hTl
        generalize msort l = K at cP0 cL0 hloose hlen hKp
        have hm60 := hp60 m (by simp)
        obtain ⟨LS, hLS⟩ : ∃ LS, LS = lineB wMod m :: K.map (lineB wReq) := ⟨_, rfl⟩
        rw [← hLS] at cL0
        have hLl : LS.length = l.length + 1 := by rw [hLS]; simp; omega
        have hL0 : ∀ h : 0 < LS.length, LS[0] = lineB wMod m := fun h => by simp [hLS]
        have hLj : ∀ j (hj : j < K.length) (h : j + 1 < LS.length), LS[j + 1] = lineB wReq K[j] := fun j hj h => by simp [hLS]
        clear hLS hE hp60
        simp only [hlen] at cP0
        unfold RetNew at cL0
        simp only [hLl] at cL0
        have cT := Lib.hid cT0
        have cP := Lib.hid cP0
        have cL := Lib.hid cL0
        have HLS := Lib.hid hloose
        have HL0 := Lib.hid hL0
        have HLJ := Lib.hid hLj
        have HKP := Lib.hid hKp
        have HLEN := Lib.hid hlen
        have HLL := Lib.hid hLl
        clear cT0 cP0 cL0 hloose hL0 hLj hKp hlen hLl
        go_wp2_with fail
        refine (cT.out _ HB0.out).mono ?_
        rintro e w2 ⟨rfl, hb2⟩
        have HB2 := Lib.hid (HB0.out.trans (hb2.mono HB0.out.size))
        have Q2 := Lib.hid (Q0.out.keep hb2)
        clear hb2 cT Q0
        go_wp2_with fail
        refine (cP.out _ HB2.out).mono ?_
        rintro e w3 ⟨A3, c3, rfl, hS3, hb3⟩
        have Q3 := Lib.hid (Q2.out.keep hb3)
        have HB3 := Lib.hid (HB2.out.trans (hb3.mono HB2.out.size))
        have SL3 := Lib.hid hS3
        clear hb3 hS3 cP Q2
        go_wp2_with fail
        have m5 := (Blk.new w3 28 (manA m A3 l.length c3)).keep ((Below.refl _ _).alloc (Nat.le_refl _) (.cells #[.int .i64 0, .int .i64 0] 38))
        have f5 := Blk.new (w3.alloc (.cells (manA m A3 l.length c3) 28)) 38 #[.int .i64 0, .int .i64 0]
        rw [World.size_alloc] at f5
        have b5 : Below w3.heap.size w3 ((w3.alloc (.cells (manA m A3 l.length c3) 28)).alloc (.cells #[.int .i64 0, .int .i64 0] 38)) := ((Below.refl _ _).alloc (Nat.le_refl _) _).alloc (by simp) _
        unfold manA at m5 f5 b5
        generalize ((w3.alloc (.cells #[.string ⟨m.1.toArray⟩, .int .i64 m.2.1, .int .i64 m.2.2.1, .int .i64 m.2.2.2, .slice A3 l.length c3] 28)).alloc (.cells #[.int .i64 0, .int .i64 0] 38)) = w4 at m5 f5 b5 ⊢
        have HB4 := Lib.hid (HB3.out.trans (b5.mono HB3.out.size))
        have Q4 := Lib.hid (Q3.out.keep b5)
        have SA4 := Lib.hid ((SL3.out.below b5).more b5.size)
        clear b5 Q3 SL3
        refine (cL.out w4).mono ?_
        rintro e w5 ⟨A5, c5, rfl, hnew5, hS5, hb5⟩
        have HB5 := Lib.hid (HB4.out.trans (hb5.mono HB4.out.size))
        have Q5 := Lib.hid (Q4.out.keep hb5)
        have SA5 := Lib.hid ((SA4.out.below hb5).more hb5.size)
        have M5 := Lib.hid (m5.keep hb5)
        have F5 := Lib.hid (f5.keep hb5)
        have SL5 := Lib.hid hS5
        clear hb5 m5 f5 hnew5 hS5 cL Q4 SA4 HB0 HB2 HB3 HB4
        obtain ⟨b, off, hA5, hbB, g0⟩ := SL5.out.str (i := 0) (by have := HLL.out; omega)
        subst hA5
        rw [Nat.add_zero] at g0
        have hx0 := HL0.out (by have := HLL.out; omega)
        have hx0l := lineB_len wMod m (by decide) hm60
        rw [hx0] at g0
        clear hx0 HL0
        obtain ⟨y0, y1, y2, y3, y4⟩ := manC Q5.out
        have f0 : w5.cell? ⟨w3.heap.size + 1, 0, none⟩ = some (.int .i64 0) := F5.out.cell 0
        have cF := Lib.hid (loose_any (lineB wMod m) note n w5 hn (by omega) (by omega))
        have hXl := looseT_len (lineB wMod m) note n
        have HD0 := Lib.hid (fun P => show looseD m note n P = [47, 47] ++ note ++ [10, 10] ++ looseT (lineB wMod m) note n ++ [10] ++ looseA note P from rfl)
        have HDL := Lib.hid (fun P => looseD_len m note n P hm60 (by omega))
        generalize looseT (lineB wMod m) note n = X at cF hXl HD0
        generalize lineB wMod m = x0 at g0 cF hx0l hXl
        have n1 : ¬ 9223372036854775807 < 2 + note.length := by omega
        have n2 : ¬ 9223372036854775807 < 2 + note.length + 2 := by omega
        have n3 : ¬ 9223372036854775807 < 2 + note.length + 2 + X.length := by omega
        have n4 : ¬ 9223372036854775807 < 2 + note.length + 2 + X.length + 1 := by omega
        have hw : IntKind.i64.wrap (((l.length + 1 : Nat) : Int) - 1) = (l.length : Int) := by simp [IntKind.wrap, IntKind.bits, IntKind.signed]; omega
        go_wp2_with fail
        refine cF.out.mono ?_
        rintro e w6 ⟨rfl, hw6⟩
        subst hw6
        have r3e : ∃ r, r = n % 3 := ⟨_, rfl⟩
        obtain ⟨r3, hr3⟩ := r3e
        have m3 : (n : Int).tmod 3 = (r3 : Int) := by rw [Int.tmod_eq_emod_of_nonneg (by omega), hr3]; omega
        have M3 := Lib.hid m3
        clear cF y0 y1 y2 y3 y4 f0 g0 hr3 m3
        go_wp2_with fail
        go_loop [13, 14] (fun v i => ∃ (j : Nat) (P : List (List UInt8 × Nat)), j ≤ l.length ∧ i = .int .i64 (j : Nat) ∧ v = .string ⟨(looseD m note n P).toArray⟩ ∧ P.length + j = l.length ∧ (∀ x ∈ P, x.1.length ≤ 100) ∧ Hid (P.map (·.1) = ((K.drop j).map (lineB wReq)).reverse)) (fun _ i => (intOf i).toNat)
        case atStart => exact ⟨l.length, [], Nat.le_refl _, rfl, by rw [HD0.out, cat5]; simp [looseA], by simp, by simp, Lib.hid (by rw [← HLEN.out, List.drop_length]; rfl)⟩
        case round =>
          obtain ⟨j, P, hj, rfl, rfl, hPj, hP100, HP⟩ := hrel
          have hDl := HDL.out P hP100 (by omega)
          by_cases hj0 : 0 < j
          · obtain ⟨i, hij⟩ : ∃ i, i + 1 = j := ⟨j - 1, by omega⟩
            have hjI : (0 : Int) < (j : Int) := by omega
            have hjL : (j : Int) < ((l.length + 1 : Nat) : Int) := by omega
            have hjL2 : (j : Int) < (l.length : Int) + 1 := by omega
            have hiK : i < K.length := by have := HLEN.out; omega
            obtain ⟨b', off', hA5, hbB', g0⟩ := SL5.out.str (i := j) (by have := HLL.out; omega)
            simp only [Option.some.injEq, Addr.mk.injEq, and_true] at hA5
            obtain ⟨rfl, rfl⟩ := hA5
            have hx0 : ∀ h : j < LS.length, LS[j] = lineB wReq K[i] := by
              subst hij
              exact fun h => HLJ.out i hiK h
            have hx0l := lineB_len wReq K[i] (by decide) (HKP.out _ (List.getElem_mem hiK))
            have HS := Lib.hid (show ((K.drop i).map (lineB wReq)).reverse = ((K.drop j).map (lineB wReq)).reverse ++ [lineB wReq K[i]] by rw [List.drop_eq_getElem_cons hiK, List.map_cons, List.reverse_cons, hij])
            rw [hx0] at g0
            clear hx0
            generalize lineB wReq K[i] = x at g0 hx0l HS
            obtain ⟨n', hn'⟩ : ∃ n', n' = (n + j) % 256 := ⟨_, rfl⟩
            have hn'l : n' < 256 := by omega
            have u1 : IntKind.u8.wrap (j : Int) = (j : Int) := by simp [IntKind.wrap, IntKind.bits, IntKind.signed]; omega
            have u2 : IntKind.u8.wrap ((n : Int) + (j : Int)) = (n' : Int) := by simp [IntKind.wrap, IntKind.bits, IntKind.signed]; omega
            have cF := Lib.hid (loose_any x note n' w6 hn'l (by omega) (by omega))
            have hX'l := looseT_len x note n'
            have HD1 := Lib.hid (show looseD m note n (P ++ [(x, n')]) = looseD m note n P ++ ([32, 32, 10] ++ looseT x note n' ++ [10]) by rw [HD0.out, HD0.out, looseA_snoc]; simp)
            generalize looseT x note n' = X' at cF hX'l HD1
            generalize looseD m note n P = D at hDl HD1 ⊢
            have k1 : ¬ 9223372036854775807 < D.length + 3 := by omega
            have k2 : ¬ 9223372036854775807 < D.length + 3 + X'.length := by omega
            have k3 : ¬ 9223372036854775807 < D.length + 3 + X'.length + 1 := by omega
            have HIJ := Lib.hid hij
            have HPJ := Lib.hid hPj
            clear hn' hij hPj
            go_wp2_with fail
            refine cF.out.mono ?_
            rintro e w7 ⟨rfl, hw7⟩
            subst hw7
            go_wp2
            go_round
            case rel => exact ⟨i, P ++ [(x, n')], by have := HIJ.out; omega, by rw [show (j : Int) - 1 = (i : Int) by have := HIJ.out; omega], by rw [HD1.out, cat4], by have := HIJ.out; have := HPJ.out; simp; omega, (by
              intro y hy
              rcases List.mem_append.1 hy with h | h
              · exact hP100 y h
              · obtain rfl : y = (x, n') := by simpa using h
                exact hx0l), Lib.hid (by rw [HS.out, List.map_append, HP.out]; rfl)⟩
            case measure => have := HIJ.out; simp [intOf]; omega
          · obtain rfl : j = 0 := by omega
            have hP' : P.map (·.1) = K.reverse.map (lineB wReq) := by rw [HP.out, List.drop_zero, List.map_reverse]
            have HP' := Lib.hid hP'
            generalize hDD : looseD m note n P = D at hDl ⊢
            have hpar : ∀ t, (t = D ∨ t = D.dropLast) → mparse t = ((m, K), 0, 0) := fun t h => HLS.out P HP'.out t (by rw [hDD]; exact h) (by
              rcases h with rfl | rfl
              · omega
              · rw [List.length_dropLast]; omega)
            have hD0 : 0 < D.length := by rw [← hDD, HD0.out]; simp
            clear hDD
            have cQ0 := fun t (ht : t = D ∨ t = D.dropLast) W (hW : Below w.heap.size w W) => mParse_any t (by
              rcases ht with rfl | rfl
              · omega
              · rw [List.length_dropLast]; omega) W (HG.out.keep hW)
            have cQ1 : ∀ t (_ : t = D ∨ t = D.dropLast) W (_ : Below w.heap.size w W), Calls Tryz.prog 20 #[.string ⟨t.toArray⟩] W fun e w' => ∃ A c, e = .returned (.tuple #[.agg #[.string ⟨m.1.toArray⟩, .int .i64 m.2.1, .int .i64 m.2.2.1, .int .i64 m.2.2.2, .slice A l.length c], .agg #[.int .i64 0, .int .i64 0]]) ∧ Sl w' w'.heap.size 4 encM A K ∧ Below W.heap.size W w' := fun t ht W hW => by
              have h := cQ0 t ht W hW
              unfold RetMan at h
              rw [hpar t ht] at h
              simp only [HLEN.out] at h
              exact h
            clear cQ0 hpar HP' hP' HP hPj hP100
            have cS0 := fun A' c' A'' c'' W (h1 : Sl W W.heap.size 4 encM A' K) (h2 : Sl W W.heap.size 4 encM A'' K) => Same_any m A' c' K m A'' c'' K W h1 h2 (by have := HLEN.out; omega) (by have := HLEN.out; omega)
            simp only [HLEN.out, and_self, decide_true] at cS0
            have cS := Lib.hid cS0
            clear cS0
            obtain ⟨d, hd⟩ : ∃ d, d = D.length - 1 := ⟨_, rfl⟩
            have hdw : IntKind.i64.wrap ((D.length : Int) - 1) = (d : Int) := by simp [IntKind.wrap, IntKind.bits, IntKind.signed]; omega
            have hdl : (d : Int) ≤ (D.length : Int) := by omega
            have cQ2 := cQ1 D.dropLast (.inr rfl)
            rw [List.dropLast_eq_take, ← hd, ← extr0] at cQ2
            have cQ3 := cQ1 D (.inl rfl)
            have CQ2 := Lib.hid cQ2
            have CQ3 := Lib.hid cQ3
            have m3 := M3.out
            clear cQ1 cQ2 cQ3 hd
            by_cases h3 : r3 = 0
            · subst h3
              go_wp2_with fail
              refine (CQ2.out _ HB5.out).mono ?_
              rintro e w7 ⟨A7, c7, rfl, hS7, hb7⟩
              have HB7 := Lib.hid (HB5.out.trans (hb7.mono HB5.out.size))
              have SA7 := Lib.hid ((SA5.out.below hb7).more hb7.size)
              have M7 := Lib.hid (M5.out.keep hb7)
              have SB7 := Lib.hid hS7
              clear hb7 hS7 m3
              go_upto_region 23 with fail
              have m8 := (Blk.new w7 28 (manA m A7 l.length c7)).keep ((Below.refl _ _).alloc (Nat.le_refl _) (.cells #[.int .i64 0, .int .i64 0] 38))
              have f8 := Blk.new (w7.alloc (.cells (manA m A7 l.length c7) 28)) 38 #[.int .i64 0, .int .i64 0]
              rw [World.size_alloc] at f8
              have b8 : Below w7.heap.size w7 ((w7.alloc (.cells (manA m A7 l.length c7) 28)).alloc (.cells #[.int .i64 0, .int .i64 0] 38)) := ((Below.refl _ _).alloc (Nat.le_refl _) _).alloc (by simp) _
              unfold manA at m8 f8 b8
              generalize ((w7.alloc (.cells #[.string ⟨m.1.toArray⟩, .int .i64 m.2.1, .int .i64 m.2.2.1, .int .i64 m.2.2.2, .slice A7 l.length c7] 28)).alloc (.cells #[.int .i64 0, .int .i64 0] 38)) = w8 at m8 f8 b8 ⊢
              have HB8 := Lib.hid (HB7.out.trans (b8.mono HB7.out.size))
              have SA8 := Lib.hid ((SA7.out.below b8).more b8.size)
              have SB8 := Lib.hid ((SB7.out.below b8).more b8.size)
              obtain ⟨y0, y1, y2, y3, y4⟩ := manC (m := m) (A := A3) (n := l.length) (c := c3) (M7.out.keep b8)
              obtain ⟨z0, z1, z2, z3, z4⟩ := manC (m := m) (A := A7) (n := l.length) (c := c7) m8
              have f0 : w8.cell? ⟨w7.heap.size + 1, 0, none⟩ = some (.int .i64 0) := f8.cell 0
              clear b8 m8 f8
              go_wp2_with (first
                | (go_at_call 22; refine (cS.out A7 c7 A3 c3 _ SB8.out SA8.out).mono ?_; rintro e w9 ⟨rfl, hb9⟩; have HB9 := Lib.hid (HB8.out.trans (hb9.mono HB8.out.size)); clear y0 y1 y2 y3 y4 z0 z1 z2 z3 z4 f0 hb9)
                | (go_at_call 13; refine (ca.out _ HB9.out).mono ?_; rintro e w10 ⟨rfl, hb10⟩))
              go_ret
              exact ⟨by first | rfl | simp, HB9.out.trans (hb10.mono HB9.out.size)⟩
            · have h3I : ¬ (r3 : Int) = 0 := by omega
              clear h3
              go_wp2_with fail
              refine (CQ3.out _ HB5.out).mono ?_
              rintro e w7 ⟨A7, c7, rfl, hS7, hb7⟩
              have HB7 := Lib.hid (HB5.out.trans (hb7.mono HB5.out.size))
              have SA7 := Lib.hid ((SA5.out.below hb7).more hb7.size)
              have M7 := Lib.hid (M5.out.keep hb7)
              have SB7 := Lib.hid hS7
              clear hb7 hS7 m3
              go_upto_region 23 with fail
              have m8 := (Blk.new w7 28 (manA m A7 l.length c7)).keep ((Below.refl _ _).alloc (Nat.le_refl _) (.cells #[.int .i64 0, .int .i64 0] 38))
              have f8 := Blk.new (w7.alloc (.cells (manA m A7 l.length c7) 28)) 38 #[.int .i64 0, .int .i64 0]
              rw [World.size_alloc] at f8
              have b8 : Below w7.heap.size w7 ((w7.alloc (.cells (manA m A7 l.length c7) 28)).alloc (.cells #[.int .i64 0, .int .i64 0] 38)) := ((Below.refl _ _).alloc (Nat.le_refl _) _).alloc (by simp) _
              unfold manA at m8 f8 b8
              generalize ((w7.alloc (.cells #[.string ⟨m.1.toArray⟩, .int .i64 m.2.1, .int .i64 m.2.2.1, .int .i64 m.2.2.2, .slice A7 l.length c7] 28)).alloc (.cells #[.int .i64 0, .int .i64 0] 38)) = w8 at m8 f8 b8 ⊢
              have HB8 := Lib.hid (HB7.out.trans (b8.mono HB7.out.size))
              have SA8 := Lib.hid ((SA7.out.below b8).more b8.size)
              have SB8 := Lib.hid ((SB7.out.below b8).more b8.size)
              obtain ⟨y0, y1, y2, y3, y4⟩ := manC (m := m) (A := A3) (n := l.length) (c := c3) (M7.out.keep b8)
              obtain ⟨z0, z1, z2, z3, z4⟩ := manC (m := m) (A := A7) (n := l.length) (c := c7) m8
              have f0 : w8.cell? ⟨w7.heap.size + 1, 0, none⟩ = some (.int .i64 0) := f8.cell 0
              clear b8 m8 f8
              go_wp2_with (first
                | (go_at_call 22; refine (cS.out A7 c7 A3 c3 _ SB8.out SA8.out).mono ?_; rintro e w9 ⟨rfl, hb9⟩; have HB9 := Lib.hid (HB8.out.trans (hb9.mono HB8.out.size)); clear y0 y1 y2 y3 y4 z0 z1 z2 z3 z4 f0 hb9)
                | (go_at_call 13; refine (ca.out _ HB9.out).mono ?_; rintro e w10 ⟨rfl, hb10⟩))
              go_ret
              exact ⟨by first | rfl | simp, HB9.out.trans (hb10.mono HB9.out.size)⟩
      · have hT : mtext m l = [] := by unfold mtext; rw [if_neg hE]
        rw [hT] at cT0
        have cT := Lib.hid cT0
        have hE' : (mcheck m l != 0) = true := by simpa using hE
        generalize mcheck m l = E at cT hE'
        clear cT0 hT hE
        go_wp2_with fail
        refine (cT.out _ HB0.out).mono ?_
        rintro e w2 ⟨rfl, hb2⟩
        have HB2 := Lib.hid (HB0.out.trans (hb2.mono HB0.out.size))
        clear hb2
        go_wp2_with fail
        refine (ca.out _ HB2.out).mono ?_
        rintro e w3 ⟨rfl, hb3⟩
        go_wp2
        go_ret
        exact ⟨rfl, HB2.out.trans (hb3.mono HB2.out.size)⟩
end Go.Proofs.YtbbdoibmcmkmnaaGreatDoor
