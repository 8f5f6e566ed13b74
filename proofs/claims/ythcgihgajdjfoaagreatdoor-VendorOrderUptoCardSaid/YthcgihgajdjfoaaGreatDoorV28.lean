/- What the claim needs of: VH VR PL. -/
import Derived.Test.YthcgihgajdjfoaaGreatDoorV12
import Derived.Test.YthcgihgajdjfoaaGreatDoorV6
import Derived.Test.YthcgihgajdjfoaaGreatDoorV16
import Derived.Test.YthcgihgajdjfoaaGreatDoorV11
import Derived.Test.YthcgihgajdjfoaaGreatDoorV10
namespace Go.Proofs.YthcgihgajdjfoaaGreatDoor
open Go.RowKit Go.Sort
theorem splitL_snoc (b c : UInt8) : ∀ (l : List UInt8) (P : List (List UInt8)) (x : List UInt8), splitL b l = P ++ [x] → splitL b (l ++ [c]) = if c = b then P ++ [x, []] else P ++ [x ++ [c]]
 | [], P, x, h => by
   have h1 : P = [] ∧ x = [] := by
    cases P with
    | nil => exact ⟨rfl, by simpa [splitL, eq_comm] using h⟩
    | cons p P => simp [splitL] at h
   obtain ⟨rfl, rfl⟩ := h1
   by_cases hc : c = b
   ·simp [splitL, hc]
   ·simp [splitL, hc]
 | d :: l, P, x, h => by
   rw [List.cons_append]
   unfold splitL at h ⊢
   by_cases hd : d = b
   ·rw [if_pos hd] at h ⊢
    cases P with
    | nil =>
      exfalso
      simp only [List.nil_append, List.cons.injEq] at h
      exact splitL_ne b l h.2
    | cons p P =>
      simp only [List.cons_append, List.cons.injEq] at h
      obtain ⟨rfl, h⟩ := h
      rw [splitL_snoc b c l P x h]
      split <;> rfl
   ·rw [if_neg hd] at h ⊢
    cases hs : splitL b l with
    | nil => exact absurd hs (splitL_ne b l)
    | cons y t =>
      rw [hs] at h
      simp only at h
      cases P with
      | nil =>
        simp only [List.nil_append, List.cons.injEq] at h
        obtain ⟨rfl, rfl⟩ := h
        rw [splitL_snoc b c l [] y (by rw [hs]; rfl)]
        by_cases hc : c = b
        ·simp [hc]
        ·simp [hc]
      | cons p P =>
        simp only [List.cons_append, List.cons.injEq] at h
        obtain ⟨rfl, rfl⟩ := h
        rw [splitL_snoc b c l (y :: P) x (by rw [hs]; rfl)]
        by_cases hc : c = b
        ·simp [hc]
        ·simp [hc]
theorem row_last {w : World} {base n c : Nat} {A : Option Addr} {P : List (List UInt8)} {x : List UInt8} (h : w.ownsRow base 9 1 (.slice A n c) n (strs (P ++ [x]))) (hn : n = P.length + 1) :
  ∃ g, A = some ⟨g, 0, none⟩ ∧ base ≤ g ∧ w.cell? ⟨g, P.length, none⟩ = some (.string ⟨x.toArray⟩) ∧ w.frozen? ⟨g, P.length, none⟩ = false ∧ ∀ u : List UInt8, (w.setCell ⟨g, P.length, none⟩ (.string ⟨u.toArray⟩)).ownsRow base 9 1 (.slice A n c) n (strs (P ++ [u])) := by
 obtain ⟨h1, h2⟩ := h
 rcases h2 with ⟨_, h⟩ | ⟨g, cap, cur, hv, hg, hc, hnc, hcm, hcs, ht⟩
 ·omega
 ·injection hv with hA hn2 hcap
  subst hA
  have hB : Blk w g 9 cur := hc
  have hlt : P.length < cur.size := by rw [hcs]; omega
  have hx : cur[P.length]? = some (.string ⟨x.toArray⟩) := by
   have h3 : (cur.toList.take (n * 1))[P.length]? = some (.string ⟨x.toArray⟩) := by
    rw [ht]
    unfold strs
    simp
   rw [List.getElem?_take, if_pos (by omega)] at h3
   simpa using h3
  refine ⟨g, rfl, hg, by rw [hB.cell]; exact hx, hB.free _, fun u => ⟨?_, .inr ⟨g, cap, cur.setIfInBounds P.length (.string ⟨u.toArray⟩), by rw [hcap], hg, hB.set_ P.length _, hnc, hcm, by simpa using hcs, ?_⟩⟩⟩
  ·unfold strs at h1 ⊢
   simpa using h1
  ·rw [Array.toList_setIfInBounds, List.take_set, ht]
   unfold strs
   rw [List.map_append, List.map_append, List.set_append]
   simp
set_option maxRecDepth 100000 in
set_option maxHeartbeats 4000000 in
theorem words_any (s : List UInt8) (w : World) (hs : s.length ≤ 65536) :
  Calls Tryz.prog 88 #[.string ⟨s.toArray⟩] w fun e w' => ∃ A c, e = .returned (.slice A (splitL 32 s).length c) ∧ Sl w' w'.heap.size 1 encS A (splitL 32 s) ∧ Below w.heap.size w w' := by
 have HB0 := Lib.hid (show Below w.heap.size w (w.alloc (.cells #[.string ⟨#[]⟩] 9)) from (Below.refl _ _).alloc (Nat.le_refl _) _)
 have HO0 := Lib.hid (show (w.alloc (.cells #[.string ⟨#[]⟩] 9)).ownsRow w.heap.size 9 1 (.slice (some ⟨w.heap.size, 0, none⟩) 1 1) 1 (strs ([] ++ [[]])) from ⟨rfl, .inr ⟨w.heap.size, 1, #[.string ⟨#[]⟩], rfl, Nat.le_refl _, heap_alloc_new w _, Nat.le_refl _, by decide, rfl, rfl⟩⟩)
 go_enter Tryz.func88, Tryz.ntmps88
 go_wp2
 go_loopw [3, 4] (fun v i wr => ∃ (k n : Nat) (P : List (List UInt8)) (x : List UInt8) (A : Option Addr) (c : Nat), k ≤ s.length ∧ i = .int .i64 (k : Nat) ∧ v = .slice A n c ∧ Hid (n = P.length + 1) ∧ Hid (n ≤ k + 1 ∧ x.length ≤ k) ∧ Hid (splitL 32 (s.take k) = P ++ [x]) ∧ Hid (wr.ownsRow w.heap.size 9 1 (.slice A n c) n (strs (P ++ [x]))) ∧ Hid (Below w.heap.size w wr)) (fun _ i _ => s.length - (intOf i).toNat)
 case atStart => exact ⟨0, 1, [], [], _, _, Nat.zero_le _, rfl, rfl, Lib.hid rfl, Lib.hid ⟨Nat.le_refl _, Nat.le_refl _⟩, Lib.hid rfl, HO0, HB0⟩
 case round =>
  obtain ⟨wo, hwo⟩ : ∃ wo, wo = wr := ⟨_, rfl⟩
  subst hwo
  obtain ⟨k, n, P, x, A, c, hk, rfl, rfl, HN, HX, HS, HO, HB⟩ := hrel
  have hzo := HB.out.size
  by_cases hlt : k < s.length
  ·have hlt' : (k : Int) < (s.length : Int) := by omega
   have hT : s.take (k + 1) = s.take k ++ [s[k]] := List.take_succ_eq_append_getElem hlt
   have hsn := splitL_snoc 32 s[k] (s.take k) P x HS.out
   rw [← hT] at hsn
   have hg : (({ data := s.toArray } : ByteArray)[k]) = s[k] := rfl
   have HSN := Lib.hid hsn
   have HG := Lib.hid hg
   have hnk := HX.out.1
   have hxk := HX.out.2
   clear hsn hg hT
   cases he : ((({ data := s.toArray } : ByteArray)[k].toNat : Int) == 32)
   ·obtain ⟨g, hA, hgb, hc, hf, hset⟩ := row_last HO.out HN.out
    have hne : ¬ s[k] = 32 := by
     intro e
     rw [HG.out, e] at he
     simp at he
    have HSN2 := Lib.hid (show splitL 32 (s.take (k + 1)) = P ++ [x ++ [s[k]]] by rw [HSN.out, if_neg hne])
    obtain ⟨pl, hpl⟩ : ∃ pl, pl = P.length := ⟨_, rfl⟩
    rw [← hpl] at hc hf hset
    have hn1 : n = pl + 1 := by rw [hpl]; exact HN.out
    have hw1 : IntKind.i64.wrap ((n : Int) - 1) = (pl : Int) := by simp [IntKind.wrap, IntKind.bits, IntKind.signed]; omega
    have hp0 : (0 : Int) ≤ (pl : Int) := by omega
    have hpn : (pl : Int) < (n : Int) := by omega
    have HSET := Lib.hid hset
    have HPL := Lib.hid hpl
    subst hA
    have HB2 := Lib.hid (HB.out.setCell (p := ⟨g, pl, none⟩) hgb (.string ⟨(x ++ [s[k]]).toArray⟩))
    clear hset hpl hne HSN
    go_upto_region 7 with fail
    go_region
    have hx2 : (({ data := x.toArray } : ByteArray) ++ ({ data := s.toArray } : ByteArray).extract k (k + 1)) = ⟨(x ++ [s[k]]).toArray⟩ := by
     rw [ByteArray.extract_mk]
     simp only [ByteArray.mk_append_mk]
     congr 2
     rw [Nat.add_sub_cancel_left, List.drop_eq_getElem_cons hlt]
     rfl
    rw [hx2]
    have HO2 := Lib.hid (own_below2 (HSET.out (x ++ [s[k]])) (Below.refl _ _).drew)
    have HB3 := Lib.hid HB2.out.drew
    clear hc hf hw1 hpn hp0 hx2
    go_wp2
    go_roundw
    case rel => exact ⟨k + 1, n, P, x ++ [s[k]], _, c, by omega, by go_num, rfl, HN, Lib.hid ⟨by omega, by simp; omega⟩, HSN2, HO2, HB3⟩
    case measure => first | (simp [intOf]; done) | (simp [intOf]; omega)
   ·have heq : s[k] = 32 := by
     rw [← HG.out]
     have h2 := beq_iff_eq.1 he
     have h3 : (({ data := s.toArray } : ByteArray)[k]).toNat = 32 := by omega
     exact UInt8.toNat_inj.1 (h3.trans (by decide))
    have HSN2 := Lib.hid (show splitL 32 (s.take (k + 1)) = (P ++ [x]) ++ [[]] by rw [HSN.out, if_pos heq]; simp)
    have HWA := Lib.hid (show Below wo.heap.size wo (wo.alloc (.cells #[.string ⟨#[]⟩] 9)) from (Below.refl _ _).alloc (Nat.le_refl _) _)
    have HOA := Lib.hid (own_below2 HO.out HWA.out)
    have b0 : n + 1 ≤ maxLen := by unfold maxLen; omega
    have b1 : (n + 1) * 16 ≤ 140737488355328 := by omega
    have hbz := Nat.le_trans hzo HWA.out.size
    clear HSN heq
    go_wp2_with (at_builtin; refine wpList_own rfl (.tmp 16) (.tmp 17) rfl w.heap.size elStr (.slice A n c) n _ rfl HOA.out _ 1 _ _ rfl (Src.lit _ 1 _ _ 1 rfl) (by decide) (by simp [Value.oneCell']) b0 b1 hbz ?_; intro v' w7 hown7 hgrow7 hb7; obtain ⟨A7, c7, rfl⟩ := Acc.shape (.inl hown7); have HOWN := Lib.hid hown7; have HB7 := Lib.hid hb7; clear hown7 hgrow7 hb7)
    go_roundw
    case rel => exact ⟨k + 1, n + 1, P ++ [x], [], A7, c7, by omega, by go_num, rfl, Lib.hid (by rw [List.length_append, HN.out]; rfl), Lib.hid ⟨by omega, Nat.zero_le _⟩, HSN2, Lib.hid (by rw [strs_snoc]; exact HOWN.out), Lib.hid ((HB.out.trans (HWA.out.mono hzo)).trans HB7.out)⟩
    case measure => first | (simp [intOf]; done) | (simp [intOf]; omega)
  ·obtain rfl : k = s.length := by omega
   have hS := HS.out
   rw [List.take_length] at hS
   have hlen : (splitL 32 s).length = n := by rw [hS, HN.out]; simp
   obtain ⟨_, HT⟩ := Acc.strs_ (.inl HO.out)
   rw [← hS] at HT
   have HT2 := Lib.hid HT
   have HLN := Lib.hid hlen
   clear hS hlen HT
   go_wp2
   go_ret
   exact ⟨A, c, by rw [HLN.out]; rfl, HT2.out, HB.out⟩
end Go.Proofs.YthcgihgajdjfoaaGreatDoor
namespace Go.Proofs.YthcgihgajdjfoaaGreatDoor
open Go.RowKit
theorem rstep_le {q q' : RSt} {c : UInt8} {n : Nat} (h : rstep q c = some q') (h0 : q.1 ≤ 2) (h1 : q.2.1 < 10 ^ n ∧ q.2.2.1 < 10 ^ n ∧ q.2.2.2 < 10 ^ n) : q'.1 ≤ 2 ∧ q'.2.1 < 10 ^ (n + 1) ∧ q'.2.2.1 < 10 ^ (n + 1) ∧ q'.2.2.2 < 10 ^ (n + 1) := by
 obtain ⟨a, x, y, z⟩ := q
 have e : 10 ^ (n + 1) = 10 ^ n * 10 := Nat.pow_succ ..
 have hp := Nat.pow_pos (n := n) (show 0 < 10 by decide)
 rw [e]
 generalize 10 ^ n = P at *
 unfold rstep at h
 simp only at *
 split at h
 ·injection h with h
  subst h
  simp only
  omega
 ·split at h
  ·split at h <;> (injection h with h; subst h; simp only; omega)
  ·cases h
theorem rscan_le : ∀ (n : Nat) (l : List UInt8) (q : RSt), l.length = n → rscan (some (0, 0, 0, 0)) l = some q → q.1 ≤ 2 ∧ q.2.1 < 10 ^ n ∧ q.2.2.1 < 10 ^ n ∧ q.2.2.2 < 10 ^ n
 | 0, l, q, hl, h => by
   obtain rfl := List.eq_nil_of_length_eq_zero hl
   simp [rscan] at h
   subst h
   simp
 | n + 1, l, q, hl, h => by
   have hn : l ≠ [] := fun e => by rw [e] at hl; simp at hl
   have e := List.dropLast_concat_getLast hn
   rw [← e, rscan_snoc] at h
   cases h1 : rscan (some (0, 0, 0, 0)) l.dropLast with
   | none => rw [h1] at h; cases h
   | some q' =>
     rw [h1] at h
     have ih := rscan_le n l.dropLast q' (by simp [hl]) h1
     exact rstep_le h ih.1 ih.2
theorem pow_le15 {x n : Nat} (h : x < 10 ^ n) (hn : n ≤ 15) : x < 1000000000000000 :=
 Nat.lt_of_lt_of_le h (Nat.le_trans (Nat.pow_le_pow_right (by decide) hn) (by decide))
theorem rstep_d0 {x y z : Nat} {c : UInt8} (h : 48 ≤ c.toNat ∧ c.toNat ≤ 57) : rstep (0, x, y, z) c = some (0, x * 10 + (c.toNat - 48), y, z) := by
 unfold rstep
 rw [if_neg (by omega), if_pos h]
theorem rstep_d1 {x y z : Nat} {c : UInt8} (h : 48 ≤ c.toNat ∧ c.toNat ≤ 57) : rstep (1, x, y, z) c = some (1, x, y * 10 + (c.toNat - 48), z) := by
 unfold rstep
 rw [if_neg (by omega), if_pos h]
theorem rstep_d2 {x y z : Nat} {c : UInt8} (h : 48 ≤ c.toNat ∧ c.toNat ≤ 57) : rstep (2, x, y, z) c = some (2, x, y, z * 10 + (c.toNat - 48)) := by
 unfold rstep
 rw [if_neg (by omega), if_pos h]
set_option maxRecDepth 100000 in
set_option maxHeartbeats 4000000 in
theorem refvParse_any (s : List UInt8) (w : World) (hs : s.length ≤ maxLen) :
  Calls Tryz.prog 90 #[.string ⟨s.toArray⟩] w (RetVer w s) := by
 unfold maxLen at hs
 have hre := rparse_eq s
 unfold rparse at hre
 by_cases h6 : s.length < 6
 ·have hn := Lib.hid (show vparse s = none by rw [← hre, if_neg (by omega)])
  have d6 : (s.length : Int) < 6 := by omega
  clear hre
  generalize hR : RetVer w s = R
  go_enter Tryz.func90, Tryz.ntmps90
  go_wp2
  refine bodyPost_ret (v := .tuple #[.agg #[.int .i64 0, .int .i64 0, .int .i64 0], .int .i64 8]) (by simp [results, Tryz.results90, go_sem]) rfl ?_
  rw [← hR]
  first | exact ret_none hn.out ((Below.refl _ _).alloc (Nat.le_refl _) _) | exact ret_none hn.out (((((Below.refl _ _).alloc (Nat.le_refl _) _).setCell (by simp) _).setCell (by simp) _).setCell (by simp) _)
 have d6 : ¬ (s.length : Int) < 6 := by omega
 by_cases h15 : 15 < s.length
 ·have hn := Lib.hid (show vparse s = none by rw [← hre, if_neg (by omega)])
  have d15 : (15 : Int) < (s.length : Int) := by omega
  clear hre
  generalize hR : RetVer w s = R
  go_enter Tryz.func90, Tryz.ntmps90
  go_wp2
  refine bodyPost_ret (v := .tuple #[.agg #[.int .i64 0, .int .i64 0, .int .i64 0], .int .i64 8]) (by simp [results, Tryz.results90, go_sem]) rfl ?_
  rw [← hR]
  first | exact ret_none hn.out ((Below.refl _ _).alloc (Nat.le_refl _) _) | exact ret_none hn.out (((((Below.refl _ _).alloc (Nat.le_refl _) _).setCell (by simp) _).setCell (by simp) _).setCell (by simp) _)
 have d15 : ¬ (15 : Int) < (s.length : Int) := by omega
 have hs0 : 0 < s.length := by omega
 have e0 : (({ data := s.toArray } : ByteArray)[0]'hs0) = s[0] := rfl
 by_cases hv : s[0] = 118
 ·have hs1 : s.take 1 = [118] := by
   cases s with
   | nil => simp at hs0
   | cons c u => simpa using hv
  have n0 : (((({ data := s.toArray } : ByteArray)[0]'hs0).toNat : Int) != 118) = false := by rw [e0, hv]; rfl
  have n1 : (((({ data := s.toArray } : ByteArray)[0]'hs0).toNat : Int) == 118) = true := by rw [e0, hv]; rfl
  have HV := Lib.hid (show vparse s = _ by rw [← hre, if_pos ⟨by omega, by omega, hs1⟩])
  clear hre hv e0 hs1
  have Q0 := Lib.hid ((Blk.new w 24 #[.int .i64 0, .int .i64 0, .int .i64 0]).keep ((Below.refl _ _).alloc (Nat.le_refl _) (.cells #[.int .i64 0, .int .i64 0, .int .i64 0] 167)))
  have q1 := Blk.new (w.alloc (.cells #[.int .i64 0, .int .i64 0, .int .i64 0] 24)) 167 #[.int .i64 0, .int .i64 0, .int .i64 0]
  rw [World.size_alloc] at q1
  have Q1 := Lib.hid q1
  clear q1
  generalize hR : RetVer w s = R
  go_enter Tryz.func90, Tryz.ntmps90
  go_wp2_with fail
  go_loopw [5, 6] (fun at_ i wr => ∃ (k a x y z : Nat), 1 ≤ k ∧ k ≤ s.length ∧ at_ = .int .i64 (a : Nat) ∧ i = .int .i64 (k : Nat) ∧ Hid (rscan (some (0, 0, 0, 0)) ((s.drop 1).take (k - 1)) = some (a, x, y, z)) ∧ Hid (Blk wr (w.heap.size + 1) 167 #[.int .i64 (x : Nat), .int .i64 (y : Nat), .int .i64 (z : Nat)]) ∧ Hid (Blk wr w.heap.size 24 #[.int .i64 0, .int .i64 0, .int .i64 0]) ∧ w.heap.size + 2 ≤ wr.heap.size ∧ Below w.heap.size w wr) (fun _ i _ => s.length - (intOf i).toNat)
  case atStart => exact ⟨1, 0, 0, 0, 0, Nat.le_refl _, hs0, rfl, rfl, Lib.hid rfl, Q1, Q0, by simp, ((Below.refl _ _).alloc (Nat.le_refl _) _).alloc (by simp) _⟩
  case round =>
   obtain ⟨k, a, x, y, z, hk1, hk, rfl, rfl, HS, HB, HQ, hz, hb⟩ := hrel
   have hb0 := rscan_le (k - 1) _ _ (by simp; omega) HS.out
   simp only at hb0
   obtain ⟨ha2, hx, hy, hz3⟩ := hb0
   have hx' := pow_le15 hx (by omega)
   have hy' := pow_le15 hy (by omega)
   have hz' := pow_le15 hz3 (by omega)
   clear hx hy hz3
   by_cases hlt : k < s.length
   ·have hlt' : (k : Int) < (s.length : Int) := by omega
    have hkd : k - 1 < (s.drop 1).length := by simp; omega
    have hke : 1 + (k - 1) = k := by omega
    have HN := Lib.hid (show rscan (some (0, 0, 0, 0)) ((s.drop 1).take (k + 1 - 1)) = rstep (a, x, y, z) s[k] by
     have h := rscan_take (some (0, 0, 0, 0)) (s.drop 1) (k - 1) hkd
     rw [HS.out, Option.bind_some] at h
     simp only [List.getElem_drop, hke] at h
     rw [show k + 1 - 1 = k - 1 + 1 by omega]
     exact h)
    have HX := Lib.hid (fun (h : rstep (a, x, y, z) s[k] = none) => show vparse s = none by
     rw [HV.out, rscan_bad _ _ (k + 1 - 1) (HN.out.trans h)])
    have eb : ({ data := s.toArray } : ByteArray)[k] = s[k] := rfl
    obtain ⟨c, hc⟩ : ∃ c : Nat, c = s[k].toNat := ⟨_, rfl⟩
    have hcT : (({ data := s.toArray } : ByteArray)[k]).toNat = c := by rw [eb, hc]
    have hc256 : c < 256 := by rw [hc]; exact UInt8.toNat_lt _
    have HC := Lib.hid hc
    have KB := HB.out
    have k0 := KB.cell 0
    have k1 := KB.cell 1
    have k2 := KB.cell 2
    have z0 := HQ.out.cell 0
    have z1 := HQ.out.cell 1
    have z2 := HQ.out.cell 2
    have f0 := HQ.out.free 0
    have f1 := HQ.out.free 1
    have f2 := HQ.out.free 2
    have g0 := KB.free 0
    have g1 := KB.free 1
    have g2 := KB.free 2
    simp at k0 k1 k2 z0 z1 z2
    clear KB hkd hke eb hc
    by_cases hdot : c = 46 ∧ a < 2
    ·have ha' : (a : Int) < 2 := by omega
     have h46 : (c : Int) = 46 := by omega
     have hr := Lib.hid (show rstep (a, x, y, z) s[k] = some (a + 1, x, y, z) by unfold rstep; rw [← HC.out, if_pos hdot])
     clear hdot
     go_wp2
     go_roundw
     case rel => exact ⟨k + 1, a + 1, x, y, z, by omega, by omega, by go_num, by go_num, Lib.hid (HN.out.trans hr.out), HB, HQ, hz, hb⟩
     case measure => simp [intOf]; omega
    ·by_cases hdig : 48 ≤ c ∧ c ≤ 57
     ·have hlo : ¬ (c : Int) < 48 := by omega
      have hhi : ¬ (57 : Int) < (c : Int) := by omega
      have h46 : ¬ (c : Int) = 46 := by omega
      have w1 : IntKind.u8.wrap ((c : Int) - 48) = (c : Int) - 48 := by simp [IntKind.wrap, IntKind.bits, IntKind.signed]; omega
      have w2 : IntKind.i64.wrap ((c : Int) - 48) = (c : Int) - 48 := by simp [IntKind.wrap, IntKind.bits, IntKind.signed]; omega
      have hlo2 : 48 ≤ c := hdig.1
      have hcz : (c : Int) ≤ 57 := by omega
      have HD := Lib.hid hdig
      clear hdot hdig
      rcases (show a = 0 ∨ a = 1 ∨ a = 2 by omega) with rfl | rfl | rfl
      ·have v1 : IntKind.i64.wrap ((x : Int) * 10) = (x : Int) * 10 := by simp [IntKind.wrap, IntKind.bits, IntKind.signed]; omega
       have v2 : IntKind.i64.wrap ((x : Int) * 10 + ((c : Int) - 48)) = (x : Int) * 10 + ((c : Int) - 48) := by simp [IntKind.wrap, IntKind.bits, IntKind.signed]; omega
       have HVv := Lib.hid (show (x : Int) * 10 + ((c : Int) - 48) = ((x * 10 + (c - 48) : Nat) : Int) by omega)
       have hst := Lib.hid (show rscan (some (0, 0, 0, 0)) ((s.drop 1).take (k + 1 - 1)) = some (0, x * 10 + (c - 48), y, z) by
        rw [HN.out, rstep_d0 (by rw [← HC.out]; exact HD.out), ← HC.out])
       clear HN
       go_upto_region 12 with fail
       go_region
       all_goals
        rw [HVv.out]
        go_wp2
        go_roundw
        case rel => exact ⟨k + 1, 0, x * 10 + (c - 48), y, z, by omega, by omega, by go_num, by go_num, Lib.hid hst.out, Lib.hid (HB.out.set_ 0 _), Lib.hid (Blk.far (t := 24) HQ.out (p := ⟨w.heap.size + 1, 0, none⟩) (by show w.heap.size ≠ w.heap.size + 1; omega) _), by simp; omega, Below.drew (hb.setCell (p := ⟨w.heap.size + 1, 0, none⟩) (by show w.heap.size ≤ w.heap.size + 1; omega) _)⟩
        case measure => simp [intOf]; omega
      ·have v1 : IntKind.i64.wrap ((y : Int) * 10) = (y : Int) * 10 := by simp [IntKind.wrap, IntKind.bits, IntKind.signed]; omega
       have v2 : IntKind.i64.wrap ((y : Int) * 10 + ((c : Int) - 48)) = (y : Int) * 10 + ((c : Int) - 48) := by simp [IntKind.wrap, IntKind.bits, IntKind.signed]; omega
       have HVv := Lib.hid (show (y : Int) * 10 + ((c : Int) - 48) = ((y * 10 + (c - 48) : Nat) : Int) by omega)
       have hst := Lib.hid (show rscan (some (0, 0, 0, 0)) ((s.drop 1).take (k + 1 - 1)) = some (1, x, y * 10 + (c - 48), z) by
        rw [HN.out, rstep_d1 (by rw [← HC.out]; exact HD.out), ← HC.out])
       clear HN
       go_upto_region 12 with fail
       go_region
       all_goals
        rw [HVv.out]
        go_wp2
        go_roundw
        case rel => exact ⟨k + 1, 1, x, y * 10 + (c - 48), z, by omega, by omega, by go_num, by go_num, Lib.hid hst.out, Lib.hid (HB.out.set_ 1 _), Lib.hid (Blk.far (t := 24) HQ.out (p := ⟨w.heap.size + 1, 1, none⟩) (by show w.heap.size ≠ w.heap.size + 1; omega) _), by simp; omega, Below.drew (hb.setCell (p := ⟨w.heap.size + 1, 1, none⟩) (by show w.heap.size ≤ w.heap.size + 1; omega) _)⟩
        case measure => simp [intOf]; omega
      ·have v1 : IntKind.i64.wrap ((z : Int) * 10) = (z : Int) * 10 := by simp [IntKind.wrap, IntKind.bits, IntKind.signed]; omega
       have v2 : IntKind.i64.wrap ((z : Int) * 10 + ((c : Int) - 48)) = (z : Int) * 10 + ((c : Int) - 48) := by simp [IntKind.wrap, IntKind.bits, IntKind.signed]; omega
       have HVv := Lib.hid (show (z : Int) * 10 + ((c : Int) - 48) = ((z * 10 + (c - 48) : Nat) : Int) by omega)
       have hst := Lib.hid (show rscan (some (0, 0, 0, 0)) ((s.drop 1).take (k + 1 - 1)) = some (2, x, y, z * 10 + (c - 48)) by
        rw [HN.out, rstep_d2 (by rw [← HC.out]; exact HD.out), ← HC.out])
       clear HN
       go_upto_region 12 with fail
       go_region
       all_goals
        rw [HVv.out]
        go_wp2
        go_roundw
        case rel => exact ⟨k + 1, 2, x, y, z * 10 + (c - 48), by omega, by omega, by go_num, by go_num, Lib.hid hst.out, Lib.hid (HB.out.set_ 2 _), Lib.hid (Blk.far (t := 24) HQ.out (p := ⟨w.heap.size + 1, 2, none⟩) (by show w.heap.size ≠ w.heap.size + 1; omega) _), by simp; omega, Below.drew (hb.setCell (p := ⟨w.heap.size + 1, 2, none⟩) (by show w.heap.size ≤ w.heap.size + 1; omega) _)⟩
        case measure => simp [intOf]; omega
     ·have hn := Lib.hid (HX.out (by unfold rstep; rw [← HC.out, if_neg hdot, if_neg hdig]))
      have HD := Lib.hid hdot
      clear hdot HS HX HN HV
      by_cases hlo : c < 48
      ·have hloI : (c : Int) < 48 := by omega
       by_cases h46 : c = 46
       ·have h46I : (c : Int) = 46 := by omega
        have haI : ¬ (a : Int) < 2 := by have := HD.out; omega
        clear hdig h46
        go_wp2
        refine bodyPost_ret (v := .tuple #[.agg #[.int .i64 0, .int .i64 0, .int .i64 0], .int .i64 8]) (by simp [results, Tryz.results90, go_sem, z0, z1, z2]) rfl ?_
        rw [← hR]
        exact ret_none hn.out (((hb.setCell (p := ⟨w.heap.size, 0, none⟩) (Nat.le_refl _) _).setCell (p := ⟨w.heap.size, 1, none⟩) (Nat.le_refl _) _).setCell (p := ⟨w.heap.size, 2, none⟩) (Nat.le_refl _) _)
       ·have h46I : ¬ (c : Int) = 46 := by omega
        clear hdig h46
        go_wp2
        refine bodyPost_ret (v := .tuple #[.agg #[.int .i64 0, .int .i64 0, .int .i64 0], .int .i64 8]) (by simp [results, Tryz.results90, go_sem, z0, z1, z2]) rfl ?_
        rw [← hR]
        exact ret_none hn.out (((hb.setCell (p := ⟨w.heap.size, 0, none⟩) (Nat.le_refl _) _).setCell (p := ⟨w.heap.size, 1, none⟩) (Nat.le_refl _) _).setCell (p := ⟨w.heap.size, 2, none⟩) (Nat.le_refl _) _)
      ·have hloI : ¬ (c : Int) < 48 := by omega
       have hhiI : (57 : Int) < (c : Int) := by omega
       have h46I : ¬ (c : Int) = 46 := by omega
       clear hdig hlo
       go_wp2
       refine bodyPost_ret (v := .tuple #[.agg #[.int .i64 0, .int .i64 0, .int .i64 0], .int .i64 8]) (by simp [results, Tryz.results90, go_sem, z0, z1, z2]) rfl ?_
       rw [← hR]
       exact ret_none hn.out (((hb.setCell (p := ⟨w.heap.size, 0, none⟩) (Nat.le_refl _) _).setCell (p := ⟨w.heap.size, 1, none⟩) (Nat.le_refl _) _).setCell (p := ⟨w.heap.size, 2, none⟩) (Nat.le_refl _) _)
   ·obtain rfl : k = s.length := by omega
    have hS := HS.out
    rw [List.take_of_length_le (by simp)] at hS
    have hv2 := HV.out
    rw [hS] at hv2
    simp only at hv2
    have HV2 := Lib.hid hv2
    clear HV HS hS hv2
    have KB := HB.out
    have k0 := KB.cell 0
    have k1 := KB.cell 1
    have k2 := KB.cell 2
    simp at k0 k1 k2
    have cT := Lib.hid (fun W => refvText_any (x : Int) (y : Int) (z : Int) W)
    generalize vtext (x : Int) (y : Int) (z : Int) = T at cT HV2
    generalize (x : Int) = X at k0 k1 k2 cT HV2 HB
    generalize (y : Int) = Y at k0 k1 k2 cT HV2 HB
    generalize (z : Int) = Z at k0 k1 k2 cT HV2 HB
    clear KB
    go_wp2_with fail
    have Bx := Blk.new wr 24 #[.int .i64 X, .int .i64 Y, .int .i64 Z]
    have HBx := Lib.hid (hb.alloc hb.size (.cells #[.int .i64 X, .int .i64 Y, .int .i64 Z] 24))
    have QBx := Lib.hid (HQ.out.keep ((Below.refl _ _).alloc (Nat.le_refl _) (.cells #[.int .i64 X, .int .i64 Y, .int .i64 Z] 24)))
    refine (cT.out _).mono ?_
    rintro e w4 ⟨rfl, hb4⟩
    have Bx4 := Bx.keep hb4
    have QB4 := QBx.out.keep hb4
    have HB4 := Lib.hid (HBx.out.trans (hb4.mono HBx.out.size))
    have y0 := Bx4.cell 0
    have y1 := Bx4.cell 1
    have y2 := Bx4.cell 2
    have z0 := QB4.cell 0
    have z1 := QB4.cell 1
    have z2 := QB4.cell 2
    have f0 := QB4.free 0
    have f1 := QB4.free 1
    have f2 := QB4.free 2
    simp at y0 y1 y2 z0 z1 z2
    clear Bx4 QB4 hb4 cT Bx HB HQ QBx HBx
    by_cases ht : T = s
    ·have HV' := Lib.hid (show vparse s = some (X, Y, Z) by rw [HV2.out, if_pos ht])
     subst ht
     clear HV2
     go_wp2
     refine bodyPost_ret (v := .tuple #[.agg #[.int .i64 X, .int .i64 Y, .int .i64 Z], .int .i64 0]) (by simp [results, Tryz.results90, go_sem, z0, z1, z2]) rfl ?_
     rw [← hR]
     exact ret_some HV'.out (((HB4.out.setCell (p := ⟨w.heap.size, 0, none⟩) (Nat.le_refl _) _).setCell (p := ⟨w.heap.size, 1, none⟩) (Nat.le_refl _) _).setCell (p := ⟨w.heap.size, 2, none⟩) (Nat.le_refl _) _)
    ·have HV' := Lib.hid (show vparse s = none by rw [HV2.out, if_neg ht])
     have ht' : (T == s) = false := beq_eq_false_iff_ne.2 ht
     clear ht HV2
     go_wp2
     refine bodyPost_ret (v := .tuple #[.agg #[.int .i64 0, .int .i64 0, .int .i64 0], .int .i64 8]) (by simp [results, Tryz.results90, go_sem, z0, z1, z2]) rfl ?_
     rw [← hR]
     exact ret_none HV'.out (((HB4.out.setCell (p := ⟨w.heap.size, 0, none⟩) (Nat.le_refl _) _).setCell (p := ⟨w.heap.size, 1, none⟩) (Nat.le_refl _) _).setCell (p := ⟨w.heap.size, 2, none⟩) (Nat.le_refl _) _)
 ·have hn := Lib.hid (show vparse s = none by rw [← hre, if_neg (fun h => hv (by have := h.2.2; cases s with | nil => simp at hs0 | cons c u => simpa using this))])
  have n0 : (((({ data := s.toArray } : ByteArray)[0]'hs0).toNat : Int) != 118) = true := by
   rw [bne_iff_ne, e0]
   intro h
   exact hv (UInt8.toNat_inj.1 (by have : s[0].toNat = 118 := by omega
                                   simpa using this))
  have n1 : (((({ data := s.toArray } : ByteArray)[0]'hs0).toNat : Int) == 118) = false := by simpa using n0
  clear hre hv e0
  generalize hR : RetVer w s = R
  go_enter Tryz.func90, Tryz.ntmps90
  go_wp2
  refine bodyPost_ret (v := .tuple #[.agg #[.int .i64 0, .int .i64 0, .int .i64 0], .int .i64 8]) (by simp [results, Tryz.results90, go_sem]) rfl ?_
  rw [← hR]
  first | exact ret_none hn.out ((Below.refl _ _).alloc (Nat.le_refl _) _) | exact ret_none hn.out (((((Below.refl _ _).alloc (Nat.le_refl _) _).setCell (by simp) _).setCell (by simp) _).setCell (by simp) _)
end Go.Proofs.YthcgihgajdjfoaaGreatDoor
namespace Go.Proofs.YthcgihgajdjfoaaGreatDoor
open Go.RowKit
theorem hexd_low : ∀ d : Fin 16, lowhex (hexd d.1) = true ∧ hval (hexd d.1) = d.1 := by decide +kernel
theorem hexd_hval (c : UInt8) (h : lowhex c = true) : hexd (hval c) = c := by
 have : ∀ n : Fin 256, lowhex (UInt8.ofNat n.1) = true → hexd (hval (UInt8.ofNat n.1)) = UInt8.ofNat n.1 := by decide +kernel
 have := this ⟨c.toNat, c.toNat_lt⟩
 simpa using this (by simpa using h)
theorem hexs_low : ∀ (k n : Nat), (hexs k n).all lowhex = true
 | 0, _ => rfl
 | k + 1, n => by
   rw [hexs, List.all_append, hexs_low k]
   have := (hexd_low ⟨n % 16, Nat.mod_lt _ (by decide)⟩).1
   simpa using this
theorem hexs_pval : ∀ (k : Nat) (l : List UInt8), l.length = k → l.all lowhex = true → hexs k (pval l) = l := by
 intro k
 induction k with
 | zero =>
   intro l h _
   obtain rfl : l = [] := List.eq_nil_of_length_eq_zero h
   rfl
 | succ k ih =>
   intro l h ha
   rcases List.eq_nil_or_concat l with rfl | ⟨l', c, rfl⟩
   ·simp at h
   ·rw [List.concat_eq_append] at *
    rw [List.all_append] at ha
    simp at ha h
    have hc := hval_lt c ha.2
    have h1 : (16 * pval l' + hval c) / 16 = pval l' := by omega
    have h2 : (16 * pval l' + hval c) % 16 = hval c := by omega
    rw [pval_snoc, hexs, h1, h2, ih l' h (by simpa using ha.1), hexd_hval c ha.2]
theorem dtext_drop (n : Nat) : (dtext n).drop 2 = hexs 16 n := by
 unfold dtext
 generalize hexs 16 n = l
 rfl
theorem dtext_take (n : Nat) : (dtext n).take 2 = [104, 58] := by
 unfold dtext
 generalize hexs 16 n = l
 rfl
theorem dtext_length (n : Nat) : (dtext n).length = 18 := by
 unfold dtext
 rw [List.length_append, hexs_length]
 rfl
theorem pOk_dtext (n : Nat) : pOk (dtext n) = true :=
 pOk_good _ (dtext_length n) (dtext_take n) (by rw [dtext_drop]; exact hexs_low 16 n)
theorem dtext_presN (s : List UInt8) (h : pOk s = true) : dtext (presN s) = s := by
 unfold presN
 rw [if_pos h]
 unfold pOk at h
 simp only [Bool.and_eq_true, decide_eq_true_eq] at h
 unfold dtext
 rw [hexs_pval 16 (s.drop 2) (by simp; omega) h.2, ← h.1.2, List.take_append_drop]
theorem dtext_ne (s : List UInt8) (h : pOk s = false) (n : Nat) : dtext n ≠ s := fun e => by
 rw [← e, pOk_dtext] at h
 cases h
end Go.Proofs.YthcgihgajdjfoaaGreatDoor
