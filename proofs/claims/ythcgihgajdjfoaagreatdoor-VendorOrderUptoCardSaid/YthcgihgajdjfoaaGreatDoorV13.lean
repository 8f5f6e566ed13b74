/- What the claim needs of: WT WR. -/
import Derived.Test.YthcgihgajdjfoaaGreatDoorV12
import Derived.Test.YthcgihgajdjfoaaGreatDoorV9
import Derived.Test.YthcgihgajdjfoaaGreatDoorV7
import Derived.Test.YthcgihgajdjfoaaGreatDoorV2
import Derived.Test.YthcgihgajdjfoaaGreatDoorV1
import Derived.Deep.QuietTactic
import Derived.BigQuiet
import Derived.Laws.Runes
import Derived.Laws.BitsAllLaws
namespace Go.Proofs.YthcgihgajdjfoaaGreatDoor
open Go.RowKit Go.Sort
theorem elSrc : ElT Tryz.prog 60 64 2 32 := ElT.mk_ (z := .agg #[.string ByteArray.empty, .string ByteArray.empty]) Tryz.underlying60 (by kernel_rfl) rfl (by decide)
theorem Sl.src2 {w : World} {B : Nat} {A : Option Addr} {l : List Src2} (h : Sl w B 2 encT A l) {i : Nat} (hi : i < l.length) :
  ∃ b off, A = some ⟨b, off, none⟩ ∧ b < B ∧ w.cell? ⟨b, off + i * 2, none⟩ = some (.string ⟨(l[i]).1.toArray⟩) ∧ w.cell? ⟨b, off + i * 2 + 1, none⟩ = some (.string ⟨(l[i]).2.toArray⟩) := by
 obtain ⟨b, off, e, hb, hc⟩ := h.at_ hi
 exact ⟨b, off, e, hb, by simpa using hc 0 _ rfl, hc 1 _ rfl⟩
set_option maxHeartbeats 1000000 in
theorem srcCmp_any (a b a' b' : List UInt8) (w : World) :
  Calls Tryz.prog 106 #[.agg #[.string ⟨a.toArray⟩, .string ⟨b.toArray⟩], .agg #[.string ⟨a'.toArray⟩, .string ⟨b'.toArray⟩]] w fun e w' => e = .returned (.int .i64 (tcmp (a, b) (a', b'))) ∧ BelowD w.heap.size w w' := by
 have hc := Lib.hid (fun W => cmpS_any a a' W)
 go_enter Tryz.func106, Tryz.ntmps106
 go_wp2_with (go_at_call 47; refine (hc.out _).mono ?_; rintro e w1 ⟨rfl, rfl⟩)
 go_ret
 exact ⟨rfl, ((BelowD.refl _ _).alloc (Nat.le_refl _) _).alloc (by simp) _⟩
set_option maxRecDepth 100000 in
set_option maxHeartbeats 1000000 in
theorem cloneS_any (A : Option Addr) (c : Nat) (l : List Src2) (w : World) (hA : Sl w w.heap.size 2 encT A l) (hl : l.length ≤ 1099511627776) :
  Calls Tryz.prog 70 #[.slice A l.length c] w fun e w' => ∃ v, e = .returned v ∧ NewRowK w' w.heap.size 64 2 encT v l ∧ Below w.heap.size w w' := by
 rcases hA with rfl | ⟨b, off, rfl, hb, hc⟩
 ·rcases A with _ | ad
  ·refine (AnyE.slices_Clone_nil Tryz.cloneS 0 c w).mono ?_
   rintro e w' ⟨rfl, rfl⟩
   exact ⟨_, rfl, .inl ⟨rfl, _, _, rfl⟩, Below.refl _ _⟩
  ·have q := fun (w : World) => Lib.run_eql_slice_nil w _ _ (some ad) 0 c 0 0 Tryz.underlying60
   have hac := Acc.marked w #[] w.heap.size 64 2 0 (0, 0) rfl
   show Calls Tryz.prog 70 #[.slice (some ad) 0 c] w _
   go_enter Tryz.func70, Tryz.ntmps70
   go_wp2_with (at_builtin; refine wpList_app _ rfl (.tmp 5) (.tmp 6) 60 rfl w.heap.size 64 2 32 elSrc (.slice (some ⟨w.heap.size, 0, none⟩) 0 0) 0 _ rfl hac (some ad) 0 c [] rfl ⟨rfl, fun h => absurd h (by decide)⟩ (by simp) (by simp [maxLen]) (by omega) (by simp) ?_; intro v' w1 hacc' _ hb' _ _)
   go_ret
   obtain ⟨A', c', rfl⟩ := hacc'.shape
   exact ⟨_, rfl, .inl ⟨rfl, _, _, rfl⟩, ((Below.refl _ _).alloc (Nat.le_refl _) _).trans hb'⟩
 ·obtain ⟨_, h0, i, z, e1, e2, e3, e4, e5⟩ := elSrc
  have hsr := (Sl.src (.inr ⟨b, off, rfl, hb, hc⟩ : Sl w w.heap.size 2 encT (some ⟨b, off, none⟩) l) encT_len)
  rcases Nat.eq_zero_or_pos l.length with h0' | hpos
  ·obtain rfl : l = [] := List.eq_nil_of_length_eq_zero h0'
   refine (AnyE.slices_Clone Tryz.cloneS i z 2 32 e1 e2 e3 e4 e5 h0 Tryz.sizeOf64 b off 0 c [] w rfl (by simp [maxLen]) (by omega) (by simp) (by simp)).mono ?_
   rintro e w' ⟨v, rfl, h1, h2, h3⟩
   exact ⟨v, rfl, .inr ⟨h2, h1⟩, h3⟩
  ·refine (AnyE.slices_Clone Tryz.cloneS i z 2 32 e1 e2 e3 e4 e5 h0 Tryz.sizeOf64 b off l.length c (l.flatMap encT) w (flat_len encT_len l) (by simp only [maxLen]; omega) (by omega) (fun j u hu => ?_) (encT_one l)).mono ?_
   ·obtain ⟨ad, had, hcs⟩ := hsr.2 hpos
    injection had with had
    subst had
    have := hcs j u hu
    rwa [Addr.add_lit] at this
   ·rintro e w' ⟨v, rfl, h1, h2, h3⟩
    exact ⟨v, rfl, .inr ⟨h2, h1⟩, h3⟩
theorem sortS_any (v : Value) (l : List Src2) (w : World) (base : Nat) (h : NewRowK w base 64 2 encT v l) (hl : l.length ≤ 1099511627776) :
  Calls Tryz.prog 105 #[v, .func (.func 106) #[] #[]] w (SortedTo w base 2 encT (ltOf tcmp) v l) :=
 sortK_any Tryz.sortS 2 64 Tryz.isAgg64 Tryz.sizeOf64 encT encT_len encT_one1 tcmp tlt_swo 106 (enters_of Tryz.func106 (by kernel_rfl) rfl)
  (fun x y W => srcCmp_any x.1 x.2 y.1 y.2 W) (fun p cap fv w => (AnyF.slices_SortFunc_none Tryz.sortS p cap fv w).mono fun e w' ⟨h1, h2⟩ => ⟨h1, h2.symm⟩) v l w base h hl
def RetSrc (w : World) (l : List Src2) (e : Ending) (w' : World) : Prop :=
 Below w.heap.size w w' ∧ ((dupN l = true ∧ e = .returned (.tuple #[.slice none 0 0, .bool false])) ∨
  (dupN l = false ∧ ∃ A' c', e = .returned (.tuple #[.slice A' l.length c', .bool true]) ∧ Sl w' w'.heap.size 2 encT A' (tsort l)))
set_option maxRecDepth 100000 in
set_option maxHeartbeats 1000000 in
theorem sources_any (A : Option Addr) (c : Nat) (l : List Src2) (w : World) (hA : Sl w w.heap.size 2 encT A l) (hl : l.length ≤ 1099511627776) :
  Calls Tryz.prog 61 #[.slice A l.length c] w (RetSrc w l) := by
 have cc := Lib.hid (cloneS_any A c l w hA hl)
 clear hA
 go_enter Tryz.func61, Tryz.ntmps61
 go_wp2_with (first
  | (go_at_call 70; refine cc.out.mono ?_; rintro e w1 ⟨v, rfl, hn, hb1⟩; have hn' := Lib.hid hn; obtain ⟨A1, c1, rfl, hc1⟩ := hn.slice; clear hn; have hX := Lib.hid hb1; clear hb1)
  | (go_at_call 105; refine (sortS_any _ l _ _ hn'.out hl).mono ?_; rintro e w2 ⟨rfl, ⟨A2, c2, l', h2, hcap, hp, hs, hsl⟩, hb2⟩; have HP := Lib.hid hp; have HS := Lib.hid hs; have HE := Lib.hid h2; clear hp hs h2; have hll := HP.out.length_eq))
 have hEE := HE.out
 injection hEE with e1 e2 e3
 subst e1
 clear e2 e3 HE
 have hB2 := Lib.hid (hX.out.trans hb2)
 clear hb2 hn' cc hX
 go_loopw [5] (fun i wr => ∃ k : Nat, i = .int .i64 (k : Nat) ∧ 1 ≤ k ∧ (k ≤ l'.length ∨ k = 1) ∧ Hid (∀ j, j + 1 < k → ∀ h : j + 1 < l'.length, l'[j].1 ≠ l'[j + 1].1) ∧ Below w2.heap.size w2 wr) (fun i _ => l'.length - (intOf i).toNat)
 case atStart => exact ⟨1, rfl, Nat.le_refl _, .inr rfl, fun j h => by omega, Below.refl _ _⟩
 case round =>
  obtain ⟨k, rfl, hk1, hk2, HA, hb⟩ := hrel
  have hbz := hb.size
  by_cases hlt : k < l'.length
  ·have hlt' : (k : Int) < (l.length : Int) := by omega
   obtain ⟨b, off, rfl, hbB, g0, _⟩ := (hsl.below hb).src2 (i := k - 1) (by omega)
   obtain ⟨b', off', hA', hbB', g1, _⟩ := (hsl.below hb).src2 hlt
   injection hA' with hA'
   injection hA' with h1 h2
   subst h1 h2
   have HN := Lib.hid (adj_step k hk1 hlt HA.out)
   have HD' := Lib.hid (dupN_prev k hk1 hlt)
   generalize l'[k - 1].1 = s1 at g0 HN HD'
   generalize l'[k].1 = s2 at g1 HN HD'
   by_cases hs : s1 = s2
   ·have hdp := Lib.hid ((dupN_perm HP.out).symm.trans (HD'.out hs))
    subst hs
    go_wp2
    go_quiet (fail)
    go_wp2
    refine bodyPost_ret (v := .tuple #[.slice none 0 0, .bool false]) (by simp [results, Tryz.results61, go_sem]) rfl ?_
    exact ⟨hB2.out.trans ((hb.drewN _).mono (hB2.out.size)), .inl ⟨hdp.out, rfl⟩⟩
   ·have hs' : (s1 == s2) = false := beq_eq_false_iff_ne.2 hs
    have HN' := Lib.hid (HN.out hs)
    clear hs HN
    go_wp2
    go_quiet (fail)
    go_wp2
    go_roundw
    case rel => exact ⟨k + 1, by go_num, by omega, .inl (by omega), HN'.out, hb.drewN _⟩
    case measure => simp [intOf]; omega
  ·have hlt' : ¬ (k : Int) < (l.length : Int) := by omega
   go_wp2
   have hd : dupN l' = false := dupN_adj HS.out (fun i h => HA.out i (by omega) h)
   have hd' : dupN l = false := (dupN_perm HP.out).symm.trans hd
   refine bodyPost_ret (v := .tuple #[.slice A1 l.length c1, .bool true]) (by simp [results, Tryz.results61, go_sem]) rfl ?_
   refine ⟨hB2.out.trans (hb.mono hB2.out.size), .inr ⟨hd', A1, c1, rfl, ?_⟩⟩
   rw [← tsort_of HP.out HS.out hd']
   exact (hsl.below hb).more hbz
end Go.Proofs.YthcgihgajdjfoaaGreatDoor
namespace Go.Proofs.YthcgihgajdjfoaaGreatDoor
open Go.RowKit
theorem ext16 (m : Nat) (h : m < 16) : ({ data := #[48, 49, 50, 51, 52, 53, 54, 55, 56, 57, 97, 98, 99, 100, 101, 102] } : ByteArray).extract m (m + 1) = ⟨([hexd m] : List UInt8).toArray⟩ := by
 match m, h with
 | 0, _ | 1, _ | 2, _ | 3, _ | 4, _ | 5, _ | 6, _ | 7, _ | 8, _ | 9, _ | 10, _ | 11, _ | 12, _ | 13, _ | 14, _ | 15, _ => rfl
 | d + 16, h => omega
theorem esc_hex (a b : Nat) (ha : a < 16) (hb : b < 16) : (({ data := #[92, 120] } : ByteArray) ++ ({ data := #[48, 49, 50, 51, 52, 53, 54, 55, 56, 57, 97, 98, 99, 100, 101, 102] } : ByteArray).extract a (a + 1)) ++ ({ data := #[48, 49, 50, 51, 52, 53, 54, 55, 56, 57, 97, 98, 99, 100, 101, 102] } : ByteArray).extract b (b + 1) = ⟨([92, 120, hexd a, hexd b] : List UInt8).toArray⟩ := by
 rw [ext16 a ha, ext16 b hb, show ({ data := #[92, 120] } : ByteArray) = ⟨([92, 120] : List UInt8).toArray⟩ from rfl, ByteArray.mk_append_mk, ByteArray.mk_append_mk]
 rfl
set_option maxRecDepth 100000 in
set_option maxHeartbeats 1000000 in
theorem escape_lit (c : UInt8) (w : World) (h : c = 34 ∨ c = 92 ∨ c = 10 ∨ c = 9 ∨ c = 13) :
  Calls Tryz.prog 140 #[.int .u8 c.toNat] w fun e w' => e = .returned (.string ⟨(escB c).toArray⟩) ∧ BelowD w.heap.size w w' := by
 rcases h with rfl | rfl | rfl | rfl | rfl <;>
 ·show Calls Tryz.prog 140 #[.int .u8 (_ : Nat)] w _
  go_enter Tryz.func140, Tryz.ntmps140
  go_wp2
  go_ret
  exact ⟨rfl, BelowD.refl _ _⟩
theorem and_u8 (n : Nat) (h : n < 256) : bits BinOp.and IntKind.u8 (n : Int) 15 = ((n % 16 : Nat) : Int) := by
 rw [show (15 : Int) = ((15 : Nat) : Int) from rfl, u8_and_nat _ _ h (by decide), nat_mask4]
set_option maxRecDepth 100000 in
set_option maxHeartbeats 1000000 in
theorem escape_hex (c : UInt8) (w : World) (h : (c.toNat < 32 ∧ c.toNat ≠ 10 ∧ c.toNat ≠ 9 ∧ c.toNat ≠ 13) ∨ 126 < c.toNat) :
  Calls Tryz.prog 140 #[.int .u8 c.toNat] w fun e w' => e = .returned (.string ⟨(escB c).toArray⟩) ∧ BelowD w.heap.size w w' := by
 have hc := c.toNat_lt
 have hE : escB c = [92, 120, hexd (c.toNat / 16), hexd (c.toNat % 16)] := by
  unfold escB
  rw [if_neg (by omega), if_neg (by omega), if_neg (by omega), if_neg (by omega), if_pos (by omega)]
 rw [hE]
 have h1 : ((c.toNat : Int) == 34) = false := by simp; omega
 have h2 : ((c.toNat : Int) == 92) = false := by simp; omega
 have h3 : ((c.toNat : Int) == 10) = false := by simp; omega
 have h4 : ((c.toNat : Int) == 9) = false := by simp; omega
 have h5 : ((c.toNat : Int) == 13) = false := by simp; omega
 have ha := and_u8 c.toNat (by omega)
 have HX := Lib.hid (esc_hex (c.toNat / 16) (c.toNat % 16) (by omega) (by omega))
 have hm : c.toNat / 16 < 16 := by omega
 have hn : c.toNat % 16 < 16 := by omega
 generalize c.toNat = n at *
 by_cases h6 : n < 32
 ·have h7 : decide ((n : Int) < 32) = true := by simp; omega
  clear h
  go_enter Tryz.func140, Tryz.ntmps140
  go_wp2
  go_quiet (fail)
  go_wp2
  go_ret
  exact ⟨by rw [HX.out]; rfl, (BelowD.refl _ _).drewN _⟩
 ·have h7 : decide ((n : Int) < 32) = false := by simp; omega
  have h8 : decide (126 < (n : Int)) = true := by simp; omega
  clear h
  go_enter Tryz.func140, Tryz.ntmps140
  go_wp2
  go_quiet (fail)
  go_wp2
  go_ret
  exact ⟨by rw [HX.out]; rfl, (BelowD.refl _ _).drewN _⟩
set_option maxRecDepth 100000 in
set_option maxHeartbeats 1000000 in
theorem escape_self (c : UInt8) (w : World) (h : 32 ≤ c.toNat ∧ c.toNat ≤ 126 ∧ c.toNat ≠ 34 ∧ c.toNat ≠ 92) :
  Calls Tryz.prog 140 #[.int .u8 c.toNat] w fun e w' => e = .returned (.string ⟨(escB c).toArray⟩) ∧ BelowD w.heap.size w w' := by
 have hc := c.toNat_lt
 have hE : escB c = [c] := by
  unfold escB
  rw [if_neg (by omega), if_neg (by omega), if_neg (by omega), if_neg (by omega), if_neg (by omega)]
 rw [hE]
 have h1 : ((c.toNat : Int) == 34) = false := by simp; omega
 have h2 : ((c.toNat : Int) == 92) = false := by simp; omega
 have h3 : ((c.toNat : Int) == 10) = false := by simp; omega
 have h4 : ((c.toNat : Int) == 9) = false := by simp; omega
 have h5 : ((c.toNat : Int) == 13) = false := by simp; omega
 have h7 : decide ((c.toNat : Int) < 32) = false := by simp; omega
 have h8 : decide (126 < (c.toNat : Int)) = false := by simp; omega
 have ha := Lib.hid (enc_ascii c (by omega))
 have hlt : c.toNat < 256 := by omega
 clear h
 generalize c.toNat = n at *
 go_enter Tryz.func140, Tryz.ntmps140
 go_wp2
 go_ret
 exact ⟨by rw [ha.out]; rfl, BelowD.refl _ _⟩
theorem escape_any (c : UInt8) (w : World) :
  Calls Tryz.prog 140 #[.int .u8 c.toNat] w fun e w' => e = .returned (.string ⟨(escB c).toArray⟩) ∧ BelowD w.heap.size w w' := by
 by_cases h1 : c.toNat = 34
 ·exact escape_lit c w (.inl (u8_eq c 34 (by decide) h1))
 by_cases h2 : c.toNat = 92
 ·exact escape_lit c w (.inr (.inl (u8_eq c 92 (by decide) h2)))
 by_cases h3 : c.toNat = 10
 ·exact escape_lit c w (.inr (.inr (.inl (u8_eq c 10 (by decide) h3))))
 by_cases h4 : c.toNat = 9
 ·exact escape_lit c w (.inr (.inr (.inr (.inl (u8_eq c 9 (by decide) h4)))))
 by_cases h5 : c.toNat = 13
 ·exact escape_lit c w (.inr (.inr (.inr (.inr (u8_eq c 13 (by decide) h5)))))
 by_cases h6 : c.toNat < 32
 ·exact escape_hex c w (.inl ⟨h6, h3, h4, h5⟩)
 by_cases h7 : 126 < c.toNat
 ·exact escape_hex c w (.inr h7)
 ·exact escape_self c w ⟨by omega, by omega, h1, h2⟩
set_option maxRecDepth 100000 in
set_option maxHeartbeats 1000000 in
theorem written_lit (c : UInt8) (w : World) (h : c = 34 ∨ c = 92 ∨ c = 10 ∨ c = 9 ∨ c = 13) :
  Calls Tryz.prog 101 #[.int .u8 c.toNat] w fun e w' => e = .returned (.string ⟨(escB c).toArray⟩) ∧ Below w.heap.size w w' := by
 rcases h with rfl | rfl | rfl | rfl | rfl <;>
 ·show Calls Tryz.prog 101 #[.int .u8 (_ : Nat)] w _
  go_enter Tryz.func101, Tryz.ntmps101
  go_wp2
  go_ret
  exact ⟨rfl, Below.refl _ _⟩
set_option maxRecDepth 100000 in
set_option maxHeartbeats 1000000 in
theorem written_hex (c : UInt8) (w : World) (h : (c.toNat < 32 ∧ c.toNat ≠ 10 ∧ c.toNat ≠ 9 ∧ c.toNat ≠ 13) ∨ 126 < c.toNat) :
  Calls Tryz.prog 101 #[.int .u8 c.toNat] w fun e w' => e = .returned (.string ⟨(escB c).toArray⟩) ∧ Below w.heap.size w w' := by
 have hc := c.toNat_lt
 have hE : escB c = [92, 120, hexd (c.toNat / 16), hexd (c.toNat % 16)] := by
  unfold escB
  rw [if_neg (by omega), if_neg (by omega), if_neg (by omega), if_neg (by omega), if_pos (by omega)]
 rw [hE]
 have h1 : ((c.toNat : Int) == 34) = false := by simp; omega
 have h2 : ((c.toNat : Int) == 92) = false := by simp; omega
 have h3 : ((c.toNat : Int) == 10) = false := by simp; omega
 have h4 : ((c.toNat : Int) == 9) = false := by simp; omega
 have h5 : ((c.toNat : Int) == 13) = false := by simp; omega
 have HX := Lib.hid (esc_hex (c.toNat / 16) (c.toNat % 16) (by omega) (by omega))
 have hm : c.toNat / 16 < 16 := by omega
 have hn : c.toNat % 16 < 16 := by omega
 generalize c.toNat = n at *
 by_cases h6 : n < 32
 ·have h7 : decide ((n : Int) < 32) = true := by simp; omega
  clear h
  go_enter Tryz.func101, Tryz.ntmps101
  go_wp2
  go_quiet (fail)
  go_wp2
  go_ret
  exact ⟨by rw [HX.out]; rfl, below_drewN (Below.refl _ _) _⟩
 ·have h7 : decide ((n : Int) < 32) = false := by simp; omega
  have h8 : decide (126 < (n : Int)) = true := by simp; omega
  clear h
  go_enter Tryz.func101, Tryz.ntmps101
  go_wp2
  go_quiet (fail)
  go_wp2
  go_ret
  exact ⟨by rw [HX.out]; rfl, below_drewN (Below.refl _ _) _⟩
set_option maxRecDepth 100000 in
set_option maxHeartbeats 1000000 in
theorem written_self (c : UInt8) (w : World) (h : 32 ≤ c.toNat ∧ c.toNat ≤ 126 ∧ c.toNat ≠ 34 ∧ c.toNat ≠ 92) :
  Calls Tryz.prog 101 #[.int .u8 c.toNat] w fun e w' => e = .returned (.string ⟨(escB c).toArray⟩) ∧ Below w.heap.size w w' := by
 have hc := c.toNat_lt
 have hE : escB c = [c] := by
  unfold escB
  rw [if_neg (by omega), if_neg (by omega), if_neg (by omega), if_neg (by omega), if_neg (by omega)]
 rw [hE]
 have h1 : ((c.toNat : Int) == 34) = false := by simp; omega
 have h2 : ((c.toNat : Int) == 92) = false := by simp; omega
 have h3 : ((c.toNat : Int) == 10) = false := by simp; omega
 have h4 : ((c.toNat : Int) == 9) = false := by simp; omega
 have h5 : ((c.toNat : Int) == 13) = false := by simp; omega
 have h7 : decide ((c.toNat : Int) < 32) = false := by simp; omega
 have h8 : decide (126 < (c.toNat : Int)) = false := by simp; omega
 have hcv := (Acc.marked w #[.int .u8 c.toNat] w.heap.size 5 1 1 (0, 0) rfl).str (l := [c]) 65 9 Tryz.underlying65 Tryz.underlying5 Tryz.underlying9
 have hlt : c.toNat < 256 := by omega
 clear h
 generalize c.toNat = n at *
 go_enter Tryz.func101, Tryz.ntmps101
 go_wp2
 go_ret
 exact ⟨rfl, (Below.refl _ _).alloc (Nat.le_refl _) _⟩
theorem written_any (c : UInt8) (w : World) :
  Calls Tryz.prog 101 #[.int .u8 c.toNat] w fun e w' => e = .returned (.string ⟨(escB c).toArray⟩) ∧ Below w.heap.size w w' := by
 by_cases h1 : c.toNat = 34
 ·exact written_lit c w (.inl (u8_eq c 34 (by decide) h1))
 by_cases h2 : c.toNat = 92
 ·exact written_lit c w (.inr (.inl (u8_eq c 92 (by decide) h2)))
 by_cases h3 : c.toNat = 10
 ·exact written_lit c w (.inr (.inr (.inl (u8_eq c 10 (by decide) h3))))
 by_cases h4 : c.toNat = 9
 ·exact written_lit c w (.inr (.inr (.inr (.inl (u8_eq c 9 (by decide) h4)))))
 by_cases h5 : c.toNat = 13
 ·exact written_lit c w (.inr (.inr (.inr (.inr (u8_eq c 13 (by decide) h5)))))
 by_cases h6 : c.toNat < 32
 ·exact written_hex c w (.inl ⟨h6, h3, h4, h5⟩)
 by_cases h7 : 126 < c.toNat
 ·exact written_hex c w (.inr h7)
 ·exact written_self c w ⟨by omega, by omega, h1, h2⟩
set_option maxRecDepth 100000 in
set_option maxHeartbeats 1000000 in
theorem refQuote_any (l : List UInt8) (w : World) (hs : l.length ≤ 1099511627776) :
  Calls Tryz.prog 57 #[.string ⟨l.toArray⟩] w fun e w' => e = .returned (.string ⟨(qtext l).toArray⟩) ∧ Below w.heap.size w w' := by
 go_enter Tryz.func57, Tryz.ntmps57
 go_wp2
 go_loopw [3, 4] (fun v i wr => ∃ k : Nat, k ≤ l.length ∧ i = .int .i64 (k : Nat) ∧ v = .string ⟨([34] ++ escL (l.take k)).toArray⟩ ∧ Below w.heap.size w wr) (fun _ i _ => l.length - (intOf i).toNat)
 case atStart => exact ⟨0, Nat.zero_le _, rfl, rfl, Below.refl _ _⟩
 case round =>
  obtain ⟨k, hk, rfl, rfl, hb⟩ := hrel
  have hbz := hb.size
  have hlk := escL_len (l.take k)
  have hkl : (l.take k).length ≤ k := List.length_take_le _ _
  by_cases hlt : k < l.length
  ·have HN := Lib.hid (escL_snoc l k hlt)
   have cw := Lib.hid (written_any l[k] wr)
   have h4 := (escB_len l[k]).1
   have hg := Lib.hid (show ({ data := l.toArray } : ByteArray)[k] = l[k] from rfl)
   generalize l[k] = c at cw HN h4 hg
   generalize escB c = ec at cw HN h4
   generalize escL (l.take k) = pre at hlk HN
   have nn : ¬ 9223372036854775807 < 1 + pre.length + ec.length := by omega
   go_wp2_with (go_at_call 101; rw [hg.out]; refine cw.out.mono ?_; rintro e w1 ⟨rfl, hb1⟩)
   go_roundw
   case rel => exact ⟨k + 1, by omega, by go_num, by rw [HN.out, ByteArray.mk_append_mk]; simp, hb.trans (hb1.mono hbz)⟩
   case measure => simp [intOf]; omega
  ·obtain rfl : k = l.length := by omega
   generalize hpre : escL (l.take l.length) = pre at hlk
   have HP := Lib.hid hpre
   clear hpre
   have nn : ¬ 9223372036854775807 < 1 + pre.length + 1 := by omega
   go_wp2
   go_ret
   refine ⟨?_, hb⟩
   show Ending.returned (.string _) = _
   rw [show ({ data := #[34] } : ByteArray) = ⟨([34] : List UInt8).toArray⟩ from rfl, ByteArray.mk_append_mk, ← HP.out, List.take_length]
   rfl
end Go.Proofs.YthcgihgajdjfoaaGreatDoor
