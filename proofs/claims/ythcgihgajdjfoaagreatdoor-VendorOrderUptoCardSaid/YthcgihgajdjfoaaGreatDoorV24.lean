/- What the claim needs of: VE PM PT. -/
import Derived.Test.YthcgihgajdjfoaaGreatDoorV19
import Derived.Test.YthcgihgajdjfoaaGreatDoorV23
import Derived.Test.YthcgihgajdjfoaaGreatDoorV9
namespace Go.Proofs.YthcgihgajdjfoaaGreatDoor
open Go.RowKit Go.Sort
def idxR (L : List RelA) (m : Mod) : Int := if L.findIdx (fun r => decide (r.m = m)) < L.length then (L.findIdx (fun r => decide (r.m = m)) : Int) else -1
theorem idxR_hit {L : List RelA} {m : Mod} {k : Nat} (hk : k < L.length) (h : L[k].m = m) (hn : ∀ j (_ : j < k) (hj : j < L.length), L[j].m ≠ m) : idxR L m = k := by
 have : L.findIdx (fun r => decide (r.m = m)) = k := (List.findIdx_eq hk).2 ⟨by simpa using h, fun j hj => by simpa using hn j hj (by omega)⟩
 unfold idxR
 rw [this, if_pos hk]
theorem idxR_miss {L : List RelA} {m : Mod} (hn : ∀ j (hj : j < L.length), L[j].m ≠ m) : idxR L m = -1 := by
 have : L.findIdx (fun r => decide (r.m = m)) = L.length := List.findIdx_eq_length.2 fun x hx => by
  obtain ⟨j, hj, rfl⟩ := List.mem_iff_getElem.1 hx
  simpa using hn j hj
 unfold idxR
 rw [this, if_neg (Nat.lt_irrefl _)]
theorem ModC.keep {W W' : World} {g : Nat} {m : Mod} (h : ModC W g m) (hb : Below W.heap.size W W') : ModC W' g m := ⟨cell_keep hb h.1, cell_keep hb h.2.1, cell_keep hb h.2.2.1, cell_keep hb h.2.2.2⟩
set_option maxRecDepth 100000 in
set_option maxHeartbeats 1000000 in
theorem isRel_any (g : Nat) (m : Mod) (r : RelA) (w : World) (hg : ModC w g m) :
  Calls Tryz.prog 31 #[.agg #[.string ⟨r.m.1.toArray⟩, .int .i64 r.m.2.1, .int .i64 r.m.2.2.1, .int .i64 r.m.2.2.2, .slice r.A r.l.length r.c, .slice r.A' r.s.length r.c'], .pointer (some ⟨g, 0, none⟩)] w fun e w' => e = .returned (.bool (decide (r.m = m))) ∧ Below w.heap.size w w' := by
 have HB := Lib.hid (show Below w.heap.size w (w.alloc (.cells #[.string ⟨r.m.1.toArray⟩, .int .i64 r.m.2.1, .int .i64 r.m.2.2.1, .int .i64 r.m.2.2.2, .slice r.A r.l.length r.c, .slice r.A' r.s.length r.c'] 62)) from (Below.refl _ _).alloc (Nat.le_refl _) _)
 obtain ⟨g0, g1, g2, g3⟩ := hg.keep HB.out
 have heq := fun W => eq_mod r.m.1 m.1 r.m.2.1 r.m.2.2.1 r.m.2.2.2 m.2.1 m.2.2.1 m.2.2.2 W
 obtain ⟨b, hb⟩ : ∃ b, b = decide (r.m = m) := ⟨_, rfl⟩
 rw [show decide ((r.m.1, r.m.2.1, r.m.2.2.1, r.m.2.2.2) = (m.1, m.2.1, m.2.2.1, m.2.2.2)) = b from hb.symm] at heq
 rw [← hb]
 obtain ⟨k0, k1, k2, k3, k4, k5⟩ := relC (Blk.new w 62 #[.string ⟨r.m.1.toArray⟩, .int .i64 r.m.2.1, .int .i64 r.m.2.2.1, .int .i64 r.m.2.2.2, .slice r.A r.l.length r.c, .slice r.A' r.s.length r.c'])
 clear hg hb
 go_enter Tryz.func31, Tryz.ntmps31
 go_wp2
 go_ret
 exact ⟨rfl, HB.out⟩
set_option maxRecDepth 100000 in
set_option maxHeartbeats 4000000 in
theorem indexRel_any (A : Option Addr) (c g : Nat) (l : List RelA) (m : Mod) (w : World) (hA : Sl w w.heap.size 6 encR A l) (hl : l.length ≤ 1099511627776) (hg : ModC w g m) :
  Calls Tryz.prog 30 #[.slice A l.length c, .func (.func 31) #[] #[.pointer (some ⟨g, 0, none⟩)]] w fun e w' => e = .returned (.int .i64 (idxR l m)) ∧ Below w.heap.size w w' := by
 have HA := Lib.hid hA
 have HG := Lib.hid hg
 clear hA hg
 go_enter Tryz.func30, Tryz.ntmps30
 go_wp2
 go_loopw [8] (fun i wr => ∃ k : Nat, k ≤ l.length ∧ i = .int .i64 (k : Nat) ∧ Hid (∀ j (_ : j < k) (hj : j < l.length), l[j].m ≠ m) ∧ Hid (Below w.heap.size w wr)) (fun i _ => l.length - (intOf i).toNat)
 case atStart => exact ⟨0, Nat.zero_le _, rfl, Lib.hid (by omega), Lib.hid (Below.refl _ _)⟩
 case round =>
  obtain ⟨k, hk, rfl, HN, HB⟩ := hrel
  by_cases hlt : k < l.length
  ·have hlt' : (k : Int) < (l.length : Int) := by omega
   obtain ⟨b, off, rfl, hb, g0, g1, g2, g3, g4, g5⟩ := (HA.out.below HB.out).rel hlt
   have HK := Lib.hid (fun h => idxR_hit (m := m) hlt h HN.out)
   have HN2 := Lib.hid (fun (h : l[k].m ≠ m) j (hj : j < k + 1) (hjl : j < l.length) => show l[j].m ≠ m from by
    rcases Nat.lt_or_ge j k with h1 | h1
    ·exact HN.out j h1 hjl
    ·obtain rfl : j = k := by omega
     exact h)
   generalize l[k] = r at g0 g1 g2 g3 g4 g5 HK HN2
   have cP := Lib.hid (fun W (hW : Below w.heap.size w W) => isRel_any g m r W (HG.out.keep hW))
   by_cases hp : r.m = m
   ·have HE := Lib.hid (HK.out hp)
    rw [decide_eq_true hp] at cP
    clear hp HK HN2
    go_wp2_with fail
    refine (cP.out _ HB.out).mono ?_
    rintro e w2 ⟨rfl, hb2⟩
    have HB2 := Lib.hid (HB.out.trans (hb2.mono HB.out.size))
    clear hb2 cP
    go_wp2
    go_ret
    exact ⟨by rw [HE.out]; rfl, HB2.out⟩
   ·have HN3 := Lib.hid (HN2.out hp)
    rw [decide_eq_false hp] at cP
    clear hp HK HN2
    go_wp2_with fail
    refine (cP.out _ HB.out).mono ?_
    rintro e w2 ⟨rfl, hb2⟩
    have HB2 := Lib.hid (HB.out.trans (hb2.mono HB.out.size))
    clear hb2 cP
    go_wp2
    go_roundw
    case rel => exact ⟨k + 1, by omega, by go_num, HN3, HB2⟩
    case measure => simp [intOf]; omega
  ·obtain rfl : k = l.length := by omega
   have HE := Lib.hid (idxR_miss (m := m) fun j hj => HN.out j hj hj)
   clear HN
   go_wp2
   go_ret
   exact ⟨by rw [HE.out]; rfl, HB.out⟩
set_option maxRecDepth 100000 in
theorem frame21_12_13_14_15_16_17_18_19 {Q : Exit → Act → World → Prop} {W : World} {fs : List Fact} (t0 t1 t2 t3 t4 t5 t6 t7 t8 t9 t10 t11 t12 t13 t14 t15 t16 t17 t18 t19 t20 v0 v1 v2 v3 v4 v5 v6 v7 : Value) (h : Q .normal (Act.mk #[t0, t1, t2, t3, t4, t5, t6, t7, t8, t9, t10, t11, v0, v1, v2, v3, v4, v5, v6, v7, t20] []) W) : FinAll W (fun A => Q .normal A W) [] fs (Act.put (Act.put (Act.put (Act.put (Act.put (Act.put (Act.put (Act.put (Act.mk #[t0, t1, t2, t3, t4, t5, t6, t7, t8, t9, t10, t11, t12, t13, t14, t15, t16, t17, t18, t19, t20] []) (some 12) v0) (some 13) v1) (some 14) v2) (some 15) v3) (some 16) v4) (some 17) v5) (some 18) v6) (some 19) v7) :=
 fin_end (by kernel_rfl) h
set_option maxRecDepth 100000 in
set_option maxHeartbeats 4000000 in
theorem findRel_any (A : Option Addr) (c : Nat) (l : List RelA) (m : Mod) (w : World) (hA : Sl w w.heap.size 6 encR A l) (hl : l.length ≤ 1099511627776) :
  Calls Tryz.prog 35 #[.slice A l.length c, .agg #[.string ⟨m.1.toArray⟩, .int .i64 m.2.1, .int .i64 m.2.2.1, .int .i64 m.2.2.2]] w fun e w' => e = .returned (.int .i64 (idxR l m)) ∧ Below w.heap.size w w' := by
 have HA := Lib.hid hA
 have HB0 := Lib.hid (show Below w.heap.size w (w.alloc (.cells #[.string ⟨m.1.toArray⟩, .int .i64 m.2.1, .int .i64 m.2.2.1, .int .i64 m.2.2.2] 26)) from (Below.refl _ _).alloc (Nat.le_refl _) _)
 have Q0 := Lib.hid (Blk.new w 26 #[.string ⟨m.1.toArray⟩, .int .i64 m.2.1, .int .i64 m.2.2.1, .int .i64 m.2.2.2])
 clear hA
 go_enter Tryz.func35, Tryz.ntmps35
 go_wp2
 go_loopw [5] (fun i wr => ∃ k : Nat, k ≤ l.length ∧ i = .int .i64 (k : Nat) ∧ Hid (∀ j (_ : j < k) (hj : j < l.length), l[j].m ≠ m) ∧ Hid (Below w.heap.size w wr) ∧ Hid (Blk wr w.heap.size 26 #[.string ⟨m.1.toArray⟩, .int .i64 m.2.1, .int .i64 m.2.2.1, .int .i64 m.2.2.2])) (fun i _ => l.length - (intOf i).toNat)
 case atStart => exact ⟨0, Nat.zero_le _, rfl, Lib.hid (by omega), HB0, Q0⟩
 case round =>
  obtain ⟨wo, hwo⟩ : ∃ wo, wo = wr := ⟨_, rfl⟩
  subst hwo
  obtain ⟨k, hk, rfl, HN, HB, HQ⟩ := hrel
  by_cases hlt : k < l.length
  ·have hlt' : (k : Int) < (l.length : Int) := by omega
   obtain ⟨b, off, hA1, hbB0, g0, g1, g2, g3, g4, g5⟩ := (HA.out.below HB.out).rel hlt
   have hbB : b < wo.heap.size := Nat.lt_of_lt_of_le hbB0 HB.out.size
   have HK := Lib.hid (fun h => idxR_hit (m := m) hlt h HN.out)
   have HN2 := Lib.hid (fun (h : l[k].m ≠ m) j (hj : j < k + 1) (hjl : j < l.length) => show l[j].m ≠ m from by
    rcases Nat.lt_or_ge j k with h1 | h1
    ·exact HN.out j h1 hjl
    ·obtain rfl : j = k := by omega
     exact h)
   have HA1 := Lib.hid hA1
   subst hA1
   generalize l[k] = r at g0 g1 g2 g3 g4 g5 HK HN2
   have heq := fun W => eq_mod r.m.1 m.1 r.m.2.1 r.m.2.2.1 r.m.2.2.2 m.2.1 m.2.2.1 m.2.2.2 W
   obtain ⟨v0, v1, v2, v3⟩ := modC (m := m) HQ.out
   have hwz : w.heap.size < wo.heap.size := HQ.out.lt
   by_cases hp : r.m = m
   ·have HE := Lib.hid (HK.out hp)
    rw [decide_eq_true (show (r.m.1, r.m.2.1, r.m.2.2.1, r.m.2.2.2) = (m.1, m.2.1, m.2.2.1, m.2.2.2) from hp)] at heq
    clear hp HK HN2 hbB0
    go_upto_region 4 with fail
    apply wp_region_facts (by kernel_rfl) [isv _, isv _, isv _, isv _, isv _, isv _, isv _, isv _] wo.heap.size wo (Nat.le_refl _) (Below.refl _ _).drew (by kernel_rfl) (by kernel_rfl) (by kernel_rfl) (And.intro (isv_mono _) (And.intro (isv_mono _) (And.intro (isv_mono _) (And.intro (isv_mono _) (And.intro (isv_mono _) (And.intro (isv_mono _) (And.intro (isv_mono _) (And.intro (isv_mono _) trivial)))))))) ?steps (by rfl) ?fin
    case steps =>
     refine (And.intro ?o0 (And.intro ?o1 (And.intro ?o2 (And.intro ?o3 (And.intro ?o4 (And.intro ?o5 (And.intro ?o6 (And.intro ?o7 trivial))))))))
     case o0 =>
      intro AA W KK QQ hB hs hd hl hk
      have sl0 := hs 0 _ (by kernel_rfl) rfl
      clear hs hd hl
      go_simp
      exact hk _ _ rfl (Below.refl _ _)
     case o1 =>
      intro AA W KK QQ hB hs hd hl hk
      have sl5 := hs 5 _ (by kernel_rfl) rfl
      clear hs hd hl
      go_simp
      exact hk _ _ rfl (Below.refl _ _)
     case o2 =>
      intro AA W KK QQ hB hs hd hl hk
      obtain ⟨_, sl12, rfl⟩ := hd 0 12 (by kernel_rfl) rfl
      obtain ⟨_, sl13, rfl⟩ := hd 1 13 (by kernel_rfl) rfl
      clear hs hd hl
      go_simp
      exact hk _ _ rfl (Below.refl _ _)
     case o3 =>
      intro AA W KK QQ hB hs hd hl hk
      obtain ⟨_, sl14, rfl⟩ := hd 2 14 (by kernel_rfl) rfl
      clear hs hd hl
      go_simp
      exact hk _ _ rfl (Below.refl _ _)
     case o4 =>
      intro AA W KK QQ hB hs hd hl hk
      obtain ⟨_, sl15, rfl⟩ := hd 3 15 (by kernel_rfl) rfl
      clear hs hd hl
      go_simp
      exact hk _ _ rfl (Below.refl _ _)
     case o5 =>
      intro AA W KK QQ hB hs hd hl hk
      obtain ⟨_, sl16, rfl⟩ := hd 4 16 (by kernel_rfl) rfl
      clear hs hd hl
      have hx0 := hB.cell (p := ⟨b, off + k * 6, none⟩) hbB
      have hx1 := hB.cell (p := ⟨b, off + k * 6 + 1, none⟩) hbB
      have hx2 := hB.cell (p := ⟨b, off + k * 6 + 2, none⟩) hbB
      have hx3 := hB.cell (p := ⟨b, off + k * 6 + 3, none⟩) hbB
      rw [g0] at hx0
      rw [g1] at hx1
      rw [g2] at hx2
      rw [g3] at hx3
      go_simp
      exact hk _ _ rfl (Below.refl _ _)
     case o6 =>
      intro AA W KK QQ hB hs hd hl hk
      have sl3 := hs 3 _ (by kernel_rfl) rfl
      clear hs hd hl
      have hx0 := hB.cell (p := ⟨w.heap.size, 0, none⟩) hwz
      have hx1 := hB.cell (p := ⟨w.heap.size, 0 + 1, none⟩) hwz
      have hx2 := hB.cell (p := ⟨w.heap.size, 0 + 2, none⟩) hwz
      have hx3 := hB.cell (p := ⟨w.heap.size, 0 + 3, none⟩) hwz
      rw [v0] at hx0
      rw [v1] at hx1
      rw [v2] at hx2
      rw [v3] at hx3
      go_simp
      exact hk _ _ rfl (Below.refl _ _)
     case o7 =>
      intro AA W KK QQ hB hs hd hl hk
      obtain ⟨_, sl17, rfl⟩ := hd 5 17 (by kernel_rfl) rfl
      obtain ⟨_, sl18, rfl⟩ := hd 6 18 (by kernel_rfl) rfl
      clear hs hd hl
      go_simp
      exact hk _ _ rfl (Below.refl _ _)
    case fin =>
     intro w6 hB
     refine fin_isv 12 rfl ?_
     refine fin_isv 13 rfl ?_
     refine fin_isv 14 rfl ?_
     refine fin_isv 15 rfl ?_
     refine fin_isv 16 rfl ?_
     refine fin_isv 17 rfl ?_
     refine fin_isv 18 rfl ?_
     refine fin_isv 19 rfl ?_
     refine frame21_12_13_14_15_16_17_18_19 _ _ _ _ _ _ _ _ _ _ _ _ _ _ _ _ _ _ _ _ _ _ _ _ _ _ _ _ _ ?_
     have HB6 := Lib.hid (HB.out.trans (hB.mono HB.out.size))
     clear hB g0 g1 g2 g3 g4 g5 v0 v1 v2 v3 heq
     go_wp2
     go_ret
     exact ⟨by rw [HE.out]; rfl, HB6.out⟩
   ·have HN3 := Lib.hid (HN2.out hp)
    rw [decide_eq_false (show ¬ ((r.m.1, r.m.2.1, r.m.2.2.1, r.m.2.2.2) = (m.1, m.2.1, m.2.2.1, m.2.2.2)) from hp)] at heq
    clear hp HK HN2 hbB0
    go_upto_region 4 with fail
    apply wp_region_facts (by kernel_rfl) [isv _, isv _, isv _, isv _, isv _, isv _, isv _, isv _] wo.heap.size wo (Nat.le_refl _) (Below.refl _ _).drew (by kernel_rfl) (by kernel_rfl) (by kernel_rfl) (And.intro (isv_mono _) (And.intro (isv_mono _) (And.intro (isv_mono _) (And.intro (isv_mono _) (And.intro (isv_mono _) (And.intro (isv_mono _) (And.intro (isv_mono _) (And.intro (isv_mono _) trivial)))))))) ?steps (by rfl) ?fin
    case steps =>
     refine (And.intro ?o0 (And.intro ?o1 (And.intro ?o2 (And.intro ?o3 (And.intro ?o4 (And.intro ?o5 (And.intro ?o6 (And.intro ?o7 trivial))))))))
     case o0 =>
      intro AA W KK QQ hB hs hd hl hk
      have sl0 := hs 0 _ (by kernel_rfl) rfl
      clear hs hd hl
      go_simp
      exact hk _ _ rfl (Below.refl _ _)
     case o1 =>
      intro AA W KK QQ hB hs hd hl hk
      have sl5 := hs 5 _ (by kernel_rfl) rfl
      clear hs hd hl
      go_simp
      exact hk _ _ rfl (Below.refl _ _)
     case o2 =>
      intro AA W KK QQ hB hs hd hl hk
      obtain ⟨_, sl12, rfl⟩ := hd 0 12 (by kernel_rfl) rfl
      obtain ⟨_, sl13, rfl⟩ := hd 1 13 (by kernel_rfl) rfl
      clear hs hd hl
      go_simp
      exact hk _ _ rfl (Below.refl _ _)
     case o3 =>
      intro AA W KK QQ hB hs hd hl hk
      obtain ⟨_, sl14, rfl⟩ := hd 2 14 (by kernel_rfl) rfl
      clear hs hd hl
      go_simp
      exact hk _ _ rfl (Below.refl _ _)
     case o4 =>
      intro AA W KK QQ hB hs hd hl hk
      obtain ⟨_, sl15, rfl⟩ := hd 3 15 (by kernel_rfl) rfl
      clear hs hd hl
      go_simp
      exact hk _ _ rfl (Below.refl _ _)
     case o5 =>
      intro AA W KK QQ hB hs hd hl hk
      obtain ⟨_, sl16, rfl⟩ := hd 4 16 (by kernel_rfl) rfl
      clear hs hd hl
      have hx0 := hB.cell (p := ⟨b, off + k * 6, none⟩) hbB
      have hx1 := hB.cell (p := ⟨b, off + k * 6 + 1, none⟩) hbB
      have hx2 := hB.cell (p := ⟨b, off + k * 6 + 2, none⟩) hbB
      have hx3 := hB.cell (p := ⟨b, off + k * 6 + 3, none⟩) hbB
      rw [g0] at hx0
      rw [g1] at hx1
      rw [g2] at hx2
      rw [g3] at hx3
      go_simp
      exact hk _ _ rfl (Below.refl _ _)
     case o6 =>
      intro AA W KK QQ hB hs hd hl hk
      have sl3 := hs 3 _ (by kernel_rfl) rfl
      clear hs hd hl
      have hx0 := hB.cell (p := ⟨w.heap.size, 0, none⟩) hwz
      have hx1 := hB.cell (p := ⟨w.heap.size, 0 + 1, none⟩) hwz
      have hx2 := hB.cell (p := ⟨w.heap.size, 0 + 2, none⟩) hwz
      have hx3 := hB.cell (p := ⟨w.heap.size, 0 + 3, none⟩) hwz
      rw [v0] at hx0
      rw [v1] at hx1
      rw [v2] at hx2
      rw [v3] at hx3
      go_simp
      exact hk _ _ rfl (Below.refl _ _)
     case o7 =>
      intro AA W KK QQ hB hs hd hl hk
      obtain ⟨_, sl17, rfl⟩ := hd 5 17 (by kernel_rfl) rfl
      obtain ⟨_, sl18, rfl⟩ := hd 6 18 (by kernel_rfl) rfl
      clear hs hd hl
      go_simp
      exact hk _ _ rfl (Below.refl _ _)
    case fin =>
     intro w6 hB
     refine fin_isv 12 rfl ?_
     refine fin_isv 13 rfl ?_
     refine fin_isv 14 rfl ?_
     refine fin_isv 15 rfl ?_
     refine fin_isv 16 rfl ?_
     refine fin_isv 17 rfl ?_
     refine fin_isv 18 rfl ?_
     refine fin_isv 19 rfl ?_
     refine frame21_12_13_14_15_16_17_18_19 _ _ _ _ _ _ _ _ _ _ _ _ _ _ _ _ _ _ _ _ _ _ _ _ _ _ _ _ _ ?_
     have HB6 := Lib.hid (HB.out.trans (hB.mono HB.out.size))
     have HQ6 := Lib.hid (HQ.out.keep hB)
     clear hB g0 g1 g2 g3 g4 g5 v0 v1 v2 v3 heq
     go_wp2
     go_roundw
     case rel => exact ⟨k + 1, by omega, by go_num, HN3, HB6, HQ6⟩
     case measure => simp [intOf]; omega
  ·obtain rfl : k = l.length := by omega
   have HE := Lib.hid (idxR_miss (m := m) fun j hj => HN.out j hj hj)
   clear HN
   go_wp2
   go_ret
   exact ⟨by rw [HE.out]; rfl, HB.out⟩
end Go.Proofs.YthcgihgajdjfoaaGreatDoor
namespace Go.Proofs.YthcgihgajdjfoaaGreatDoor
open Go.RowKit Go.Sort
theorem ferr_zero : ∀ (L : List Rel), ferr L = 0 → ∀ r ∈ L, rerr r = 0
 | [], _, r, h => by cases h
 | x :: l, h, r, hr => by
   by_cases hx : rerr x = 0
   ·simp [ferr, hx] at h
    rcases List.mem_cons.1 hr with rfl | hr'
    ·exact hx
    ·exact ferr_zero l h r hr'
   ·simp [ferr, hx] at h
theorem lerr_zero (L : List Rel) (h : lerr L = 0) : ferr L = 0 ∧ (L.map (·.1)).Nodup := by
 unfold lerr at h
 by_cases hf : ferr L = 0
 ·rw [if_neg (by simpa using hf)] at h
  by_cases hn : (L.map (·.1)).Nodup
  ·exact ⟨hf, hn⟩
  ·rw [if_neg hn] at h; cases h
 ·rw [if_pos hf] at h; exact absurd h hf
theorem lout_ne (L : List Rel) (h : lerr L ≠ 0) : lout L = [] := by unfold lout; rw [if_neg h]
theorem esort_perm (l : List Ent) : (esort l).Perm l := List.mergeSort_perm l _
theorem esort_sorted (l : List Ent) : (esort l).Pairwise (leOf (ltOf ecmp)) := by
 have hto : ∀ a b : Ent, ((!(ltOf ecmp) b a) || (!(ltOf ecmp) a b)) = true := fun a b => by
  cases hab : (ltOf ecmp) a b
  ·simp
  ·have := le_of_lt elt_swo hab
   unfold leOf at this
   simp [this]
 have htr : ∀ a b c : Ent, (!(ltOf ecmp) b a) = true → (!(ltOf ecmp) c b) = true → (!(ltOf ecmp) c a) = true := fun a b c h1 h2 => by
  simp at *; exact elt_swo.ntrans c b a h2 h1
 exact (List.pairwise_mergeSort htr hto l).imp (fun h => by simpa [leOf] using h)
theorem lout_len (L : List Rel) (h : lerr L = 0) : (lout L).length = L.length := by
 unfold lout
 rw [if_pos h, List.length_map, (esort_perm _).length_eq, List.length_map]
def before (L : List Rel) (m : Mod) : Nat := L.countP fun q => decide (mcmp q.1 m < 0)
end Go.Proofs.YthcgihgajdjfoaaGreatDoor
namespace Go.Proofs.YthcgihgajdjfoaaGreatDoor
open Go.RowKit Go.Sort
def pick (L : List Rel) (m : Mod) : List (List UInt8) := (L.filter fun r => decide (r.1 = m)).map rline
theorem pick_take (L : List Rel) (m : Mod) (k : Nat) (h : k < L.length) : pick (L.take (k + 1)) m = pick (L.take k) m ++ if L[k].1 = m then [rline L[k]] else [] := by
 unfold pick
 rw [List.take_succ_eq_append_getElem h, List.filter_append, List.map_append]
 congr 1
 by_cases hm : L[k].1 = m
 ·simp [hm]
 ·simp [hm]
theorem pick_len (L : List Rel) (m : Mod) : (pick L m).length ≤ L.length := by
 unfold pick
 rw [List.length_map]
 exact List.length_filter_le _ _
def picks (L : List Rel) (M : List Mod) : List (List UInt8) := M.flatMap (pick L)
theorem picks_take (L : List Rel) (M : List Mod) (j : Nat) (h : j < M.length) : picks L (M.take (j + 1)) = picks L (M.take j) ++ pick L M[j] := by
 unfold picks
 rw [List.take_succ_eq_append_getElem h, List.flatMap_append]
 simp
theorem picks_len (L : List Rel) (M : List Mod) : (picks L M).length ≤ M.length * L.length := by
 unfold picks
 induction M with
 | nil => simp
 | cons m M ih =>
   have := pick_len L m
   simp only [List.flatMap_cons, List.length_append, List.length_cons, Nat.add_mul, Nat.one_mul]
   omega
theorem filter_one {L : List Rel} (hn : (L.map (·.1)).Nodup) {r : Rel} (hr : r ∈ L) : (L.filter fun x => decide (x.1 = r.1)) = [r] := by
 induction L with
 | nil => cases hr
 | cons a l ih =>
   rw [List.map_cons, List.nodup_cons] at hn
   rcases List.mem_cons.1 hr with rfl | hr'
   ·have h0 : (l.filter fun x => decide (x.1 = r.1)) = [] := by
     rw [List.filter_eq_nil_iff]
     intro x hx h
     simp at h
     exact hn.1 (List.mem_map.2 ⟨x, hx, h⟩)
    rw [List.filter_cons_of_pos (by simp), h0]
   ·have hne : ¬ a.1 = r.1 := fun h => hn.1 (by rw [h]; exact List.mem_map.2 ⟨r, hr', rfl⟩)
    rw [List.filter_cons_of_neg (by simpa using hne), ih hn.2 hr']
theorem msort_perm (l : List Mod) : (msort l).Perm l := List.mergeSort_perm l _
theorem msort_sorted (l : List Mod) : (msort l).Pairwise (leOf (ltOf mcmp)) := by
 have hto : ∀ a b : Mod, ((!(ltOf mcmp) b a) || (!(ltOf mcmp) a b)) = true := fun a b => by
  cases hab : (ltOf mcmp) a b
  ·simp
  ·have := le_of_lt mlt_swo hab
   unfold leOf at this
   simp [this]
 have htr : ∀ a b c : Mod, (!(ltOf mcmp) b a) = true → (!(ltOf mcmp) c b) = true → (!(ltOf mcmp) c a) = true := fun a b c h1 h2 => by
  simp at *; exact mlt_swo.ntrans c b a h2 h1
 exact (List.pairwise_mergeSort htr hto l).imp (fun h => by simpa [leOf] using h)
theorem esort_keys (L : List Rel) : (esort (L.map entOf)).map (·.1) = msort (L.map (·.1)) := by
 refine sorted_eq mlt_swo mlt_total _ _ ?_ ?_
 ·rw [List.pairwise_map]
  exact (esort_sorted (L.map entOf)).imp (fun h => h)
 ·have := (esort_perm (L.map entOf)).map (·.1)
  rwa [ents_keys] at this
theorem picks_eq (L : List Rel) (h : lerr L = 0) : picks L (msort (L.map (·.1))) = lout L := by
 obtain ⟨_, hn⟩ := lerr_zero L h
 have hl : lout L = (esort (L.map entOf)).map (·.2) := by unfold lout; rw [if_pos h]
 rw [hl, ← esort_keys]
 unfold picks
 rw [List.flatMap_map]
 have hp := esort_perm (L.map entOf)
 have : ∀ (E : List Ent), (∀ e ∈ E, e ∈ L.map entOf) → E.flatMap (fun e => pick L e.1) = E.flatMap (fun e => [e.2]) := by
  intro E
  induction E with
  | nil => intro _; rfl
  | cons e E ih =>
    intro hE
    rw [List.flatMap_cons, List.flatMap_cons, ih (fun x hx => hE x (by simp [hx]))]
    congr 1
    obtain ⟨r, hr, rfl⟩ := List.mem_map.1 (hE e (by simp))
    show pick L r.1 = [rline r]
    unfold pick
    rw [filter_one hn hr]
    rfl
 rw [this _ (fun e he => hp.mem_iff.1 he), ← List.map_eq_flatMap]
theorem lerr_dup (L : List Rel) (h : ferr L = 0) (hn : ¬ (L.map (·.1)).Nodup) : lerr L = 6 := by
 unfold lerr
 rw [if_neg (by rw [h]; decide), if_neg hn]
theorem lerr_ok (L : List Rel) (h : ferr L = 0) (hn : (L.map (·.1)).Nodup) : lerr L = 0 := by
 unfold lerr
 rw [if_neg (by rw [h]; decide), if_pos hn]
end Go.Proofs.YthcgihgajdjfoaaGreatDoor
