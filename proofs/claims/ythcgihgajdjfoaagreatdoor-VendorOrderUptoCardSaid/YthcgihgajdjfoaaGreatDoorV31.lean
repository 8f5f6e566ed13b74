/- What the claim needs of: VJ. -/
import Derived.Test.YthcgihgajdjfoaaGreatDoorV30
import Derived.Test.YthcgihgajdjfoaaGreatDoorV16
import Derived.Test.YthcgihgajdjfoaaGreatDoorV17
import Derived.WalkMore
namespace Go.Proofs.YthcgihgajdjfoaaGreatDoor
open Go.RowKit Go.Sort
def RetU (w : World) (r : List EntV × Int × Nat) (e : Ending) (w' : World) : Prop :=
 ∃ (A : Option Addr) (c : Nat), e = .returned (.tuple #[.slice A r.1.length c, .agg #[.int .i64 r.2.1, .int .i64 (r.2.2 : Nat)]]) ∧ Sl w' w'.heap.size 5 encE A r.1 ∧ Below w.heap.size w w'
theorem fltC {W : World} {g : Nat} {t : TypeId} {v0 v1 : Value} (h : Blk W g t #[v0, v1]) : W.cell? ⟨g, 0, none⟩ = some v0 ∧ W.cell? ⟨g, 1, none⟩ = some v1 := ⟨h.cell 0, h.cell 1⟩
theorem fltF {W : World} {g : Nat} {t : TypeId} {cs : Array Value} (h : Blk W g t cs) : W.frozen? ⟨g, 0, none⟩ = false ∧ W.frozen? ⟨g, 1, none⟩ = false := ⟨h.free 0, h.free 1⟩
theorem elEntV : ElT Tryz.prog 40 49 5 56 := ElT.mk_ (z := .agg #[.string ByteArray.empty, .int .i64 0, .int .i64 0, .int .i64 0, .string ByteArray.empty]) Tryz.underlying40 (by kernel_rfl) rfl (by decide)
theorem elEntR : ElT Tryz.prog 45 50 5 56 := ElT.mk_ (z := .agg #[.string ByteArray.empty, .int .i64 0, .int .i64 0, .int .i64 0, .string ByteArray.empty]) Tryz.underlying45 (by kernel_rfl) rfl (by decide)
theorem split_cut (s : List UInt8) : splitL 10 s = if (Lib.cut s [10]).2.2 = true then (Lib.cut s [10]).1 :: splitL 10 (Lib.cut s [10]).2.1 else [s] := by
 have hg := Lib.indexByte_ge s 10
 by_cases hm : Lib.indexByte s 10 = -1
 ·have e : Lib.cut s [10] = (s, [], false) := by
   unfold Lib.cut
   rw [Lib.index_one, if_neg (by omega)]
  rw [e, if_neg (by simp), splitL_miss 10 s hm]
 ·obtain ⟨i, hi⟩ : ∃ i : Nat, Lib.indexByte s 10 = i := ⟨(Lib.indexByte s 10).toNat, by omega⟩
  have e : Lib.cut s [10] = (s.take i, s.drop (i + 1), true) := by
   unfold Lib.cut
   rw [Lib.index_one, hi, if_pos (by omega)]
   simp
  rw [e]
  simp only [if_true]
  exact splitL_hit 10 s i hi
def lineU (out : List EntV) (x : List UInt8) (rest : List UInt8) (wh : Bool) : List EntV × Int × Nat :=
 if wh = true then (match entryP x with
  | some e => if fitsE out e = true then unlL (out ++ [e]) (splitL 10 rest) else ([], 8, out.length + 1)
  | none => ([], 8, out.length + 1)) else ([], 8, out.length + 1)
theorem unl_cons (out : List EntV) (x t : List UInt8) : unlL out (x :: splitL 10 t) = lineU out x t true := by
 obtain ⟨y, t', hy⟩ : ∃ y t', splitL 10 t = y :: t' := by
  cases h2 : splitL 10 t with
  | nil => exact absurd h2 (splitL_ne 10 _)
  | cons y t' => exact ⟨y, t', rfl⟩
 unfold lineU
 rw [if_pos rfl, hy]
 rfl
theorem unl_round (out : List EntV) {s : List UInt8} (hs : s ≠ []) : unlL out (splitL 10 s) = lineU out (Lib.cut s [10]).1 (Lib.cut s [10]).2.1 (Lib.cut s [10]).2.2 := by
 rw [split_cut]
 by_cases h : (Lib.cut s [10]).2.2 = true
 ·rw [if_pos h, unl_cons, h]
 ·unfold lineU
  rw [if_neg h, if_neg h]
  unfold unlL
  rw [if_neg hs]
theorem line_at {s : List UInt8} {f k : Nat} (hfk : f ≤ k) (hk : k < s.length) (hn : ∀ j, f ≤ j → j < k → s.getD j 0 ≠ 10) (hb : s.getD k 0 = 10) : splitL 10 (s.drop f) = (s.drop f).take (k - f) :: splitL 10 (s.drop (k + 1)) := by
 have hg : ∀ i, (s.drop f).getD i 0 = s.getD (f + i) 0 := fun i => by simp [List.getD_eq_getElem?_getD]
 have h := split_step 10 (s.drop f) [] 0 (k - f) (Nat.zero_le _) (by simp; omega) (by simp) (fun j _ hj => by rw [hg]; exact hn _ (by omega) (by omega)) (by rw [hg, show f + (k - f) = k by omega]; exact hb)
 rw [h]
 simp [List.drop_drop, show f + (k - f + 1) = k + 1 by omega]
theorem tail_at {s : List UInt8} {f : Nat} (hn : ∀ j, f ≤ j → j < s.length → s.getD j 0 ≠ 10) : splitL 10 (s.drop f) = [s.drop f] := by
 have hg : ∀ i, (s.drop f).getD i 0 = s.getD (f + i) 0 := fun i => by simp [List.getD_eq_getElem?_getD]
 have h := split_end 10 (s.drop f) [] 0 (by simp) (fun j _ hj => by rw [hg]; exact hn _ (by omega) (by simp at hj; omega))
 simpa using h
theorem unl_nil (out : List EntV) : unlL out (splitL 10 []) = (out, 0, 0) := by simp [splitL, unlL]
theorem ents_snoc (Q : List EntV) (q : EntV) : (Q ++ [q]).flatMap encE = Q.flatMap encE ++ [.string ⟨q.1.1.toArray⟩, .int .i64 q.1.2.1, .int .i64 q.1.2.2.1, .int .i64 q.1.2.2.2, .string ⟨q.2.toArray⟩] := by
 rw [List.flatMap_append, List.flatMap_singleton]
 rfl
theorem encE_len5 (x : EntV) : (encE x).length = 5 := rfl
theorem fits_last {out : List EntV} {y e : EntV} (h : out.getLast? = some y) : fitsE out e = decide (mcmp y.1 e.1 < 0) := by unfold fitsE; rw [h]
theorem fits_nil (e : EntV) : fitsE [] e = true := rfl
set_option maxRecDepth 100000 in
theorem frame64_da4d328389 {Q : Exit → Act → World → Prop} {W : World} {fs : List Fact} (t0 t1 t2 t3 t4 t5 t6 t7 t8 t9 t10 t11 t12 t13 t14 t15 t16 t17 t18 t19 t20 t21 t22 t23 t24 t25 t26 t27 t28 t29 t30 t31 t32 t33 t34 t35 t36 t37 t38 t39 t40 t41 t42 t43 t44 t45 t46 t47 t48 t49 t50 t51 t52 t53 t54 t55 t56 t57 t58 t59 t60 t61 t62 t63 v0 v1 v2 v3 v4 v5 v6 v7 v8 v9 v10 v11 v12 v13 v14 v15 v16 v17 v18 v19 v20 v21 : Value) (h : Q .normal (Act.mk #[t0, t1, t2, t3, t4, t5, t6, t7, t8, t9, t10, t11, t12, t13, t14, t15, t16, t17, t18, t19, t20, t21, t22, t23, t24, t25, t26, t27, t28, t29, t30, t31, t32, t33, v0, v1, v2, v3, v4, v5, v6, v7, v8, v9, v10, v11, v12, v13, v14, v15, v16, v17, v18, v19, v20, v21, t56, t57, t58, t59, t60, t61, t62, t63] []) W) : FinAll W (fun A => Q .normal A W) [] fs (Act.put (Act.put (Act.put (Act.put (Act.put (Act.put (Act.put (Act.put (Act.put (Act.put (Act.put (Act.put (Act.put (Act.put (Act.put (Act.put (Act.put (Act.put (Act.put (Act.put (Act.put (Act.put (Act.mk #[t0, t1, t2, t3, t4, t5, t6, t7, t8, t9, t10, t11, t12, t13, t14, t15, t16, t17, t18, t19, t20, t21, t22, t23, t24, t25, t26, t27, t28, t29, t30, t31, t32, t33, t34, t35, t36, t37, t38, t39, t40, t41, t42, t43, t44, t45, t46, t47, t48, t49, t50, t51, t52, t53, t54, t55, t56, t57, t58, t59, t60, t61, t62, t63] []) (some 34) v0) (some 35) v1) (some 36) v2) (some 37) v3) (some 38) v4) (some 39) v5) (some 40) v6) (some 41) v7) (some 42) v8) (some 43) v9) (some 44) v10) (some 45) v11) (some 46) v12) (some 47) v13) (some 48) v14) (some 49) v15) (some 50) v16) (some 51) v17) (some 52) v18) (some 53) v19) (some 54) v20) (some 55) v21) :=
 fin_end (by kernel_rfl) h
set_option maxRecDepth 100000 in
theorem frame71_a16d8fd816 {Q : Exit → Act → World → Prop} {W : World} {fs : List Fact} (t0 t1 t2 t3 t4 t5 t6 t7 t8 t9 t10 t11 t12 t13 t14 t15 t16 t17 t18 t19 t20 t21 t22 t23 t24 t25 t26 t27 t28 t29 t30 t31 t32 t33 t34 t35 t36 t37 t38 t39 t40 t41 t42 t43 t44 t45 t46 t47 t48 t49 t50 t51 t52 t53 t54 t55 t56 t57 t58 t59 t60 t61 t62 t63 t64 t65 t66 t67 t68 t69 t70 v0 v1 v2 v3 v4 v5 v6 v7 v8 v9 v10 v11 v12 v13 v14 v15 v16 v17 v18 v19 : Value) (h : Q .normal (Act.mk #[t0, t1, t2, t3, t4, t5, t6, t7, t8, t9, t10, t11, t12, t13, t14, t15, t16, t17, t18, t19, t20, t21, t22, t23, t24, t25, t26, t27, t28, t29, t30, v0, v1, v2, v3, v4, v5, v6, v7, v8, v9, v10, v11, v12, v13, v14, v15, v16, v17, v18, v19, t51, t52, t53, t54, t55, t56, t57, t58, t59, t60, t61, t62, t63, t64, t65, t66, t67, t68, t69, t70] []) W) : FinAll W (fun A => Q .normal A W) [] fs (Act.put (Act.put (Act.put (Act.put (Act.put (Act.put (Act.put (Act.put (Act.put (Act.put (Act.put (Act.put (Act.put (Act.put (Act.put (Act.put (Act.put (Act.put (Act.put (Act.put (Act.mk #[t0, t1, t2, t3, t4, t5, t6, t7, t8, t9, t10, t11, t12, t13, t14, t15, t16, t17, t18, t19, t20, t21, t22, t23, t24, t25, t26, t27, t28, t29, t30, t31, t32, t33, t34, t35, t36, t37, t38, t39, t40, t41, t42, t43, t44, t45, t46, t47, t48, t49, t50, t51, t52, t53, t54, t55, t56, t57, t58, t59, t60, t61, t62, t63, t64, t65, t66, t67, t68, t69, t70] []) (some 31) v0) (some 32) v1) (some 33) v2) (some 34) v3) (some 35) v4) (some 36) v5) (some 37) v6) (some 38) v7) (some 39) v8) (some 40) v9) (some 41) v10) (some 42) v11) (some 43) v12) (some 44) v13) (some 45) v14) (some 46) v15) (some 47) v16) (some 48) v17) (some 49) v18) (some 50) v19) :=
 fin_end (by kernel_rfl) h
set_option maxRecDepth 100000 in
set_option maxHeartbeats 8000000 in
theorem Unlock_any (s : List UInt8) (w : World) (hG : Glob w) (hs : s.length ≤ 140737488355327) :
  Calls Tryz.prog 19 #[.string ⟨s.toArray⟩] w (RetU w (unlockP s)) := by
 have HB0 := Lib.hid (show Below w.heap.size w (w.alloc (.cells #[.int .i64 0, .int .i64 0] 42)) from (Below.refl _ _).alloc (Nat.le_refl _) _)
 have Q0 := Lib.hid (Blk.new w 42 #[.int .i64 0, .int .i64 0])
 have HG := Lib.hid hG
 obtain ⟨r, hr⟩ : ∃ r, r = unlockP s := ⟨_, rfl⟩
 rw [← hr]
 unfold unlockP at hr
 clear hG
 by_cases hlong : 65536 < s.length
 ·rw [if_pos hlong] at hr
  have HRes := Lib.hid hr
  have hl' : decide ((65536 : Int) < (s.length : Int)) = true := decide_eq_true (by omega)
  obtain ⟨k0, k1⟩ := fltC Q0.out
  obtain ⟨f0, f1⟩ := fltF Q0.out
  have HBF := Lib.hid ((HB0.out.setCell (p := ⟨w.heap.size, 0, none⟩) (Nat.le_refl _) (.int .i64 2)).setCell (p := ⟨w.heap.size, 1, none⟩) (Nat.le_refl _) (.int .i64 0))
  clear hr hlong hs
  go_enter Tryz.func19, Tryz.ntmps19
  go_wp2
  go_step3
  go_wp2
  first | rw [Exit.noGoto_ret] | skip
  refine bodyPost_ret (v := .tuple #[.slice none 0 0, .agg #[.int .i64 2, .int .i64 0]]) (by simp [results, Tryz.results19, go_sem]) rfl ?_
  exact ⟨none, 0, by rw [HRes.out]; rfl, by rw [HRes.out]; exact Sl.nil_, (Below.refl _ _).alloc (Nat.le_refl _) _⟩
 rw [if_neg hlong] at hr
 have HR := Lib.hid hr
 have hsl : s.length ≤ 65536 := by omega
 have hl' : decide ((65536 : Int) < (s.length : Int)) = false := decide_eq_false (by omega)
 clear hr hlong hs
 go_enter Tryz.func19, Tryz.ntmps19
 go_wp2
 go_step3
 go_wp2
 go_step3
 go_wp2
 go_loopg [0, 4, 5] s.length (fun g s0 v i wr => ∃ (t : List UInt8) (out : List EntV) (kn : Nat) (Av : Option Addr) (cv : Nat), s0 = .string ⟨t.toArray⟩ ∧ v = .slice Av out.length cv ∧ i = .int .i64 (kn : Nat) ∧ kn = out.length + 1 ∧ t.length ≤ g ∧ out.length + t.length ≤ 65536 ∧ Hid (wr.ownsRow (w.heap.size + 1) 49 5 (.slice Av out.length cv) out.length (out.flatMap encE)) ∧ Hid (Blk wr w.heap.size 42 #[.int .i64 0, .int .i64 0]) ∧ Hid (Below w.heap.size w wr) ∧ Hid (r = unlL out (splitL 10 t)))
 case atStart => exact ⟨s, [], 1, none, 0, rfl, rfl, rfl, rfl, Nat.le_refl _, by simpa using hsl, Lib.hid (World.ownsRow_nil _ _ _ _), Q0, HB0, HR⟩
 case round =>
  obtain ⟨wo, hwo⟩ : ∃ wo, wo = wr := ⟨_, rfl⟩
  subst hwo
  obtain ⟨t, out, kn, Av, cv, rfl, rfl, rfl, hkn, htg, hot, HO, HQ, HB, HRR⟩ := hrel
  have hz1 : w.heap.size < wo.heap.size := HQ.out.lt
  by_cases ht : t = []
  ·subst ht
   have HRes := Lib.hid (HRR.out.trans (unl_nil out))
   obtain ⟨k0, k1⟩ := fltC HQ.out
   obtain ⟨f0, f1⟩ := fltF HQ.out
   go_wp2
   first | rw [Exit.noGoto_ret] | skip
   refine bodyPost_ret (v := .tuple #[.slice Av out.length cv, .agg #[.int .i64 0, .int .i64 0]]) (by simp [results, Tryz.results19, go_sem, k0, k1]) rfl ?_
   have HO2 := own_set (p := ⟨w.heap.size, 1, none⟩) (own_set (p := ⟨w.heap.size, 0, none⟩) HO.out (by show w.heap.size < w.heap.size + 1; omega) (.int .i64 0)) (by show w.heap.size < w.heap.size + 1; omega) (.int .i64 0)
   have HBF := ((HB.out.setCell (p := ⟨w.heap.size, 0, none⟩) (Nat.le_refl _) (.int .i64 0)).setCell (p := ⟨w.heap.size, 1, none⟩) (Nat.le_refl _) (.int .i64 0))
   exact ⟨Av, cv, by rw [HRes.out]; rfl, by rw [HRes.out]; exact Acc.slAny (.inl HO2) encE_len5 (by decide), HBF⟩
  have hne : (t == []) = false := beq_eq_false_iff_ne.2 ht
  have hne2 : t.isEmpty = false := by cases t with | nil => exact absurd rfl ht | cons _ _ => rfl
  obtain ⟨cr1, cr2, cr3⟩ := cut_rest t
  have hrt := cr2 ht
  have HRr := Lib.hid (HRR.out.trans (unl_round out ht))
  have cC0 := Cut_any t [10] wo (by omega) (HG.out.keep HB.out)
  generalize (Lib.cut t [10]).1 = line at cC0 HRr cr3
  generalize (Lib.cut t [10]).2.1 = rest at cC0 HRr cr1 hrt
  generalize (Lib.cut t [10]).2.2 = wh at cC0 HRr
  have cC := Lib.hid cC0
  have HLU := Lib.hid (show lineU out line rest wh = if wh = true then (match entryP line with
   | some e => if fitsE out e = true then unlL (out ++ [e]) (splitL 10 rest) else ([], 8, out.length + 1)
   | none => ([], 8, out.length + 1)) else ([], 8, out.length + 1) from rfl)
  generalize lineU out line rest wh = rl at HRr HLU
  clear cr1 cr2 cC0 ht
  rcases Nat.eq_zero_or_pos out.length with ho | ho
  ·obtain rfl : out = [] := List.eq_nil_of_length_eq_zero ho
   simp only [List.length_nil, List.flatMap_nil, List.nil_append, Nat.zero_add] at HO HLU hkn hot ⊢
   have HKN := Lib.hid hkn
   have hkb : kn ≤ 70000 := by omega
   clear ho hkn
   go_wp2_with fail
   refine cC.out.mono ?_
   rintro e w2 ⟨rfl, n2, rfl⟩
   have HW2 := Lib.hid (show Below wo.heap.size wo (wo.drewN n2) from (Below.refl _ _).drewN _)
   have cE := Lib.hid (entry_any line (wo.drewN n2) (by omega) ((HG.out.keep HB.out).keep HW2.out))
   generalize entryP line = re at cE HLU
   clear cC
   go_wp2_with fail
   refine cE.out.mono ?_
   rintro e w4 ⟨x, rfl, hx, hb4⟩
   have HX4 := Lib.hid (HW2.out.trans (hb4.mono HW2.out.size))
   clear HW2 cE
   have HX := Lib.hid hx
   have HA5 := Lib.hid (show Below w4.heap.size w4 (w4.alloc (.cells #[.string ⟨x.1.1.toArray⟩, .int .i64 x.1.2.1, .int .i64 x.1.2.2.1, .int .i64 x.1.2.2.2, .string ⟨x.2.toArray⟩] 49)) from (Below.refl _ _).alloc (Nat.le_refl _) _)
   have V5 := Lib.hid (Blk.new w4 49 #[.string ⟨x.1.1.toArray⟩, .int .i64 x.1.2.1, .int .i64 x.1.2.2.1, .int .i64 x.1.2.2.2, .string ⟨x.2.toArray⟩])
   have HX5 := Lib.hid (HX4.out.trans (HA5.out.mono HX4.out.size))
   have HB5 := Lib.hid (HB.out.trans (HX5.out.mono HB.out.size))
   have HQ5 := Lib.hid (HQ.out.keep HX5.out)
   have HO5 := Lib.hid (own_below2 HO.out HX5.out)
   have hv4 : w4.heap.size < (w4.alloc (.cells #[.string ⟨x.1.1.toArray⟩, .int .i64 x.1.2.1, .int .i64 x.1.2.2.1, .int .i64 x.1.2.2.2, .string ⟨x.2.toArray⟩] 49)).heap.size := by simp
   have hz5 : w.heap.size < (w4.alloc (.cells #[.string ⟨x.1.1.toArray⟩, .int .i64 x.1.2.1, .int .i64 x.1.2.2.1, .int .i64 x.1.2.2.2, .string ⟨x.2.toArray⟩] 49)).heap.size := Nat.lt_of_lt_of_le hz1 HX5.out.size
   clear hx hb4
   cases wh
   ·have HRes := Lib.hid (show r = ([], 8, kn) from by rw [HRr.out, HLU.out, HKN.out]; rfl)
    clear HLU HX
    go_upto_region 11 with fail
    generalize hw5 : w4.alloc (.cells #[.string ⟨x.1.1.toArray⟩, .int .i64 x.1.2.1, .int .i64 x.1.2.2.1, .int .i64 x.1.2.2.2, .string ⟨x.2.toArray⟩] 49) = w5 at HQ5 HB5 HO5 V5 HX5 HA5 hv4 hz5 ⊢
    apply wp_region_facts (by kernel_rfl) [isv _, isv _, isv _, isv _, isv _, isv _, isv _, isv _, isv _, isv _, isv _, isv _, isv _, isv _, isv _, isv _, isv _, isv _, isv _, isv _, isv _, isv _] w5.heap.size w5 (Nat.le_refl _) (Below.refl _ _).drew (by kernel_rfl) (by kernel_rfl) (by kernel_rfl) (And.intro (isv_mono _) (And.intro (isv_mono _) (And.intro (isv_mono _) (And.intro (isv_mono _) (And.intro (isv_mono _) (And.intro (isv_mono _) (And.intro (isv_mono _) (And.intro (isv_mono _) (And.intro (isv_mono _) (And.intro (isv_mono _) (And.intro (isv_mono _) (And.intro (isv_mono _) (And.intro (isv_mono _) (And.intro (isv_mono _) (And.intro (isv_mono _) (And.intro (isv_mono _) (And.intro (isv_mono _) (And.intro (isv_mono _) (And.intro (isv_mono _) (And.intro (isv_mono _) (And.intro (isv_mono _) (And.intro (isv_mono _) trivial)))))))))))))))))))))) ?steps (by rfl) ?fin
    case steps =>
     refine (And.intro ?o0 (And.intro ?o1 (And.intro ?o2 (And.intro ?o3 (And.intro ?o4 (And.intro ?o5 (And.intro ?o6 (And.intro ?o7 (And.intro ?o8 (And.intro ?o9 (And.intro ?o10 (And.intro ?o11 (And.intro ?o12 (And.intro ?o13 (And.intro ?o14 (And.intro ?o15 (And.intro ?o16 (And.intro ?o17 (And.intro ?o18 (And.intro ?o19 (And.intro ?o20 (And.intro ?o21 trivial))))))))))))))))))))))
     case o0 =>
      intro AA W KK QQ hB hs hd hl hk
      have sl8 := hs 8 _ (by kernel_rfl) rfl
      clear hs hd hl
      go_simp
      exact hk _ _ rfl (Below.refl _ _)
     case o1 =>
      intro AA W KK QQ hB hs hd hl hk
      obtain ⟨_, sl34, rfl⟩ := hd 0 34 (by kernel_rfl) rfl
      clear hs hd hl
      go_simp
      exact hk _ _ rfl (Below.refl _ _)
     case o2 =>
      intro AA W KK QQ hB hs hd hl hk
      obtain ⟨_, sl35, rfl⟩ := hd 1 35 (by kernel_rfl) rfl
      clear hs hd hl
      go_simp
      exact hk _ _ rfl (Below.refl _ _)
     case o3 =>
      intro AA W KK QQ hB hs hd hl hk
      have sl10 := hs 10 _ (by kernel_rfl) rfl
      obtain ⟨_, sl36, rfl⟩ := hd 2 36 (by kernel_rfl) rfl
      clear hs hd hl
      refine ⟨_, _, rfl, sl36, ?_⟩
      first
       | (change Oper.wp _ _ _ _ _ _; go_simp; exact hk _ _ rfl (Below.refl _ _))
       | exact rfl
     case o4 =>
      intro AA W KK QQ hB hs hd hl hk
      obtain ⟨_, sl36, rfl⟩ := hd 2 36 (by kernel_rfl) rfl
      obtain ⟨_, sl37, rfl⟩ := hd 3 37 (by kernel_rfl) rfl
      clear hs hd hl
      refine ⟨_, _, rfl, sl36, ?_⟩
      first
       | (change Oper.wp _ _ _ _ _ _; go_simp; exact hk _ _ rfl (Below.refl _ _))
       | exact rfl
     case o5 =>
      intro AA W KK QQ hB hs hd hl hk
      obtain ⟨_, sl36, rfl⟩ := hd 2 36 (by kernel_rfl) rfl
      obtain ⟨_, sl38, rfl⟩ := hd 4 38 (by kernel_rfl) rfl
      clear hs hd hl
      go_simp
      exact hk _ _ rfl (Below.refl _ _)
     case o6 =>
      intro AA W KK QQ hB hs hd hl hk
      obtain ⟨_, sl39, rfl⟩ := hd 5 39 (by kernel_rfl) rfl
      clear hs hd hl
      go_simp
      exact hk _ _ rfl (Below.refl _ _)
     case o7 =>
      intro AA W KK QQ hB hs hd hl hk
      have sl11 := hs 11 _ (by kernel_rfl) rfl
      obtain ⟨_, sl40, rfl⟩ := hd 6 40 (by kernel_rfl) rfl
      clear hs hd hl
      refine ⟨_, _, rfl, sl40, ?_⟩
      first
       | (change Oper.wp _ _ _ _ _ _; go_simp; exact hk _ _ rfl (Below.refl _ _))
       | exact rfl
     case o8 =>
      intro AA W KK QQ hB hs hd hl hk
      obtain ⟨_, sl40, rfl⟩ := hd 6 40 (by kernel_rfl) rfl
      obtain ⟨_, sl41, rfl⟩ := hd 7 41 (by kernel_rfl) rfl
      clear hs hd hl
      refine ⟨_, _, rfl, sl40, ?_⟩
      first
       | (change Oper.wp _ _ _ _ _ _; go_simp; exact hk _ _ rfl (Below.refl _ _))
       | exact rfl
     case o9 =>
      intro AA W KK QQ hB hs hd hl hk
      obtain ⟨_, sl40, rfl⟩ := hd 6 40 (by kernel_rfl) rfl
      obtain ⟨_, sl42, rfl⟩ := hd 8 42 (by kernel_rfl) rfl
      clear hs hd hl
      refine ⟨_, _, rfl, sl40, ?_⟩
      first
       | (change Oper.wp _ _ _ _ _ _; go_simp; exact hk _ _ rfl (Below.refl _ _))
       | exact rfl
     case o10 =>
      intro AA W KK QQ hB hs hd hl hk
      have sl4 := hs 4 _ (by kernel_rfl) rfl
      obtain ⟨_, sl43, rfl⟩ := hd 9 43 (by kernel_rfl) rfl
      clear hs hd hl
      refine ⟨_, _, rfl, sl43, ?_⟩
      first
       | (change Oper.wp _ _ _ _ _ _; go_simp; exact hk _ _ rfl (Below.refl _ _))
       | exact rfl
     case o11 =>
      intro AA W KK QQ hB hs hd hl hk
      have sl11 := hs 11 _ (by kernel_rfl) rfl
      obtain ⟨_, sl43, rfl⟩ := hd 9 43 (by kernel_rfl) rfl
      clear hs hd hl
      refine ⟨_, _, rfl, sl43, ?_⟩
      first
       | (change Oper.wp _ _ _ _ _ _; go_simp; exact hk _ _ rfl (Below.refl _ _))
       | exact rfl
     case o12 =>
      intro AA W KK QQ hB hs hd hl hk
      obtain ⟨_, sl43, rfl⟩ := hd 9 43 (by kernel_rfl) rfl
      obtain ⟨_, sl45, rfl⟩ := hd 11 45 (by kernel_rfl) rfl
      clear hs hd hl
      refine ⟨_, _, rfl, sl43, ?_⟩
      first
       | (change Oper.wp _ _ _ _ _ _; go_simp; exact hk _ _ rfl (Below.refl _ _))
       | exact rfl
     case o13 =>
      intro AA W KK QQ hB hs hd hl hk
      obtain ⟨_, sl43, rfl⟩ := hd 9 43 (by kernel_rfl) rfl
      obtain ⟨_, sl44, rfl⟩ := hd 10 44 (by kernel_rfl) rfl
      obtain ⟨_, sl46, rfl⟩ := hd 12 46 (by kernel_rfl) rfl
      clear hs hd hl
      refine ⟨_, _, rfl, sl43, ?_⟩
      first
       | (change Oper.wp _ _ _ _ _ _; go_simp; exact hk _ _ rfl (Below.refl _ _))
       | exact rfl
     case o14 =>
      intro AA W KK QQ hB hs hd hl hk
      obtain ⟨_, sl43, rfl⟩ := hd 9 43 (by kernel_rfl) rfl
      obtain ⟨_, sl47, rfl⟩ := hd 13 47 (by kernel_rfl) rfl
      clear hs hd hl
      refine ⟨_, _, rfl, sl43, ?_⟩
      first
       | (change Oper.wp _ _ _ _ _ _; go_simp; exact hk _ _ rfl (Below.refl _ _))
       | exact rfl
     case o15 =>
      intro AA W KK QQ hB hs hd hl hk
      obtain ⟨_, sl43, rfl⟩ := hd 9 43 (by kernel_rfl) rfl
      obtain ⟨_, sl48, rfl⟩ := hd 14 48 (by kernel_rfl) rfl
      clear hs hd hl
      refine ⟨_, _, rfl, sl43, ?_⟩
      first
       | (change Oper.wp _ _ _ _ _ _; go_simp; exact hk _ _ rfl (Below.refl _ _))
       | exact rfl
     case o16 =>
      intro AA W KK QQ hB hs hd hl hk
      have sl9 := hs 9 _ (by kernel_rfl) rfl
      obtain ⟨_, sl43, rfl⟩ := hd 9 43 (by kernel_rfl) rfl
      clear hs hd hl
      refine ⟨_, _, rfl, sl43, ?_⟩
      first
       | (change Oper.wp _ _ _ _ _ _; go_simp; exact hk _ _ rfl (Below.refl _ _))
       | exact rfl
     case o17 =>
      intro AA W KK QQ hB hs hd hl hk
      obtain ⟨_, sl43, rfl⟩ := hd 9 43 (by kernel_rfl) rfl
      obtain ⟨_, sl50, rfl⟩ := hd 16 50 (by kernel_rfl) rfl
      clear hs hd hl
      refine ⟨_, _, rfl, sl43, ?_⟩
      first
       | (change Oper.wp _ _ _ _ _ _; go_simp; exact hk _ _ rfl (Below.refl _ _))
       | exact rfl
     case o18 =>
      intro AA W KK QQ hB hs hd hl hk
      obtain ⟨_, sl43, rfl⟩ := hd 9 43 (by kernel_rfl) rfl
      obtain ⟨_, sl49, rfl⟩ := hd 15 49 (by kernel_rfl) rfl
      obtain ⟨_, sl51, rfl⟩ := hd 17 51 (by kernel_rfl) rfl
      clear hs hd hl
      refine ⟨_, _, rfl, sl43, ?_⟩
      exact rfl
     case o19 =>
      intro AA W KK QQ hB hs hd hl hk
      obtain ⟨_, sl43, rfl⟩ := hd 9 43 (by kernel_rfl) rfl
      obtain ⟨_, sl52, rfl⟩ := hd 18 52 (by kernel_rfl) rfl
      clear hs hd hl
      refine ⟨_, _, rfl, sl43, ?_⟩
      first
       | (change Oper.wp _ _ _ _ _ _; go_simp; exact hk _ _ rfl (Below.refl _ _))
       | exact rfl
     case o20 =>
      intro AA W KK QQ hB hs hd hl hk
      obtain ⟨_, sl40, rfl⟩ := hd 6 40 (by kernel_rfl) rfl
      obtain ⟨_, sl43, rfl⟩ := hd 9 43 (by kernel_rfl) rfl
      obtain ⟨_, sl53, rfl⟩ := hd 19 53 (by kernel_rfl) rfl
      clear hs hd hl
      refine ⟨_, _, rfl, sl40, ?_⟩
      first
       | (change Oper.wp _ _ _ _ _ _; go_simp; exact hk _ _ rfl (Below.refl _ _))
       | exact rfl
     case o21 =>
      intro AA W KK QQ hB hs hd hl hk
      obtain ⟨_, sl40, rfl⟩ := hd 6 40 (by kernel_rfl) rfl
      obtain ⟨_, sl54, rfl⟩ := hd 20 54 (by kernel_rfl) rfl
      clear hs hd hl
      go_simp
      exact hk _ _ rfl (Below.refl _ _)
    case fin =>
     intro wf hB
     refine fin_isv 34 rfl ?_
     refine fin_isv 35 rfl ?_
     refine fin_isv 36 rfl ?_
     refine fin_isv 37 rfl ?_
     refine fin_isv 38 rfl ?_
     refine fin_isv 39 rfl ?_
     refine fin_isv 40 rfl ?_
     refine fin_isv 41 rfl ?_
     refine fin_isv 42 rfl ?_
     refine fin_isv 43 rfl ?_
     refine fin_isv 44 rfl ?_
     refine fin_isv 45 rfl ?_
     refine fin_isv 46 rfl ?_
     refine fin_isv 47 rfl ?_
     refine fin_isv 48 rfl ?_
     refine fin_isv 49 rfl ?_
     refine fin_isv 50 rfl ?_
     refine fin_isv 51 rfl ?_
     refine fin_isv 52 rfl ?_
     refine fin_isv 53 rfl ?_
     refine fin_isv 54 rfl ?_
     refine fin_isv 55 rfl ?_
     refine frame64_da4d328389 _ _ _ _ _ _ _ _ _ _ _ _ _ _ _ _ _ _ _ _ _ _ _ _ _ _ _ _ _ _ _ _ _ _ _ _ _ _ _ _ _ _ _ _ _ _ _ _ _ _ _ _ _ _ _ _ _ _ _ _ _ _ _ _ _ _ _ _ _ _ _ _ _ _ _ _ _ _ _ _ _ _ _ _ _ _ ?_
     obtain ⟨k0, k1⟩ := fltC (HQ5.out.keep hB)
     obtain ⟨f0, f1⟩ := fltF (HQ5.out.keep hB)
     have HBf := Lib.hid (HB5.out.trans (hB.mono HB5.out.size))
     clear hB
     have HBF := Lib.hid ((HBf.out.setCell (p := ⟨w.heap.size, 0, none⟩) (Nat.le_refl _) (.int .i64 8)).setCell (p := ⟨w.heap.size, 1, none⟩) (Nat.le_refl _) (.int .i64 (kn : Nat)))
     go_wp2
     first | rw [Exit.noGoto_ret] | skip
     refine bodyPost_ret (v := .tuple #[.slice none 0 0, .agg #[.int .i64 8, .int .i64 (kn : Nat)]]) (by simp [results, Tryz.results19, go_sem, k0, k1]) rfl ?_
     exact ⟨none, 0, by rw [HRes.out]; rfl, by rw [HRes.out]; exact Sl.nil_, HBF.out⟩
   cases hre : re with
   | none =>
     have HRes := Lib.hid (show r = ([], 8, kn) from by rw [HRr.out, HLU.out, hre, HKN.out] <;> rfl)
     subst hre
     clear HLU HX
     go_upto_region 11 with fail
     generalize hw5 : w4.alloc (.cells #[.string ⟨x.1.1.toArray⟩, .int .i64 x.1.2.1, .int .i64 x.1.2.2.1, .int .i64 x.1.2.2.2, .string ⟨x.2.toArray⟩] 49) = w5 at HQ5 HB5 HO5 V5 HX5 HA5 hv4 hz5 ⊢
     apply wp_region_facts (by kernel_rfl) [isv _, isv _, isv _, isv _, isv _, isv _, isv _, isv _, isv _, isv _, isv _, isv _, isv _, isv _, isv _, isv _, isv _, isv _, isv _, isv _, isv _, isv _] w5.heap.size w5 (Nat.le_refl _) (Below.refl _ _).drew (by kernel_rfl) (by kernel_rfl) (by kernel_rfl) (And.intro (isv_mono _) (And.intro (isv_mono _) (And.intro (isv_mono _) (And.intro (isv_mono _) (And.intro (isv_mono _) (And.intro (isv_mono _) (And.intro (isv_mono _) (And.intro (isv_mono _) (And.intro (isv_mono _) (And.intro (isv_mono _) (And.intro (isv_mono _) (And.intro (isv_mono _) (And.intro (isv_mono _) (And.intro (isv_mono _) (And.intro (isv_mono _) (And.intro (isv_mono _) (And.intro (isv_mono _) (And.intro (isv_mono _) (And.intro (isv_mono _) (And.intro (isv_mono _) (And.intro (isv_mono _) (And.intro (isv_mono _) trivial)))))))))))))))))))))) ?steps (by rfl) ?fin
     case steps =>
      refine (And.intro ?o0 (And.intro ?o1 (And.intro ?o2 (And.intro ?o3 (And.intro ?o4 (And.intro ?o5 (And.intro ?o6 (And.intro ?o7 (And.intro ?o8 (And.intro ?o9 (And.intro ?o10 (And.intro ?o11 (And.intro ?o12 (And.intro ?o13 (And.intro ?o14 (And.intro ?o15 (And.intro ?o16 (And.intro ?o17 (And.intro ?o18 (And.intro ?o19 (And.intro ?o20 (And.intro ?o21 trivial))))))))))))))))))))))
      case o0 =>
       intro AA W KK QQ hB hs hd hl hk
       have sl8 := hs 8 _ (by kernel_rfl) rfl
       clear hs hd hl
       go_simp
       exact hk _ _ rfl (Below.refl _ _)
      case o1 =>
       intro AA W KK QQ hB hs hd hl hk
       obtain ⟨_, sl34, rfl⟩ := hd 0 34 (by kernel_rfl) rfl
       clear hs hd hl
       go_simp
       exact hk _ _ rfl (Below.refl _ _)
      case o2 =>
       intro AA W KK QQ hB hs hd hl hk
       obtain ⟨_, sl35, rfl⟩ := hd 1 35 (by kernel_rfl) rfl
       clear hs hd hl
       go_simp
       exact hk _ _ rfl (Below.refl _ _)
      case o3 =>
       intro AA W KK QQ hB hs hd hl hk
       have sl10 := hs 10 _ (by kernel_rfl) rfl
       obtain ⟨_, sl36, rfl⟩ := hd 2 36 (by kernel_rfl) rfl
       clear hs hd hl
       refine ⟨_, _, rfl, sl36, ?_⟩
       first
        | (change Oper.wp _ _ _ _ _ _; go_simp; exact hk _ _ rfl (Below.refl _ _))
        | exact rfl
      case o4 =>
       intro AA W KK QQ hB hs hd hl hk
       obtain ⟨_, sl36, rfl⟩ := hd 2 36 (by kernel_rfl) rfl
       obtain ⟨_, sl37, rfl⟩ := hd 3 37 (by kernel_rfl) rfl
       clear hs hd hl
       refine ⟨_, _, rfl, sl36, ?_⟩
       first
        | (change Oper.wp _ _ _ _ _ _; go_simp; exact hk _ _ rfl (Below.refl _ _))
        | exact rfl
      case o5 =>
       intro AA W KK QQ hB hs hd hl hk
       obtain ⟨_, sl36, rfl⟩ := hd 2 36 (by kernel_rfl) rfl
       obtain ⟨_, sl38, rfl⟩ := hd 4 38 (by kernel_rfl) rfl
       clear hs hd hl
       go_simp
       exact hk _ _ rfl (Below.refl _ _)
      case o6 =>
       intro AA W KK QQ hB hs hd hl hk
       obtain ⟨_, sl39, rfl⟩ := hd 5 39 (by kernel_rfl) rfl
       clear hs hd hl
       go_simp
       exact hk _ _ rfl (Below.refl _ _)
      case o7 =>
       intro AA W KK QQ hB hs hd hl hk
       have sl11 := hs 11 _ (by kernel_rfl) rfl
       obtain ⟨_, sl40, rfl⟩ := hd 6 40 (by kernel_rfl) rfl
       clear hs hd hl
       refine ⟨_, _, rfl, sl40, ?_⟩
       first
        | (change Oper.wp _ _ _ _ _ _; go_simp; exact hk _ _ rfl (Below.refl _ _))
        | exact rfl
      case o8 =>
       intro AA W KK QQ hB hs hd hl hk
       obtain ⟨_, sl40, rfl⟩ := hd 6 40 (by kernel_rfl) rfl
       obtain ⟨_, sl41, rfl⟩ := hd 7 41 (by kernel_rfl) rfl
       clear hs hd hl
       refine ⟨_, _, rfl, sl40, ?_⟩
       first
        | (change Oper.wp _ _ _ _ _ _; go_simp; exact hk _ _ rfl (Below.refl _ _))
        | exact rfl
      case o9 =>
       intro AA W KK QQ hB hs hd hl hk
       obtain ⟨_, sl40, rfl⟩ := hd 6 40 (by kernel_rfl) rfl
       obtain ⟨_, sl42, rfl⟩ := hd 8 42 (by kernel_rfl) rfl
       clear hs hd hl
       refine ⟨_, _, rfl, sl40, ?_⟩
       first
        | (change Oper.wp _ _ _ _ _ _; go_simp; exact hk _ _ rfl (Below.refl _ _))
        | exact rfl
      case o10 =>
       intro AA W KK QQ hB hs hd hl hk
       have sl4 := hs 4 _ (by kernel_rfl) rfl
       obtain ⟨_, sl43, rfl⟩ := hd 9 43 (by kernel_rfl) rfl
       clear hs hd hl
       refine ⟨_, _, rfl, sl43, ?_⟩
       first
        | (change Oper.wp _ _ _ _ _ _; go_simp; exact hk _ _ rfl (Below.refl _ _))
        | exact rfl
      case o11 =>
       intro AA W KK QQ hB hs hd hl hk
       have sl11 := hs 11 _ (by kernel_rfl) rfl
       obtain ⟨_, sl43, rfl⟩ := hd 9 43 (by kernel_rfl) rfl
       clear hs hd hl
       refine ⟨_, _, rfl, sl43, ?_⟩
       first
        | (change Oper.wp _ _ _ _ _ _; go_simp; exact hk _ _ rfl (Below.refl _ _))
        | exact rfl
      case o12 =>
       intro AA W KK QQ hB hs hd hl hk
       obtain ⟨_, sl43, rfl⟩ := hd 9 43 (by kernel_rfl) rfl
       obtain ⟨_, sl45, rfl⟩ := hd 11 45 (by kernel_rfl) rfl
       clear hs hd hl
       refine ⟨_, _, rfl, sl43, ?_⟩
       first
        | (change Oper.wp _ _ _ _ _ _; go_simp; exact hk _ _ rfl (Below.refl _ _))
        | exact rfl
      case o13 =>
       intro AA W KK QQ hB hs hd hl hk
       obtain ⟨_, sl43, rfl⟩ := hd 9 43 (by kernel_rfl) rfl
       obtain ⟨_, sl44, rfl⟩ := hd 10 44 (by kernel_rfl) rfl
       obtain ⟨_, sl46, rfl⟩ := hd 12 46 (by kernel_rfl) rfl
       clear hs hd hl
       refine ⟨_, _, rfl, sl43, ?_⟩
       first
        | (change Oper.wp _ _ _ _ _ _; go_simp; exact hk _ _ rfl (Below.refl _ _))
        | exact rfl
      case o14 =>
       intro AA W KK QQ hB hs hd hl hk
       obtain ⟨_, sl43, rfl⟩ := hd 9 43 (by kernel_rfl) rfl
       obtain ⟨_, sl47, rfl⟩ := hd 13 47 (by kernel_rfl) rfl
       clear hs hd hl
       refine ⟨_, _, rfl, sl43, ?_⟩
       first
        | (change Oper.wp _ _ _ _ _ _; go_simp; exact hk _ _ rfl (Below.refl _ _))
        | exact rfl
      case o15 =>
       intro AA W KK QQ hB hs hd hl hk
       obtain ⟨_, sl43, rfl⟩ := hd 9 43 (by kernel_rfl) rfl
       obtain ⟨_, sl48, rfl⟩ := hd 14 48 (by kernel_rfl) rfl
       clear hs hd hl
       refine ⟨_, _, rfl, sl43, ?_⟩
       first
        | (change Oper.wp _ _ _ _ _ _; go_simp; exact hk _ _ rfl (Below.refl _ _))
        | exact rfl
      case o16 =>
       intro AA W KK QQ hB hs hd hl hk
       have sl9 := hs 9 _ (by kernel_rfl) rfl
       obtain ⟨_, sl43, rfl⟩ := hd 9 43 (by kernel_rfl) rfl
       clear hs hd hl
       refine ⟨_, _, rfl, sl43, ?_⟩
       first
        | (change Oper.wp _ _ _ _ _ _; go_simp; exact hk _ _ rfl (Below.refl _ _))
        | exact rfl
      case o17 =>
       intro AA W KK QQ hB hs hd hl hk
       obtain ⟨_, sl43, rfl⟩ := hd 9 43 (by kernel_rfl) rfl
       obtain ⟨_, sl50, rfl⟩ := hd 16 50 (by kernel_rfl) rfl
       clear hs hd hl
       refine ⟨_, _, rfl, sl43, ?_⟩
       first
        | (change Oper.wp _ _ _ _ _ _; go_simp; exact hk _ _ rfl (Below.refl _ _))
        | exact rfl
      case o18 =>
       intro AA W KK QQ hB hs hd hl hk
       obtain ⟨_, sl43, rfl⟩ := hd 9 43 (by kernel_rfl) rfl
       obtain ⟨_, sl49, rfl⟩ := hd 15 49 (by kernel_rfl) rfl
       obtain ⟨_, sl51, rfl⟩ := hd 17 51 (by kernel_rfl) rfl
       clear hs hd hl
       refine ⟨_, _, rfl, sl43, ?_⟩
       exact rfl
      case o19 =>
       intro AA W KK QQ hB hs hd hl hk
       obtain ⟨_, sl43, rfl⟩ := hd 9 43 (by kernel_rfl) rfl
       obtain ⟨_, sl52, rfl⟩ := hd 18 52 (by kernel_rfl) rfl
       clear hs hd hl
       refine ⟨_, _, rfl, sl43, ?_⟩
       first
        | (change Oper.wp _ _ _ _ _ _; go_simp; exact hk _ _ rfl (Below.refl _ _))
        | exact rfl
      case o20 =>
       intro AA W KK QQ hB hs hd hl hk
       obtain ⟨_, sl40, rfl⟩ := hd 6 40 (by kernel_rfl) rfl
       obtain ⟨_, sl43, rfl⟩ := hd 9 43 (by kernel_rfl) rfl
       obtain ⟨_, sl53, rfl⟩ := hd 19 53 (by kernel_rfl) rfl
       clear hs hd hl
       refine ⟨_, _, rfl, sl40, ?_⟩
       first
        | (change Oper.wp _ _ _ _ _ _; go_simp; exact hk _ _ rfl (Below.refl _ _))
        | exact rfl
      case o21 =>
       intro AA W KK QQ hB hs hd hl hk
       obtain ⟨_, sl40, rfl⟩ := hd 6 40 (by kernel_rfl) rfl
       obtain ⟨_, sl54, rfl⟩ := hd 20 54 (by kernel_rfl) rfl
       clear hs hd hl
       go_simp
       exact hk _ _ rfl (Below.refl _ _)
     case fin =>
      intro wf hB
      refine fin_isv 34 rfl ?_
      refine fin_isv 35 rfl ?_
      refine fin_isv 36 rfl ?_
      refine fin_isv 37 rfl ?_
      refine fin_isv 38 rfl ?_
      refine fin_isv 39 rfl ?_
      refine fin_isv 40 rfl ?_
      refine fin_isv 41 rfl ?_
      refine fin_isv 42 rfl ?_
      refine fin_isv 43 rfl ?_
      refine fin_isv 44 rfl ?_
      refine fin_isv 45 rfl ?_
      refine fin_isv 46 rfl ?_
      refine fin_isv 47 rfl ?_
      refine fin_isv 48 rfl ?_
      refine fin_isv 49 rfl ?_
      refine fin_isv 50 rfl ?_
      refine fin_isv 51 rfl ?_
      refine fin_isv 52 rfl ?_
      refine fin_isv 53 rfl ?_
      refine fin_isv 54 rfl ?_
      refine fin_isv 55 rfl ?_
      refine frame64_da4d328389 _ _ _ _ _ _ _ _ _ _ _ _ _ _ _ _ _ _ _ _ _ _ _ _ _ _ _ _ _ _ _ _ _ _ _ _ _ _ _ _ _ _ _ _ _ _ _ _ _ _ _ _ _ _ _ _ _ _ _ _ _ _ _ _ _ _ _ _ _ _ _ _ _ _ _ _ _ _ _ _ _ _ _ _ _ _ ?_
      obtain ⟨k0, k1⟩ := fltC (HQ5.out.keep hB)
      obtain ⟨f0, f1⟩ := fltF (HQ5.out.keep hB)
      have HBf := Lib.hid (HB5.out.trans (hB.mono HB5.out.size))
      clear hB
      have HBF := Lib.hid ((HBf.out.setCell (p := ⟨w.heap.size, 0, none⟩) (Nat.le_refl _) (.int .i64 8)).setCell (p := ⟨w.heap.size, 1, none⟩) (Nat.le_refl _) (.int .i64 (kn : Nat)))
      go_wp2
      first | rw [Exit.noGoto_ret] | skip
      refine bodyPost_ret (v := .tuple #[.slice none 0 0, .agg #[.int .i64 8, .int .i64 (kn : Nat)]]) (by simp [results, Tryz.results19, go_sem, k0, k1]) rfl ?_
      exact ⟨none, 0, by rw [HRes.out]; rfl, by rw [HRes.out]; exact Sl.nil_, HBF.out⟩
   | some y =>
     obtain rfl : x = y := HX.out y hre
     have HRn := Lib.hid (show r = unlL [x] (splitL 10 rest) from by rw [HRr.out, HLU.out, hre] <;> simp [fits_nil])
     subst hre
     clear HLU HX HRr
     go_upto_region 11 with fail
     generalize hw5 : w4.alloc (.cells #[.string ⟨x.1.1.toArray⟩, .int .i64 x.1.2.1, .int .i64 x.1.2.2.1, .int .i64 x.1.2.2.2, .string ⟨x.2.toArray⟩] 49) = w5 at HQ5 HB5 HO5 V5 HX5 HA5 hv4 hz5 ⊢
     apply wp_region_facts (by kernel_rfl) [isv _, isv _, isv _, isv _, isv _, isv _, isv _, isv _, isv _, isv _, isv _, isv _, isv _, isv _, isv _, isv _, isv _, isv _, isv _, isv _, isv _, isv _] w5.heap.size w5 (Nat.le_refl _) (Below.refl _ _).drew (by kernel_rfl) (by kernel_rfl) (by kernel_rfl) (And.intro (isv_mono _) (And.intro (isv_mono _) (And.intro (isv_mono _) (And.intro (isv_mono _) (And.intro (isv_mono _) (And.intro (isv_mono _) (And.intro (isv_mono _) (And.intro (isv_mono _) (And.intro (isv_mono _) (And.intro (isv_mono _) (And.intro (isv_mono _) (And.intro (isv_mono _) (And.intro (isv_mono _) (And.intro (isv_mono _) (And.intro (isv_mono _) (And.intro (isv_mono _) (And.intro (isv_mono _) (And.intro (isv_mono _) (And.intro (isv_mono _) (And.intro (isv_mono _) (And.intro (isv_mono _) (And.intro (isv_mono _) trivial)))))))))))))))))))))) ?steps (by rfl) ?fin
     case steps =>
      refine (And.intro ?o0 (And.intro ?o1 (And.intro ?o2 (And.intro ?o3 (And.intro ?o4 (And.intro ?o5 (And.intro ?o6 (And.intro ?o7 (And.intro ?o8 (And.intro ?o9 (And.intro ?o10 (And.intro ?o11 (And.intro ?o12 (And.intro ?o13 (And.intro ?o14 (And.intro ?o15 (And.intro ?o16 (And.intro ?o17 (And.intro ?o18 (And.intro ?o19 (And.intro ?o20 (And.intro ?o21 trivial))))))))))))))))))))))
      case o0 =>
       intro AA W KK QQ hB hs hd hl hk
       have sl8 := hs 8 _ (by kernel_rfl) rfl
       clear hs hd hl
       go_simp
       exact hk _ _ rfl (Below.refl _ _)
      case o1 =>
       intro AA W KK QQ hB hs hd hl hk
       obtain ⟨_, sl34, rfl⟩ := hd 0 34 (by kernel_rfl) rfl
       clear hs hd hl
       go_simp
       exact hk _ _ rfl (Below.refl _ _)
      case o2 =>
       intro AA W KK QQ hB hs hd hl hk
       obtain ⟨_, sl35, rfl⟩ := hd 1 35 (by kernel_rfl) rfl
       clear hs hd hl
       go_simp
       exact hk _ _ rfl (Below.refl _ _)
      case o3 =>
       intro AA W KK QQ hB hs hd hl hk
       have sl10 := hs 10 _ (by kernel_rfl) rfl
       obtain ⟨_, sl36, rfl⟩ := hd 2 36 (by kernel_rfl) rfl
       clear hs hd hl
       refine ⟨_, _, rfl, sl36, ?_⟩
       first
        | (change Oper.wp _ _ _ _ _ _; go_simp; exact hk _ _ rfl (Below.refl _ _))
        | exact rfl
      case o4 =>
       intro AA W KK QQ hB hs hd hl hk
       obtain ⟨_, sl36, rfl⟩ := hd 2 36 (by kernel_rfl) rfl
       obtain ⟨_, sl37, rfl⟩ := hd 3 37 (by kernel_rfl) rfl
       clear hs hd hl
       refine ⟨_, _, rfl, sl36, ?_⟩
       first
        | (change Oper.wp _ _ _ _ _ _; go_simp; exact hk _ _ rfl (Below.refl _ _))
        | exact rfl
      case o5 =>
       intro AA W KK QQ hB hs hd hl hk
       obtain ⟨_, sl36, rfl⟩ := hd 2 36 (by kernel_rfl) rfl
       obtain ⟨_, sl38, rfl⟩ := hd 4 38 (by kernel_rfl) rfl
       clear hs hd hl
       go_simp
       exact hk _ _ rfl (Below.refl _ _)
      case o6 =>
       intro AA W KK QQ hB hs hd hl hk
       obtain ⟨_, sl39, rfl⟩ := hd 5 39 (by kernel_rfl) rfl
       clear hs hd hl
       go_simp
       exact hk _ _ rfl (Below.refl _ _)
      case o7 =>
       intro AA W KK QQ hB hs hd hl hk
       have sl11 := hs 11 _ (by kernel_rfl) rfl
       obtain ⟨_, sl40, rfl⟩ := hd 6 40 (by kernel_rfl) rfl
       clear hs hd hl
       refine ⟨_, _, rfl, sl40, ?_⟩
       first
        | (change Oper.wp _ _ _ _ _ _; go_simp; exact hk _ _ rfl (Below.refl _ _))
        | exact rfl
      case o8 =>
       intro AA W KK QQ hB hs hd hl hk
       obtain ⟨_, sl40, rfl⟩ := hd 6 40 (by kernel_rfl) rfl
       obtain ⟨_, sl41, rfl⟩ := hd 7 41 (by kernel_rfl) rfl
       clear hs hd hl
       refine ⟨_, _, rfl, sl40, ?_⟩
       first
        | (change Oper.wp _ _ _ _ _ _; go_simp; exact hk _ _ rfl (Below.refl _ _))
        | exact rfl
      case o9 =>
       intro AA W KK QQ hB hs hd hl hk
       obtain ⟨_, sl40, rfl⟩ := hd 6 40 (by kernel_rfl) rfl
       obtain ⟨_, sl42, rfl⟩ := hd 8 42 (by kernel_rfl) rfl
       clear hs hd hl
       refine ⟨_, _, rfl, sl40, ?_⟩
       first
        | (change Oper.wp _ _ _ _ _ _; go_simp; exact hk _ _ rfl (Below.refl _ _))
        | exact rfl
      case o10 =>
       intro AA W KK QQ hB hs hd hl hk
       have sl4 := hs 4 _ (by kernel_rfl) rfl
       obtain ⟨_, sl43, rfl⟩ := hd 9 43 (by kernel_rfl) rfl
       clear hs hd hl
       refine ⟨_, _, rfl, sl43, ?_⟩
       first
        | (change Oper.wp _ _ _ _ _ _; go_simp; exact hk _ _ rfl (Below.refl _ _))
        | exact rfl
      case o11 =>
       intro AA W KK QQ hB hs hd hl hk
       have sl11 := hs 11 _ (by kernel_rfl) rfl
       obtain ⟨_, sl43, rfl⟩ := hd 9 43 (by kernel_rfl) rfl
       clear hs hd hl
       refine ⟨_, _, rfl, sl43, ?_⟩
       first
        | (change Oper.wp _ _ _ _ _ _; go_simp; exact hk _ _ rfl (Below.refl _ _))
        | exact rfl
      case o12 =>
       intro AA W KK QQ hB hs hd hl hk
       obtain ⟨_, sl43, rfl⟩ := hd 9 43 (by kernel_rfl) rfl
       obtain ⟨_, sl45, rfl⟩ := hd 11 45 (by kernel_rfl) rfl
       clear hs hd hl
       refine ⟨_, _, rfl, sl43, ?_⟩
       first
        | (change Oper.wp _ _ _ _ _ _; go_simp; exact hk _ _ rfl (Below.refl _ _))
        | exact rfl
      case o13 =>
       intro AA W KK QQ hB hs hd hl hk
       obtain ⟨_, sl43, rfl⟩ := hd 9 43 (by kernel_rfl) rfl
       obtain ⟨_, sl44, rfl⟩ := hd 10 44 (by kernel_rfl) rfl
       obtain ⟨_, sl46, rfl⟩ := hd 12 46 (by kernel_rfl) rfl
       clear hs hd hl
       refine ⟨_, _, rfl, sl43, ?_⟩
       first
        | (change Oper.wp _ _ _ _ _ _; go_simp; exact hk _ _ rfl (Below.refl _ _))
        | exact rfl
      case o14 =>
       intro AA W KK QQ hB hs hd hl hk
       obtain ⟨_, sl43, rfl⟩ := hd 9 43 (by kernel_rfl) rfl
       obtain ⟨_, sl47, rfl⟩ := hd 13 47 (by kernel_rfl) rfl
       clear hs hd hl
       refine ⟨_, _, rfl, sl43, ?_⟩
       first
        | (change Oper.wp _ _ _ _ _ _; go_simp; exact hk _ _ rfl (Below.refl _ _))
        | exact rfl
      case o15 =>
       intro AA W KK QQ hB hs hd hl hk
       obtain ⟨_, sl43, rfl⟩ := hd 9 43 (by kernel_rfl) rfl
       obtain ⟨_, sl48, rfl⟩ := hd 14 48 (by kernel_rfl) rfl
       clear hs hd hl
       refine ⟨_, _, rfl, sl43, ?_⟩
       first
        | (change Oper.wp _ _ _ _ _ _; go_simp; exact hk _ _ rfl (Below.refl _ _))
        | exact rfl
      case o16 =>
       intro AA W KK QQ hB hs hd hl hk
       have sl9 := hs 9 _ (by kernel_rfl) rfl
       obtain ⟨_, sl43, rfl⟩ := hd 9 43 (by kernel_rfl) rfl
       clear hs hd hl
       refine ⟨_, _, rfl, sl43, ?_⟩
       first
        | (change Oper.wp _ _ _ _ _ _; go_simp; exact hk _ _ rfl (Below.refl _ _))
        | exact rfl
      case o17 =>
       intro AA W KK QQ hB hs hd hl hk
       obtain ⟨_, sl43, rfl⟩ := hd 9 43 (by kernel_rfl) rfl
       obtain ⟨_, sl50, rfl⟩ := hd 16 50 (by kernel_rfl) rfl
       clear hs hd hl
       refine ⟨_, _, rfl, sl43, ?_⟩
       first
        | (change Oper.wp _ _ _ _ _ _; go_simp; exact hk _ _ rfl (Below.refl _ _))
        | exact rfl
      case o18 =>
       intro AA W KK QQ hB hs hd hl hk
       obtain ⟨_, sl43, rfl⟩ := hd 9 43 (by kernel_rfl) rfl
       obtain ⟨_, sl49, rfl⟩ := hd 15 49 (by kernel_rfl) rfl
       obtain ⟨_, sl51, rfl⟩ := hd 17 51 (by kernel_rfl) rfl
       clear hs hd hl
       refine ⟨_, _, rfl, sl43, ?_⟩
       exact rfl
      case o19 =>
       intro AA W KK QQ hB hs hd hl hk
       obtain ⟨_, sl43, rfl⟩ := hd 9 43 (by kernel_rfl) rfl
       obtain ⟨_, sl52, rfl⟩ := hd 18 52 (by kernel_rfl) rfl
       clear hs hd hl
       refine ⟨_, _, rfl, sl43, ?_⟩
       first
        | (change Oper.wp _ _ _ _ _ _; go_simp; exact hk _ _ rfl (Below.refl _ _))
        | exact rfl
      case o20 =>
       intro AA W KK QQ hB hs hd hl hk
       obtain ⟨_, sl40, rfl⟩ := hd 6 40 (by kernel_rfl) rfl
       obtain ⟨_, sl43, rfl⟩ := hd 9 43 (by kernel_rfl) rfl
       obtain ⟨_, sl53, rfl⟩ := hd 19 53 (by kernel_rfl) rfl
       clear hs hd hl
       refine ⟨_, _, rfl, sl40, ?_⟩
       first
        | (change Oper.wp _ _ _ _ _ _; go_simp; exact hk _ _ rfl (Below.refl _ _))
        | exact rfl
      case o21 =>
       intro AA W KK QQ hB hs hd hl hk
       obtain ⟨_, sl40, rfl⟩ := hd 6 40 (by kernel_rfl) rfl
       obtain ⟨_, sl54, rfl⟩ := hd 20 54 (by kernel_rfl) rfl
       clear hs hd hl
       go_simp
       exact hk _ _ rfl (Below.refl _ _)
     case fin =>
      intro wf hB
      refine fin_isv 34 rfl ?_
      refine fin_isv 35 rfl ?_
      refine fin_isv 36 rfl ?_
      refine fin_isv 37 rfl ?_
      refine fin_isv 38 rfl ?_
      refine fin_isv 39 rfl ?_
      refine fin_isv 40 rfl ?_
      refine fin_isv 41 rfl ?_
      refine fin_isv 42 rfl ?_
      refine fin_isv 43 rfl ?_
      refine fin_isv 44 rfl ?_
      refine fin_isv 45 rfl ?_
      refine fin_isv 46 rfl ?_
      refine fin_isv 47 rfl ?_
      refine fin_isv 48 rfl ?_
      refine fin_isv 49 rfl ?_
      refine fin_isv 50 rfl ?_
      refine fin_isv 51 rfl ?_
      refine fin_isv 52 rfl ?_
      refine fin_isv 53 rfl ?_
      refine fin_isv 54 rfl ?_
      refine fin_isv 55 rfl ?_
      refine frame64_da4d328389 _ _ _ _ _ _ _ _ _ _ _ _ _ _ _ _ _ _ _ _ _ _ _ _ _ _ _ _ _ _ _ _ _ _ _ _ _ _ _ _ _ _ _ _ _ _ _ _ _ _ _ _ _ _ _ _ _ _ _ _ _ _ _ _ _ _ _ _ _ _ _ _ _ _ _ _ _ _ _ _ _ _ _ _ _ _ ?_
      have V6 := V5.out.keep hB
      obtain ⟨t0, t1, t2, t3, t4⟩ := entC V6
      have HO6 := Lib.hid (own_below2 HO5.out hB)
      have HQ6 := Lib.hid (HQ5.out.keep hB)
      have HBf := Lib.hid (HB5.out.trans (hB.mono HB5.out.size))
      have hzf := Nat.le_trans hz5 hB.size
      have HWA := Lib.hid (show Below wf.heap.size wf (wf.alloc (.cells #[.string ⟨x.1.1.toArray⟩, .int .i64 x.1.2.1, .int .i64 x.1.2.2.1, .int .i64 x.1.2.2.2, .string ⟨x.2.toArray⟩] 49)) from (Below.refl _ _).alloc (Nat.le_refl _) _)
      have HOA := Lib.hid (own_below2 HO6.out HWA.out)
      have b0 : 0 + 1 ≤ maxLen := by unfold maxLen; omega
      have b1 : (0 + 1) * 56 ≤ 140737488355328 := by omega
      have hbz : w.heap.size + 1 ≤ (wf.alloc (.cells #[.string ⟨x.1.1.toArray⟩, .int .i64 x.1.2.1, .int .i64 x.1.2.2.1, .int .i64 x.1.2.2.2, .string ⟨x.2.toArray⟩] 49)).heap.size := by simp; omega
      clear hB V6
      go_wp2_with (at_builtin; refine wpList_own rfl (.tmp 58) (.tmp 60) rfl (w.heap.size + 1) elEntV (.slice Av 0 cv) 0 _ rfl HOA.out _ 1 _ _ rfl (Src.lit _ 5 _ _ 1 rfl) (by decide) (by simp [Value.oneCell']) b0 b1 hbz ?_; intro v' w7 hown7 hgrow7 hb7; obtain ⟨A8, c8, rfl⟩ := Acc.shape (.inl hown7); have HOWN := Lib.hid hown7; have HG7 := Lib.hid hgrow7; have HB7 := Lib.hid hb7; clear hown7 hgrow7 hb7)
      have HQ7 := Lib.hid (show Blk w7 w.heap.size 42 #[.int .i64 0, .int .i64 0] from (HG7.out.block w.heap.size (by simp; omega) (fun h => own_apart HOA.out (Nat.lt_succ_self w.heap.size) h.symm)).trans (HQ6.out.keep HWA.out))
      have HBn := Lib.hid ((HBf.out.trans (HWA.out.mono HBf.out.size)).trans (HB7.out.mono (Nat.le_succ _)))
      go_roundg rest.length
      case measure => omega
      case rel => exact ⟨rest, [x], kn + 1, A8, c8, rfl, rfl, by go_num, by rw [HKN.out]; rfl, Nat.le_refl _, by simp only [List.length_singleton]; omega, Lib.hid (by simpa [encE] using HOWN.out), HQ7, HBn, HRn⟩
  ·obtain ⟨kk, hkk⟩ : ∃ kk, kk + 1 = out.length := ⟨out.length - 1, by omega⟩
   have hkl : kk < out.length := by omega
   obtain ⟨z, hz⟩ : ∃ z, z = out[kk]'hkl := ⟨_, rfl⟩
   have hzk := Lib.hid (show out[kk]'hkl = z from hz.symm)
   have hlast := Lib.hid (show out.getLast? = some z by
    rw [List.getLast?_eq_getElem?, show out.length - 1 = kk by omega, List.getElem?_eq_getElem hkl, hzk.out])
   have hop : (0 : Int) < (out.length : Int) := by omega
   have hji : (kk : Int) < (out.length : Int) := by omega
   have hj0 : (0 : Int) ≤ (kk : Int) := by omega
   have hjw : IntKind.i64.wrap ((out.length : Int) - 1) = (kk : Int) := by simp [IntKind.wrap, IntKind.bits, IntKind.signed]; omega
   have HKN := Lib.hid hkn
   have hkb : kn ≤ 70000 := by omega
   clear hz hkn hkk
   go_wp2_with fail
   refine cC.out.mono ?_
   rintro e w2 ⟨rfl, n2, rfl⟩
   have HW2 := Lib.hid (show Below wo.heap.size wo (wo.drewN n2) from (Below.refl _ _).drewN _)
   have cE := Lib.hid (entry_any line (wo.drewN n2) (by omega) ((HG.out.keep HB.out).keep HW2.out))
   generalize entryP line = re at cE HLU
   clear cC
   go_wp2_with fail
   refine cE.out.mono ?_
   rintro e w4 ⟨x, rfl, hx, hb4⟩
   have HX4 := Lib.hid (HW2.out.trans (hb4.mono HW2.out.size))
   clear HW2 cE
   have HX := Lib.hid hx
   have HA5 := Lib.hid (show Below w4.heap.size w4 (w4.alloc (.cells #[.string ⟨x.1.1.toArray⟩, .int .i64 x.1.2.1, .int .i64 x.1.2.2.1, .int .i64 x.1.2.2.2, .string ⟨x.2.toArray⟩] 49)) from (Below.refl _ _).alloc (Nat.le_refl _) _)
   have V5 := Lib.hid (Blk.new w4 49 #[.string ⟨x.1.1.toArray⟩, .int .i64 x.1.2.1, .int .i64 x.1.2.2.1, .int .i64 x.1.2.2.2, .string ⟨x.2.toArray⟩])
   have HX5 := Lib.hid (HX4.out.trans (HA5.out.mono HX4.out.size))
   have HB5 := Lib.hid (HB.out.trans (HX5.out.mono HB.out.size))
   have HQ5 := Lib.hid (HQ.out.keep HX5.out)
   have HO5 := Lib.hid (own_below2 HO.out HX5.out)
   have hv4 : w4.heap.size < (w4.alloc (.cells #[.string ⟨x.1.1.toArray⟩, .int .i64 x.1.2.1, .int .i64 x.1.2.2.1, .int .i64 x.1.2.2.2, .string ⟨x.2.toArray⟩] 49)).heap.size := by simp
   have hz5 : w.heap.size < (w4.alloc (.cells #[.string ⟨x.1.1.toArray⟩, .int .i64 x.1.2.1, .int .i64 x.1.2.2.1, .int .i64 x.1.2.2.2, .string ⟨x.2.toArray⟩] 49)).heap.size := Nat.lt_of_lt_of_le hz1 HX5.out.size
   clear hx hb4
   cases wh
   ·have HRes := Lib.hid (show r = ([], 8, kn) from by rw [HRr.out, HLU.out, HKN.out]; rfl)
    clear HLU HX
    go_upto_region 11 with fail
    generalize hw5 : w4.alloc (.cells #[.string ⟨x.1.1.toArray⟩, .int .i64 x.1.2.1, .int .i64 x.1.2.2.1, .int .i64 x.1.2.2.2, .string ⟨x.2.toArray⟩] 49) = w5 at HQ5 HB5 HO5 V5 HX5 HA5 hv4 hz5 ⊢
    apply wp_region_facts (by kernel_rfl) [isv _, isv _, isv _, isv _, isv _, isv _, isv _, isv _, isv _, isv _, isv _, isv _, isv _, isv _, isv _, isv _, isv _, isv _, isv _, isv _, isv _, isv _] w5.heap.size w5 (Nat.le_refl _) (Below.refl _ _).drew (by kernel_rfl) (by kernel_rfl) (by kernel_rfl) (And.intro (isv_mono _) (And.intro (isv_mono _) (And.intro (isv_mono _) (And.intro (isv_mono _) (And.intro (isv_mono _) (And.intro (isv_mono _) (And.intro (isv_mono _) (And.intro (isv_mono _) (And.intro (isv_mono _) (And.intro (isv_mono _) (And.intro (isv_mono _) (And.intro (isv_mono _) (And.intro (isv_mono _) (And.intro (isv_mono _) (And.intro (isv_mono _) (And.intro (isv_mono _) (And.intro (isv_mono _) (And.intro (isv_mono _) (And.intro (isv_mono _) (And.intro (isv_mono _) (And.intro (isv_mono _) (And.intro (isv_mono _) trivial)))))))))))))))))))))) ?steps (by rfl) ?fin
    case steps =>
     refine (And.intro ?o0 (And.intro ?o1 (And.intro ?o2 (And.intro ?o3 (And.intro ?o4 (And.intro ?o5 (And.intro ?o6 (And.intro ?o7 (And.intro ?o8 (And.intro ?o9 (And.intro ?o10 (And.intro ?o11 (And.intro ?o12 (And.intro ?o13 (And.intro ?o14 (And.intro ?o15 (And.intro ?o16 (And.intro ?o17 (And.intro ?o18 (And.intro ?o19 (And.intro ?o20 (And.intro ?o21 trivial))))))))))))))))))))))
     case o0 =>
      intro AA W KK QQ hB hs hd hl hk
      have sl8 := hs 8 _ (by kernel_rfl) rfl
      clear hs hd hl
      go_simp
      exact hk _ _ rfl (Below.refl _ _)
     case o1 =>
      intro AA W KK QQ hB hs hd hl hk
      obtain ⟨_, sl34, rfl⟩ := hd 0 34 (by kernel_rfl) rfl
      clear hs hd hl
      go_simp
      exact hk _ _ rfl (Below.refl _ _)
     case o2 =>
      intro AA W KK QQ hB hs hd hl hk
      obtain ⟨_, sl35, rfl⟩ := hd 1 35 (by kernel_rfl) rfl
      clear hs hd hl
      go_simp
      exact hk _ _ rfl (Below.refl _ _)
     case o3 =>
      intro AA W KK QQ hB hs hd hl hk
      have sl10 := hs 10 _ (by kernel_rfl) rfl
      obtain ⟨_, sl36, rfl⟩ := hd 2 36 (by kernel_rfl) rfl
      clear hs hd hl
      refine ⟨_, _, rfl, sl36, ?_⟩
      first
       | (change Oper.wp _ _ _ _ _ _; go_simp; exact hk _ _ rfl (Below.refl _ _))
       | exact rfl
     case o4 =>
      intro AA W KK QQ hB hs hd hl hk
      obtain ⟨_, sl36, rfl⟩ := hd 2 36 (by kernel_rfl) rfl
      obtain ⟨_, sl37, rfl⟩ := hd 3 37 (by kernel_rfl) rfl
      clear hs hd hl
      refine ⟨_, _, rfl, sl36, ?_⟩
      first
       | (change Oper.wp _ _ _ _ _ _; go_simp; exact hk _ _ rfl (Below.refl _ _))
       | exact rfl
     case o5 =>
      intro AA W KK QQ hB hs hd hl hk
      obtain ⟨_, sl36, rfl⟩ := hd 2 36 (by kernel_rfl) rfl
      obtain ⟨_, sl38, rfl⟩ := hd 4 38 (by kernel_rfl) rfl
      clear hs hd hl
      go_simp
      exact hk _ _ rfl (Below.refl _ _)
     case o6 =>
      intro AA W KK QQ hB hs hd hl hk
      obtain ⟨_, sl39, rfl⟩ := hd 5 39 (by kernel_rfl) rfl
      clear hs hd hl
      go_simp
      exact hk _ _ rfl (Below.refl _ _)
     case o7 =>
      intro AA W KK QQ hB hs hd hl hk
      have sl11 := hs 11 _ (by kernel_rfl) rfl
      obtain ⟨_, sl40, rfl⟩ := hd 6 40 (by kernel_rfl) rfl
      clear hs hd hl
      refine ⟨_, _, rfl, sl40, ?_⟩
      first
       | (change Oper.wp _ _ _ _ _ _; go_simp; exact hk _ _ rfl (Below.refl _ _))
       | exact rfl
     case o8 =>
      intro AA W KK QQ hB hs hd hl hk
      obtain ⟨_, sl40, rfl⟩ := hd 6 40 (by kernel_rfl) rfl
      obtain ⟨_, sl41, rfl⟩ := hd 7 41 (by kernel_rfl) rfl
      clear hs hd hl
      refine ⟨_, _, rfl, sl40, ?_⟩
      first
       | (change Oper.wp _ _ _ _ _ _; go_simp; exact hk _ _ rfl (Below.refl _ _))
       | exact rfl
     case o9 =>
      intro AA W KK QQ hB hs hd hl hk
      obtain ⟨_, sl40, rfl⟩ := hd 6 40 (by kernel_rfl) rfl
      obtain ⟨_, sl42, rfl⟩ := hd 8 42 (by kernel_rfl) rfl
      clear hs hd hl
      refine ⟨_, _, rfl, sl40, ?_⟩
      first
       | (change Oper.wp _ _ _ _ _ _; go_simp; exact hk _ _ rfl (Below.refl _ _))
       | exact rfl
     case o10 =>
      intro AA W KK QQ hB hs hd hl hk
      have sl4 := hs 4 _ (by kernel_rfl) rfl
      obtain ⟨_, sl43, rfl⟩ := hd 9 43 (by kernel_rfl) rfl
      clear hs hd hl
      refine ⟨_, _, rfl, sl43, ?_⟩
      first
       | (change Oper.wp _ _ _ _ _ _; go_simp; exact hk _ _ rfl (Below.refl _ _))
       | exact rfl
     case o11 =>
      intro AA W KK QQ hB hs hd hl hk
      have sl11 := hs 11 _ (by kernel_rfl) rfl
      obtain ⟨_, sl43, rfl⟩ := hd 9 43 (by kernel_rfl) rfl
      clear hs hd hl
      refine ⟨_, _, rfl, sl43, ?_⟩
      first
       | (change Oper.wp _ _ _ _ _ _; go_simp; exact hk _ _ rfl (Below.refl _ _))
       | exact rfl
     case o12 =>
      intro AA W KK QQ hB hs hd hl hk
      obtain ⟨_, sl43, rfl⟩ := hd 9 43 (by kernel_rfl) rfl
      obtain ⟨_, sl45, rfl⟩ := hd 11 45 (by kernel_rfl) rfl
      clear hs hd hl
      refine ⟨_, _, rfl, sl43, ?_⟩
      first
       | (change Oper.wp _ _ _ _ _ _; go_simp; exact hk _ _ rfl (Below.refl _ _))
       | exact rfl
     case o13 =>
      intro AA W KK QQ hB hs hd hl hk
      obtain ⟨_, sl43, rfl⟩ := hd 9 43 (by kernel_rfl) rfl
      obtain ⟨_, sl44, rfl⟩ := hd 10 44 (by kernel_rfl) rfl
      obtain ⟨_, sl46, rfl⟩ := hd 12 46 (by kernel_rfl) rfl
      clear hs hd hl
      refine ⟨_, _, rfl, sl43, ?_⟩
      first
       | (change Oper.wp _ _ _ _ _ _; go_simp; exact hk _ _ rfl (Below.refl _ _))
       | exact rfl
     case o14 =>
      intro AA W KK QQ hB hs hd hl hk
      obtain ⟨_, sl43, rfl⟩ := hd 9 43 (by kernel_rfl) rfl
      obtain ⟨_, sl47, rfl⟩ := hd 13 47 (by kernel_rfl) rfl
      clear hs hd hl
      refine ⟨_, _, rfl, sl43, ?_⟩
      first
       | (change Oper.wp _ _ _ _ _ _; go_simp; exact hk _ _ rfl (Below.refl _ _))
       | exact rfl
     case o15 =>
      intro AA W KK QQ hB hs hd hl hk
      obtain ⟨_, sl43, rfl⟩ := hd 9 43 (by kernel_rfl) rfl
      obtain ⟨_, sl48, rfl⟩ := hd 14 48 (by kernel_rfl) rfl
      clear hs hd hl
      refine ⟨_, _, rfl, sl43, ?_⟩
      first
       | (change Oper.wp _ _ _ _ _ _; go_simp; exact hk _ _ rfl (Below.refl _ _))
       | exact rfl
     case o16 =>
      intro AA W KK QQ hB hs hd hl hk
      have sl9 := hs 9 _ (by kernel_rfl) rfl
      obtain ⟨_, sl43, rfl⟩ := hd 9 43 (by kernel_rfl) rfl
      clear hs hd hl
      refine ⟨_, _, rfl, sl43, ?_⟩
      first
       | (change Oper.wp _ _ _ _ _ _; go_simp; exact hk _ _ rfl (Below.refl _ _))
       | exact rfl
     case o17 =>
      intro AA W KK QQ hB hs hd hl hk
      obtain ⟨_, sl43, rfl⟩ := hd 9 43 (by kernel_rfl) rfl
      obtain ⟨_, sl50, rfl⟩ := hd 16 50 (by kernel_rfl) rfl
      clear hs hd hl
      refine ⟨_, _, rfl, sl43, ?_⟩
      first
       | (change Oper.wp _ _ _ _ _ _; go_simp; exact hk _ _ rfl (Below.refl _ _))
       | exact rfl
     case o18 =>
      intro AA W KK QQ hB hs hd hl hk
      obtain ⟨_, sl43, rfl⟩ := hd 9 43 (by kernel_rfl) rfl
      obtain ⟨_, sl49, rfl⟩ := hd 15 49 (by kernel_rfl) rfl
      obtain ⟨_, sl51, rfl⟩ := hd 17 51 (by kernel_rfl) rfl
      clear hs hd hl
      refine ⟨_, _, rfl, sl43, ?_⟩
      exact rfl
     case o19 =>
      intro AA W KK QQ hB hs hd hl hk
      obtain ⟨_, sl43, rfl⟩ := hd 9 43 (by kernel_rfl) rfl
      obtain ⟨_, sl52, rfl⟩ := hd 18 52 (by kernel_rfl) rfl
      clear hs hd hl
      refine ⟨_, _, rfl, sl43, ?_⟩
      first
       | (change Oper.wp _ _ _ _ _ _; go_simp; exact hk _ _ rfl (Below.refl _ _))
       | exact rfl
     case o20 =>
      intro AA W KK QQ hB hs hd hl hk
      obtain ⟨_, sl40, rfl⟩ := hd 6 40 (by kernel_rfl) rfl
      obtain ⟨_, sl43, rfl⟩ := hd 9 43 (by kernel_rfl) rfl
      obtain ⟨_, sl53, rfl⟩ := hd 19 53 (by kernel_rfl) rfl
      clear hs hd hl
      refine ⟨_, _, rfl, sl40, ?_⟩
      first
       | (change Oper.wp _ _ _ _ _ _; go_simp; exact hk _ _ rfl (Below.refl _ _))
       | exact rfl
     case o21 =>
      intro AA W KK QQ hB hs hd hl hk
      obtain ⟨_, sl40, rfl⟩ := hd 6 40 (by kernel_rfl) rfl
      obtain ⟨_, sl54, rfl⟩ := hd 20 54 (by kernel_rfl) rfl
      clear hs hd hl
      go_simp
      exact hk _ _ rfl (Below.refl _ _)
    case fin =>
     intro wf hB
     refine fin_isv 34 rfl ?_
     refine fin_isv 35 rfl ?_
     refine fin_isv 36 rfl ?_
     refine fin_isv 37 rfl ?_
     refine fin_isv 38 rfl ?_
     refine fin_isv 39 rfl ?_
     refine fin_isv 40 rfl ?_
     refine fin_isv 41 rfl ?_
     refine fin_isv 42 rfl ?_
     refine fin_isv 43 rfl ?_
     refine fin_isv 44 rfl ?_
     refine fin_isv 45 rfl ?_
     refine fin_isv 46 rfl ?_
     refine fin_isv 47 rfl ?_
     refine fin_isv 48 rfl ?_
     refine fin_isv 49 rfl ?_
     refine fin_isv 50 rfl ?_
     refine fin_isv 51 rfl ?_
     refine fin_isv 52 rfl ?_
     refine fin_isv 53 rfl ?_
     refine fin_isv 54 rfl ?_
     refine fin_isv 55 rfl ?_
     refine frame64_da4d328389 _ _ _ _ _ _ _ _ _ _ _ _ _ _ _ _ _ _ _ _ _ _ _ _ _ _ _ _ _ _ _ _ _ _ _ _ _ _ _ _ _ _ _ _ _ _ _ _ _ _ _ _ _ _ _ _ _ _ _ _ _ _ _ _ _ _ _ _ _ _ _ _ _ _ _ _ _ _ _ _ _ _ _ _ _ _ ?_
     obtain ⟨k0, k1⟩ := fltC (HQ5.out.keep hB)
     obtain ⟨f0, f1⟩ := fltF (HQ5.out.keep hB)
     have HBf := Lib.hid (HB5.out.trans (hB.mono HB5.out.size))
     clear hB
     have HBF := Lib.hid ((HBf.out.setCell (p := ⟨w.heap.size, 0, none⟩) (Nat.le_refl _) (.int .i64 8)).setCell (p := ⟨w.heap.size, 1, none⟩) (Nat.le_refl _) (.int .i64 (kn : Nat)))
     go_wp2
     first | rw [Exit.noGoto_ret] | skip
     refine bodyPost_ret (v := .tuple #[.slice none 0 0, .agg #[.int .i64 8, .int .i64 (kn : Nat)]]) (by simp [results, Tryz.results19, go_sem, k0, k1]) rfl ?_
     exact ⟨none, 0, by rw [HRes.out]; rfl, by rw [HRes.out]; exact Sl.nil_, HBF.out⟩
   cases hre : re with
   | none =>
     have HRes := Lib.hid (show r = ([], 8, kn) from by rw [HRr.out, HLU.out, hre, HKN.out] <;> rfl)
     subst hre
     clear HLU HX
     go_upto_region 11 with fail
     generalize hw5 : w4.alloc (.cells #[.string ⟨x.1.1.toArray⟩, .int .i64 x.1.2.1, .int .i64 x.1.2.2.1, .int .i64 x.1.2.2.2, .string ⟨x.2.toArray⟩] 49) = w5 at HQ5 HB5 HO5 V5 HX5 HA5 hv4 hz5 ⊢
     apply wp_region_facts (by kernel_rfl) [isv _, isv _, isv _, isv _, isv _, isv _, isv _, isv _, isv _, isv _, isv _, isv _, isv _, isv _, isv _, isv _, isv _, isv _, isv _, isv _, isv _, isv _] w5.heap.size w5 (Nat.le_refl _) (Below.refl _ _).drew (by kernel_rfl) (by kernel_rfl) (by kernel_rfl) (And.intro (isv_mono _) (And.intro (isv_mono _) (And.intro (isv_mono _) (And.intro (isv_mono _) (And.intro (isv_mono _) (And.intro (isv_mono _) (And.intro (isv_mono _) (And.intro (isv_mono _) (And.intro (isv_mono _) (And.intro (isv_mono _) (And.intro (isv_mono _) (And.intro (isv_mono _) (And.intro (isv_mono _) (And.intro (isv_mono _) (And.intro (isv_mono _) (And.intro (isv_mono _) (And.intro (isv_mono _) (And.intro (isv_mono _) (And.intro (isv_mono _) (And.intro (isv_mono _) (And.intro (isv_mono _) (And.intro (isv_mono _) trivial)))))))))))))))))))))) ?steps (by rfl) ?fin
     case steps =>
      refine (And.intro ?o0 (And.intro ?o1 (And.intro ?o2 (And.intro ?o3 (And.intro ?o4 (And.intro ?o5 (And.intro ?o6 (And.intro ?o7 (And.intro ?o8 (And.intro ?o9 (And.intro ?o10 (And.intro ?o11 (And.intro ?o12 (And.intro ?o13 (And.intro ?o14 (And.intro ?o15 (And.intro ?o16 (And.intro ?o17 (And.intro ?o18 (And.intro ?o19 (And.intro ?o20 (And.intro ?o21 trivial))))))))))))))))))))))
      case o0 =>
       intro AA W KK QQ hB hs hd hl hk
       have sl8 := hs 8 _ (by kernel_rfl) rfl
       clear hs hd hl
       go_simp
       exact hk _ _ rfl (Below.refl _ _)
      case o1 =>
       intro AA W KK QQ hB hs hd hl hk
       obtain ⟨_, sl34, rfl⟩ := hd 0 34 (by kernel_rfl) rfl
       clear hs hd hl
       go_simp
       exact hk _ _ rfl (Below.refl _ _)
      case o2 =>
       intro AA W KK QQ hB hs hd hl hk
       obtain ⟨_, sl35, rfl⟩ := hd 1 35 (by kernel_rfl) rfl
       clear hs hd hl
       go_simp
       exact hk _ _ rfl (Below.refl _ _)
      case o3 =>
       intro AA W KK QQ hB hs hd hl hk
       have sl10 := hs 10 _ (by kernel_rfl) rfl
       obtain ⟨_, sl36, rfl⟩ := hd 2 36 (by kernel_rfl) rfl
       clear hs hd hl
       refine ⟨_, _, rfl, sl36, ?_⟩
       first
        | (change Oper.wp _ _ _ _ _ _; go_simp; exact hk _ _ rfl (Below.refl _ _))
        | exact rfl
      case o4 =>
       intro AA W KK QQ hB hs hd hl hk
       obtain ⟨_, sl36, rfl⟩ := hd 2 36 (by kernel_rfl) rfl
       obtain ⟨_, sl37, rfl⟩ := hd 3 37 (by kernel_rfl) rfl
       clear hs hd hl
       refine ⟨_, _, rfl, sl36, ?_⟩
       first
        | (change Oper.wp _ _ _ _ _ _; go_simp; exact hk _ _ rfl (Below.refl _ _))
        | exact rfl
      case o5 =>
       intro AA W KK QQ hB hs hd hl hk
       obtain ⟨_, sl36, rfl⟩ := hd 2 36 (by kernel_rfl) rfl
       obtain ⟨_, sl38, rfl⟩ := hd 4 38 (by kernel_rfl) rfl
       clear hs hd hl
       go_simp
       exact hk _ _ rfl (Below.refl _ _)
      case o6 =>
       intro AA W KK QQ hB hs hd hl hk
       obtain ⟨_, sl39, rfl⟩ := hd 5 39 (by kernel_rfl) rfl
       clear hs hd hl
       go_simp
       exact hk _ _ rfl (Below.refl _ _)
      case o7 =>
       intro AA W KK QQ hB hs hd hl hk
       have sl11 := hs 11 _ (by kernel_rfl) rfl
       obtain ⟨_, sl40, rfl⟩ := hd 6 40 (by kernel_rfl) rfl
       clear hs hd hl
       refine ⟨_, _, rfl, sl40, ?_⟩
       first
        | (change Oper.wp _ _ _ _ _ _; go_simp; exact hk _ _ rfl (Below.refl _ _))
        | exact rfl
      case o8 =>
       intro AA W KK QQ hB hs hd hl hk
       obtain ⟨_, sl40, rfl⟩ := hd 6 40 (by kernel_rfl) rfl
       obtain ⟨_, sl41, rfl⟩ := hd 7 41 (by kernel_rfl) rfl
       clear hs hd hl
       refine ⟨_, _, rfl, sl40, ?_⟩
       first
        | (change Oper.wp _ _ _ _ _ _; go_simp; exact hk _ _ rfl (Below.refl _ _))
        | exact rfl
      case o9 =>
       intro AA W KK QQ hB hs hd hl hk
       obtain ⟨_, sl40, rfl⟩ := hd 6 40 (by kernel_rfl) rfl
       obtain ⟨_, sl42, rfl⟩ := hd 8 42 (by kernel_rfl) rfl
       clear hs hd hl
       refine ⟨_, _, rfl, sl40, ?_⟩
       first
        | (change Oper.wp _ _ _ _ _ _; go_simp; exact hk _ _ rfl (Below.refl _ _))
        | exact rfl
      case o10 =>
       intro AA W KK QQ hB hs hd hl hk
       have sl4 := hs 4 _ (by kernel_rfl) rfl
       obtain ⟨_, sl43, rfl⟩ := hd 9 43 (by kernel_rfl) rfl
       clear hs hd hl
       refine ⟨_, _, rfl, sl43, ?_⟩
       first
        | (change Oper.wp _ _ _ _ _ _; go_simp; exact hk _ _ rfl (Below.refl _ _))
        | exact rfl
      case o11 =>
       intro AA W KK QQ hB hs hd hl hk
       have sl11 := hs 11 _ (by kernel_rfl) rfl
       obtain ⟨_, sl43, rfl⟩ := hd 9 43 (by kernel_rfl) rfl
       clear hs hd hl
       refine ⟨_, _, rfl, sl43, ?_⟩
       first
        | (change Oper.wp _ _ _ _ _ _; go_simp; exact hk _ _ rfl (Below.refl _ _))
        | exact rfl
      case o12 =>
       intro AA W KK QQ hB hs hd hl hk
       obtain ⟨_, sl43, rfl⟩ := hd 9 43 (by kernel_rfl) rfl
       obtain ⟨_, sl45, rfl⟩ := hd 11 45 (by kernel_rfl) rfl
       clear hs hd hl
       refine ⟨_, _, rfl, sl43, ?_⟩
       first
        | (change Oper.wp _ _ _ _ _ _; go_simp; exact hk _ _ rfl (Below.refl _ _))
        | exact rfl
      case o13 =>
       intro AA W KK QQ hB hs hd hl hk
       obtain ⟨_, sl43, rfl⟩ := hd 9 43 (by kernel_rfl) rfl
       obtain ⟨_, sl44, rfl⟩ := hd 10 44 (by kernel_rfl) rfl
       obtain ⟨_, sl46, rfl⟩ := hd 12 46 (by kernel_rfl) rfl
       clear hs hd hl
       refine ⟨_, _, rfl, sl43, ?_⟩
       first
        | (change Oper.wp _ _ _ _ _ _; go_simp; exact hk _ _ rfl (Below.refl _ _))
        | exact rfl
      case o14 =>
       intro AA W KK QQ hB hs hd hl hk
       obtain ⟨_, sl43, rfl⟩ := hd 9 43 (by kernel_rfl) rfl
       obtain ⟨_, sl47, rfl⟩ := hd 13 47 (by kernel_rfl) rfl
       clear hs hd hl
       refine ⟨_, _, rfl, sl43, ?_⟩
       first
        | (change Oper.wp _ _ _ _ _ _; go_simp; exact hk _ _ rfl (Below.refl _ _))
        | exact rfl
      case o15 =>
       intro AA W KK QQ hB hs hd hl hk
       obtain ⟨_, sl43, rfl⟩ := hd 9 43 (by kernel_rfl) rfl
       obtain ⟨_, sl48, rfl⟩ := hd 14 48 (by kernel_rfl) rfl
       clear hs hd hl
       refine ⟨_, _, rfl, sl43, ?_⟩
       first
        | (change Oper.wp _ _ _ _ _ _; go_simp; exact hk _ _ rfl (Below.refl _ _))
        | exact rfl
      case o16 =>
       intro AA W KK QQ hB hs hd hl hk
       have sl9 := hs 9 _ (by kernel_rfl) rfl
       obtain ⟨_, sl43, rfl⟩ := hd 9 43 (by kernel_rfl) rfl
       clear hs hd hl
       refine ⟨_, _, rfl, sl43, ?_⟩
       first
        | (change Oper.wp _ _ _ _ _ _; go_simp; exact hk _ _ rfl (Below.refl _ _))
        | exact rfl
      case o17 =>
       intro AA W KK QQ hB hs hd hl hk
       obtain ⟨_, sl43, rfl⟩ := hd 9 43 (by kernel_rfl) rfl
       obtain ⟨_, sl50, rfl⟩ := hd 16 50 (by kernel_rfl) rfl
       clear hs hd hl
       refine ⟨_, _, rfl, sl43, ?_⟩
       first
        | (change Oper.wp _ _ _ _ _ _; go_simp; exact hk _ _ rfl (Below.refl _ _))
        | exact rfl
      case o18 =>
       intro AA W KK QQ hB hs hd hl hk
       obtain ⟨_, sl43, rfl⟩ := hd 9 43 (by kernel_rfl) rfl
       obtain ⟨_, sl49, rfl⟩ := hd 15 49 (by kernel_rfl) rfl
       obtain ⟨_, sl51, rfl⟩ := hd 17 51 (by kernel_rfl) rfl
       clear hs hd hl
       refine ⟨_, _, rfl, sl43, ?_⟩
       exact rfl
      case o19 =>
       intro AA W KK QQ hB hs hd hl hk
       obtain ⟨_, sl43, rfl⟩ := hd 9 43 (by kernel_rfl) rfl
       obtain ⟨_, sl52, rfl⟩ := hd 18 52 (by kernel_rfl) rfl
       clear hs hd hl
       refine ⟨_, _, rfl, sl43, ?_⟩
       first
        | (change Oper.wp _ _ _ _ _ _; go_simp; exact hk _ _ rfl (Below.refl _ _))
        | exact rfl
      case o20 =>
       intro AA W KK QQ hB hs hd hl hk
       obtain ⟨_, sl40, rfl⟩ := hd 6 40 (by kernel_rfl) rfl
       obtain ⟨_, sl43, rfl⟩ := hd 9 43 (by kernel_rfl) rfl
       obtain ⟨_, sl53, rfl⟩ := hd 19 53 (by kernel_rfl) rfl
       clear hs hd hl
       refine ⟨_, _, rfl, sl40, ?_⟩
       first
        | (change Oper.wp _ _ _ _ _ _; go_simp; exact hk _ _ rfl (Below.refl _ _))
        | exact rfl
      case o21 =>
       intro AA W KK QQ hB hs hd hl hk
       obtain ⟨_, sl40, rfl⟩ := hd 6 40 (by kernel_rfl) rfl
       obtain ⟨_, sl54, rfl⟩ := hd 20 54 (by kernel_rfl) rfl
       clear hs hd hl
       go_simp
       exact hk _ _ rfl (Below.refl _ _)
     case fin =>
      intro wf hB
      refine fin_isv 34 rfl ?_
      refine fin_isv 35 rfl ?_
      refine fin_isv 36 rfl ?_
      refine fin_isv 37 rfl ?_
      refine fin_isv 38 rfl ?_
      refine fin_isv 39 rfl ?_
      refine fin_isv 40 rfl ?_
      refine fin_isv 41 rfl ?_
      refine fin_isv 42 rfl ?_
      refine fin_isv 43 rfl ?_
      refine fin_isv 44 rfl ?_
      refine fin_isv 45 rfl ?_
      refine fin_isv 46 rfl ?_
      refine fin_isv 47 rfl ?_
      refine fin_isv 48 rfl ?_
      refine fin_isv 49 rfl ?_
      refine fin_isv 50 rfl ?_
      refine fin_isv 51 rfl ?_
      refine fin_isv 52 rfl ?_
      refine fin_isv 53 rfl ?_
      refine fin_isv 54 rfl ?_
      refine fin_isv 55 rfl ?_
      refine frame64_da4d328389 _ _ _ _ _ _ _ _ _ _ _ _ _ _ _ _ _ _ _ _ _ _ _ _ _ _ _ _ _ _ _ _ _ _ _ _ _ _ _ _ _ _ _ _ _ _ _ _ _ _ _ _ _ _ _ _ _ _ _ _ _ _ _ _ _ _ _ _ _ _ _ _ _ _ _ _ _ _ _ _ _ _ _ _ _ _ ?_
      obtain ⟨k0, k1⟩ := fltC (HQ5.out.keep hB)
      obtain ⟨f0, f1⟩ := fltF (HQ5.out.keep hB)
      have HBf := Lib.hid (HB5.out.trans (hB.mono HB5.out.size))
      clear hB
      have HBF := Lib.hid ((HBf.out.setCell (p := ⟨w.heap.size, 0, none⟩) (Nat.le_refl _) (.int .i64 8)).setCell (p := ⟨w.heap.size, 1, none⟩) (Nat.le_refl _) (.int .i64 (kn : Nat)))
      go_wp2
      first | rw [Exit.noGoto_ret] | skip
      refine bodyPost_ret (v := .tuple #[.slice none 0 0, .agg #[.int .i64 8, .int .i64 (kn : Nat)]]) (by simp [results, Tryz.results19, go_sem, k0, k1]) rfl ?_
      exact ⟨none, 0, by rw [HRes.out]; rfl, by rw [HRes.out]; exact Sl.nil_, HBF.out⟩
   | some y =>
     obtain rfl : x = y := HX.out y hre
     have HRs := Lib.hid (show r = if fitsE out x = true then unlL (out ++ [x]) (splitL 10 rest) else ([], 8, kn) from by rw [HRr.out, HLU.out, hre, HKN.out] <;> rfl)
     have HFit := Lib.hid (show fitsE out x = decide (mcmp z.1 x.1 < 0) from fits_last hlast.out)
     subst hre
     have cC := Lib.hid (fun W (_ : Below (w4.alloc (.cells #[.string ⟨x.1.1.toArray⟩, .int .i64 x.1.2.1, .int .i64 x.1.2.2.1, .int .i64 x.1.2.2.2, .string ⟨x.2.toArray⟩] 49)).heap.size (w4.alloc (.cells #[.string ⟨x.1.1.toArray⟩, .int .i64 x.1.2.1, .int .i64 x.1.2.2.1, .int .i64 x.1.2.2.2, .string ⟨x.2.toArray⟩] 49)) W) => (mCompare_any z.1.1 x.1.1 z.1.2.1 z.1.2.2.1 z.1.2.2.2 x.1.2.1 x.1.2.2.1 x.1.2.2.2 W).mono fun e w' h => (show e = .returned (.int .i64 (mcmp z.1 x.1)) ∧ Below W.heap.size W w' from ⟨h.1, h.2.toBelow⟩))
     have hS5 := Acc.slAny (.inl HO5.out) encE_len5 (by decide)
     obtain ⟨bl, ol, hA1, hbl, u0, u1, u2, u3, _⟩ := hS5.ent (i := kk) hkl
     rw [hzk.out] at u0 u1 u2 u3
     have HA1 := Lib.hid hA1
     subst hA1
     obtain ⟨t0, t1, t2, t3, t4⟩ := entC V5.out
     generalize mcmp z.1 x.1 = cm at cC HFit
     clear HLU HX HRr hS5
     by_cases hcm : cm < 0
     ·have HRn := Lib.hid (show r = unlL (out ++ [x]) (splitL 10 rest) from by rw [HRs.out, HFit.out, decide_eq_true hcm] <;> rfl)
      have hcn : ¬ (0 ≤ cm) := by omega
      have hcg : decide (cm ≥ 0) = false := decide_eq_false (by omega)
      clear HRs HFit
      go_upto_region 11 with fail
      generalize hw5 : w4.alloc (.cells #[.string ⟨x.1.1.toArray⟩, .int .i64 x.1.2.1, .int .i64 x.1.2.2.1, .int .i64 x.1.2.2.2, .string ⟨x.2.toArray⟩] 49) = w5 at HQ5 HB5 HO5 V5 HX5 HA5 hv4 hz5 cC hbl u0 u1 u2 u3 t0 t1 t2 t3 t4 ⊢
      apply wp_region_facts (by kernel_rfl) [isv _, isv _, isv _, isv _, isv _, isv _, isv _, isv _, isv _, isv _, isv _, isv _, isv _, isv _, isv _, isv _, isv _, isv _, isv _, isv _, isv _, isv _] w5.heap.size w5 (Nat.le_refl _) (Below.refl _ _).drew (by kernel_rfl) (by kernel_rfl) (by kernel_rfl) (And.intro (isv_mono _) (And.intro (isv_mono _) (And.intro (isv_mono _) (And.intro (isv_mono _) (And.intro (isv_mono _) (And.intro (isv_mono _) (And.intro (isv_mono _) (And.intro (isv_mono _) (And.intro (isv_mono _) (And.intro (isv_mono _) (And.intro (isv_mono _) (And.intro (isv_mono _) (And.intro (isv_mono _) (And.intro (isv_mono _) (And.intro (isv_mono _) (And.intro (isv_mono _) (And.intro (isv_mono _) (And.intro (isv_mono _) (And.intro (isv_mono _) (And.intro (isv_mono _) (And.intro (isv_mono _) (And.intro (isv_mono _) trivial)))))))))))))))))))))) ?steps (by rfl) ?fin
      case steps =>
       refine (And.intro ?o0 (And.intro ?o1 (And.intro ?o2 (And.intro ?o3 (And.intro ?o4 (And.intro ?o5 (And.intro ?o6 (And.intro ?o7 (And.intro ?o8 (And.intro ?o9 (And.intro ?o10 (And.intro ?o11 (And.intro ?o12 (And.intro ?o13 (And.intro ?o14 (And.intro ?o15 (And.intro ?o16 (And.intro ?o17 (And.intro ?o18 (And.intro ?o19 (And.intro ?o20 (And.intro ?o21 trivial))))))))))))))))))))))
       case o0 =>
        intro AA W KK QQ hB hs hd hl hk
        have sl8 := hs 8 _ (by kernel_rfl) rfl
        clear hs hd hl
        go_simp
        exact hk _ _ rfl (Below.refl _ _)
       case o1 =>
        intro AA W KK QQ hB hs hd hl hk
        obtain ⟨_, sl34, rfl⟩ := hd 0 34 (by kernel_rfl) rfl
        clear hs hd hl
        go_simp
        exact hk _ _ rfl (Below.refl _ _)
       case o2 =>
        intro AA W KK QQ hB hs hd hl hk
        obtain ⟨_, sl35, rfl⟩ := hd 1 35 (by kernel_rfl) rfl
        clear hs hd hl
        go_simp
        exact hk _ _ rfl (Below.refl _ _)
       case o3 =>
        intro AA W KK QQ hB hs hd hl hk
        have sl10 := hs 10 _ (by kernel_rfl) rfl
        obtain ⟨_, sl36, rfl⟩ := hd 2 36 (by kernel_rfl) rfl
        clear hs hd hl
        refine ⟨_, _, rfl, sl36, ?_⟩
        first
         | (change Oper.wp _ _ _ _ _ _; go_simp; exact hk _ _ rfl (Below.refl _ _))
         | exact rfl
       case o4 =>
        intro AA W KK QQ hB hs hd hl hk
        obtain ⟨_, sl36, rfl⟩ := hd 2 36 (by kernel_rfl) rfl
        obtain ⟨_, sl37, rfl⟩ := hd 3 37 (by kernel_rfl) rfl
        clear hs hd hl
        refine ⟨_, _, rfl, sl36, ?_⟩
        first
         | (change Oper.wp _ _ _ _ _ _; go_simp; exact hk _ _ rfl (Below.refl _ _))
         | exact rfl
       case o5 =>
        intro AA W KK QQ hB hs hd hl hk
        obtain ⟨_, sl36, rfl⟩ := hd 2 36 (by kernel_rfl) rfl
        obtain ⟨_, sl38, rfl⟩ := hd 4 38 (by kernel_rfl) rfl
        clear hs hd hl
        go_simp
        exact hk _ _ rfl (Below.refl _ _)
       case o6 =>
        intro AA W KK QQ hB hs hd hl hk
        obtain ⟨_, sl39, rfl⟩ := hd 5 39 (by kernel_rfl) rfl
        clear hs hd hl
        go_simp
        exact hk _ _ rfl (Below.refl _ _)
       case o7 =>
        intro AA W KK QQ hB hs hd hl hk
        have sl11 := hs 11 _ (by kernel_rfl) rfl
        obtain ⟨_, sl40, rfl⟩ := hd 6 40 (by kernel_rfl) rfl
        clear hs hd hl
        refine ⟨_, _, rfl, sl40, ?_⟩
        first
         | (change Oper.wp _ _ _ _ _ _; go_simp; exact hk _ _ rfl (Below.refl _ _))
         | exact rfl
       case o8 =>
        intro AA W KK QQ hB hs hd hl hk
        obtain ⟨_, sl40, rfl⟩ := hd 6 40 (by kernel_rfl) rfl
        obtain ⟨_, sl41, rfl⟩ := hd 7 41 (by kernel_rfl) rfl
        clear hs hd hl
        refine ⟨_, _, rfl, sl40, ?_⟩
        first
         | (change Oper.wp _ _ _ _ _ _; go_simp; exact hk _ _ rfl (Below.refl _ _))
         | exact rfl
       case o9 =>
        intro AA W KK QQ hB hs hd hl hk
        obtain ⟨_, sl40, rfl⟩ := hd 6 40 (by kernel_rfl) rfl
        obtain ⟨_, sl42, rfl⟩ := hd 8 42 (by kernel_rfl) rfl
        clear hs hd hl
        refine ⟨_, _, rfl, sl40, ?_⟩
        first
         | (change Oper.wp _ _ _ _ _ _; go_simp; exact hk _ _ rfl (Below.refl _ _))
         | exact rfl
       case o10 =>
        intro AA W KK QQ hB hs hd hl hk
        have sl4 := hs 4 _ (by kernel_rfl) rfl
        obtain ⟨_, sl43, rfl⟩ := hd 9 43 (by kernel_rfl) rfl
        clear hs hd hl
        refine ⟨_, _, rfl, sl43, ?_⟩
        first
         | (change Oper.wp _ _ _ _ _ _; go_simp; exact hk _ _ rfl (Below.refl _ _))
         | exact rfl
       case o11 =>
        intro AA W KK QQ hB hs hd hl hk
        have sl11 := hs 11 _ (by kernel_rfl) rfl
        obtain ⟨_, sl43, rfl⟩ := hd 9 43 (by kernel_rfl) rfl
        clear hs hd hl
        refine ⟨_, _, rfl, sl43, ?_⟩
        first
         | (change Oper.wp _ _ _ _ _ _; go_simp; exact hk _ _ rfl (Below.refl _ _))
         | exact rfl
       case o12 =>
        intro AA W KK QQ hB hs hd hl hk
        obtain ⟨_, sl43, rfl⟩ := hd 9 43 (by kernel_rfl) rfl
        obtain ⟨_, sl45, rfl⟩ := hd 11 45 (by kernel_rfl) rfl
        clear hs hd hl
        refine ⟨_, _, rfl, sl43, ?_⟩
        first
         | (change Oper.wp _ _ _ _ _ _; go_simp; exact hk _ _ rfl (Below.refl _ _))
         | exact rfl
       case o13 =>
        intro AA W KK QQ hB hs hd hl hk
        obtain ⟨_, sl43, rfl⟩ := hd 9 43 (by kernel_rfl) rfl
        obtain ⟨_, sl44, rfl⟩ := hd 10 44 (by kernel_rfl) rfl
        obtain ⟨_, sl46, rfl⟩ := hd 12 46 (by kernel_rfl) rfl
        clear hs hd hl
        refine ⟨_, _, rfl, sl43, ?_⟩
        first
         | (change Oper.wp _ _ _ _ _ _; go_simp; exact hk _ _ rfl (Below.refl _ _))
         | exact rfl
       case o14 =>
        intro AA W KK QQ hB hs hd hl hk
        obtain ⟨_, sl43, rfl⟩ := hd 9 43 (by kernel_rfl) rfl
        obtain ⟨_, sl47, rfl⟩ := hd 13 47 (by kernel_rfl) rfl
        clear hs hd hl
        refine ⟨_, _, rfl, sl43, ?_⟩
        first
         | (change Oper.wp _ _ _ _ _ _; go_simp; exact hk _ _ rfl (Below.refl _ _))
         | exact rfl
       case o15 =>
        intro AA W KK QQ hB hs hd hl hk
        obtain ⟨_, sl43, rfl⟩ := hd 9 43 (by kernel_rfl) rfl
        obtain ⟨_, sl48, rfl⟩ := hd 14 48 (by kernel_rfl) rfl
        clear hs hd hl
        have hx0 := hB.cell (p := ⟨bl, ol + kk * 5, none⟩) hbl
        have hx1 := hB.cell (p := ⟨bl, ol + kk * 5 + 1, none⟩) hbl
        have hx2 := hB.cell (p := ⟨bl, ol + kk * 5 + 2, none⟩) hbl
        have hx3 := hB.cell (p := ⟨bl, ol + kk * 5 + 3, none⟩) hbl
        rw [u0] at hx0
        rw [u1] at hx1
        rw [u2] at hx2
        rw [u3] at hx3
        refine ⟨_, _, rfl, sl43, ?_⟩
        first
         | (change Oper.wp _ _ _ _ _ _; go_simp; exact hk _ _ rfl (Below.refl _ _))
         | exact rfl
       case o16 =>
        intro AA W KK QQ hB hs hd hl hk
        have sl9 := hs 9 _ (by kernel_rfl) rfl
        obtain ⟨_, sl43, rfl⟩ := hd 9 43 (by kernel_rfl) rfl
        clear hs hd hl
        refine ⟨_, _, rfl, sl43, ?_⟩
        first
         | (change Oper.wp _ _ _ _ _ _; go_simp; exact hk _ _ rfl (Below.refl _ _))
         | exact rfl
       case o17 =>
        intro AA W KK QQ hB hs hd hl hk
        obtain ⟨_, sl43, rfl⟩ := hd 9 43 (by kernel_rfl) rfl
        obtain ⟨_, sl50, rfl⟩ := hd 16 50 (by kernel_rfl) rfl
        clear hs hd hl
        have hy0 := hB.cell (p := ⟨w4.heap.size, 0, none⟩) hv4
        have hy1 := hB.cell (p := ⟨w4.heap.size, 1, none⟩) hv4
        have hy2 := hB.cell (p := ⟨w4.heap.size, 2, none⟩) hv4
        have hy3 := hB.cell (p := ⟨w4.heap.size, 3, none⟩) hv4
        rw [t0] at hy0
        rw [t1] at hy1
        rw [t2] at hy2
        rw [t3] at hy3
        refine ⟨_, _, rfl, sl43, ?_⟩
        first
         | (change Oper.wp _ _ _ _ _ _; go_simp; exact hk _ _ rfl (Below.refl _ _))
         | exact rfl
       case o18 =>
        intro AA W KK QQ hB hs hd hl hk
        obtain ⟨_, sl43, rfl⟩ := hd 9 43 (by kernel_rfl) rfl
        obtain ⟨_, sl49, rfl⟩ := hd 15 49 (by kernel_rfl) rfl
        obtain ⟨_, sl51, rfl⟩ := hd 17 51 (by kernel_rfl) rfl
        clear hs hd hl
        refine ⟨_, _, rfl, sl43, ?_⟩
        change Oper.wp _ _ _ _ _ _
        go_simp
        refine (cC.out W hB).mono ?_
        rintro e W2 ⟨rfl, hb2⟩
        exact hk _ _ rfl hb2
       case o19 =>
        intro AA W KK QQ hB hs hd hl hk
        obtain ⟨_, sl43, rfl⟩ := hd 9 43 (by kernel_rfl) rfl
        obtain ⟨_, sl52, rfl⟩ := hd 18 52 (by kernel_rfl) rfl
        clear hs hd hl
        refine ⟨_, _, rfl, sl43, ?_⟩
        first
         | (change Oper.wp _ _ _ _ _ _; go_simp; exact hk _ _ rfl (Below.refl _ _))
         | exact rfl
       case o20 =>
        intro AA W KK QQ hB hs hd hl hk
        obtain ⟨_, sl40, rfl⟩ := hd 6 40 (by kernel_rfl) rfl
        obtain ⟨_, sl43, rfl⟩ := hd 9 43 (by kernel_rfl) rfl
        obtain ⟨_, sl53, rfl⟩ := hd 19 53 (by kernel_rfl) rfl
        clear hs hd hl
        refine ⟨_, _, rfl, sl40, ?_⟩
        first
         | (change Oper.wp _ _ _ _ _ _; go_simp; exact hk _ _ rfl (Below.refl _ _))
         | exact rfl
       case o21 =>
        intro AA W KK QQ hB hs hd hl hk
        obtain ⟨_, sl40, rfl⟩ := hd 6 40 (by kernel_rfl) rfl
        obtain ⟨_, sl54, rfl⟩ := hd 20 54 (by kernel_rfl) rfl
        clear hs hd hl
        go_simp
        exact hk _ _ rfl (Below.refl _ _)
      case fin =>
       intro wf hB
       refine fin_isv 34 rfl ?_
       refine fin_isv 35 rfl ?_
       refine fin_isv 36 rfl ?_
       refine fin_isv 37 rfl ?_
       refine fin_isv 38 rfl ?_
       refine fin_isv 39 rfl ?_
       refine fin_isv 40 rfl ?_
       refine fin_isv 41 rfl ?_
       refine fin_isv 42 rfl ?_
       refine fin_isv 43 rfl ?_
       refine fin_isv 44 rfl ?_
       refine fin_isv 45 rfl ?_
       refine fin_isv 46 rfl ?_
       refine fin_isv 47 rfl ?_
       refine fin_isv 48 rfl ?_
       refine fin_isv 49 rfl ?_
       refine fin_isv 50 rfl ?_
       refine fin_isv 51 rfl ?_
       refine fin_isv 52 rfl ?_
       refine fin_isv 53 rfl ?_
       refine fin_isv 54 rfl ?_
       refine fin_isv 55 rfl ?_
       refine frame64_da4d328389 _ _ _ _ _ _ _ _ _ _ _ _ _ _ _ _ _ _ _ _ _ _ _ _ _ _ _ _ _ _ _ _ _ _ _ _ _ _ _ _ _ _ _ _ _ _ _ _ _ _ _ _ _ _ _ _ _ _ _ _ _ _ _ _ _ _ _ _ _ _ _ _ _ _ _ _ _ _ _ _ _ _ _ _ _ _ ?_
       clear t0 t1 t2 t3 t4 u0 u1 u2 u3
       have V6 := V5.out.keep hB
       obtain ⟨t0, t1, t2, t3, t4⟩ := entC V6
       have HO6 := Lib.hid (own_below2 HO5.out hB)
       have HQ6 := Lib.hid (HQ5.out.keep hB)
       have HBf := Lib.hid (HB5.out.trans (hB.mono HB5.out.size))
       have hzf := Nat.le_trans hz5 hB.size
       have HWA := Lib.hid (show Below wf.heap.size wf (wf.alloc (.cells #[.string ⟨x.1.1.toArray⟩, .int .i64 x.1.2.1, .int .i64 x.1.2.2.1, .int .i64 x.1.2.2.2, .string ⟨x.2.toArray⟩] 49)) from (Below.refl _ _).alloc (Nat.le_refl _) _)
       have HOA := Lib.hid (own_below2 HO6.out HWA.out)
       have b0 : out.length + 1 ≤ maxLen := by unfold maxLen; omega
       have b1 : (out.length + 1) * 56 ≤ 140737488355328 := by omega
       have hbz : w.heap.size + 1 ≤ (wf.alloc (.cells #[.string ⟨x.1.1.toArray⟩, .int .i64 x.1.2.1, .int .i64 x.1.2.2.1, .int .i64 x.1.2.2.2, .string ⟨x.2.toArray⟩] 49)).heap.size := by simp; omega
       clear hB V6
       go_wp2_with (at_builtin; refine wpList_own rfl (.tmp 58) (.tmp 60) rfl (w.heap.size + 1) elEntV (.slice (some ⟨bl, ol, none⟩) out.length cv) out.length _ rfl HOA.out _ 1 _ _ rfl (Src.lit _ 5 _ _ 1 rfl) (by decide) (by simp [Value.oneCell']) b0 b1 hbz ?_; intro v' w7 hown7 hgrow7 hb7; obtain ⟨A8, c8, rfl⟩ := Acc.shape (.inl hown7); have HOWN := Lib.hid hown7; have HG7 := Lib.hid hgrow7; have HB7 := Lib.hid hb7; clear hown7 hgrow7 hb7)
       have HQ7 := Lib.hid (show Blk w7 w.heap.size 42 #[.int .i64 0, .int .i64 0] from (HG7.out.block w.heap.size (by simp; omega) (fun h => own_apart HOA.out (Nat.lt_succ_self w.heap.size) h.symm)).trans (HQ6.out.keep HWA.out))
       have HBn := Lib.hid ((HBf.out.trans (HWA.out.mono HBf.out.size)).trans (HB7.out.mono (Nat.le_succ _)))
       go_roundg rest.length
       case measure => omega
       case rel => exact ⟨rest, out ++ [x], kn + 1, A8, c8, rfl, by rw [List.length_append]; rfl, by go_num, by rw [List.length_append, HKN.out]; rfl, Nat.le_refl _, by rw [List.length_append]; simp only [List.length_singleton]; omega, Lib.hid (by rw [List.length_append, ents_snoc]; exact HOWN.out), HQ7, HBn, HRn⟩
     ·have HRes := Lib.hid (show r = ([], 8, kn) from by rw [HRs.out, HFit.out, decide_eq_false hcm] <;> rfl)
      have hcn : 0 ≤ cm := by omega
      have hcg : decide (cm ≥ 0) = true := decide_eq_true (by omega)
      clear HRs HFit
      go_upto_region 11 with fail
      generalize hw5 : w4.alloc (.cells #[.string ⟨x.1.1.toArray⟩, .int .i64 x.1.2.1, .int .i64 x.1.2.2.1, .int .i64 x.1.2.2.2, .string ⟨x.2.toArray⟩] 49) = w5 at HQ5 HB5 HO5 V5 HX5 HA5 hv4 hz5 cC hbl u0 u1 u2 u3 t0 t1 t2 t3 t4 ⊢
      apply wp_region_facts (by kernel_rfl) [isv _, isv _, isv _, isv _, isv _, isv _, isv _, isv _, isv _, isv _, isv _, isv _, isv _, isv _, isv _, isv _, isv _, isv _, isv _, isv _, isv _, isv _] w5.heap.size w5 (Nat.le_refl _) (Below.refl _ _).drew (by kernel_rfl) (by kernel_rfl) (by kernel_rfl) (And.intro (isv_mono _) (And.intro (isv_mono _) (And.intro (isv_mono _) (And.intro (isv_mono _) (And.intro (isv_mono _) (And.intro (isv_mono _) (And.intro (isv_mono _) (And.intro (isv_mono _) (And.intro (isv_mono _) (And.intro (isv_mono _) (And.intro (isv_mono _) (And.intro (isv_mono _) (And.intro (isv_mono _) (And.intro (isv_mono _) (And.intro (isv_mono _) (And.intro (isv_mono _) (And.intro (isv_mono _) (And.intro (isv_mono _) (And.intro (isv_mono _) (And.intro (isv_mono _) (And.intro (isv_mono _) (And.intro (isv_mono _) trivial)))))))))))))))))))))) ?steps (by rfl) ?fin
      case steps =>
       refine (And.intro ?o0 (And.intro ?o1 (And.intro ?o2 (And.intro ?o3 (And.intro ?o4 (And.intro ?o5 (And.intro ?o6 (And.intro ?o7 (And.intro ?o8 (And.intro ?o9 (And.intro ?o10 (And.intro ?o11 (And.intro ?o12 (And.intro ?o13 (And.intro ?o14 (And.intro ?o15 (And.intro ?o16 (And.intro ?o17 (And.intro ?o18 (And.intro ?o19 (And.intro ?o20 (And.intro ?o21 trivial))))))))))))))))))))))
       case o0 =>
        intro AA W KK QQ hB hs hd hl hk
        have sl8 := hs 8 _ (by kernel_rfl) rfl
        clear hs hd hl
        go_simp
        exact hk _ _ rfl (Below.refl _ _)
       case o1 =>
        intro AA W KK QQ hB hs hd hl hk
        obtain ⟨_, sl34, rfl⟩ := hd 0 34 (by kernel_rfl) rfl
        clear hs hd hl
        go_simp
        exact hk _ _ rfl (Below.refl _ _)
       case o2 =>
        intro AA W KK QQ hB hs hd hl hk
        obtain ⟨_, sl35, rfl⟩ := hd 1 35 (by kernel_rfl) rfl
        clear hs hd hl
        go_simp
        exact hk _ _ rfl (Below.refl _ _)
       case o3 =>
        intro AA W KK QQ hB hs hd hl hk
        have sl10 := hs 10 _ (by kernel_rfl) rfl
        obtain ⟨_, sl36, rfl⟩ := hd 2 36 (by kernel_rfl) rfl
        clear hs hd hl
        refine ⟨_, _, rfl, sl36, ?_⟩
        first
         | (change Oper.wp _ _ _ _ _ _; go_simp; exact hk _ _ rfl (Below.refl _ _))
         | exact rfl
       case o4 =>
        intro AA W KK QQ hB hs hd hl hk
        obtain ⟨_, sl36, rfl⟩ := hd 2 36 (by kernel_rfl) rfl
        obtain ⟨_, sl37, rfl⟩ := hd 3 37 (by kernel_rfl) rfl
        clear hs hd hl
        refine ⟨_, _, rfl, sl36, ?_⟩
        first
         | (change Oper.wp _ _ _ _ _ _; go_simp; exact hk _ _ rfl (Below.refl _ _))
         | exact rfl
       case o5 =>
        intro AA W KK QQ hB hs hd hl hk
        obtain ⟨_, sl36, rfl⟩ := hd 2 36 (by kernel_rfl) rfl
        obtain ⟨_, sl38, rfl⟩ := hd 4 38 (by kernel_rfl) rfl
        clear hs hd hl
        go_simp
        exact hk _ _ rfl (Below.refl _ _)
       case o6 =>
        intro AA W KK QQ hB hs hd hl hk
        obtain ⟨_, sl39, rfl⟩ := hd 5 39 (by kernel_rfl) rfl
        clear hs hd hl
        go_simp
        exact hk _ _ rfl (Below.refl _ _)
       case o7 =>
        intro AA W KK QQ hB hs hd hl hk
        have sl11 := hs 11 _ (by kernel_rfl) rfl
        obtain ⟨_, sl40, rfl⟩ := hd 6 40 (by kernel_rfl) rfl
        clear hs hd hl
        refine ⟨_, _, rfl, sl40, ?_⟩
        first
         | (change Oper.wp _ _ _ _ _ _; go_simp; exact hk _ _ rfl (Below.refl _ _))
         | exact rfl
       case o8 =>
        intro AA W KK QQ hB hs hd hl hk
        obtain ⟨_, sl40, rfl⟩ := hd 6 40 (by kernel_rfl) rfl
        obtain ⟨_, sl41, rfl⟩ := hd 7 41 (by kernel_rfl) rfl
        clear hs hd hl
        refine ⟨_, _, rfl, sl40, ?_⟩
        first
         | (change Oper.wp _ _ _ _ _ _; go_simp; exact hk _ _ rfl (Below.refl _ _))
         | exact rfl
       case o9 =>
        intro AA W KK QQ hB hs hd hl hk
        obtain ⟨_, sl40, rfl⟩ := hd 6 40 (by kernel_rfl) rfl
        obtain ⟨_, sl42, rfl⟩ := hd 8 42 (by kernel_rfl) rfl
        clear hs hd hl
        refine ⟨_, _, rfl, sl40, ?_⟩
        first
         | (change Oper.wp _ _ _ _ _ _; go_simp; exact hk _ _ rfl (Below.refl _ _))
         | exact rfl
       case o10 =>
        intro AA W KK QQ hB hs hd hl hk
        have sl4 := hs 4 _ (by kernel_rfl) rfl
        obtain ⟨_, sl43, rfl⟩ := hd 9 43 (by kernel_rfl) rfl
        clear hs hd hl
        refine ⟨_, _, rfl, sl43, ?_⟩
        first
         | (change Oper.wp _ _ _ _ _ _; go_simp; exact hk _ _ rfl (Below.refl _ _))
         | exact rfl
       case o11 =>
        intro AA W KK QQ hB hs hd hl hk
        have sl11 := hs 11 _ (by kernel_rfl) rfl
        obtain ⟨_, sl43, rfl⟩ := hd 9 43 (by kernel_rfl) rfl
        clear hs hd hl
        refine ⟨_, _, rfl, sl43, ?_⟩
        first
         | (change Oper.wp _ _ _ _ _ _; go_simp; exact hk _ _ rfl (Below.refl _ _))
         | exact rfl
       case o12 =>
        intro AA W KK QQ hB hs hd hl hk
        obtain ⟨_, sl43, rfl⟩ := hd 9 43 (by kernel_rfl) rfl
        obtain ⟨_, sl45, rfl⟩ := hd 11 45 (by kernel_rfl) rfl
        clear hs hd hl
        refine ⟨_, _, rfl, sl43, ?_⟩
        first
         | (change Oper.wp _ _ _ _ _ _; go_simp; exact hk _ _ rfl (Below.refl _ _))
         | exact rfl
       case o13 =>
        intro AA W KK QQ hB hs hd hl hk
        obtain ⟨_, sl43, rfl⟩ := hd 9 43 (by kernel_rfl) rfl
        obtain ⟨_, sl44, rfl⟩ := hd 10 44 (by kernel_rfl) rfl
        obtain ⟨_, sl46, rfl⟩ := hd 12 46 (by kernel_rfl) rfl
        clear hs hd hl
        refine ⟨_, _, rfl, sl43, ?_⟩
        first
         | (change Oper.wp _ _ _ _ _ _; go_simp; exact hk _ _ rfl (Below.refl _ _))
         | exact rfl
       case o14 =>
        intro AA W KK QQ hB hs hd hl hk
        obtain ⟨_, sl43, rfl⟩ := hd 9 43 (by kernel_rfl) rfl
        obtain ⟨_, sl47, rfl⟩ := hd 13 47 (by kernel_rfl) rfl
        clear hs hd hl
        refine ⟨_, _, rfl, sl43, ?_⟩
        first
         | (change Oper.wp _ _ _ _ _ _; go_simp; exact hk _ _ rfl (Below.refl _ _))
         | exact rfl
       case o15 =>
        intro AA W KK QQ hB hs hd hl hk
        obtain ⟨_, sl43, rfl⟩ := hd 9 43 (by kernel_rfl) rfl
        obtain ⟨_, sl48, rfl⟩ := hd 14 48 (by kernel_rfl) rfl
        clear hs hd hl
        have hx0 := hB.cell (p := ⟨bl, ol + kk * 5, none⟩) hbl
        have hx1 := hB.cell (p := ⟨bl, ol + kk * 5 + 1, none⟩) hbl
        have hx2 := hB.cell (p := ⟨bl, ol + kk * 5 + 2, none⟩) hbl
        have hx3 := hB.cell (p := ⟨bl, ol + kk * 5 + 3, none⟩) hbl
        rw [u0] at hx0
        rw [u1] at hx1
        rw [u2] at hx2
        rw [u3] at hx3
        refine ⟨_, _, rfl, sl43, ?_⟩
        first
         | (change Oper.wp _ _ _ _ _ _; go_simp; exact hk _ _ rfl (Below.refl _ _))
         | exact rfl
       case o16 =>
        intro AA W KK QQ hB hs hd hl hk
        have sl9 := hs 9 _ (by kernel_rfl) rfl
        obtain ⟨_, sl43, rfl⟩ := hd 9 43 (by kernel_rfl) rfl
        clear hs hd hl
        refine ⟨_, _, rfl, sl43, ?_⟩
        first
         | (change Oper.wp _ _ _ _ _ _; go_simp; exact hk _ _ rfl (Below.refl _ _))
         | exact rfl
       case o17 =>
        intro AA W KK QQ hB hs hd hl hk
        obtain ⟨_, sl43, rfl⟩ := hd 9 43 (by kernel_rfl) rfl
        obtain ⟨_, sl50, rfl⟩ := hd 16 50 (by kernel_rfl) rfl
        clear hs hd hl
        have hy0 := hB.cell (p := ⟨w4.heap.size, 0, none⟩) hv4
        have hy1 := hB.cell (p := ⟨w4.heap.size, 1, none⟩) hv4
        have hy2 := hB.cell (p := ⟨w4.heap.size, 2, none⟩) hv4
        have hy3 := hB.cell (p := ⟨w4.heap.size, 3, none⟩) hv4
        rw [t0] at hy0
        rw [t1] at hy1
        rw [t2] at hy2
        rw [t3] at hy3
        refine ⟨_, _, rfl, sl43, ?_⟩
        first
         | (change Oper.wp _ _ _ _ _ _; go_simp; exact hk _ _ rfl (Below.refl _ _))
         | exact rfl
       case o18 =>
        intro AA W KK QQ hB hs hd hl hk
        obtain ⟨_, sl43, rfl⟩ := hd 9 43 (by kernel_rfl) rfl
        obtain ⟨_, sl49, rfl⟩ := hd 15 49 (by kernel_rfl) rfl
        obtain ⟨_, sl51, rfl⟩ := hd 17 51 (by kernel_rfl) rfl
        clear hs hd hl
        refine ⟨_, _, rfl, sl43, ?_⟩
        change Oper.wp _ _ _ _ _ _
        go_simp
        refine (cC.out W hB).mono ?_
        rintro e W2 ⟨rfl, hb2⟩
        exact hk _ _ rfl hb2
       case o19 =>
        intro AA W KK QQ hB hs hd hl hk
        obtain ⟨_, sl43, rfl⟩ := hd 9 43 (by kernel_rfl) rfl
        obtain ⟨_, sl52, rfl⟩ := hd 18 52 (by kernel_rfl) rfl
        clear hs hd hl
        refine ⟨_, _, rfl, sl43, ?_⟩
        first
         | (change Oper.wp _ _ _ _ _ _; go_simp; exact hk _ _ rfl (Below.refl _ _))
         | exact rfl
       case o20 =>
        intro AA W KK QQ hB hs hd hl hk
        obtain ⟨_, sl40, rfl⟩ := hd 6 40 (by kernel_rfl) rfl
        obtain ⟨_, sl43, rfl⟩ := hd 9 43 (by kernel_rfl) rfl
        obtain ⟨_, sl53, rfl⟩ := hd 19 53 (by kernel_rfl) rfl
        clear hs hd hl
        refine ⟨_, _, rfl, sl40, ?_⟩
        first
         | (change Oper.wp _ _ _ _ _ _; go_simp; exact hk _ _ rfl (Below.refl _ _))
         | exact rfl
       case o21 =>
        intro AA W KK QQ hB hs hd hl hk
        obtain ⟨_, sl40, rfl⟩ := hd 6 40 (by kernel_rfl) rfl
        obtain ⟨_, sl54, rfl⟩ := hd 20 54 (by kernel_rfl) rfl
        clear hs hd hl
        go_simp
        exact hk _ _ rfl (Below.refl _ _)
      case fin =>
       intro wf hB
       refine fin_isv 34 rfl ?_
       refine fin_isv 35 rfl ?_
       refine fin_isv 36 rfl ?_
       refine fin_isv 37 rfl ?_
       refine fin_isv 38 rfl ?_
       refine fin_isv 39 rfl ?_
       refine fin_isv 40 rfl ?_
       refine fin_isv 41 rfl ?_
       refine fin_isv 42 rfl ?_
       refine fin_isv 43 rfl ?_
       refine fin_isv 44 rfl ?_
       refine fin_isv 45 rfl ?_
       refine fin_isv 46 rfl ?_
       refine fin_isv 47 rfl ?_
       refine fin_isv 48 rfl ?_
       refine fin_isv 49 rfl ?_
       refine fin_isv 50 rfl ?_
       refine fin_isv 51 rfl ?_
       refine fin_isv 52 rfl ?_
       refine fin_isv 53 rfl ?_
       refine fin_isv 54 rfl ?_
       refine fin_isv 55 rfl ?_
       refine frame64_da4d328389 _ _ _ _ _ _ _ _ _ _ _ _ _ _ _ _ _ _ _ _ _ _ _ _ _ _ _ _ _ _ _ _ _ _ _ _ _ _ _ _ _ _ _ _ _ _ _ _ _ _ _ _ _ _ _ _ _ _ _ _ _ _ _ _ _ _ _ _ _ _ _ _ _ _ _ _ _ _ _ _ _ _ _ _ _ _ ?_
       obtain ⟨k0, k1⟩ := fltC (HQ5.out.keep hB)
       obtain ⟨f0, f1⟩ := fltF (HQ5.out.keep hB)
       have HBf := Lib.hid (HB5.out.trans (hB.mono HB5.out.size))
       clear hB
       have HBF := Lib.hid ((HBf.out.setCell (p := ⟨w.heap.size, 0, none⟩) (Nat.le_refl _) (.int .i64 8)).setCell (p := ⟨w.heap.size, 1, none⟩) (Nat.le_refl _) (.int .i64 (kn : Nat)))
       go_wp2
       first | rw [Exit.noGoto_ret] | skip
       refine bodyPost_ret (v := .tuple #[.slice none 0 0, .agg #[.int .i64 8, .int .i64 (kn : Nat)]]) (by simp [results, Tryz.results19, go_sem, k0, k1]) rfl ?_
       exact ⟨none, 0, by rw [HRes.out]; rfl, by rw [HRes.out]; exact Sl.nil_, HBF.out⟩
set_option maxRecDepth 100000 in
set_option maxHeartbeats 8000000 in
theorem refUnlock_any (s : List UInt8) (w : World) (hs : s.length ≤ 140737488355327) :
  Calls Tryz.prog 20 #[.string ⟨s.toArray⟩] w (RetU w (unlockP s)) := by
 have HB0 := Lib.hid (show Below w.heap.size w (w.alloc (.cells #[.int .i64 0, .int .i64 0] 42)) from (Below.refl _ _).alloc (Nat.le_refl _) _)
 have Q0 := Lib.hid (Blk.new w 42 #[.int .i64 0, .int .i64 0])
 obtain ⟨r, hr⟩ : ∃ r, r = unlockP s := ⟨_, rfl⟩
 rw [← hr]
 unfold unlockP at hr
 by_cases hlong : 65536 < s.length
 ·rw [if_pos hlong] at hr
  have HRes := Lib.hid hr
  have hl' : decide ((65536 : Int) < (s.length : Int)) = true := decide_eq_true (by omega)
  have hl2 : (65536 : Int) < (s.length : Int) := by omega
  obtain ⟨k0, k1⟩ := fltC Q0.out
  obtain ⟨f0, f1⟩ := fltF Q0.out
  clear hr hlong hs
  go_enter Tryz.func20, Tryz.ntmps20
  go_wp2
  refine bodyPost_ret (v := .tuple #[.slice none 0 0, .agg #[.int .i64 2, .int .i64 0]]) (by simp [results, Tryz.results20, go_sem]) rfl ?_
  exact ⟨none, 0, by rw [HRes.out]; rfl, by rw [HRes.out]; exact Sl.nil_, (Below.refl _ _).alloc (Nat.le_refl _) _⟩
 rw [if_neg hlong] at hr
 have HR := Lib.hid hr
 have hsl : s.length ≤ 65536 := by omega
 have hl' : decide ((65536 : Int) < (s.length : Int)) = false := decide_eq_false (by omega)
 have hl2 : ¬ (65536 : Int) < (s.length : Int) := by omega
 clear hr hlong hs
 go_enter Tryz.func20, Tryz.ntmps20
 go_wp2
 go_loopw [4, 5, 6] (fun v fr i wr => ∃ (k f : Nat) (out : List EntV) (Av : Option Addr) (cv : Nat), k ≤ s.length ∧ f ≤ k ∧ out.length ≤ k ∧ v = .slice Av out.length cv ∧ fr = .int .i64 (f : Nat) ∧ i = .int .i64 (k : Nat) ∧ Hid (wr.ownsRow (w.heap.size + 1) 50 5 (.slice Av out.length cv) out.length (out.flatMap encE)) ∧ Hid (Blk wr w.heap.size 42 #[.int .i64 0, .int .i64 0]) ∧ Hid (Below w.heap.size w wr) ∧ Hid (r = unlL out (splitL 10 (s.drop f))) ∧ Hid (∀ j, f ≤ j → j < k → s.getD j 0 ≠ 10)) (fun _ _ i _ => s.length - (intOf i).toNat)
 case atStart => exact ⟨0, 0, [], none, 0, Nat.zero_le _, Nat.le_refl _, Nat.le_refl _, rfl, rfl, rfl, Lib.hid (World.ownsRow_nil _ _ _ _), Q0, HB0, HR, Lib.hid (fun j h1 h2 => by omega)⟩
 case round =>
  obtain ⟨wo, hwo⟩ : ∃ wo, wo = wr := ⟨_, rfl⟩
  subst hwo
  obtain ⟨k, f, out, Av, cv, hk, hfk, hok, rfl, rfl, rfl, HO, HQ, HB, HRR, HN⟩ := hrel
  have hz1 : w.heap.size < wo.heap.size := HQ.out.lt
  have hob : out.length ≤ 65536 := by omega
  by_cases hlt : k < s.length
  ·have hlt' : (k : Int) < (s.length : Int) := by omega
   have hg : s.getD k 0 = (({ data := s.toArray } : ByteArray)[k]) := by simp [hlt]; rfl
   have HG2 := Lib.hid hg
   clear hg
   by_cases hc : s.getD k 0 = 10
   ·have hcb : ((({ data := s.toArray } : ByteArray)[k].toNat : Int) == 10) = true := by rw [← HG2.out, hc]; rfl
    have hcn : ((({ data := s.toArray } : ByteArray)[k].toNat : Int) != 10) = false := by rw [bne, hcb]; rfl
    have HRr := Lib.hid (HRR.out.trans ((congrArg (unlL out) (line_at hfk hlt HN.out hc)).trans (unl_cons out _ _)))
    obtain ⟨line, hline⟩ : ∃ line, line = (s.drop f).take (k - f) := ⟨_, rfl⟩
    rw [← hline] at HRr
    have hll : line.length ≤ 65536 := by rw [hline, List.length_take, List.length_drop]; omega
    have ex : ({ data := s.toArray } : ByteArray).extract f k = ⟨line.toArray⟩ := by
     rw [ByteArray.extract_mk, hline]
     all_goals simp
    have cE0 := refEntry_any line wo hll
    rw [← ex] at cE0
    have HLU := Lib.hid (show lineU out line (s.drop (k + 1)) true = (match entryP line with
     | some e => if fitsE out e = true then unlL (out ++ [e]) (splitL 10 (s.drop (k + 1))) else ([], 8, out.length + 1)
     | none => ([], 8, out.length + 1)) from rfl)
    generalize lineU out line (s.drop (k + 1)) true = rl at HRr HLU
    generalize entryP line = re at cE0 HLU
    have cE := Lib.hid cE0
    have hfi : (f : Int) ≤ (k : Int) := by omega
    clear hc hline ex cE0 hll
    rcases Nat.eq_zero_or_pos out.length with ho | ho
    ·obtain rfl : out = [] := List.eq_nil_of_length_eq_zero ho
     simp only [List.length_nil, List.flatMap_nil, List.nil_append, Nat.zero_add] at HO HLU ⊢
     clear ho
     go_wp2_with fail
     refine cE.out.mono ?_
     rintro e w4 ⟨x, rfl, hx, hb4⟩
     have HX4 := Lib.hid hb4
     clear cE
     have HX := Lib.hid hx
     have HA5 := Lib.hid (show Below w4.heap.size w4 (w4.alloc (.cells #[.string ⟨x.1.1.toArray⟩, .int .i64 x.1.2.1, .int .i64 x.1.2.2.1, .int .i64 x.1.2.2.2, .string ⟨x.2.toArray⟩] 50)) from (Below.refl _ _).alloc (Nat.le_refl _) _)
     have V5 := Lib.hid (Blk.new w4 50 #[.string ⟨x.1.1.toArray⟩, .int .i64 x.1.2.1, .int .i64 x.1.2.2.1, .int .i64 x.1.2.2.2, .string ⟨x.2.toArray⟩])
     have HX5 := Lib.hid (HX4.out.trans (HA5.out.mono HX4.out.size))
     have HB5 := Lib.hid (HB.out.trans (HX5.out.mono HB.out.size))
     have HQ5 := Lib.hid (HQ.out.keep HX5.out)
     have HO5 := Lib.hid (own_below2 HO.out HX5.out)
     have hv4 : w4.heap.size < (w4.alloc (.cells #[.string ⟨x.1.1.toArray⟩, .int .i64 x.1.2.1, .int .i64 x.1.2.2.1, .int .i64 x.1.2.2.2, .string ⟨x.2.toArray⟩] 50)).heap.size := by simp
     have hz5 : w.heap.size < (w4.alloc (.cells #[.string ⟨x.1.1.toArray⟩, .int .i64 x.1.2.1, .int .i64 x.1.2.2.1, .int .i64 x.1.2.2.2, .string ⟨x.2.toArray⟩] 50)).heap.size := Nat.lt_of_lt_of_le hz1 HX5.out.size
     clear hx hb4
     cases hre : re with
     | none =>
       have HRes := Lib.hid (show r = ([], 8, 0 + 1) from by rw [HRr.out, HLU.out, hre] <;> rfl)
       subst hre
       clear HLU HX
       go_upto_region 10 with fail
       generalize hw5 : w4.alloc (.cells #[.string ⟨x.1.1.toArray⟩, .int .i64 x.1.2.1, .int .i64 x.1.2.2.1, .int .i64 x.1.2.2.2, .string ⟨x.2.toArray⟩] 50) = w5 at HQ5 HB5 HO5 V5 HX5 HA5 hv4 hz5 ⊢
       apply wp_region_facts (by kernel_rfl) [isv _, isv _, isv _, isv _, isv _, isv _, isv _, isv _, isv _, isv _, isv _, isv _, isv _, isv _, isv _, isv _, isv _, isv _, isv _, isv _] w5.heap.size w5 (Nat.le_refl _) (Below.refl _ _).drew (by kernel_rfl) (by kernel_rfl) (by kernel_rfl) (And.intro (isv_mono _) (And.intro (isv_mono _) (And.intro (isv_mono _) (And.intro (isv_mono _) (And.intro (isv_mono _) (And.intro (isv_mono _) (And.intro (isv_mono _) (And.intro (isv_mono _) (And.intro (isv_mono _) (And.intro (isv_mono _) (And.intro (isv_mono _) (And.intro (isv_mono _) (And.intro (isv_mono _) (And.intro (isv_mono _) (And.intro (isv_mono _) (And.intro (isv_mono _) (And.intro (isv_mono _) (And.intro (isv_mono _) (And.intro (isv_mono _) (And.intro (isv_mono _) trivial)))))))))))))))))))) ?steps (by rfl) ?fin
       case steps =>
        refine (And.intro ?o0 (And.intro ?o1 (And.intro ?o2 (And.intro ?o3 (And.intro ?o4 (And.intro ?o5 (And.intro ?o6 (And.intro ?o7 (And.intro ?o8 (And.intro ?o9 (And.intro ?o10 (And.intro ?o11 (And.intro ?o12 (And.intro ?o13 (And.intro ?o14 (And.intro ?o15 (And.intro ?o16 (And.intro ?o17 (And.intro ?o18 (And.intro ?o19 trivial))))))))))))))))))))
        case o0 =>
         intro AA W KK QQ hB hs hd hl hk
         have sl8 := hs 8 _ (by kernel_rfl) rfl
         clear hs hd hl
         go_simp
         exact hk _ _ rfl (Below.refl _ _)
        case o1 =>
         intro AA W KK QQ hB hs hd hl hk
         obtain ⟨_, sl31, rfl⟩ := hd 0 31 (by kernel_rfl) rfl
         clear hs hd hl
         go_simp
         exact hk _ _ rfl (Below.refl _ _)
        case o2 =>
         intro AA W KK QQ hB hs hd hl hk
         obtain ⟨_, sl32, rfl⟩ := hd 1 32 (by kernel_rfl) rfl
         clear hs hd hl
         go_simp
         exact hk _ _ rfl (Below.refl _ _)
        case o3 =>
         intro AA W KK QQ hB hs hd hl hk
         have sl4 := hs 4 _ (by kernel_rfl) rfl
         obtain ⟨_, sl33, rfl⟩ := hd 2 33 (by kernel_rfl) rfl
         clear hs hd hl
         refine ⟨_, _, rfl, sl33, ?_⟩
         first
          | (change Oper.wp _ _ _ _ _ _; go_simp; exact hk _ _ rfl (Below.refl _ _))
          | exact rfl
        case o4 =>
         intro AA W KK QQ hB hs hd hl hk
         obtain ⟨_, sl33, rfl⟩ := hd 2 33 (by kernel_rfl) rfl
         obtain ⟨_, sl34, rfl⟩ := hd 3 34 (by kernel_rfl) rfl
         clear hs hd hl
         refine ⟨_, _, rfl, sl33, ?_⟩
         first
          | (change Oper.wp _ _ _ _ _ _; go_simp; exact hk _ _ rfl (Below.refl _ _))
          | exact rfl
        case o5 =>
         intro AA W KK QQ hB hs hd hl hk
         obtain ⟨_, sl33, rfl⟩ := hd 2 33 (by kernel_rfl) rfl
         obtain ⟨_, sl35, rfl⟩ := hd 4 35 (by kernel_rfl) rfl
         clear hs hd hl
         refine ⟨_, _, rfl, sl33, ?_⟩
         first
          | (change Oper.wp _ _ _ _ _ _; go_simp; exact hk _ _ rfl (Below.refl _ _))
          | exact rfl
        case o6 =>
         intro AA W KK QQ hB hs hd hl hk
         obtain ⟨_, sl33, rfl⟩ := hd 2 33 (by kernel_rfl) rfl
         obtain ⟨_, sl36, rfl⟩ := hd 5 36 (by kernel_rfl) rfl
         clear hs hd hl
         refine ⟨_, _, rfl, sl33, ?_⟩
         first
          | (change Oper.wp _ _ _ _ _ _; go_simp; exact hk _ _ rfl (Below.refl _ _))
          | exact rfl
        case o7 =>
         intro AA W KK QQ hB hs hd hl hk
         have sl4 := hs 4 _ (by kernel_rfl) rfl
         obtain ⟨_, sl37, rfl⟩ := hd 6 37 (by kernel_rfl) rfl
         clear hs hd hl
         refine ⟨_, _, rfl, sl37, ?_⟩
         first
          | (change Oper.wp _ _ _ _ _ _; go_simp; exact hk _ _ rfl (Below.refl _ _))
          | exact rfl
        case o8 =>
         intro AA W KK QQ hB hs hd hl hk
         have sl4 := hs 4 _ (by kernel_rfl) rfl
         obtain ⟨_, sl37, rfl⟩ := hd 6 37 (by kernel_rfl) rfl
         clear hs hd hl
         refine ⟨_, _, rfl, sl37, ?_⟩
         first
          | (change Oper.wp _ _ _ _ _ _; go_simp; exact hk _ _ rfl (Below.refl _ _))
          | exact rfl
        case o9 =>
         intro AA W KK QQ hB hs hd hl hk
         obtain ⟨_, sl37, rfl⟩ := hd 6 37 (by kernel_rfl) rfl
         obtain ⟨_, sl39, rfl⟩ := hd 8 39 (by kernel_rfl) rfl
         clear hs hd hl
         refine ⟨_, _, rfl, sl37, ?_⟩
         first
          | (change Oper.wp _ _ _ _ _ _; go_simp; exact hk _ _ rfl (Below.refl _ _))
          | exact rfl
        case o10 =>
         intro AA W KK QQ hB hs hd hl hk
         obtain ⟨_, sl37, rfl⟩ := hd 6 37 (by kernel_rfl) rfl
         obtain ⟨_, sl40, rfl⟩ := hd 9 40 (by kernel_rfl) rfl
         clear hs hd hl
         refine ⟨_, _, rfl, sl37, ?_⟩
         first
          | (change Oper.wp _ _ _ _ _ _; go_simp; exact hk _ _ rfl (Below.refl _ _))
          | exact rfl
        case o11 =>
         intro AA W KK QQ hB hs hd hl hk
         obtain ⟨_, sl37, rfl⟩ := hd 6 37 (by kernel_rfl) rfl
         obtain ⟨_, sl38, rfl⟩ := hd 7 38 (by kernel_rfl) rfl
         obtain ⟨_, sl41, rfl⟩ := hd 10 41 (by kernel_rfl) rfl
         clear hs hd hl
         refine ⟨_, _, rfl, sl37, ?_⟩
         first
          | (change Oper.wp _ _ _ _ _ _; go_simp; exact hk _ _ rfl (Below.refl _ _))
          | exact rfl
        case o12 =>
         intro AA W KK QQ hB hs hd hl hk
         obtain ⟨_, sl37, rfl⟩ := hd 6 37 (by kernel_rfl) rfl
         obtain ⟨_, sl42, rfl⟩ := hd 11 42 (by kernel_rfl) rfl
         clear hs hd hl
         refine ⟨_, _, rfl, sl37, ?_⟩
         first
          | (change Oper.wp _ _ _ _ _ _; go_simp; exact hk _ _ rfl (Below.refl _ _))
          | exact rfl
        case o13 =>
         intro AA W KK QQ hB hs hd hl hk
         obtain ⟨_, sl37, rfl⟩ := hd 6 37 (by kernel_rfl) rfl
         obtain ⟨_, sl43, rfl⟩ := hd 12 43 (by kernel_rfl) rfl
         clear hs hd hl
         refine ⟨_, _, rfl, sl37, ?_⟩
         first
          | (change Oper.wp _ _ _ _ _ _; go_simp; exact hk _ _ rfl (Below.refl _ _))
          | exact rfl
        case o14 =>
         intro AA W KK QQ hB hs hd hl hk
         have sl7 := hs 7 _ (by kernel_rfl) rfl
         obtain ⟨_, sl37, rfl⟩ := hd 6 37 (by kernel_rfl) rfl
         clear hs hd hl
         refine ⟨_, _, rfl, sl37, ?_⟩
         first
          | (change Oper.wp _ _ _ _ _ _; go_simp; exact hk _ _ rfl (Below.refl _ _))
          | exact rfl
        case o15 =>
         intro AA W KK QQ hB hs hd hl hk
         obtain ⟨_, sl37, rfl⟩ := hd 6 37 (by kernel_rfl) rfl
         obtain ⟨_, sl45, rfl⟩ := hd 14 45 (by kernel_rfl) rfl
         clear hs hd hl
         refine ⟨_, _, rfl, sl37, ?_⟩
         first
          | (change Oper.wp _ _ _ _ _ _; go_simp; exact hk _ _ rfl (Below.refl _ _))
          | exact rfl
        case o16 =>
         intro AA W KK QQ hB hs hd hl hk
         obtain ⟨_, sl37, rfl⟩ := hd 6 37 (by kernel_rfl) rfl
         obtain ⟨_, sl44, rfl⟩ := hd 13 44 (by kernel_rfl) rfl
         obtain ⟨_, sl46, rfl⟩ := hd 15 46 (by kernel_rfl) rfl
         clear hs hd hl
         refine ⟨_, _, rfl, sl37, ?_⟩
         exact rfl
        case o17 =>
         intro AA W KK QQ hB hs hd hl hk
         obtain ⟨_, sl37, rfl⟩ := hd 6 37 (by kernel_rfl) rfl
         obtain ⟨_, sl47, rfl⟩ := hd 16 47 (by kernel_rfl) rfl
         clear hs hd hl
         refine ⟨_, _, rfl, sl37, ?_⟩
         first
          | (change Oper.wp _ _ _ _ _ _; go_simp; exact hk _ _ rfl (Below.refl _ _))
          | exact rfl
        case o18 =>
         intro AA W KK QQ hB hs hd hl hk
         obtain ⟨_, sl33, rfl⟩ := hd 2 33 (by kernel_rfl) rfl
         obtain ⟨_, sl37, rfl⟩ := hd 6 37 (by kernel_rfl) rfl
         obtain ⟨_, sl48, rfl⟩ := hd 17 48 (by kernel_rfl) rfl
         clear hs hd hl
         refine ⟨_, _, rfl, sl33, ?_⟩
         first
          | (change Oper.wp _ _ _ _ _ _; go_simp; exact hk _ _ rfl (Below.refl _ _))
          | exact rfl
        case o19 =>
         intro AA W KK QQ hB hs hd hl hk
         obtain ⟨_, sl33, rfl⟩ := hd 2 33 (by kernel_rfl) rfl
         obtain ⟨_, sl49, rfl⟩ := hd 18 49 (by kernel_rfl) rfl
         clear hs hd hl
         go_simp
         exact hk _ _ rfl (Below.refl _ _)
       case fin =>
        intro wf hB
        refine fin_isv 31 rfl ?_
        refine fin_isv 32 rfl ?_
        refine fin_isv 33 rfl ?_
        refine fin_isv 34 rfl ?_
        refine fin_isv 35 rfl ?_
        refine fin_isv 36 rfl ?_
        refine fin_isv 37 rfl ?_
        refine fin_isv 38 rfl ?_
        refine fin_isv 39 rfl ?_
        refine fin_isv 40 rfl ?_
        refine fin_isv 41 rfl ?_
        refine fin_isv 42 rfl ?_
        refine fin_isv 43 rfl ?_
        refine fin_isv 44 rfl ?_
        refine fin_isv 45 rfl ?_
        refine fin_isv 46 rfl ?_
        refine fin_isv 47 rfl ?_
        refine fin_isv 48 rfl ?_
        refine fin_isv 49 rfl ?_
        refine fin_isv 50 rfl ?_
        refine frame71_a16d8fd816 _ _ _ _ _ _ _ _ _ _ _ _ _ _ _ _ _ _ _ _ _ _ _ _ _ _ _ _ _ _ _ _ _ _ _ _ _ _ _ _ _ _ _ _ _ _ _ _ _ _ _ _ _ _ _ _ _ _ _ _ _ _ _ _ _ _ _ _ _ _ _ _ _ _ _ _ _ _ _ _ _ _ _ _ _ _ _ _ _ _ _ ?_
        obtain ⟨k0, k1⟩ := fltC (HQ5.out.keep hB)
        obtain ⟨f0, f1⟩ := fltF (HQ5.out.keep hB)
        have HBf := Lib.hid (HB5.out.trans (hB.mono HB5.out.size))
        clear hB
        have HBF := Lib.hid ((HBf.out.setCell (p := ⟨w.heap.size, 0, none⟩) (Nat.le_refl _) (.int .i64 8)).setCell (p := ⟨w.heap.size, 1, none⟩) (Nat.le_refl _) (.int .i64 1))
        go_wp2
        first | rw [Exit.noGoto_ret] | skip
        refine bodyPost_ret (v := .tuple #[.slice none 0 0, .agg #[.int .i64 8, .int .i64 1]]) (by simp [results, Tryz.results20, go_sem, k0, k1]) rfl ?_
        exact ⟨none, 0, by rw [HRes.out]; rfl, by rw [HRes.out]; exact Sl.nil_, HBF.out⟩
     | some y =>
       obtain rfl : x = y := HX.out y hre
       have HRn := Lib.hid (show r = unlL [x] (splitL 10 (s.drop (k + 1))) from by rw [HRr.out, HLU.out, hre] <;> simp [fits_nil])
       subst hre
       clear HLU HX HRr
       go_upto_region 10 with fail
       generalize hw5 : w4.alloc (.cells #[.string ⟨x.1.1.toArray⟩, .int .i64 x.1.2.1, .int .i64 x.1.2.2.1, .int .i64 x.1.2.2.2, .string ⟨x.2.toArray⟩] 50) = w5 at HQ5 HB5 HO5 V5 HX5 HA5 hv4 hz5 ⊢
       apply wp_region_facts (by kernel_rfl) [isv _, isv _, isv _, isv _, isv _, isv _, isv _, isv _, isv _, isv _, isv _, isv _, isv _, isv _, isv _, isv _, isv _, isv _, isv _, isv _] w5.heap.size w5 (Nat.le_refl _) (Below.refl _ _).drew (by kernel_rfl) (by kernel_rfl) (by kernel_rfl) (And.intro (isv_mono _) (And.intro (isv_mono _) (And.intro (isv_mono _) (And.intro (isv_mono _) (And.intro (isv_mono _) (And.intro (isv_mono _) (And.intro (isv_mono _) (And.intro (isv_mono _) (And.intro (isv_mono _) (And.intro (isv_mono _) (And.intro (isv_mono _) (And.intro (isv_mono _) (And.intro (isv_mono _) (And.intro (isv_mono _) (And.intro (isv_mono _) (And.intro (isv_mono _) (And.intro (isv_mono _) (And.intro (isv_mono _) (And.intro (isv_mono _) (And.intro (isv_mono _) trivial)))))))))))))))))))) ?steps (by rfl) ?fin
       case steps =>
        refine (And.intro ?o0 (And.intro ?o1 (And.intro ?o2 (And.intro ?o3 (And.intro ?o4 (And.intro ?o5 (And.intro ?o6 (And.intro ?o7 (And.intro ?o8 (And.intro ?o9 (And.intro ?o10 (And.intro ?o11 (And.intro ?o12 (And.intro ?o13 (And.intro ?o14 (And.intro ?o15 (And.intro ?o16 (And.intro ?o17 (And.intro ?o18 (And.intro ?o19 trivial))))))))))))))))))))
        case o0 =>
         intro AA W KK QQ hB hs hd hl hk
         have sl8 := hs 8 _ (by kernel_rfl) rfl
         clear hs hd hl
         go_simp
         exact hk _ _ rfl (Below.refl _ _)
        case o1 =>
         intro AA W KK QQ hB hs hd hl hk
         obtain ⟨_, sl31, rfl⟩ := hd 0 31 (by kernel_rfl) rfl
         clear hs hd hl
         go_simp
         exact hk _ _ rfl (Below.refl _ _)
        case o2 =>
         intro AA W KK QQ hB hs hd hl hk
         obtain ⟨_, sl32, rfl⟩ := hd 1 32 (by kernel_rfl) rfl
         clear hs hd hl
         go_simp
         exact hk _ _ rfl (Below.refl _ _)
        case o3 =>
         intro AA W KK QQ hB hs hd hl hk
         have sl4 := hs 4 _ (by kernel_rfl) rfl
         obtain ⟨_, sl33, rfl⟩ := hd 2 33 (by kernel_rfl) rfl
         clear hs hd hl
         refine ⟨_, _, rfl, sl33, ?_⟩
         first
          | (change Oper.wp _ _ _ _ _ _; go_simp; exact hk _ _ rfl (Below.refl _ _))
          | exact rfl
        case o4 =>
         intro AA W KK QQ hB hs hd hl hk
         obtain ⟨_, sl33, rfl⟩ := hd 2 33 (by kernel_rfl) rfl
         obtain ⟨_, sl34, rfl⟩ := hd 3 34 (by kernel_rfl) rfl
         clear hs hd hl
         refine ⟨_, _, rfl, sl33, ?_⟩
         first
          | (change Oper.wp _ _ _ _ _ _; go_simp; exact hk _ _ rfl (Below.refl _ _))
          | exact rfl
        case o5 =>
         intro AA W KK QQ hB hs hd hl hk
         obtain ⟨_, sl33, rfl⟩ := hd 2 33 (by kernel_rfl) rfl
         obtain ⟨_, sl35, rfl⟩ := hd 4 35 (by kernel_rfl) rfl
         clear hs hd hl
         refine ⟨_, _, rfl, sl33, ?_⟩
         first
          | (change Oper.wp _ _ _ _ _ _; go_simp; exact hk _ _ rfl (Below.refl _ _))
          | exact rfl
        case o6 =>
         intro AA W KK QQ hB hs hd hl hk
         obtain ⟨_, sl33, rfl⟩ := hd 2 33 (by kernel_rfl) rfl
         obtain ⟨_, sl36, rfl⟩ := hd 5 36 (by kernel_rfl) rfl
         clear hs hd hl
         refine ⟨_, _, rfl, sl33, ?_⟩
         first
          | (change Oper.wp _ _ _ _ _ _; go_simp; exact hk _ _ rfl (Below.refl _ _))
          | exact rfl
        case o7 =>
         intro AA W KK QQ hB hs hd hl hk
         have sl4 := hs 4 _ (by kernel_rfl) rfl
         obtain ⟨_, sl37, rfl⟩ := hd 6 37 (by kernel_rfl) rfl
         clear hs hd hl
         refine ⟨_, _, rfl, sl37, ?_⟩
         first
          | (change Oper.wp _ _ _ _ _ _; go_simp; exact hk _ _ rfl (Below.refl _ _))
          | exact rfl
        case o8 =>
         intro AA W KK QQ hB hs hd hl hk
         have sl4 := hs 4 _ (by kernel_rfl) rfl
         obtain ⟨_, sl37, rfl⟩ := hd 6 37 (by kernel_rfl) rfl
         clear hs hd hl
         refine ⟨_, _, rfl, sl37, ?_⟩
         first
          | (change Oper.wp _ _ _ _ _ _; go_simp; exact hk _ _ rfl (Below.refl _ _))
          | exact rfl
        case o9 =>
         intro AA W KK QQ hB hs hd hl hk
         obtain ⟨_, sl37, rfl⟩ := hd 6 37 (by kernel_rfl) rfl
         obtain ⟨_, sl39, rfl⟩ := hd 8 39 (by kernel_rfl) rfl
         clear hs hd hl
         refine ⟨_, _, rfl, sl37, ?_⟩
         first
          | (change Oper.wp _ _ _ _ _ _; go_simp; exact hk _ _ rfl (Below.refl _ _))
          | exact rfl
        case o10 =>
         intro AA W KK QQ hB hs hd hl hk
         obtain ⟨_, sl37, rfl⟩ := hd 6 37 (by kernel_rfl) rfl
         obtain ⟨_, sl40, rfl⟩ := hd 9 40 (by kernel_rfl) rfl
         clear hs hd hl
         refine ⟨_, _, rfl, sl37, ?_⟩
         first
          | (change Oper.wp _ _ _ _ _ _; go_simp; exact hk _ _ rfl (Below.refl _ _))
          | exact rfl
        case o11 =>
         intro AA W KK QQ hB hs hd hl hk
         obtain ⟨_, sl37, rfl⟩ := hd 6 37 (by kernel_rfl) rfl
         obtain ⟨_, sl38, rfl⟩ := hd 7 38 (by kernel_rfl) rfl
         obtain ⟨_, sl41, rfl⟩ := hd 10 41 (by kernel_rfl) rfl
         clear hs hd hl
         refine ⟨_, _, rfl, sl37, ?_⟩
         first
          | (change Oper.wp _ _ _ _ _ _; go_simp; exact hk _ _ rfl (Below.refl _ _))
          | exact rfl
        case o12 =>
         intro AA W KK QQ hB hs hd hl hk
         obtain ⟨_, sl37, rfl⟩ := hd 6 37 (by kernel_rfl) rfl
         obtain ⟨_, sl42, rfl⟩ := hd 11 42 (by kernel_rfl) rfl
         clear hs hd hl
         refine ⟨_, _, rfl, sl37, ?_⟩
         first
          | (change Oper.wp _ _ _ _ _ _; go_simp; exact hk _ _ rfl (Below.refl _ _))
          | exact rfl
        case o13 =>
         intro AA W KK QQ hB hs hd hl hk
         obtain ⟨_, sl37, rfl⟩ := hd 6 37 (by kernel_rfl) rfl
         obtain ⟨_, sl43, rfl⟩ := hd 12 43 (by kernel_rfl) rfl
         clear hs hd hl
         refine ⟨_, _, rfl, sl37, ?_⟩
         first
          | (change Oper.wp _ _ _ _ _ _; go_simp; exact hk _ _ rfl (Below.refl _ _))
          | exact rfl
        case o14 =>
         intro AA W KK QQ hB hs hd hl hk
         have sl7 := hs 7 _ (by kernel_rfl) rfl
         obtain ⟨_, sl37, rfl⟩ := hd 6 37 (by kernel_rfl) rfl
         clear hs hd hl
         refine ⟨_, _, rfl, sl37, ?_⟩
         first
          | (change Oper.wp _ _ _ _ _ _; go_simp; exact hk _ _ rfl (Below.refl _ _))
          | exact rfl
        case o15 =>
         intro AA W KK QQ hB hs hd hl hk
         obtain ⟨_, sl37, rfl⟩ := hd 6 37 (by kernel_rfl) rfl
         obtain ⟨_, sl45, rfl⟩ := hd 14 45 (by kernel_rfl) rfl
         clear hs hd hl
         refine ⟨_, _, rfl, sl37, ?_⟩
         first
          | (change Oper.wp _ _ _ _ _ _; go_simp; exact hk _ _ rfl (Below.refl _ _))
          | exact rfl
        case o16 =>
         intro AA W KK QQ hB hs hd hl hk
         obtain ⟨_, sl37, rfl⟩ := hd 6 37 (by kernel_rfl) rfl
         obtain ⟨_, sl44, rfl⟩ := hd 13 44 (by kernel_rfl) rfl
         obtain ⟨_, sl46, rfl⟩ := hd 15 46 (by kernel_rfl) rfl
         clear hs hd hl
         refine ⟨_, _, rfl, sl37, ?_⟩
         exact rfl
        case o17 =>
         intro AA W KK QQ hB hs hd hl hk
         obtain ⟨_, sl37, rfl⟩ := hd 6 37 (by kernel_rfl) rfl
         obtain ⟨_, sl47, rfl⟩ := hd 16 47 (by kernel_rfl) rfl
         clear hs hd hl
         refine ⟨_, _, rfl, sl37, ?_⟩
         first
          | (change Oper.wp _ _ _ _ _ _; go_simp; exact hk _ _ rfl (Below.refl _ _))
          | exact rfl
        case o18 =>
         intro AA W KK QQ hB hs hd hl hk
         obtain ⟨_, sl33, rfl⟩ := hd 2 33 (by kernel_rfl) rfl
         obtain ⟨_, sl37, rfl⟩ := hd 6 37 (by kernel_rfl) rfl
         obtain ⟨_, sl48, rfl⟩ := hd 17 48 (by kernel_rfl) rfl
         clear hs hd hl
         refine ⟨_, _, rfl, sl33, ?_⟩
         first
          | (change Oper.wp _ _ _ _ _ _; go_simp; exact hk _ _ rfl (Below.refl _ _))
          | exact rfl
        case o19 =>
         intro AA W KK QQ hB hs hd hl hk
         obtain ⟨_, sl33, rfl⟩ := hd 2 33 (by kernel_rfl) rfl
         obtain ⟨_, sl49, rfl⟩ := hd 18 49 (by kernel_rfl) rfl
         clear hs hd hl
         go_simp
         exact hk _ _ rfl (Below.refl _ _)
       case fin =>
        intro wf hB
        refine fin_isv 31 rfl ?_
        refine fin_isv 32 rfl ?_
        refine fin_isv 33 rfl ?_
        refine fin_isv 34 rfl ?_
        refine fin_isv 35 rfl ?_
        refine fin_isv 36 rfl ?_
        refine fin_isv 37 rfl ?_
        refine fin_isv 38 rfl ?_
        refine fin_isv 39 rfl ?_
        refine fin_isv 40 rfl ?_
        refine fin_isv 41 rfl ?_
        refine fin_isv 42 rfl ?_
        refine fin_isv 43 rfl ?_
        refine fin_isv 44 rfl ?_
        refine fin_isv 45 rfl ?_
        refine fin_isv 46 rfl ?_
        refine fin_isv 47 rfl ?_
        refine fin_isv 48 rfl ?_
        refine fin_isv 49 rfl ?_
        refine fin_isv 50 rfl ?_
        refine frame71_a16d8fd816 _ _ _ _ _ _ _ _ _ _ _ _ _ _ _ _ _ _ _ _ _ _ _ _ _ _ _ _ _ _ _ _ _ _ _ _ _ _ _ _ _ _ _ _ _ _ _ _ _ _ _ _ _ _ _ _ _ _ _ _ _ _ _ _ _ _ _ _ _ _ _ _ _ _ _ _ _ _ _ _ _ _ _ _ _ _ _ _ _ _ _ ?_
        have V6 := V5.out.keep hB
        obtain ⟨t0, t1, t2, t3, t4⟩ := entC V6
        have HO6 := Lib.hid (own_below2 HO5.out hB)
        have HQ6 := Lib.hid (HQ5.out.keep hB)
        have HBf := Lib.hid (HB5.out.trans (hB.mono HB5.out.size))
        have hzf := Nat.le_trans hz5 hB.size
        have HWA := Lib.hid (show Below wf.heap.size wf (wf.alloc (.cells #[.string ⟨x.1.1.toArray⟩, .int .i64 x.1.2.1, .int .i64 x.1.2.2.1, .int .i64 x.1.2.2.2, .string ⟨x.2.toArray⟩] 50)) from (Below.refl _ _).alloc (Nat.le_refl _) _)
        have HOA := Lib.hid (own_below2 HO6.out HWA.out)
        have b0 : 0 + 1 ≤ maxLen := by unfold maxLen; omega
        have b1 : (0 + 1) * 56 ≤ 140737488355328 := by omega
        have hbz : w.heap.size + 1 ≤ (wf.alloc (.cells #[.string ⟨x.1.1.toArray⟩, .int .i64 x.1.2.1, .int .i64 x.1.2.2.1, .int .i64 x.1.2.2.2, .string ⟨x.2.toArray⟩] 50)).heap.size := by simp; omega
        clear hB V6
        go_wp2_with (at_builtin; refine wpList_own rfl (.tmp 55) (.tmp 57) rfl (w.heap.size + 1) elEntR (.slice Av 0 cv) 0 _ rfl HOA.out _ 1 _ _ rfl (Src.lit _ 5 _ _ 1 rfl) (by decide) (by simp [Value.oneCell']) b0 b1 hbz ?_; intro v' w7 hown7 hgrow7 hb7; obtain ⟨A8, c8, rfl⟩ := Acc.shape (.inl hown7); have HOWN := Lib.hid hown7; have HG7 := Lib.hid hgrow7; have HB7 := Lib.hid hb7; clear hown7 hgrow7 hb7)
        have HQ7 := Lib.hid (show Blk w7 w.heap.size 42 #[.int .i64 0, .int .i64 0] from (HG7.out.block w.heap.size (by simp; omega) (fun h => own_apart HOA.out (Nat.lt_succ_self w.heap.size) h.symm)).trans (HQ6.out.keep HWA.out))
        have HBn := Lib.hid ((HBf.out.trans (HWA.out.mono HBf.out.size)).trans (HB7.out.mono (Nat.le_succ _)))
        go_roundw
        case rel => exact ⟨k + 1, k + 1, [x], A8, c8, by omega, Nat.le_refl _, by simp, rfl, by go_num, by go_num, Lib.hid (by simpa [encE] using HOWN.out), HQ7, HBn, HRn, Lib.hid (fun j h1 h2 => by omega)⟩
        case measure => first | (simp [intOf]; done) | (simp [intOf]; omega)
    ·obtain ⟨kk, hkk⟩ : ∃ kk, kk + 1 = out.length := ⟨out.length - 1, by omega⟩
     have hkl : kk < out.length := by omega
     obtain ⟨z, hz⟩ : ∃ z, z = out[kk]'hkl := ⟨_, rfl⟩
     have hzk := Lib.hid (show out[kk]'hkl = z from hz.symm)
     have hlast := Lib.hid (show out.getLast? = some z by
      rw [List.getLast?_eq_getElem?, show out.length - 1 = kk by omega, List.getElem?_eq_getElem hkl, hzk.out])
     have hop : (0 : Int) < (out.length : Int) := by omega
     have hji : (kk : Int) < (out.length : Int) := by omega
     have hj0 : (0 : Int) ≤ (kk : Int) := by omega
     have hjw : IntKind.i64.wrap ((out.length : Int) - 1) = (kk : Int) := by simp [IntKind.wrap, IntKind.bits, IntKind.signed]; omega
     clear hz hkk
     go_wp2_with fail
     refine cE.out.mono ?_
     rintro e w4 ⟨x, rfl, hx, hb4⟩
     have HX4 := Lib.hid hb4
     clear cE
     have HX := Lib.hid hx
     have HA5 := Lib.hid (show Below w4.heap.size w4 (w4.alloc (.cells #[.string ⟨x.1.1.toArray⟩, .int .i64 x.1.2.1, .int .i64 x.1.2.2.1, .int .i64 x.1.2.2.2, .string ⟨x.2.toArray⟩] 50)) from (Below.refl _ _).alloc (Nat.le_refl _) _)
     have V5 := Lib.hid (Blk.new w4 50 #[.string ⟨x.1.1.toArray⟩, .int .i64 x.1.2.1, .int .i64 x.1.2.2.1, .int .i64 x.1.2.2.2, .string ⟨x.2.toArray⟩])
     have HX5 := Lib.hid (HX4.out.trans (HA5.out.mono HX4.out.size))
     have HB5 := Lib.hid (HB.out.trans (HX5.out.mono HB.out.size))
     have HQ5 := Lib.hid (HQ.out.keep HX5.out)
     have HO5 := Lib.hid (own_below2 HO.out HX5.out)
     have hv4 : w4.heap.size < (w4.alloc (.cells #[.string ⟨x.1.1.toArray⟩, .int .i64 x.1.2.1, .int .i64 x.1.2.2.1, .int .i64 x.1.2.2.2, .string ⟨x.2.toArray⟩] 50)).heap.size := by simp
     have hz5 : w.heap.size < (w4.alloc (.cells #[.string ⟨x.1.1.toArray⟩, .int .i64 x.1.2.1, .int .i64 x.1.2.2.1, .int .i64 x.1.2.2.2, .string ⟨x.2.toArray⟩] 50)).heap.size := Nat.lt_of_lt_of_le hz1 HX5.out.size
     clear hx hb4
     cases hre : re with
     | none =>
       have HRes := Lib.hid (show r = ([], 8, out.length + 1) from by rw [HRr.out, HLU.out, hre] <;> rfl)
       subst hre
       clear HLU HX
       go_upto_region 10 with fail
       generalize hw5 : w4.alloc (.cells #[.string ⟨x.1.1.toArray⟩, .int .i64 x.1.2.1, .int .i64 x.1.2.2.1, .int .i64 x.1.2.2.2, .string ⟨x.2.toArray⟩] 50) = w5 at HQ5 HB5 HO5 V5 HX5 HA5 hv4 hz5 ⊢
       apply wp_region_facts (by kernel_rfl) [isv _, isv _, isv _, isv _, isv _, isv _, isv _, isv _, isv _, isv _, isv _, isv _, isv _, isv _, isv _, isv _, isv _, isv _, isv _, isv _] w5.heap.size w5 (Nat.le_refl _) (Below.refl _ _).drew (by kernel_rfl) (by kernel_rfl) (by kernel_rfl) (And.intro (isv_mono _) (And.intro (isv_mono _) (And.intro (isv_mono _) (And.intro (isv_mono _) (And.intro (isv_mono _) (And.intro (isv_mono _) (And.intro (isv_mono _) (And.intro (isv_mono _) (And.intro (isv_mono _) (And.intro (isv_mono _) (And.intro (isv_mono _) (And.intro (isv_mono _) (And.intro (isv_mono _) (And.intro (isv_mono _) (And.intro (isv_mono _) (And.intro (isv_mono _) (And.intro (isv_mono _) (And.intro (isv_mono _) (And.intro (isv_mono _) (And.intro (isv_mono _) trivial)))))))))))))))))))) ?steps (by rfl) ?fin
       case steps =>
        refine (And.intro ?o0 (And.intro ?o1 (And.intro ?o2 (And.intro ?o3 (And.intro ?o4 (And.intro ?o5 (And.intro ?o6 (And.intro ?o7 (And.intro ?o8 (And.intro ?o9 (And.intro ?o10 (And.intro ?o11 (And.intro ?o12 (And.intro ?o13 (And.intro ?o14 (And.intro ?o15 (And.intro ?o16 (And.intro ?o17 (And.intro ?o18 (And.intro ?o19 trivial))))))))))))))))))))
        case o0 =>
         intro AA W KK QQ hB hs hd hl hk
         have sl8 := hs 8 _ (by kernel_rfl) rfl
         clear hs hd hl
         go_simp
         exact hk _ _ rfl (Below.refl _ _)
        case o1 =>
         intro AA W KK QQ hB hs hd hl hk
         obtain ⟨_, sl31, rfl⟩ := hd 0 31 (by kernel_rfl) rfl
         clear hs hd hl
         go_simp
         exact hk _ _ rfl (Below.refl _ _)
        case o2 =>
         intro AA W KK QQ hB hs hd hl hk
         obtain ⟨_, sl32, rfl⟩ := hd 1 32 (by kernel_rfl) rfl
         clear hs hd hl
         go_simp
         exact hk _ _ rfl (Below.refl _ _)
        case o3 =>
         intro AA W KK QQ hB hs hd hl hk
         have sl4 := hs 4 _ (by kernel_rfl) rfl
         obtain ⟨_, sl33, rfl⟩ := hd 2 33 (by kernel_rfl) rfl
         clear hs hd hl
         refine ⟨_, _, rfl, sl33, ?_⟩
         first
          | (change Oper.wp _ _ _ _ _ _; go_simp; exact hk _ _ rfl (Below.refl _ _))
          | exact rfl
        case o4 =>
         intro AA W KK QQ hB hs hd hl hk
         obtain ⟨_, sl33, rfl⟩ := hd 2 33 (by kernel_rfl) rfl
         obtain ⟨_, sl34, rfl⟩ := hd 3 34 (by kernel_rfl) rfl
         clear hs hd hl
         refine ⟨_, _, rfl, sl33, ?_⟩
         first
          | (change Oper.wp _ _ _ _ _ _; go_simp; exact hk _ _ rfl (Below.refl _ _))
          | exact rfl
        case o5 =>
         intro AA W KK QQ hB hs hd hl hk
         obtain ⟨_, sl33, rfl⟩ := hd 2 33 (by kernel_rfl) rfl
         obtain ⟨_, sl35, rfl⟩ := hd 4 35 (by kernel_rfl) rfl
         clear hs hd hl
         refine ⟨_, _, rfl, sl33, ?_⟩
         first
          | (change Oper.wp _ _ _ _ _ _; go_simp; exact hk _ _ rfl (Below.refl _ _))
          | exact rfl
        case o6 =>
         intro AA W KK QQ hB hs hd hl hk
         obtain ⟨_, sl33, rfl⟩ := hd 2 33 (by kernel_rfl) rfl
         obtain ⟨_, sl36, rfl⟩ := hd 5 36 (by kernel_rfl) rfl
         clear hs hd hl
         refine ⟨_, _, rfl, sl33, ?_⟩
         first
          | (change Oper.wp _ _ _ _ _ _; go_simp; exact hk _ _ rfl (Below.refl _ _))
          | exact rfl
        case o7 =>
         intro AA W KK QQ hB hs hd hl hk
         have sl4 := hs 4 _ (by kernel_rfl) rfl
         obtain ⟨_, sl37, rfl⟩ := hd 6 37 (by kernel_rfl) rfl
         clear hs hd hl
         refine ⟨_, _, rfl, sl37, ?_⟩
         first
          | (change Oper.wp _ _ _ _ _ _; go_simp; exact hk _ _ rfl (Below.refl _ _))
          | exact rfl
        case o8 =>
         intro AA W KK QQ hB hs hd hl hk
         have sl4 := hs 4 _ (by kernel_rfl) rfl
         obtain ⟨_, sl37, rfl⟩ := hd 6 37 (by kernel_rfl) rfl
         clear hs hd hl
         refine ⟨_, _, rfl, sl37, ?_⟩
         first
          | (change Oper.wp _ _ _ _ _ _; go_simp; exact hk _ _ rfl (Below.refl _ _))
          | exact rfl
        case o9 =>
         intro AA W KK QQ hB hs hd hl hk
         obtain ⟨_, sl37, rfl⟩ := hd 6 37 (by kernel_rfl) rfl
         obtain ⟨_, sl39, rfl⟩ := hd 8 39 (by kernel_rfl) rfl
         clear hs hd hl
         refine ⟨_, _, rfl, sl37, ?_⟩
         first
          | (change Oper.wp _ _ _ _ _ _; go_simp; exact hk _ _ rfl (Below.refl _ _))
          | exact rfl
        case o10 =>
         intro AA W KK QQ hB hs hd hl hk
         obtain ⟨_, sl37, rfl⟩ := hd 6 37 (by kernel_rfl) rfl
         obtain ⟨_, sl40, rfl⟩ := hd 9 40 (by kernel_rfl) rfl
         clear hs hd hl
         refine ⟨_, _, rfl, sl37, ?_⟩
         first
          | (change Oper.wp _ _ _ _ _ _; go_simp; exact hk _ _ rfl (Below.refl _ _))
          | exact rfl
        case o11 =>
         intro AA W KK QQ hB hs hd hl hk
         obtain ⟨_, sl37, rfl⟩ := hd 6 37 (by kernel_rfl) rfl
         obtain ⟨_, sl38, rfl⟩ := hd 7 38 (by kernel_rfl) rfl
         obtain ⟨_, sl41, rfl⟩ := hd 10 41 (by kernel_rfl) rfl
         clear hs hd hl
         refine ⟨_, _, rfl, sl37, ?_⟩
         first
          | (change Oper.wp _ _ _ _ _ _; go_simp; exact hk _ _ rfl (Below.refl _ _))
          | exact rfl
        case o12 =>
         intro AA W KK QQ hB hs hd hl hk
         obtain ⟨_, sl37, rfl⟩ := hd 6 37 (by kernel_rfl) rfl
         obtain ⟨_, sl42, rfl⟩ := hd 11 42 (by kernel_rfl) rfl
         clear hs hd hl
         refine ⟨_, _, rfl, sl37, ?_⟩
         first
          | (change Oper.wp _ _ _ _ _ _; go_simp; exact hk _ _ rfl (Below.refl _ _))
          | exact rfl
        case o13 =>
         intro AA W KK QQ hB hs hd hl hk
         obtain ⟨_, sl37, rfl⟩ := hd 6 37 (by kernel_rfl) rfl
         obtain ⟨_, sl43, rfl⟩ := hd 12 43 (by kernel_rfl) rfl
         clear hs hd hl
         refine ⟨_, _, rfl, sl37, ?_⟩
         first
          | (change Oper.wp _ _ _ _ _ _; go_simp; exact hk _ _ rfl (Below.refl _ _))
          | exact rfl
        case o14 =>
         intro AA W KK QQ hB hs hd hl hk
         have sl7 := hs 7 _ (by kernel_rfl) rfl
         obtain ⟨_, sl37, rfl⟩ := hd 6 37 (by kernel_rfl) rfl
         clear hs hd hl
         refine ⟨_, _, rfl, sl37, ?_⟩
         first
          | (change Oper.wp _ _ _ _ _ _; go_simp; exact hk _ _ rfl (Below.refl _ _))
          | exact rfl
        case o15 =>
         intro AA W KK QQ hB hs hd hl hk
         obtain ⟨_, sl37, rfl⟩ := hd 6 37 (by kernel_rfl) rfl
         obtain ⟨_, sl45, rfl⟩ := hd 14 45 (by kernel_rfl) rfl
         clear hs hd hl
         refine ⟨_, _, rfl, sl37, ?_⟩
         first
          | (change Oper.wp _ _ _ _ _ _; go_simp; exact hk _ _ rfl (Below.refl _ _))
          | exact rfl
        case o16 =>
         intro AA W KK QQ hB hs hd hl hk
         obtain ⟨_, sl37, rfl⟩ := hd 6 37 (by kernel_rfl) rfl
         obtain ⟨_, sl44, rfl⟩ := hd 13 44 (by kernel_rfl) rfl
         obtain ⟨_, sl46, rfl⟩ := hd 15 46 (by kernel_rfl) rfl
         clear hs hd hl
         refine ⟨_, _, rfl, sl37, ?_⟩
         exact rfl
        case o17 =>
         intro AA W KK QQ hB hs hd hl hk
         obtain ⟨_, sl37, rfl⟩ := hd 6 37 (by kernel_rfl) rfl
         obtain ⟨_, sl47, rfl⟩ := hd 16 47 (by kernel_rfl) rfl
         clear hs hd hl
         refine ⟨_, _, rfl, sl37, ?_⟩
         first
          | (change Oper.wp _ _ _ _ _ _; go_simp; exact hk _ _ rfl (Below.refl _ _))
          | exact rfl
        case o18 =>
         intro AA W KK QQ hB hs hd hl hk
         obtain ⟨_, sl33, rfl⟩ := hd 2 33 (by kernel_rfl) rfl
         obtain ⟨_, sl37, rfl⟩ := hd 6 37 (by kernel_rfl) rfl
         obtain ⟨_, sl48, rfl⟩ := hd 17 48 (by kernel_rfl) rfl
         clear hs hd hl
         refine ⟨_, _, rfl, sl33, ?_⟩
         first
          | (change Oper.wp _ _ _ _ _ _; go_simp; exact hk _ _ rfl (Below.refl _ _))
          | exact rfl
        case o19 =>
         intro AA W KK QQ hB hs hd hl hk
         obtain ⟨_, sl33, rfl⟩ := hd 2 33 (by kernel_rfl) rfl
         obtain ⟨_, sl49, rfl⟩ := hd 18 49 (by kernel_rfl) rfl
         clear hs hd hl
         go_simp
         exact hk _ _ rfl (Below.refl _ _)
       case fin =>
        intro wf hB
        refine fin_isv 31 rfl ?_
        refine fin_isv 32 rfl ?_
        refine fin_isv 33 rfl ?_
        refine fin_isv 34 rfl ?_
        refine fin_isv 35 rfl ?_
        refine fin_isv 36 rfl ?_
        refine fin_isv 37 rfl ?_
        refine fin_isv 38 rfl ?_
        refine fin_isv 39 rfl ?_
        refine fin_isv 40 rfl ?_
        refine fin_isv 41 rfl ?_
        refine fin_isv 42 rfl ?_
        refine fin_isv 43 rfl ?_
        refine fin_isv 44 rfl ?_
        refine fin_isv 45 rfl ?_
        refine fin_isv 46 rfl ?_
        refine fin_isv 47 rfl ?_
        refine fin_isv 48 rfl ?_
        refine fin_isv 49 rfl ?_
        refine fin_isv 50 rfl ?_
        refine frame71_a16d8fd816 _ _ _ _ _ _ _ _ _ _ _ _ _ _ _ _ _ _ _ _ _ _ _ _ _ _ _ _ _ _ _ _ _ _ _ _ _ _ _ _ _ _ _ _ _ _ _ _ _ _ _ _ _ _ _ _ _ _ _ _ _ _ _ _ _ _ _ _ _ _ _ _ _ _ _ _ _ _ _ _ _ _ _ _ _ _ _ _ _ _ _ ?_
        obtain ⟨k0, k1⟩ := fltC (HQ5.out.keep hB)
        obtain ⟨f0, f1⟩ := fltF (HQ5.out.keep hB)
        have HBf := Lib.hid (HB5.out.trans (hB.mono HB5.out.size))
        clear hB
        have HBF := Lib.hid ((HBf.out.setCell (p := ⟨w.heap.size, 0, none⟩) (Nat.le_refl _) (.int .i64 8)).setCell (p := ⟨w.heap.size, 1, none⟩) (Nat.le_refl _) (.int .i64 ((out.length : Int) + 1)))
        go_wp2
        first | rw [Exit.noGoto_ret] | skip
        refine bodyPost_ret (v := .tuple #[.slice none 0 0, .agg #[.int .i64 8, .int .i64 ((out.length : Int) + 1)]]) (by simp [results, Tryz.results20, go_sem, k0, k1]) rfl ?_
        exact ⟨none, 0, by rw [HRes.out]; rfl, by rw [HRes.out]; exact Sl.nil_, HBF.out⟩
     | some y =>
       obtain rfl : x = y := HX.out y hre
       have HRs := Lib.hid (show r = if fitsE out x = true then unlL (out ++ [x]) (splitL 10 (s.drop (k + 1))) else ([], 8, out.length + 1) from by rw [HRr.out, HLU.out, hre] <;> rfl)
       have HFit := Lib.hid (show fitsE out x = decide (mcmp z.1 x.1 < 0) from fits_last hlast.out)
       subst hre
       have cC := Lib.hid (fun W (_ : Below (w4.alloc (.cells #[.string ⟨x.1.1.toArray⟩, .int .i64 x.1.2.1, .int .i64 x.1.2.2.1, .int .i64 x.1.2.2.2, .string ⟨x.2.toArray⟩] 50)).heap.size (w4.alloc (.cells #[.string ⟨x.1.1.toArray⟩, .int .i64 x.1.2.1, .int .i64 x.1.2.2.1, .int .i64 x.1.2.2.2, .string ⟨x.2.toArray⟩] 50)) W) => (mrefCompare_any z.1.1 x.1.1 z.1.2.1 z.1.2.2.1 z.1.2.2.2 x.1.2.1 x.1.2.2.1 x.1.2.2.2 W).mono fun e w' h => (show e = .returned (.int .i64 (mcmp z.1 x.1)) ∧ Below W.heap.size W w' from ⟨h.1, h.2⟩))
       have hS5 := Acc.slAny (.inl HO5.out) encE_len5 (by decide)
       obtain ⟨bl, ol, hA1, hbl, u0, u1, u2, u3, _⟩ := hS5.ent (i := kk) hkl
       rw [hzk.out] at u0 u1 u2 u3
       have HA1 := Lib.hid hA1
       subst hA1
       obtain ⟨t0, t1, t2, t3, t4⟩ := entC V5.out
       generalize mcmp z.1 x.1 = cm at cC HFit
       clear HLU HX HRr hS5
       by_cases hcm : cm < 0
       ·have HRn := Lib.hid (show r = unlL (out ++ [x]) (splitL 10 (s.drop (k + 1))) from by rw [HRs.out, HFit.out, decide_eq_true hcm] <;> rfl)
        have hcn : ¬ (0 ≤ cm) := by omega
        have hcg : decide (cm ≥ 0) = false := decide_eq_false (by omega)
        clear HRs HFit
        go_upto_region 10 with fail
        generalize hw5 : w4.alloc (.cells #[.string ⟨x.1.1.toArray⟩, .int .i64 x.1.2.1, .int .i64 x.1.2.2.1, .int .i64 x.1.2.2.2, .string ⟨x.2.toArray⟩] 50) = w5 at HQ5 HB5 HO5 V5 HX5 HA5 hv4 hz5 cC hbl u0 u1 u2 u3 t0 t1 t2 t3 t4 ⊢
        apply wp_region_facts (by kernel_rfl) [isv _, isv _, isv _, isv _, isv _, isv _, isv _, isv _, isv _, isv _, isv _, isv _, isv _, isv _, isv _, isv _, isv _, isv _, isv _, isv _] w5.heap.size w5 (Nat.le_refl _) (Below.refl _ _).drew (by kernel_rfl) (by kernel_rfl) (by kernel_rfl) (And.intro (isv_mono _) (And.intro (isv_mono _) (And.intro (isv_mono _) (And.intro (isv_mono _) (And.intro (isv_mono _) (And.intro (isv_mono _) (And.intro (isv_mono _) (And.intro (isv_mono _) (And.intro (isv_mono _) (And.intro (isv_mono _) (And.intro (isv_mono _) (And.intro (isv_mono _) (And.intro (isv_mono _) (And.intro (isv_mono _) (And.intro (isv_mono _) (And.intro (isv_mono _) (And.intro (isv_mono _) (And.intro (isv_mono _) (And.intro (isv_mono _) (And.intro (isv_mono _) trivial)))))))))))))))))))) ?steps (by rfl) ?fin
        case steps =>
         refine (And.intro ?o0 (And.intro ?o1 (And.intro ?o2 (And.intro ?o3 (And.intro ?o4 (And.intro ?o5 (And.intro ?o6 (And.intro ?o7 (And.intro ?o8 (And.intro ?o9 (And.intro ?o10 (And.intro ?o11 (And.intro ?o12 (And.intro ?o13 (And.intro ?o14 (And.intro ?o15 (And.intro ?o16 (And.intro ?o17 (And.intro ?o18 (And.intro ?o19 trivial))))))))))))))))))))
         case o0 =>
          intro AA W KK QQ hB hs hd hl hk
          have sl8 := hs 8 _ (by kernel_rfl) rfl
          clear hs hd hl
          go_simp
          exact hk _ _ rfl (Below.refl _ _)
         case o1 =>
          intro AA W KK QQ hB hs hd hl hk
          obtain ⟨_, sl31, rfl⟩ := hd 0 31 (by kernel_rfl) rfl
          clear hs hd hl
          go_simp
          exact hk _ _ rfl (Below.refl _ _)
         case o2 =>
          intro AA W KK QQ hB hs hd hl hk
          obtain ⟨_, sl32, rfl⟩ := hd 1 32 (by kernel_rfl) rfl
          clear hs hd hl
          go_simp
          exact hk _ _ rfl (Below.refl _ _)
         case o3 =>
          intro AA W KK QQ hB hs hd hl hk
          have sl4 := hs 4 _ (by kernel_rfl) rfl
          obtain ⟨_, sl33, rfl⟩ := hd 2 33 (by kernel_rfl) rfl
          clear hs hd hl
          refine ⟨_, _, rfl, sl33, ?_⟩
          first
           | (change Oper.wp _ _ _ _ _ _; go_simp; exact hk _ _ rfl (Below.refl _ _))
           | exact rfl
         case o4 =>
          intro AA W KK QQ hB hs hd hl hk
          obtain ⟨_, sl33, rfl⟩ := hd 2 33 (by kernel_rfl) rfl
          obtain ⟨_, sl34, rfl⟩ := hd 3 34 (by kernel_rfl) rfl
          clear hs hd hl
          refine ⟨_, _, rfl, sl33, ?_⟩
          first
           | (change Oper.wp _ _ _ _ _ _; go_simp; exact hk _ _ rfl (Below.refl _ _))
           | exact rfl
         case o5 =>
          intro AA W KK QQ hB hs hd hl hk
          obtain ⟨_, sl33, rfl⟩ := hd 2 33 (by kernel_rfl) rfl
          obtain ⟨_, sl35, rfl⟩ := hd 4 35 (by kernel_rfl) rfl
          clear hs hd hl
          refine ⟨_, _, rfl, sl33, ?_⟩
          first
           | (change Oper.wp _ _ _ _ _ _; go_simp; exact hk _ _ rfl (Below.refl _ _))
           | exact rfl
         case o6 =>
          intro AA W KK QQ hB hs hd hl hk
          obtain ⟨_, sl33, rfl⟩ := hd 2 33 (by kernel_rfl) rfl
          obtain ⟨_, sl36, rfl⟩ := hd 5 36 (by kernel_rfl) rfl
          clear hs hd hl
          refine ⟨_, _, rfl, sl33, ?_⟩
          first
           | (change Oper.wp _ _ _ _ _ _; go_simp; exact hk _ _ rfl (Below.refl _ _))
           | exact rfl
         case o7 =>
          intro AA W KK QQ hB hs hd hl hk
          have sl4 := hs 4 _ (by kernel_rfl) rfl
          obtain ⟨_, sl37, rfl⟩ := hd 6 37 (by kernel_rfl) rfl
          clear hs hd hl
          refine ⟨_, _, rfl, sl37, ?_⟩
          first
           | (change Oper.wp _ _ _ _ _ _; go_simp; exact hk _ _ rfl (Below.refl _ _))
           | exact rfl
         case o8 =>
          intro AA W KK QQ hB hs hd hl hk
          have sl4 := hs 4 _ (by kernel_rfl) rfl
          obtain ⟨_, sl37, rfl⟩ := hd 6 37 (by kernel_rfl) rfl
          clear hs hd hl
          refine ⟨_, _, rfl, sl37, ?_⟩
          first
           | (change Oper.wp _ _ _ _ _ _; go_simp; exact hk _ _ rfl (Below.refl _ _))
           | exact rfl
         case o9 =>
          intro AA W KK QQ hB hs hd hl hk
          obtain ⟨_, sl37, rfl⟩ := hd 6 37 (by kernel_rfl) rfl
          obtain ⟨_, sl39, rfl⟩ := hd 8 39 (by kernel_rfl) rfl
          clear hs hd hl
          refine ⟨_, _, rfl, sl37, ?_⟩
          first
           | (change Oper.wp _ _ _ _ _ _; go_simp; exact hk _ _ rfl (Below.refl _ _))
           | exact rfl
         case o10 =>
          intro AA W KK QQ hB hs hd hl hk
          obtain ⟨_, sl37, rfl⟩ := hd 6 37 (by kernel_rfl) rfl
          obtain ⟨_, sl40, rfl⟩ := hd 9 40 (by kernel_rfl) rfl
          clear hs hd hl
          refine ⟨_, _, rfl, sl37, ?_⟩
          first
           | (change Oper.wp _ _ _ _ _ _; go_simp; exact hk _ _ rfl (Below.refl _ _))
           | exact rfl
         case o11 =>
          intro AA W KK QQ hB hs hd hl hk
          obtain ⟨_, sl37, rfl⟩ := hd 6 37 (by kernel_rfl) rfl
          obtain ⟨_, sl38, rfl⟩ := hd 7 38 (by kernel_rfl) rfl
          obtain ⟨_, sl41, rfl⟩ := hd 10 41 (by kernel_rfl) rfl
          clear hs hd hl
          refine ⟨_, _, rfl, sl37, ?_⟩
          first
           | (change Oper.wp _ _ _ _ _ _; go_simp; exact hk _ _ rfl (Below.refl _ _))
           | exact rfl
         case o12 =>
          intro AA W KK QQ hB hs hd hl hk
          obtain ⟨_, sl37, rfl⟩ := hd 6 37 (by kernel_rfl) rfl
          obtain ⟨_, sl42, rfl⟩ := hd 11 42 (by kernel_rfl) rfl
          clear hs hd hl
          refine ⟨_, _, rfl, sl37, ?_⟩
          first
           | (change Oper.wp _ _ _ _ _ _; go_simp; exact hk _ _ rfl (Below.refl _ _))
           | exact rfl
         case o13 =>
          intro AA W KK QQ hB hs hd hl hk
          obtain ⟨_, sl37, rfl⟩ := hd 6 37 (by kernel_rfl) rfl
          obtain ⟨_, sl43, rfl⟩ := hd 12 43 (by kernel_rfl) rfl
          clear hs hd hl
          have hx0 := hB.cell (p := ⟨bl, ol + kk * 5, none⟩) hbl
          have hx1 := hB.cell (p := ⟨bl, ol + kk * 5 + 1, none⟩) hbl
          have hx2 := hB.cell (p := ⟨bl, ol + kk * 5 + 2, none⟩) hbl
          have hx3 := hB.cell (p := ⟨bl, ol + kk * 5 + 3, none⟩) hbl
          rw [u0] at hx0
          rw [u1] at hx1
          rw [u2] at hx2
          rw [u3] at hx3
          refine ⟨_, _, rfl, sl37, ?_⟩
          first
           | (change Oper.wp _ _ _ _ _ _; go_simp; exact hk _ _ rfl (Below.refl _ _))
           | exact rfl
         case o14 =>
          intro AA W KK QQ hB hs hd hl hk
          have sl7 := hs 7 _ (by kernel_rfl) rfl
          obtain ⟨_, sl37, rfl⟩ := hd 6 37 (by kernel_rfl) rfl
          clear hs hd hl
          refine ⟨_, _, rfl, sl37, ?_⟩
          first
           | (change Oper.wp _ _ _ _ _ _; go_simp; exact hk _ _ rfl (Below.refl _ _))
           | exact rfl
         case o15 =>
          intro AA W KK QQ hB hs hd hl hk
          obtain ⟨_, sl37, rfl⟩ := hd 6 37 (by kernel_rfl) rfl
          obtain ⟨_, sl45, rfl⟩ := hd 14 45 (by kernel_rfl) rfl
          clear hs hd hl
          have hy0 := hB.cell (p := ⟨w4.heap.size, 0, none⟩) hv4
          have hy1 := hB.cell (p := ⟨w4.heap.size, 1, none⟩) hv4
          have hy2 := hB.cell (p := ⟨w4.heap.size, 2, none⟩) hv4
          have hy3 := hB.cell (p := ⟨w4.heap.size, 3, none⟩) hv4
          rw [t0] at hy0
          rw [t1] at hy1
          rw [t2] at hy2
          rw [t3] at hy3
          refine ⟨_, _, rfl, sl37, ?_⟩
          first
           | (change Oper.wp _ _ _ _ _ _; go_simp; exact hk _ _ rfl (Below.refl _ _))
           | exact rfl
         case o16 =>
          intro AA W KK QQ hB hs hd hl hk
          obtain ⟨_, sl37, rfl⟩ := hd 6 37 (by kernel_rfl) rfl
          obtain ⟨_, sl44, rfl⟩ := hd 13 44 (by kernel_rfl) rfl
          obtain ⟨_, sl46, rfl⟩ := hd 15 46 (by kernel_rfl) rfl
          clear hs hd hl
          refine ⟨_, _, rfl, sl37, ?_⟩
          change Oper.wp _ _ _ _ _ _
          go_simp
          refine (cC.out W hB).mono ?_
          rintro e W2 ⟨rfl, hb2⟩
          exact hk _ _ rfl hb2
         case o17 =>
          intro AA W KK QQ hB hs hd hl hk
          obtain ⟨_, sl37, rfl⟩ := hd 6 37 (by kernel_rfl) rfl
          obtain ⟨_, sl47, rfl⟩ := hd 16 47 (by kernel_rfl) rfl
          clear hs hd hl
          refine ⟨_, _, rfl, sl37, ?_⟩
          first
           | (change Oper.wp _ _ _ _ _ _; go_simp; exact hk _ _ rfl (Below.refl _ _))
           | exact rfl
         case o18 =>
          intro AA W KK QQ hB hs hd hl hk
          obtain ⟨_, sl33, rfl⟩ := hd 2 33 (by kernel_rfl) rfl
          obtain ⟨_, sl37, rfl⟩ := hd 6 37 (by kernel_rfl) rfl
          obtain ⟨_, sl48, rfl⟩ := hd 17 48 (by kernel_rfl) rfl
          clear hs hd hl
          refine ⟨_, _, rfl, sl33, ?_⟩
          first
           | (change Oper.wp _ _ _ _ _ _; go_simp; exact hk _ _ rfl (Below.refl _ _))
           | exact rfl
         case o19 =>
          intro AA W KK QQ hB hs hd hl hk
          obtain ⟨_, sl33, rfl⟩ := hd 2 33 (by kernel_rfl) rfl
          obtain ⟨_, sl49, rfl⟩ := hd 18 49 (by kernel_rfl) rfl
          clear hs hd hl
          go_simp
          exact hk _ _ rfl (Below.refl _ _)
        case fin =>
         intro wf hB
         refine fin_isv 31 rfl ?_
         refine fin_isv 32 rfl ?_
         refine fin_isv 33 rfl ?_
         refine fin_isv 34 rfl ?_
         refine fin_isv 35 rfl ?_
         refine fin_isv 36 rfl ?_
         refine fin_isv 37 rfl ?_
         refine fin_isv 38 rfl ?_
         refine fin_isv 39 rfl ?_
         refine fin_isv 40 rfl ?_
         refine fin_isv 41 rfl ?_
         refine fin_isv 42 rfl ?_
         refine fin_isv 43 rfl ?_
         refine fin_isv 44 rfl ?_
         refine fin_isv 45 rfl ?_
         refine fin_isv 46 rfl ?_
         refine fin_isv 47 rfl ?_
         refine fin_isv 48 rfl ?_
         refine fin_isv 49 rfl ?_
         refine fin_isv 50 rfl ?_
         refine frame71_a16d8fd816 _ _ _ _ _ _ _ _ _ _ _ _ _ _ _ _ _ _ _ _ _ _ _ _ _ _ _ _ _ _ _ _ _ _ _ _ _ _ _ _ _ _ _ _ _ _ _ _ _ _ _ _ _ _ _ _ _ _ _ _ _ _ _ _ _ _ _ _ _ _ _ _ _ _ _ _ _ _ _ _ _ _ _ _ _ _ _ _ _ _ _ ?_
         clear t0 t1 t2 t3 t4 u0 u1 u2 u3
         have V6 := V5.out.keep hB
         obtain ⟨t0, t1, t2, t3, t4⟩ := entC V6
         have HO6 := Lib.hid (own_below2 HO5.out hB)
         have HQ6 := Lib.hid (HQ5.out.keep hB)
         have HBf := Lib.hid (HB5.out.trans (hB.mono HB5.out.size))
         have hzf := Nat.le_trans hz5 hB.size
         have HWA := Lib.hid (show Below wf.heap.size wf (wf.alloc (.cells #[.string ⟨x.1.1.toArray⟩, .int .i64 x.1.2.1, .int .i64 x.1.2.2.1, .int .i64 x.1.2.2.2, .string ⟨x.2.toArray⟩] 50)) from (Below.refl _ _).alloc (Nat.le_refl _) _)
         have HOA := Lib.hid (own_below2 HO6.out HWA.out)
         have b0 : out.length + 1 ≤ maxLen := by unfold maxLen; omega
         have b1 : (out.length + 1) * 56 ≤ 140737488355328 := by omega
         have hbz : w.heap.size + 1 ≤ (wf.alloc (.cells #[.string ⟨x.1.1.toArray⟩, .int .i64 x.1.2.1, .int .i64 x.1.2.2.1, .int .i64 x.1.2.2.2, .string ⟨x.2.toArray⟩] 50)).heap.size := by simp; omega
         clear hB V6
         go_wp2_with (at_builtin; refine wpList_own rfl (.tmp 55) (.tmp 57) rfl (w.heap.size + 1) elEntR (.slice (some ⟨bl, ol, none⟩) out.length cv) out.length _ rfl HOA.out _ 1 _ _ rfl (Src.lit _ 5 _ _ 1 rfl) (by decide) (by simp [Value.oneCell']) b0 b1 hbz ?_; intro v' w7 hown7 hgrow7 hb7; obtain ⟨A8, c8, rfl⟩ := Acc.shape (.inl hown7); have HOWN := Lib.hid hown7; have HG7 := Lib.hid hgrow7; have HB7 := Lib.hid hb7; clear hown7 hgrow7 hb7)
         have HQ7 := Lib.hid (show Blk w7 w.heap.size 42 #[.int .i64 0, .int .i64 0] from (HG7.out.block w.heap.size (by simp; omega) (fun h => own_apart HOA.out (Nat.lt_succ_self w.heap.size) h.symm)).trans (HQ6.out.keep HWA.out))
         have HBn := Lib.hid ((HBf.out.trans (HWA.out.mono HBf.out.size)).trans (HB7.out.mono (Nat.le_succ _)))
         go_roundw
         case rel => exact ⟨k + 1, k + 1, out ++ [x], A8, c8, by omega, Nat.le_refl _, by rw [List.length_append]; simp only [List.length_singleton]; omega, by rw [List.length_append]; rfl, by go_num, by go_num, Lib.hid (by rw [List.length_append, ents_snoc]; exact HOWN.out), HQ7, HBn, HRn, Lib.hid (fun j h1 h2 => by omega)⟩
         case measure => first | (simp [intOf]; done) | (simp [intOf]; omega)
       ·have HRes := Lib.hid (show r = ([], 8, out.length + 1) from by rw [HRs.out, HFit.out, decide_eq_false hcm] <;> rfl)
        have hcn : 0 ≤ cm := by omega
        have hcg : decide (cm ≥ 0) = true := decide_eq_true (by omega)
        clear HRs HFit
        go_upto_region 10 with fail
        generalize hw5 : w4.alloc (.cells #[.string ⟨x.1.1.toArray⟩, .int .i64 x.1.2.1, .int .i64 x.1.2.2.1, .int .i64 x.1.2.2.2, .string ⟨x.2.toArray⟩] 50) = w5 at HQ5 HB5 HO5 V5 HX5 HA5 hv4 hz5 cC hbl u0 u1 u2 u3 t0 t1 t2 t3 t4 ⊢
        apply wp_region_facts (by kernel_rfl) [isv _, isv _, isv _, isv _, isv _, isv _, isv _, isv _, isv _, isv _, isv _, isv _, isv _, isv _, isv _, isv _, isv _, isv _, isv _, isv _] w5.heap.size w5 (Nat.le_refl _) (Below.refl _ _).drew (by kernel_rfl) (by kernel_rfl) (by kernel_rfl) (And.intro (isv_mono _) (And.intro (isv_mono _) (And.intro (isv_mono _) (And.intro (isv_mono _) (And.intro (isv_mono _) (And.intro (isv_mono _) (And.intro (isv_mono _) (And.intro (isv_mono _) (And.intro (isv_mono _) (And.intro (isv_mono _) (And.intro (isv_mono _) (And.intro (isv_mono _) (And.intro (isv_mono _) (And.intro (isv_mono _) (And.intro (isv_mono _) (And.intro (isv_mono _) (And.intro (isv_mono _) (And.intro (isv_mono _) (And.intro (isv_mono _) (And.intro (isv_mono _) trivial)))))))))))))))))))) ?steps (by rfl) ?fin
        case steps =>
         refine (And.intro ?o0 (And.intro ?o1 (And.intro ?o2 (And.intro ?o3 (And.intro ?o4 (And.intro ?o5 (And.intro ?o6 (And.intro ?o7 (And.intro ?o8 (And.intro ?o9 (And.intro ?o10 (And.intro ?o11 (And.intro ?o12 (And.intro ?o13 (And.intro ?o14 (And.intro ?o15 (And.intro ?o16 (And.intro ?o17 (And.intro ?o18 (And.intro ?o19 trivial))))))))))))))))))))
         case o0 =>
          intro AA W KK QQ hB hs hd hl hk
          have sl8 := hs 8 _ (by kernel_rfl) rfl
          clear hs hd hl
          go_simp
          exact hk _ _ rfl (Below.refl _ _)
         case o1 =>
          intro AA W KK QQ hB hs hd hl hk
          obtain ⟨_, sl31, rfl⟩ := hd 0 31 (by kernel_rfl) rfl
          clear hs hd hl
          go_simp
          exact hk _ _ rfl (Below.refl _ _)
         case o2 =>
          intro AA W KK QQ hB hs hd hl hk
          obtain ⟨_, sl32, rfl⟩ := hd 1 32 (by kernel_rfl) rfl
          clear hs hd hl
          go_simp
          exact hk _ _ rfl (Below.refl _ _)
         case o3 =>
          intro AA W KK QQ hB hs hd hl hk
          have sl4 := hs 4 _ (by kernel_rfl) rfl
          obtain ⟨_, sl33, rfl⟩ := hd 2 33 (by kernel_rfl) rfl
          clear hs hd hl
          refine ⟨_, _, rfl, sl33, ?_⟩
          first
           | (change Oper.wp _ _ _ _ _ _; go_simp; exact hk _ _ rfl (Below.refl _ _))
           | exact rfl
         case o4 =>
          intro AA W KK QQ hB hs hd hl hk
          obtain ⟨_, sl33, rfl⟩ := hd 2 33 (by kernel_rfl) rfl
          obtain ⟨_, sl34, rfl⟩ := hd 3 34 (by kernel_rfl) rfl
          clear hs hd hl
          refine ⟨_, _, rfl, sl33, ?_⟩
          first
           | (change Oper.wp _ _ _ _ _ _; go_simp; exact hk _ _ rfl (Below.refl _ _))
           | exact rfl
         case o5 =>
          intro AA W KK QQ hB hs hd hl hk
          obtain ⟨_, sl33, rfl⟩ := hd 2 33 (by kernel_rfl) rfl
          obtain ⟨_, sl35, rfl⟩ := hd 4 35 (by kernel_rfl) rfl
          clear hs hd hl
          refine ⟨_, _, rfl, sl33, ?_⟩
          first
           | (change Oper.wp _ _ _ _ _ _; go_simp; exact hk _ _ rfl (Below.refl _ _))
           | exact rfl
         case o6 =>
          intro AA W KK QQ hB hs hd hl hk
          obtain ⟨_, sl33, rfl⟩ := hd 2 33 (by kernel_rfl) rfl
          obtain ⟨_, sl36, rfl⟩ := hd 5 36 (by kernel_rfl) rfl
          clear hs hd hl
          refine ⟨_, _, rfl, sl33, ?_⟩
          first
           | (change Oper.wp _ _ _ _ _ _; go_simp; exact hk _ _ rfl (Below.refl _ _))
           | exact rfl
         case o7 =>
          intro AA W KK QQ hB hs hd hl hk
          have sl4 := hs 4 _ (by kernel_rfl) rfl
          obtain ⟨_, sl37, rfl⟩ := hd 6 37 (by kernel_rfl) rfl
          clear hs hd hl
          refine ⟨_, _, rfl, sl37, ?_⟩
          first
           | (change Oper.wp _ _ _ _ _ _; go_simp; exact hk _ _ rfl (Below.refl _ _))
           | exact rfl
         case o8 =>
          intro AA W KK QQ hB hs hd hl hk
          have sl4 := hs 4 _ (by kernel_rfl) rfl
          obtain ⟨_, sl37, rfl⟩ := hd 6 37 (by kernel_rfl) rfl
          clear hs hd hl
          refine ⟨_, _, rfl, sl37, ?_⟩
          first
           | (change Oper.wp _ _ _ _ _ _; go_simp; exact hk _ _ rfl (Below.refl _ _))
           | exact rfl
         case o9 =>
          intro AA W KK QQ hB hs hd hl hk
          obtain ⟨_, sl37, rfl⟩ := hd 6 37 (by kernel_rfl) rfl
          obtain ⟨_, sl39, rfl⟩ := hd 8 39 (by kernel_rfl) rfl
          clear hs hd hl
          refine ⟨_, _, rfl, sl37, ?_⟩
          first
           | (change Oper.wp _ _ _ _ _ _; go_simp; exact hk _ _ rfl (Below.refl _ _))
           | exact rfl
         case o10 =>
          intro AA W KK QQ hB hs hd hl hk
          obtain ⟨_, sl37, rfl⟩ := hd 6 37 (by kernel_rfl) rfl
          obtain ⟨_, sl40, rfl⟩ := hd 9 40 (by kernel_rfl) rfl
          clear hs hd hl
          refine ⟨_, _, rfl, sl37, ?_⟩
          first
           | (change Oper.wp _ _ _ _ _ _; go_simp; exact hk _ _ rfl (Below.refl _ _))
           | exact rfl
         case o11 =>
          intro AA W KK QQ hB hs hd hl hk
          obtain ⟨_, sl37, rfl⟩ := hd 6 37 (by kernel_rfl) rfl
          obtain ⟨_, sl38, rfl⟩ := hd 7 38 (by kernel_rfl) rfl
          obtain ⟨_, sl41, rfl⟩ := hd 10 41 (by kernel_rfl) rfl
          clear hs hd hl
          refine ⟨_, _, rfl, sl37, ?_⟩
          first
           | (change Oper.wp _ _ _ _ _ _; go_simp; exact hk _ _ rfl (Below.refl _ _))
           | exact rfl
         case o12 =>
          intro AA W KK QQ hB hs hd hl hk
          obtain ⟨_, sl37, rfl⟩ := hd 6 37 (by kernel_rfl) rfl
          obtain ⟨_, sl42, rfl⟩ := hd 11 42 (by kernel_rfl) rfl
          clear hs hd hl
          refine ⟨_, _, rfl, sl37, ?_⟩
          first
           | (change Oper.wp _ _ _ _ _ _; go_simp; exact hk _ _ rfl (Below.refl _ _))
           | exact rfl
         case o13 =>
          intro AA W KK QQ hB hs hd hl hk
          obtain ⟨_, sl37, rfl⟩ := hd 6 37 (by kernel_rfl) rfl
          obtain ⟨_, sl43, rfl⟩ := hd 12 43 (by kernel_rfl) rfl
          clear hs hd hl
          have hx0 := hB.cell (p := ⟨bl, ol + kk * 5, none⟩) hbl
          have hx1 := hB.cell (p := ⟨bl, ol + kk * 5 + 1, none⟩) hbl
          have hx2 := hB.cell (p := ⟨bl, ol + kk * 5 + 2, none⟩) hbl
          have hx3 := hB.cell (p := ⟨bl, ol + kk * 5 + 3, none⟩) hbl
          rw [u0] at hx0
          rw [u1] at hx1
          rw [u2] at hx2
          rw [u3] at hx3
          refine ⟨_, _, rfl, sl37, ?_⟩
          first
           | (change Oper.wp _ _ _ _ _ _; go_simp; exact hk _ _ rfl (Below.refl _ _))
           | exact rfl
         case o14 =>
          intro AA W KK QQ hB hs hd hl hk
          have sl7 := hs 7 _ (by kernel_rfl) rfl
          obtain ⟨_, sl37, rfl⟩ := hd 6 37 (by kernel_rfl) rfl
          clear hs hd hl
          refine ⟨_, _, rfl, sl37, ?_⟩
          first
           | (change Oper.wp _ _ _ _ _ _; go_simp; exact hk _ _ rfl (Below.refl _ _))
           | exact rfl
         case o15 =>
          intro AA W KK QQ hB hs hd hl hk
          obtain ⟨_, sl37, rfl⟩ := hd 6 37 (by kernel_rfl) rfl
          obtain ⟨_, sl45, rfl⟩ := hd 14 45 (by kernel_rfl) rfl
          clear hs hd hl
          have hy0 := hB.cell (p := ⟨w4.heap.size, 0, none⟩) hv4
          have hy1 := hB.cell (p := ⟨w4.heap.size, 1, none⟩) hv4
          have hy2 := hB.cell (p := ⟨w4.heap.size, 2, none⟩) hv4
          have hy3 := hB.cell (p := ⟨w4.heap.size, 3, none⟩) hv4
          rw [t0] at hy0
          rw [t1] at hy1
          rw [t2] at hy2
          rw [t3] at hy3
          refine ⟨_, _, rfl, sl37, ?_⟩
          first
           | (change Oper.wp _ _ _ _ _ _; go_simp; exact hk _ _ rfl (Below.refl _ _))
           | exact rfl
         case o16 =>
          intro AA W KK QQ hB hs hd hl hk
          obtain ⟨_, sl37, rfl⟩ := hd 6 37 (by kernel_rfl) rfl
          obtain ⟨_, sl44, rfl⟩ := hd 13 44 (by kernel_rfl) rfl
          obtain ⟨_, sl46, rfl⟩ := hd 15 46 (by kernel_rfl) rfl
          clear hs hd hl
          refine ⟨_, _, rfl, sl37, ?_⟩
          change Oper.wp _ _ _ _ _ _
          go_simp
          refine (cC.out W hB).mono ?_
          rintro e W2 ⟨rfl, hb2⟩
          exact hk _ _ rfl hb2
         case o17 =>
          intro AA W KK QQ hB hs hd hl hk
          obtain ⟨_, sl37, rfl⟩ := hd 6 37 (by kernel_rfl) rfl
          obtain ⟨_, sl47, rfl⟩ := hd 16 47 (by kernel_rfl) rfl
          clear hs hd hl
          refine ⟨_, _, rfl, sl37, ?_⟩
          first
           | (change Oper.wp _ _ _ _ _ _; go_simp; exact hk _ _ rfl (Below.refl _ _))
           | exact rfl
         case o18 =>
          intro AA W KK QQ hB hs hd hl hk
          obtain ⟨_, sl33, rfl⟩ := hd 2 33 (by kernel_rfl) rfl
          obtain ⟨_, sl37, rfl⟩ := hd 6 37 (by kernel_rfl) rfl
          obtain ⟨_, sl48, rfl⟩ := hd 17 48 (by kernel_rfl) rfl
          clear hs hd hl
          refine ⟨_, _, rfl, sl33, ?_⟩
          first
           | (change Oper.wp _ _ _ _ _ _; go_simp; exact hk _ _ rfl (Below.refl _ _))
           | exact rfl
         case o19 =>
          intro AA W KK QQ hB hs hd hl hk
          obtain ⟨_, sl33, rfl⟩ := hd 2 33 (by kernel_rfl) rfl
          obtain ⟨_, sl49, rfl⟩ := hd 18 49 (by kernel_rfl) rfl
          clear hs hd hl
          go_simp
          exact hk _ _ rfl (Below.refl _ _)
        case fin =>
         intro wf hB
         refine fin_isv 31 rfl ?_
         refine fin_isv 32 rfl ?_
         refine fin_isv 33 rfl ?_
         refine fin_isv 34 rfl ?_
         refine fin_isv 35 rfl ?_
         refine fin_isv 36 rfl ?_
         refine fin_isv 37 rfl ?_
         refine fin_isv 38 rfl ?_
         refine fin_isv 39 rfl ?_
         refine fin_isv 40 rfl ?_
         refine fin_isv 41 rfl ?_
         refine fin_isv 42 rfl ?_
         refine fin_isv 43 rfl ?_
         refine fin_isv 44 rfl ?_
         refine fin_isv 45 rfl ?_
         refine fin_isv 46 rfl ?_
         refine fin_isv 47 rfl ?_
         refine fin_isv 48 rfl ?_
         refine fin_isv 49 rfl ?_
         refine fin_isv 50 rfl ?_
         refine frame71_a16d8fd816 _ _ _ _ _ _ _ _ _ _ _ _ _ _ _ _ _ _ _ _ _ _ _ _ _ _ _ _ _ _ _ _ _ _ _ _ _ _ _ _ _ _ _ _ _ _ _ _ _ _ _ _ _ _ _ _ _ _ _ _ _ _ _ _ _ _ _ _ _ _ _ _ _ _ _ _ _ _ _ _ _ _ _ _ _ _ _ _ _ _ _ ?_
         obtain ⟨k0, k1⟩ := fltC (HQ5.out.keep hB)
         obtain ⟨f0, f1⟩ := fltF (HQ5.out.keep hB)
         have HBf := Lib.hid (HB5.out.trans (hB.mono HB5.out.size))
         clear hB
         have HBF := Lib.hid ((HBf.out.setCell (p := ⟨w.heap.size, 0, none⟩) (Nat.le_refl _) (.int .i64 8)).setCell (p := ⟨w.heap.size, 1, none⟩) (Nat.le_refl _) (.int .i64 ((out.length : Int) + 1)))
         go_wp2
         first | rw [Exit.noGoto_ret] | skip
         refine bodyPost_ret (v := .tuple #[.slice none 0 0, .agg #[.int .i64 8, .int .i64 ((out.length : Int) + 1)]]) (by simp [results, Tryz.results20, go_sem, k0, k1]) rfl ?_
         exact ⟨none, 0, by rw [HRes.out]; rfl, by rw [HRes.out]; exact Sl.nil_, HBF.out⟩
   ·have hcb : ((({ data := s.toArray } : ByteArray)[k].toNat : Int) == 10) = false := by
     rw [← HG2.out]
     refine beq_eq_false_iff_ne.2 fun h => hc (UInt8.toNat_inj.1 ?_)
     have h2 : ((s.getD k 0).toNat : Int) = ((10 : UInt8).toNat : Int) := h
     omega
    have hcn : ((({ data := s.toArray } : ByteArray)[k].toNat : Int) != 10) = true := by rw [bne, hcb]; rfl
    have HN2 := Lib.hid (fun j (h1 : f ≤ j) (h2 : j < k + 1) => show s.getD j 0 ≠ 10 from by
     by_cases hj : j = k
     ·subst hj; exact hc
     ·exact HN.out j h1 (by omega))
    clear hc
    go_wp2
    go_roundw
    case rel => exact ⟨k + 1, f, out, Av, cv, by omega, by omega, by omega, rfl, rfl, by go_num, HO, HQ, HB, HRR, HN2⟩
    case measure => simp [intOf]; omega
  ·have hke : k = s.length := by omega
   have HT := Lib.hid (HRR.out.trans (congrArg (unlL out) (tail_at (fun j h1 h2 => HN.out j h1 (by omega)))))
   have hlt' : ¬ (k : Int) < (s.length : Int) := by omega
   by_cases hfs : f < s.length
   ·have hfs' : (f : Int) < (s.length : Int) := by omega
    have HRes := Lib.hid (show r = ([], 8, out.length + 1) from by
     rw [HT.out]
     unfold unlL
     rw [if_neg]
     intro h
     have h2 := congrArg List.length h
     simp at h2
     omega)
    obtain ⟨k0, k1⟩ := fltC HQ.out
    obtain ⟨f0, f1⟩ := fltF HQ.out
    clear hke
    have HBF := Lib.hid ((HB.out.setCell (p := ⟨w.heap.size, 0, none⟩) (Nat.le_refl _) (.int .i64 8)).setCell (p := ⟨w.heap.size, 1, none⟩) (Nat.le_refl _) (.int .i64 ((out.length : Int) + 1)))
    go_wp2
    first | rw [Exit.noGoto_ret] | skip
    refine bodyPost_ret (v := .tuple #[.slice none 0 0, .agg #[.int .i64 8, .int .i64 ((out.length : Int) + 1)]]) (by simp [results, Tryz.results20, go_sem, k0, k1]) rfl ?_
    exact ⟨none, 0, by rw [HRes.out]; rfl, by rw [HRes.out]; exact Sl.nil_, HBF.out⟩
   ·have hfs' : ¬ (f : Int) < (s.length : Int) := by omega
    have HRes := Lib.hid (show r = (out, 0, 0) from by
     rw [HT.out, show s.drop f = [] from List.drop_eq_nil_of_le (by omega)]
     rfl)
    obtain ⟨k0, k1⟩ := fltC HQ.out
    obtain ⟨f0, f1⟩ := fltF HQ.out
    clear hke
    go_wp2
    first | rw [Exit.noGoto_ret] | skip
    refine bodyPost_ret (v := .tuple #[.slice Av out.length cv, .agg #[.int .i64 0, .int .i64 0]]) (by simp [results, Tryz.results20, go_sem, k0, k1]) rfl ?_
    have HO2 := own_set (p := ⟨w.heap.size, 1, none⟩) (own_set (p := ⟨w.heap.size, 0, none⟩) HO.out (by show w.heap.size < w.heap.size + 1; omega) (.int .i64 0)) (by show w.heap.size < w.heap.size + 1; omega) (.int .i64 0)
    have HBF := ((HB.out.setCell (p := ⟨w.heap.size, 0, none⟩) (Nat.le_refl _) (.int .i64 0)).setCell (p := ⟨w.heap.size, 1, none⟩) (Nat.le_refl _) (.int .i64 0))
    exact ⟨Av, cv, by rw [HRes.out]; rfl, by rw [HRes.out]; exact Acc.slAny (.inl HO2) encE_len5 (by decide), HBF⟩
end Go.Proofs.YthcgihgajdjfoaaGreatDoor
