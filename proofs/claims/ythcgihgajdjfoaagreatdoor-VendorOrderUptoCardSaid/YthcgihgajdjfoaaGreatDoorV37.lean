/- What the claim needs of: IK IL. -/
import Derived.Test.YthcgihgajdjfoaaGreatDoorV36
import Derived.Test.YthcgihgajdjfoaaGreatDoorV32
import Derived.Test.YthcgihgajdjfoaaGreatDoorV34
namespace Go.Proofs.YthcgihgajdjfoaaGreatDoor
open Go.RowKit Go.Sort
theorem sl_one {W : World} {g : Nat} {t : TypeId} {x : Iss} (h : Blk W g t #[.string ⟨x.1.toArray⟩, .int .i64 x.2]) : Sl W W.heap.size 2 encI (some ⟨g, 0, none⟩) [x] := by
 refine .inr ⟨g, 0, rfl, h.lt, fun i hi j v hv => ?_⟩
 obtain rfl : i = 0 := by simpa using hi
 match j, hv with
 | 0, hv => simp [encI] at hv; subst hv; simpa using h.cell 0
 | 1, hv => simp [encI] at hv; subst hv; simpa using h.cell 1
 | j + 2, hv => simp [encI] at hv
structure ManS (w : World) (y : ManW) : Prop where
 hA : Sl w w.heap.size 4 encM y.2.1 y.2.2.2
 n : y.2.2.2.length ≤ 1000
theorem ManS.below {w w' : World} {y : ManW} (h : ManS w y) (hb : Below w.heap.size w w') : ManS w' y := ⟨(h.hA.below hb).more hb.size, h.n⟩
set_option maxRecDepth 100000 in
theorem frame89_e83f2d97d2 {Q : Exit → Act → World → Prop} {W : World} {fs : List Fact} (t0 t1 t2 t3 t4 t5 t6 t7 t8 t9 t10 t11 t12 t13 t14 t15 t16 t17 t18 t19 t20 t21 t22 t23 t24 t25 t26 t27 t28 t29 t30 t31 t32 t33 t34 t35 t36 t37 t38 t39 t40 t41 t42 t43 t44 t45 t46 t47 t48 t49 t50 t51 t52 t53 t54 t55 t56 t57 t58 t59 t60 t61 t62 t63 t64 t65 t66 t67 t68 t69 t70 t71 t72 t73 t74 t75 t76 t77 t78 t79 t80 t81 t82 t83 t84 t85 t86 t87 t88 v0 v1 v2 v3 v4 v5 v6 v7 v8 v9 v10 v11 v12 : Value) (h : Q .normal (Act.mk #[t0, t1, t2, t3, t4, t5, t6, t7, t8, t9, t10, t11, v12, t13, t14, t15, t16, t17, t18, t19, t20, t21, t22, t23, t24, t25, t26, t27, t28, t29, t30, t31, t32, t33, t34, t35, t36, t37, t38, t39, t40, t41, t42, t43, t44, t45, t46, t47, t48, t49, t50, t51, t52, t53, t54, t55, v0, v1, v2, v3, v4, v5, v6, v7, v8, v9, v10, v11, t68, t69, t70, t71, t72, t73, t74, t75, t76, t77, t78, t79, t80, t81, t82, t83, t84, t85, t86, t87, t88] []) W) : FinAll W (fun A => Q .normal A W) [] fs (Act.put (Act.put (Act.put (Act.put (Act.put (Act.put (Act.put (Act.put (Act.put (Act.put (Act.put (Act.put (Act.put (Act.mk #[t0, t1, t2, t3, t4, t5, t6, t7, t8, t9, t10, t11, t12, t13, t14, t15, t16, t17, t18, t19, t20, t21, t22, t23, t24, t25, t26, t27, t28, t29, t30, t31, t32, t33, t34, t35, t36, t37, t38, t39, t40, t41, t42, t43, t44, t45, t46, t47, t48, t49, t50, t51, t52, t53, t54, t55, t56, t57, t58, t59, t60, t61, t62, t63, t64, t65, t66, t67, t68, t69, t70, t71, t72, t73, t74, t75, t76, t77, t78, t79, t80, t81, t82, t83, t84, t85, t86, t87, t88] []) (some 56) v0) (some 57) v1) (some 58) v2) (some 59) v3) (some 60) v4) (some 61) v5) (some 62) v6) (some 63) v7) (some 64) v8) (some 65) v9) (some 66) v10) (some 67) v11) (some 12) v12) :=
 fin_end (by kernel_rfl) h
set_option maxRecDepth 100000 in
set_option maxHeartbeats 8000000 in
theorem refVerify_any (y0 : ManW) (A : Option Addr) (c : Nat) (L : List RelA) (s : List UInt8) (w : World) (h0 : ManS w y0) (hA : Sl w w.heap.size 6 encR A L) (hok : ∀ r ∈ L, RelB w r ∧ r.l.length ≤ 1000) (hl : L.length ≤ 100) (hs : s.length ≤ 140737488355327) (hun : (unlockP s).1.length ≤ 100000) :
  Calls Tryz.prog 23 #[.agg #[.string ⟨y0.1.1.toArray⟩, .int .i64 y0.1.2.1, .int .i64 y0.1.2.2.1, .int .i64 y0.1.2.2.2, .slice y0.2.1 y0.2.2.2.length y0.2.2.1], .slice A L.length c, .string ⟨s.toArray⟩] w (RetI w (verifyP y0.1.1 y0.2.2.2 (L.map RelA.rel) s)) := by
 obtain ⟨rm, A0, c0, l0⟩ := y0
 simp only
 have HA := Lib.hid hA
 have HOK := Lib.hid hok
 have H0 := Lib.hid h0
 have HB0 := Lib.hid (show Below w.heap.size w (w.alloc (.cells (manA rm A0 l0.length c0) 29)) from (Below.refl _ _).alloc (Nat.le_refl _) _)
 have Q0 := Lib.hid (Blk.new w 29 (manA rm A0 l0.length c0))
 unfold manA at HB0 Q0
 obtain ⟨RR, hRR⟩ : ∃ RR, RR = verifyP rm.1 l0 (L.map RelA.rel) s := ⟨_, rfl⟩
 rw [← hRR]
 unfold verifyP at hRR
 have cU0 := fun W => refUnlock_any s W hs
 generalize unlockP s = U at cU0 hRR hun
 obtain ⟨E, ec, ea⟩ := U
 unfold RetU at cU0
 simp only at cU0 hRR hun
 have cU := Lib.hid cU0
 have HR := Lib.hid hRR
 have hl0 : l0.length ≤ 1000 := H0.out.n
 clear hA hok h0 hRR cU0
 go_enter Tryz.func23, Tryz.ntmps23
 go_wp2_with fail
 refine (cU.out _).mono ?_
 rintro e w2 ⟨A2, c2, rfl, hS2, hb2⟩
 have HB2 := Lib.hid (HB0.out.trans (hb2.mono HB0.out.size))
 have HW3 := Lib.hid (show Below w2.heap.size w2 (w2.alloc (.cells #[.int .i64 ec, .int .i64 (ea : Nat)] 42)) from (Below.refl _ _).alloc (Nat.le_refl _) _)
 have HB3 := Lib.hid (HB2.out.trans (HW3.out.mono HB2.out.size))
 have Q3 := Lib.hid ((Q0.out.keep hb2).keep HW3.out)
 have HS3 := Lib.hid (show Sl (w2.alloc (.cells #[.int .i64 ec, .int .i64 (ea : Nat)] 42)) (w2.alloc (.cells #[.int .i64 ec, .int .i64 (ea : Nat)] 42)).heap.size 5 encE A2 E from (hS2.below HW3.out).more HW3.out.size)
 have V3 := Blk.new w2 42 #[.int .i64 ec, .int .i64 (ea : Nat)]
 obtain ⟨k0, k1⟩ := fltC V3
 clear hS2 hb2 cU V3
 by_cases hec : ec = 0
 rotate_left
 ·have HRes := Lib.hid (show RR = [([], 19)] from by rw [HR.out, if_pos hec])
  have heb : (ec == 0) = false := beq_eq_false_iff_ne.2 hec
  have hen : (ec != 0) = true := by rw [bne, heb]; rfl
  clear hec HR
  generalize hw3 : w2.alloc (.cells #[.int .i64 ec, .int .i64 (ea : Nat)] 42) = w3 at HB3 Q3 HS3 k0 k1 HW3
  go_wp2
  go_ret
  exact ⟨some ⟨w3.heap.size, 0, none⟩, 1, by rw [HRes.out]; rfl, by rw [HRes.out]; exact Nat.le_refl _, by rw [HRes.out]; exact sl_one (x := ([], 19)) (Blk.new _ 88 #[.string ⟨#[]⟩, .int .i64 19]), HB3.out.trans (((Below.refl _ _).alloc (Nat.le_refl _) _).mono HB3.out.size)⟩
 have HR2 := Lib.hid (show RR = if lerr (L.map RelA.rel) ≠ 0 then [([], lerr (L.map RelA.rel))] else if rdiffP (L.map RelA.rel) E ≠ [] then isort (rdiffP (L.map RelA.rel) E) else outR rm.1 l0 (L.map RelA.rel) from by rw [HR.out, if_neg (by simpa using hec)])
 subst hec
 clear HR
 generalize hw3 : w2.alloc (.cells #[.int .i64 0, .int .i64 (ea : Nat)] 42) = w3 at HB3 Q3 HS3 k0 k1 HW3
 have cL0 := refList_any A c L w3 ((HA.out.below HB3.out).more HB3.out.size) (fun r hr => (HOK.out r hr).1.below HB3.out) (by omega)
 unfold RetL at cL0
 generalize lout (L.map RelA.rel) = lo at cL0
 generalize lerr (L.map RelA.rel) = le at cL0 HR2
 have cL := Lib.hid cL0
 clear cL0
 go_wp2_with fail
 refine cL.out.mono ?_
 rintro e w4 ⟨A4, c4, rfl, _, hb4⟩
 have HB4 := Lib.hid (HB3.out.trans (hb4.mono HB3.out.size))
 have Q4 := Lib.hid (Q3.out.keep hb4)
 have HS4 := Lib.hid (show Sl w4 w4.heap.size 5 encE A2 E from (HS3.out.below hb4).more hb4.size)
 clear hb4 cL k0 k1 HS3 Q3
 by_cases hle : le = 0
 rotate_left
 ·have HRes := Lib.hid (show RR = [([], le)] from by rw [HR2.out, if_pos hle])
  have heb : (le == 0) = false := beq_eq_false_iff_ne.2 hle
  have hen : (le != 0) = true := by rw [bne, heb]; rfl
  clear hle HR2
  go_wp2
  go_ret
  exact ⟨some ⟨w4.heap.size, 0, none⟩, 1, by rw [HRes.out]; rfl, by rw [HRes.out]; exact Nat.le_refl _, by rw [HRes.out]; exact sl_one (x := ([], le)) (Blk.new _ 88 #[.string ⟨#[]⟩, .int .i64 le]), HB4.out.trans (((Below.refl _ _).alloc (Nat.le_refl _) _).mono HB4.out.size)⟩
 have HR3 := Lib.hid (show RR = if rdiffP (L.map RelA.rel) E ≠ [] then isort (rdiffP (L.map RelA.rel) E) else outR rm.1 l0 (L.map RelA.rel) from by rw [HR2.out, if_neg (by simpa using hle)])
 subst hle
 have cS0 := sums_any A c L A2 c2 E w4 ((HA.out.below HB4.out).more HB4.out.size) HS4.out (fun r hr => (HOK.out r hr).1.below HB4.out) (by omega) hun
 have HNo := Lib.hid (fun (h : isort (rdiffP (L.map RelA.rel) E) = []) => isort_nil h)
 have HNy := Lib.hid (fun (h : rdiffP (L.map RelA.rel) E = []) => show isort (rdiffP (L.map RelA.rel) E) = [] by rw [h]; rfl)
 generalize isort (rdiffP (L.map RelA.rel) E) = o1 at cS0 HR3 HNo HNy
 generalize rdiffP (L.map RelA.rel) E = RD at HR3 HNo HNy
 unfold RetI at cS0
 have cS := Lib.hid cS0
 clear cS0 HR2
 go_wp2_with fail
 refine cS.out.mono ?_
 rintro e w5 ⟨A5, c5, rfl, hc5, hS5, hb5⟩
 have HB5 := Lib.hid (HB4.out.trans (hb5.mono HB4.out.size))
 have Q5 := Lib.hid (Q4.out.keep hb5)
 have HS5 := Lib.hid hS5
 clear hb5 hS5 cS Q4 HS4
 rcases Nat.eq_zero_or_pos o1.length with ho | ho
 rotate_left
 ·have hoi : (0 : Int) < (o1.length : Int) := by omega
  have HRes := Lib.hid (show RR = o1 from by
   rw [HR3.out, if_pos]
   intro h
   rw [HNy.out h] at ho
   cases ho)
  clear HR3 HNo HNy
  go_wp2
  go_ret
  exact ⟨A5, c5, by rw [HRes.out]; rfl, by rw [HRes.out]; exact hc5, by rw [HRes.out]; exact HS5.out, HB5.out⟩
 obtain rfl : o1 = [] := List.eq_nil_of_length_eq_zero ho
 have HRo := Lib.hid (show RR = outR rm.1 l0 (L.map RelA.rel) from by rw [HR3.out, if_neg (by rw [HNo.out rfl]; simp)])
 simp only [List.length_nil] at hc5 ⊢
 clear ho HR3 HNo HNy HS5
 obtain ⟨F, hF⟩ : ∃ F : Nat → List Iss, F = fun k => (reqsP l0 ((L.take k).map RelA.rel)).foldl (absR (L.map RelA.rel) rm.1) [] := ⟨_, rfl⟩
 have HF0 := Lib.hid (show F 0 = l0.foldl (absR (L.map RelA.rel) rm.1) [] by rw [hF]; simp [reqsP])
 have HFs := Lib.hid (fun k (hk : k < L.length) => show F (k + 1) = L[k].l.foldl (absR (L.map RelA.rel) rm.1) (F k) by
  rw [hF]
  simp only [reqsP]
  rw [List.take_succ_eq_append_getElem hk, List.map_append, List.flatMap_append, ← List.append_assoc, List.foldl_append]
  simp [RelA.rel])
 have HFn := Lib.hid (show F L.length = (reqsP l0 (L.map RelA.rel)).foldl (absR (L.map RelA.rel) rm.1) [] by rw [hF]; simp)
 obtain ⟨G, hG⟩ : ∃ G : Nat → List Iss, G = fun k => ((L.take k).filterMap fun r => staleR (L.map RelA.rel) r.rel).foldl putI (F L.length) := ⟨_, rfl⟩
 have HG0 := Lib.hid (show G 0 = F L.length by rw [hG]; rfl)
 have HGs := Lib.hid (fun k (hk : k < L.length) => show G (k + 1) = match staleR (L.map RelA.rel) L[k].rel with
  | none => G k
  | some x => putI (G k) x by
  rw [hG]
  simp only
  rw [List.take_succ_eq_append_getElem hk, List.filterMap_append, List.foldl_append]
  cases h : staleR (L.map RelA.rel) L[k].rel with
  | none => simp [h]
  | some x => simp [h])
 have HGn := Lib.hid (show G L.length = RR by
  rw [hG, HRo.out]
  unfold outR
  simp only
  rw [List.take_length, HFn.out, List.filterMap_map]
  rfl)
 have cA0 := fun (W : World) (hW : Below w5.heap.size w5 W) => absent_any none 0 [] rm.1 A c L A0 c0 l0 W Sl.nil_ (Nat.le_refl _) ((HA.out.below (HB5.out.trans (hW.mono HB5.out.size))).more (Nat.le_trans HB5.out.size hW.size)) (((H0.out.below HB5.out).below hW).hA) (by omega) (by simp; omega)
 have HLen0 := Lib.hid (absF_len (L.map RelA.rel) rm.1 l0 [])
 rw [← HF0.out] at cA0 HLen0
 have cA := Lib.hid cA0
 obtain ⟨y0, y1, y2, y3, y4⟩ := manC (m := rm) (A := A0) (n := l0.length) (c := c0) Q5.out
 clear hF hG cA0 HRo HFn
 obtain ⟨o0, ho0⟩ : ∃ o0, o0 = F 0 := ⟨_, rfl⟩
 have HO0 := Lib.hid ho0
 rw [← ho0] at cA HLen0
 simp only [List.length_nil] at cA
 clear ho0 HF0
 go_wp2_with fail
 refine (cA.out _ (Below.refl _ _)).mono ?_
 rintro e w6 ⟨A6, c6, rfl, hc6, hS6, hb6⟩
 have HS6 := Lib.hid hS6
 have HB6 := Lib.hid (HB5.out.trans (hb6.mono HB5.out.size))
 have Q6 := Lib.hid (Q5.out.keep hb6)
 have hol0 : o0.length ≤ 1000 := by have := HLen0.out; simp at this; omega
 clear hb6 hS6 cA y0 y1 y2 y3 y4 HLen0 Q5
 go_wp2_with fail
 go_loopw [12, 13] (fun v i wr => ∃ (k : Nat) (o : List Iss) (Av : Option Addr) (cv : Nat), k ≤ L.length ∧ i = .int .i64 (k : Nat) ∧ v = .slice Av o.length cv ∧ Hid (o = F k) ∧ o.length ≤ cv ∧ o.length ≤ 1000 + k * 1000 ∧ Hid (Sl wr wr.heap.size 2 encI Av o) ∧ Hid (Below w.heap.size w wr) ∧ Hid (Blk wr w.heap.size 29 #[.string ⟨rm.1.toArray⟩, .int .i64 rm.2.1, .int .i64 rm.2.2.1, .int .i64 rm.2.2.2, .slice A0 l0.length c0])) (fun _ i _ => L.length - (intOf i).toNat)
 case atStart => exact ⟨0, o0, A6, c6, Nat.zero_le _, rfl, rfl, HO0, hc6, by omega, HS6, HB6, Q6⟩
 case round =>
  clear HS6 HB6 Q6
  obtain ⟨wo, hwo⟩ : ∃ wo, wo = wr := ⟨_, rfl⟩
  subst hwo
  obtain ⟨k, o, Av, cv, hk, rfl, rfl, HOF, hocv, hol, HSo, HB, HQ⟩ := hrel
  by_cases hlt : k < L.length
  ·have hlt' : (k : Int) < (L.length : Int) := by omega
   have hk0 : (0 : Int) ≤ (k : Int) := by omega
   obtain ⟨b, off, hA1, hbB, _, _, _, _, g4, _⟩ := ((HA.out.below HB.out).more HB.out.size).rel hlt
   have HN := Lib.hid (HFs.out k hlt)
   rw [← HOF.out] at HN
   have hrk := HOK.out _ (List.getElem_mem hlt)
   have hlk := hrk.2
   have hrk2 := fun (W : World) (hW : Below w.heap.size w W) => (hrk.1.below hW).ok.hA
   have HRL := Lib.hid hrk2
   clear hrk hrk2
   generalize L[k] = r at g4 HN hlk HRL
   have HLen := Lib.hid (absF_len (L.map RelA.rel) rm.1 r.l o)
   obtain ⟨o2, ho2⟩ : ∃ o2, o2 = r.l.foldl (absR (L.map RelA.rel) rm.1) o := ⟨_, rfl⟩
   have cA0 := fun W (hW : Below wo.heap.size wo W) => absent_any Av cv o rm.1 A c L r.A r.c r.l W ((HSo.out.below hW).more hW.size) hocv ((HA.out.below (HB.out.trans (hW.mono HB.out.size))).more (Nat.le_trans HB.out.size hW.size)) (HRL.out W (HB.out.trans (hW.mono HB.out.size))) (by omega) (by omega)
   rw [← ho2] at cA0 HN HLen
   unfold RetI at cA0
   have cA := Lib.hid cA0
   have hol2 : o2.length ≤ 1000 + (k + 1) * 1000 := by have := HLen.out; omega
   have HA1 := Lib.hid hA1
   subst hA1
   obtain ⟨y0, _, _, _, _⟩ := manC (m := rm) (A := A0) (n := l0.length) (c := c0) HQ.out
   have hwz : w.heap.size < wo.heap.size := HQ.out.lt
   clear ho2 cA0 HLen
   go_upto_region 14 with fail
   apply wp_region_facts (by kernel_rfl) [isv _, isv _, isv _, isv _, isv _, isv _, isv _, isv _, isv _, isv _, isv _, (fun v W => ∃ (A : Option Addr) (c : Nat), v = .slice A o2.length c ∧ o2.length ≤ c ∧ Sl W W.heap.size 2 encI A o2), (fun v W => ∃ (A : Option Addr) (c : Nat), v = .slice A o2.length c ∧ o2.length ≤ c ∧ Sl W W.heap.size 2 encI A o2)] wo.heap.size wo (Nat.le_refl _) (Below.refl _ _).drew (by kernel_rfl) (by kernel_rfl) (by kernel_rfl) (And.intro (isv_mono _) (And.intro (isv_mono _) (And.intro (isv_mono _) (And.intro (isv_mono _) (And.intro (isv_mono _) (And.intro (isv_mono _) (And.intro (isv_mono _) (And.intro (isv_mono _) (And.intro (isv_mono _) (And.intro (isv_mono _) (And.intro (isv_mono _) (And.intro (fun _ _ _ ⟨A, c, e, h0, h1⟩ hb => ⟨A, c, e, h0, (h1.below hb).more hb.size⟩) (And.intro (fun _ _ _ ⟨A, c, e, h0, h1⟩ hb => ⟨A, c, e, h0, (h1.below hb).more hb.size⟩) trivial))))))))))))) ?steps (by rfl) ?fin
   case steps =>
    refine (And.intro ?o0 (And.intro ?o1 (And.intro ?o2 (And.intro ?o3 (And.intro ?o4 (And.intro ?o5 (And.intro ?o6 (And.intro ?o7 (And.intro ?o8 (And.intro ?o9 (And.intro ?o10 (And.intro ?o11 (And.intro ?o12 trivial)))))))))))))
    case o0 =>
     intro AA W KK QQ hB hs hd hl hk
     have sl12 := hl 12 12 _ (by kernel_rfl) rfl rfl
     clear hs hd hl
     go_simp
     exact hk _ _ rfl (Below.refl _ _)
    case o1 =>
     intro AA W KK QQ hB hs hd hl hk
     have sl3 := hs 3 _ (by kernel_rfl) rfl
     clear hs hd hl
     go_simp
     exact hk _ _ rfl (Below.refl _ _)
    case o2 =>
     intro AA W KK QQ hB hs hd hl hk
     obtain ⟨_, sl57, rfl⟩ := hd 1 57 (by kernel_rfl) rfl
     clear hs hd hl
     go_simp
     exact hk _ _ rfl (Below.refl _ _)
    case o3 =>
     intro AA W KK QQ hB hs hd hl hk
     obtain ⟨_, sl58, rfl⟩ := hd 2 58 (by kernel_rfl) rfl
     clear hs hd hl
     have hx0 := hB.cell (p := ⟨w.heap.size, 0, none⟩) hwz
     rw [y0] at hx0
     go_simp
     exact hk _ _ rfl (Below.refl _ _)
    case o4 =>
     intro AA W KK QQ hB hs hd hl hk
     have sl1 := hs 1 _ (by kernel_rfl) rfl
     clear hs hd hl
     go_simp
     exact hk _ _ rfl (Below.refl _ _)
    case o5 =>
     intro AA W KK QQ hB hs hd hl hk
     have sl1 := hs 1 _ (by kernel_rfl) rfl
     clear hs hd hl
     go_simp
     exact hk _ _ rfl (Below.refl _ _)
    case o6 =>
     intro AA W KK QQ hB hs hd hl hk
     have sl13 := hs 13 _ (by kernel_rfl) rfl
     clear hs hd hl
     go_simp
     exact hk _ _ rfl (Below.refl _ _)
    case o7 =>
     intro AA W KK QQ hB hs hd hl hk
     obtain ⟨_, sl61, rfl⟩ := hd 5 61 (by kernel_rfl) rfl
     obtain ⟨_, sl62, rfl⟩ := hd 6 62 (by kernel_rfl) rfl
     clear hs hd hl
     go_simp
     exact hk _ _ rfl (Below.refl _ _)
    case o8 =>
     intro AA W KK QQ hB hs hd hl hk
     obtain ⟨_, sl63, rfl⟩ := hd 7 63 (by kernel_rfl) rfl
     clear hs hd hl
     go_simp
     exact hk _ _ rfl (Below.refl _ _)
    case o9 =>
     intro AA W KK QQ hB hs hd hl hk
     obtain ⟨_, sl64, rfl⟩ := hd 8 64 (by kernel_rfl) rfl
     clear hs hd hl
     go_simp
     exact hk _ _ rfl (Below.refl _ _)
    case o10 =>
     intro AA W KK QQ hB hs hd hl hk
     obtain ⟨_, sl65, rfl⟩ := hd 9 65 (by kernel_rfl) rfl
     clear hs hd hl
     have hx4 := hB.cell (p := ⟨b, off + k * 6 + 4, none⟩) hbB
     rw [g4] at hx4
     go_simp
     exact hk _ _ rfl (Below.refl _ _)
    case o11 =>
     intro AA W KK QQ hB hs hd hl hk
     obtain ⟨_, sl56, rfl⟩ := hd 0 56 (by kernel_rfl) rfl
     obtain ⟨_, sl59, rfl⟩ := hd 3 59 (by kernel_rfl) rfl
     obtain ⟨_, sl60, rfl⟩ := hd 4 60 (by kernel_rfl) rfl
     obtain ⟨_, sl66, rfl⟩ := hd 10 66 (by kernel_rfl) rfl
     clear hs hd hl
     go_simp
     refine (cA.out W hB).mono ?_
     rintro e W2 ⟨A5, c5, rfl, hC, hS, hb2⟩
     exact hk _ _ ⟨A5, c5, rfl, hC, hS⟩ hb2
    case o12 =>
     intro AA W KK QQ hB hs hd hl hk
     obtain ⟨_, sl67, ⟨A5, c5, rfl, hC, hS⟩⟩ := hd 11 67 (by kernel_rfl) rfl
     clear hs hd hl
     go_simp
     exact hk _ _ ⟨A5, c5, rfl, hC, hS⟩ (Below.refl _ _)
   case fin =>
    intro wf hB
    refine fin_isv 56 rfl ?_
    refine fin_isv 57 rfl ?_
    refine fin_isv 58 rfl ?_
    refine fin_isv 59 rfl ?_
    refine fin_isv 60 rfl ?_
    refine fin_isv 61 rfl ?_
    refine fin_isv 62 rfl ?_
    refine fin_isv 63 rfl ?_
    refine fin_isv 64 rfl ?_
    refine fin_isv 65 rfl ?_
    refine fin_isv 66 rfl ?_
    refine fin_fact 67 rfl ?_
    rintro _ ⟨_, _, rfl, _, _⟩
    refine fin_fact 12 rfl ?_
    rintro _ ⟨A6, c6, rfl, hC6, hS6⟩
    refine frame89_e83f2d97d2 _ _ _ _ _ _ _ _ _ _ _ _ _ _ _ _ _ _ _ _ _ _ _ _ _ _ _ _ _ _ _ _ _ _ _ _ _ _ _ _ _ _ _ _ _ _ _ _ _ _ _ _ _ _ _ _ _ _ _ _ _ _ _ _ _ _ _ _ _ _ _ _ _ _ _ _ _ _ _ _ _ _ _ _ _ _ _ _ _ _ _ _ _ _ _ _ _ _ _ _ _ _ ?_
    have HBf := Lib.hid (HB.out.trans (hB.mono HB.out.size))
    have HQf := Lib.hid (HQ.out.keep hB)
    have HS6 := Lib.hid hS6
    clear hB hS6 y0 g4
    go_wp2
    go_roundw
    case rel => exact ⟨k + 1, o2, A6, c6, by omega, by go_num, rfl, Lib.hid HN.out.symm, hC6, hol2, HS6, HBf, HQf⟩
    case measure => first | (simp [intOf]; done) | (simp [intOf]; omega)
  ·obtain rfl : k = L.length := by omega
   have HOG := Lib.hid (HOF.out.trans HG0.out.symm)
   clear HFs HOF HQ
   go_wp2
   go_loopw [12, 14] (fun v i wr => ∃ (k : Nat) (o : List Iss) (Av : Option Addr) (cv : Nat), k ≤ L.length ∧ i = .int .i64 (k : Nat) ∧ v = .slice Av o.length cv ∧ Hid (o = G k) ∧ o.length ≤ cv ∧ o.length ≤ 101000 + k ∧ Hid (Sl wr wr.heap.size 2 encI Av o) ∧ Hid (Below w.heap.size w wr)) (fun _ i _ => L.length - (intOf i).toNat)
   case atStart => exact ⟨0, o, Av, cv, Nat.zero_le _, rfl, rfl, HOG, hocv, by omega, HSo, HB⟩
   case round =>
    clear HB HSo HOG hol hocv
    obtain ⟨wo, hwo⟩ : ∃ wo, wo = wr := ⟨_, rfl⟩
    subst hwo
    obtain ⟨k, o, Av, cv, hk, rfl, rfl, HOF, hocv, hol, HSo, HB⟩ := hrel
    by_cases hlt : k < L.length
    ·have hlt' : (k : Int) < (L.length : Int) := by omega
     obtain ⟨b, off, hA1, hbB, g0, g1, g2, g3, _, _⟩ := ((HA.out.below HB.out).more HB.out.size).rel hlt
     have HN := Lib.hid (HGs.out k hlt)
     rw [← HOF.out] at HN
     generalize L[k] = r at g0 g1 g2 g3 HN
     have HRd := Lib.hid (show staleR (L.map RelA.rel) r.rel = if metP (L.map RelA.rel) r.m true = true then some (r.m.1, 20) else none from rfl)
     generalize staleR (L.map RelA.rel) r.rel = rd at HN HRd
     generalize r.m = m at g0 g1 g2 g3 HRd
     have HA1 := Lib.hid hA1
     subst hA1
     have HW1 := Lib.hid (show Below wo.heap.size wo (wo.alloc (.cells #[.string ⟨m.1.toArray⟩, .int .i64 m.2.1, .int .i64 m.2.2.1, .int .i64 m.2.2.2] 26)) from (Below.refl _ _).alloc (Nat.le_refl _) _)
     have V1 := Lib.hid (Blk.new wo 26 #[.string ⟨m.1.toArray⟩, .int .i64 m.2.1, .int .i64 m.2.2.1, .int .i64 m.2.2.2])
     have cM0 := fun W (hW : Below wo.heap.size wo W) => met_any (some ⟨b, off, none⟩) c L m true W ((HA.out.below (HB.out.trans (hW.mono HB.out.size))).more (Nat.le_trans HB.out.size hW.size)) (by omega)
     generalize metP (L.map RelA.rel) m true = mt at cM0 HRd
     have cM := Lib.hid cM0
     obtain ⟨u0, u1, u2, u3⟩ := modC (m := m) V1.out
     clear cM0
     go_wp2_with fail
     refine (cM.out _ HW1.out).mono ?_
     rintro e w8 ⟨rfl, hb8⟩
     have HX8 := Lib.hid (HW1.out.trans (hb8.mono HW1.out.size))
     have HB8 := Lib.hid (HB.out.trans (HX8.out.mono HB.out.size))
     have V8 := V1.out.keep hb8
     clear hb8 cM u0 u1 u2 u3 g0 g1 g2 g3
     obtain ⟨u0, u1, u2, u3⟩ := modC (m := m) V8
     cases mt
     ·have HS1 := Lib.hid (show G (k + 1) = o from by rw [HN.out, HRd.out, if_neg (by decide)])
      clear HN HRd
      go_wp2
      go_roundw
      case rel => exact ⟨k + 1, o, Av, cv, by omega, by go_num, rfl, Lib.hid HS1.out.symm, hocv, by omega, Lib.hid ((HSo.out.below HX8.out).more HX8.out.size), HB8⟩
      case measure => first | (simp [intOf]; done) | (simp [intOf]; omega)
     ·have HS1 := Lib.hid (show G (k + 1) = putI o (m.1, 20) from by rw [HN.out, HRd.out, if_pos (by first | rfl | trivial)])
      have hpl := (putI_perm o (m.1, 20)).length_eq
      rw [List.length_append, List.length_singleton] at hpl
      have hpl2 := Nat.le_of_eq hpl
      have cP := Lib.hid (put_any Av cv o (m.1, 20) w8 ((HSo.out.below HX8.out).more HX8.out.size) hocv (by omega))
      clear hpl HN HRd
      generalize putI o (m.1, 20) = o2 at cP HS1 hpl2
      go_wp2_with fail
      refine cP.out.mono ?_
      rintro e w9 ⟨A9, c9, rfl, hc9, hS9, hb9⟩
      have HS9 := Lib.hid hS9
      have HB9 := Lib.hid (HB8.out.trans (hb9.mono HB8.out.size))
      clear hb9 cP hS9
      go_wp2
      go_roundw
      case rel => exact ⟨k + 1, o2, A9, c9, by omega, by go_num, rfl, Lib.hid HS1.out.symm, hc9, by omega, HS9, HB9⟩
      case measure => first | (simp [intOf]; done) | (simp [intOf]; omega)
    ·obtain rfl : k = L.length := by omega
     have HRes := Lib.hid (show o = RR by rw [HOF.out, HGn.out])
     go_wp2
     go_ret
     exact ⟨Av, cv, by rw [← HRes.out]; rfl, by rw [← HRes.out]; exact hocv, by rw [← HRes.out]; exact HSo.out, HB.out⟩
end Go.Proofs.YthcgihgajdjfoaaGreatDoor
namespace Go.Proofs.YthcgihgajdjfoaaGreatDoor
open Go.RowKit Go.Sort
theorem wpList_own2 {P : Program} {t e size bytes : Nat} {w : World} {ops : Array Oper} {rest : List Oper} {o : Oper} {a : Act} {Q : Exit → Act → World → Prop} (hgd : o.guard = none) (s x : Operand)
  (ho : o.op = .call { callee := .builtin .append, args := #[s, x], argTypes := #[t, t] })
  (base : Nat) (hT : ElT P t e size bytes) (v : Value) (n : Nat) (xs : List Value) (hs : a.eval s = v) (hown : w.ownsRow base e size v n xs)
  (A : Option Addr) (m c : Nat) (news : List Value) (hx : a.eval x = .slice A m c) (hsrc : Src w size A m news) (hm : 0 < m) (h1 : ∀ u ∈ news, u.oneCell' = true)
  (h63 : n + m ≤ maxLen) (hbytes : (n + m) * bytes ≤ 140737488355328) (hbase : base ≤ w.heap.size)
  (h : ∀ A' c' w', w'.ownsRow base e size (.slice A' (n + m) c') (n + m) (xs ++ news) → w.grownBy w' v.ownBlock → Below base w w' → ((Value.slice A' (n + m) c').ownBlock = v.ownBlock ∨ ∃ g, (Value.slice A' (n + m) c').ownBlock = some g ∧ w.heap.size ≤ g) → wpList P ops Q rest (a.put o.dst (.slice A' (n + m) c')) w') : wpList P ops Q (o :: rest) a w :=
 wpList_plain hgd fun _ hK => by
  obtain ⟨A', c', w', hr, h2, h3, h4, h5⟩ := run_own2 w hT base o.type v n xs hown A m c news hsrc hm h1 h63 hbytes hbase
  unfold Oper.wp execOp
  simp only [ho, resolve, invoke, builtin, Sem.run_bind, Sem.run_pure, Result.andThen_ok, List.map_toArray, List.map_cons, List.map_nil, hs, hx, hr]
  exact hK _ _ (h A' c' w' h2 h3 h4 h5)
def bestS (V : List Mod) (p : List UInt8) : Option Value := (bestA V p).map verV
theorem bestS_put {V : List Mod} {k : Nat} (hk : k < V.length) (hu : updA (bestA (V.take k)) V[k] = true) : (fun x => if x = V[k].1 then some (verV V[k].2) else bestS (V.take k) x) = bestS (V.take (k + 1)) := by
 funext x
 unfold bestS
 rw [bestA_take hk, stepA, if_pos hu]
 by_cases hx : x = V[k].1 <;> simp [hx]
theorem bestS_same {V : List Mod} {k : Nat} (hk : k < V.length) (hu : updA (bestA (V.take k)) V[k] = false) : bestS (V.take (k + 1)) = bestS (V.take k) := by
 funext x
 unfold bestS
 rw [bestA_take hk, stepA, if_neg (by rw [hu]; decide)]
def seenP (S : List (List UInt8)) (p : List UInt8) : Option Value := if p ∈ S then some (.bool true) else none
theorem seenP_get (S : List (List UInt8)) (p : List UInt8) : (seenP S p).getD (.bool false) = .bool (decide (p ∈ S)) := by
 unfold seenP
 split <;> simp [*]
theorem seenP_put (S : List (List UInt8)) (a : List UInt8) : (fun x => if x = a then some (.bool true) else seenP S x) = seenP (S ++ [a]) := by
 funext x
 unfold seenP
 by_cases h : x = a <;> by_cases h2 : x ∈ S <;> simp [h, h2]
set_option maxRecDepth 100000 in
theorem eq_ver (x y z x' y' z' : Int) (w : World) :
  (Op.equalIn 10000 24 (.agg #[.int .i64 x, .int .i64 y, .int .i64 z]) (.agg #[.int .i64 x', .int .i64 y', .int .i64 z'])).run Tryz.prog w = .ok (decide ((x, y, z) = (x', y', z'))) w := by
 by_cases hx : x = x' <;> by_cases hy : y = y' <;> by_cases hz : z = z' <;> simp [go_sem, hx, hy, hz]
set_option maxRecDepth 100000 in
set_option maxHeartbeats 1000000 in
theorem cloneM_acc (A : Option Addr) (c : Nat) (l : List Mod) (w : World) (hA : Sl w w.heap.size 4 encM A l) (hl : l.length ≤ 1099511627776) :
  Calls Tryz.prog 71 #[.slice A l.length c] w fun e w' => ∃ A' c', e = .returned (.slice A' l.length c') ∧ Acc w' w.heap.size 26 4 (.slice A' l.length c') l.length (l.flatMap encM) ∧ (∀ g, (Value.slice A' l.length c').ownBlock = some g → w.heap.size ≤ g) ∧ Below w.heap.size w w' := by
 have fin : ∀ {v : Value} {w' : World}, w'.ownsRow w.heap.size 26 4 v l.length (l.flatMap encM) → ∃ A' c', v = .slice A' l.length c' ∧ Acc w' w.heap.size 26 4 (.slice A' l.length c') l.length (l.flatMap encM) ∧ ∀ g, (Value.slice A' l.length c').ownBlock = some g → w.heap.size ≤ g := fun h => by
  obtain ⟨A', c', rfl⟩ := Acc.shape (.inl h)
  exact ⟨A', c', rfl, .inl h, fun g hg => (h.lt g hg).1⟩
 rcases hA with rfl | ⟨b, off, rfl, hb, hc⟩
 ·rcases A with _ | ad
  ·refine (AnyE.slices_Clone_nil Tryz.cloneM 0 c w).mono ?_
   rintro e w' ⟨rfl, rfl⟩
   exact ⟨none, 0, rfl, Acc.nil_ _ _ _ _, fun g hg => by simp [Value.ownBlock] at hg, Below.refl _ _⟩
  ·have q := fun (w : World) => Lib.run_eql_slice_nil w _ _ (some ad) 0 c 0 0 Tryz.underlying27
   have hac := Acc.marked w #[] w.heap.size 26 4 0 (0, 0) rfl
   show Calls Tryz.prog 71 #[.slice (some ad) 0 c] w _
   clear fin
   go_enter Tryz.func71, Tryz.ntmps71
   go_wp2_with (at_builtin; refine wpList_app _ rfl (.tmp 5) (.tmp 6) 27 rfl w.heap.size 26 4 40 elMod (.slice (some ⟨w.heap.size, 0, none⟩) 0 0) 0 _ rfl hac (some ad) 0 c [] rfl ⟨rfl, fun h => absurd h (by decide)⟩ (by simp) (by simp [maxLen]) (by omega) (by simp) ?_; intro v' w1 hacc' _ hb' _ ho')
   go_ret
   obtain ⟨A', c', rfl⟩ := hacc'.shape
   refine ⟨A', c', rfl, hacc', fun g hg => ?_, ((Below.refl _ _).alloc (Nat.le_refl _) _).trans hb'⟩
   rcases ho' with h | ⟨g', h, hg'⟩
   ·have h2 : (Value.slice A' (0 + 0) c').ownBlock = some g := hg
    rw [h] at h2
    simp [Value.ownBlock] at h2
    omega
   ·have h2 : (Value.slice A' (0 + 0) c').ownBlock = some g := hg
    rw [h] at h2
    injection h2 with h2
    simp at hg'
    omega
 ·obtain ⟨_, h0, i, z, e1, e2, e3, e4, e5⟩ := elMod
  have hsr := (Sl.src (.inr ⟨b, off, rfl, hb, hc⟩ : Sl w w.heap.size 4 encM (some ⟨b, off, none⟩) l) encM_len)
  rcases Nat.eq_zero_or_pos l.length with h0' | hpos
  ·obtain rfl : l = [] := List.eq_nil_of_length_eq_zero h0'
   refine (AnyE.slices_Clone Tryz.cloneM i z 4 40 e1 e2 e3 e4 e5 h0 Tryz.sizeOf26 b off 0 c [] w rfl (by simp [maxLen]) (by omega) (by simp) (by simp)).mono ?_
   rintro e w' ⟨v, rfl, h1, h2, h3⟩
   obtain ⟨A', c', rfl, h4, h5⟩ := fin h1
   exact ⟨A', c', rfl, h4, h5, h3⟩
  ·refine (AnyE.slices_Clone Tryz.cloneM i z 4 40 e1 e2 e3 e4 e5 h0 Tryz.sizeOf26 b off l.length c (l.flatMap encM) w (flat_len encM_len l) (by simp only [maxLen]; omega) (by omega) (fun j u hu => ?_) (encM_one l)).mono ?_
   ·obtain ⟨ad, had, hcs⟩ := hsr.2 hpos
    injection had with had
    subst had
    have := hcs j u hu
    rwa [Addr.add_lit] at this
   ·rintro e w' ⟨v, rfl, h1, h2, h3⟩
    obtain ⟨A', c', rfl, h4, h5⟩ := fin h1
    exact ⟨A', c', rfl, h4, h5, h3⟩
theorem zeroVer (w : World) : (zeroValue 24).run Tryz.prog w = .ok (.agg #[.int .i64 0, .int .i64 0, .int .i64 0]) w := Tryz.zeroValue24 w
theorem staleR_eq (L : List Rel) (r : Rel) : staleR L r = if metP L r.1 true = true then some (r.1.1, 20) else none := rfl
end Go.Proofs.YthcgihgajdjfoaaGreatDoor
