/- What the claim needs of: IP. -/
import Derived.Test.YthcgihgajdjfoaaGreatDoorV40
import Derived.Test.YthcgihgajdjfoaaGreatDoorV41
import Derived.Test.YthcgihgajdjfoaaGreatDoorV39
namespace Go.Proofs.YthcgihgajdjfoaaGreatDoor
open Go.RowKit Go.Sort
def exM : Mod := ([97], 1, 1, 0)
def exR : Mod := ([109], 1, 0, 0)
def exS : List Src2 := [([120], [121])]
def exRel : Rel := (exM, [], exS)
def exA (gS : Nat) : RelA := ⟨exM, none, 0, [], some ⟨gS, 0, none⟩, 1, exS⟩
theorem ex_err : rerr exRel = 0 := by decide +kernel
theorem ex_build : buildP ([exRel].map manR) exR [exM] = ([exR, exM], 0) := by
 have h1 : checkR [(exM, [])] = 0 := by decide +kernel
 have h2 : mcheck exR [exM] = 0 := by decide +kernel
 have h3 : knownB [(exM, [])] [exM] exR.1 = true := by decide +kernel
 have h4 : topL exR.1 (needL [(exM, [])] [exM]) = [exM] := by decide +kernel
 show buildP [(exM, [])] exR [exM] = _
 unfold buildP
 simp only [h1, h2, h3]
 unfold listP
 rw [h4]
 simp [msort]
theorem ex_ferr : ferr [exRel] = 0 := by simp [ferr, ex_err]
theorem ex_coll : collectP [exRel] exR [exM] = ([exRel], 0) := by
 unfold collectP
 rw [if_neg (by simp [ex_ferr]), if_neg (by rw [ex_build]; simp), ex_build]
 simp [findR, exRel]
theorem ex_lerr : lerr [exRel] = 0 := by rw [lerr_iff]; simp [ex_err]
theorem ex_unlock : unlockP (lockP [exRel]).1 = ([entR exRel], 0, 0) := by
 rw [lockP_ok ex_lerr]
 simp only
 rw [unlock_lock ex_lerr (by simp)]
 simp [rsort]
theorem ex_len : (lockP [exRel]).1.length ≤ 1000 := by
 rw [lockP_ok ex_lerr]
 have h1 := nlL_len (lout [exRel]) (lout_small [exRel])
 have h2 := lout_le [exRel]
 simp at h2 ⊢
 omega
theorem ex_clean : verifyP exR.1 [exM] [exRel] (lockP [exRel]).1 = [] ∧ outR exR.1 [exM] [exRel] = [] ∧ rdiffP [exRel] (unlockP (lockP [exRel]).1).1 = [] := by
 obtain ⟨D, C, hC⟩ := collected (R := [exRel]) (root := exR) (l := [exM]) (by rw [ex_coll])
 have h := hC.eq
 rw [ex_coll] at h
 injection h with h1 h2
 subst h1
 refine ⟨hC.clean (by simp), hC.out, ?_⟩
 rw [lockP_ok ex_lerr]
 simp only
 rw [unlock_lock ex_lerr (by simp)]
 exact clean_diff (by simp)
theorem ex_none : verifyP exR.1 [exM] [exRel] [] = [([97], 6)] ∧ rdiffP [exRel] (unlockP []).1 = [([97], 6)] := by
 have h0 : unlockP [] = ([], 0, 0) := by simp [unlockP, unl_nil]
 have h1 : rdiffP [exRel] [] = [([97], 6)] := by simp [rdiffP, rdiffR, exRel, exM]
 refine ⟨?_, by rw [h0]; exact h1⟩
 unfold verifyP
 rw [h0]
 simp only
 rw [h1]
 simp [ex_lerr, isort, putI]
theorem sl_cells {α : Type} {enc : α → List Value} {W : World} {g k : Nat} {t : TypeId} {cs : Array Value} {x : α} (h : Blk W g t cs) (he : cs.toList = enc x) : Sl W W.heap.size k enc (some ⟨g, 0, none⟩) [x] := by
 refine .inr ⟨g, 0, rfl, h.lt, fun i hi j v hv => ?_⟩
 obtain rfl : i = 0 := by simpa using hi
 have h1 : cs.toList[j]? = some v := by rw [he]; simpa using hv
 have h2 := h.cell j
 rw [← Array.getElem?_toList, h1] at h2
 simpa using h2
theorem sl_one6 {W : World} {g gS : Nat} {t : TypeId} (h : Blk W g t #[.string ⟨#[97]⟩, .int .i64 1, .int .i64 1, .int .i64 0, .slice none 0 0, .slice (some ⟨gS, 0, none⟩) 1 1]) : Sl W W.heap.size 6 encR (some ⟨g, 0, none⟩) [exA gS] := sl_cells h rfl
theorem exOk {W : World} {gS : Nat} {t : TypeId} (h : Blk W gS t #[.string ⟨#[120]⟩, .string ⟨#[121]⟩]) : RelM W (exA gS) ∧ RelS W (exA gS) := by
 have h1 : RelOk W (exA gS) := ⟨Sl.nil_, sl_cells h rfl, by simp [exA], by simp [exA, exS], by simp [exA, exM], by simp [exA, exS, maxLen]⟩
 have h2 : okI 0 := okI_small (by decide) (by decide)
 have h3 : okI 1 := okI_small (by decide) (by decide)
 exact ⟨⟨h1, ⟨by simp [exA, exM, maxLen], h3, h3, h2⟩, by simp [exA], by simp [exA]⟩, ⟨h1, by simp [exA], by
  intro m hm
  simp [exA] at hm
  subst hm
  exact ⟨by simp [exM], h3, h3, h2⟩⟩⟩
theorem exMan {W : World} {g : Nat} {t : TypeId} (h : Blk W g t #[.string ⟨#[97]⟩, .int .i64 1, .int .i64 1, .int .i64 0]) : ManOk W W.heap.size (exR, some ⟨g, 0, none⟩, 1, [exM]) ∧ ManS W (exR, some ⟨g, 0, none⟩, 1, [exM]) ∧ ∀ x ∈ [exM], okMod x := by
 have h2 : okI 0 := okI_small (by decide) (by decide)
 have h3 : okI 1 := okI_small (by decide) (by decide)
 have hS : Sl W W.heap.size 4 encM (some ⟨g, 0, none⟩) [exM] := sl_cells h rfl
 refine ⟨⟨hS, by simp, ?_⟩, ⟨hS, by simp⟩, ?_⟩
 ·intro m hm
  simp at hm
  rcases hm with rfl | rfl
  ·exact ⟨by simp [exR], h3, h2, h2⟩
  ·exact ⟨by simp [exM], h3, h3, h2⟩
 ·intro m hm
  simp at hm
  subst hm
  exact ⟨by simp [exM, maxLen], h3, h3, h2⟩
set_option maxRecDepth 100000 in
theorem eq_issV (p p' : List UInt8) (a b : Int) (w : World) :
  (Op.equalIn 10000 67 (.agg #[.string ⟨p.toArray⟩, .int .i64 a]) (.agg #[.string ⟨p'.toArray⟩, .int .i64 b])).run Tryz.prog w = .ok (decide ((p, a) = (p', b))) w := by
 by_cases hp : p = p' <;> by_cases hx : a = b <;> simp [go_sem, hp, hx]
set_option maxRecDepth 100000 in
theorem eq_flt (w : World) : (Op.equalIn 10000 42 (.agg #[.int .i64 0, .int .i64 0]) (.agg #[.int .i64 0, .int .i64 0])).run Tryz.prog w = .ok true w := by simp [go_sem]
set_option maxRecDepth 100000 in
theorem frame89_297b8f9425 {Q : Exit → Act → World → Prop} {W : World} {fs : List Fact} (t0 t1 t2 t3 t4 t5 t6 t7 t8 t9 t10 t11 t12 t13 t14 t15 t16 t17 t18 t19 t20 t21 t22 t23 t24 t25 t26 t27 t28 t29 t30 t31 t32 t33 t34 t35 t36 t37 t38 t39 t40 t41 t42 t43 t44 t45 t46 t47 t48 t49 t50 t51 t52 t53 t54 t55 t56 t57 t58 t59 t60 t61 t62 t63 t64 t65 t66 t67 t68 t69 t70 t71 t72 t73 t74 t75 t76 t77 t78 t79 t80 t81 t82 t83 t84 t85 t86 t87 t88 v0 v1 v2 v3 v4 v5 v6 v7 v8 v9 v10 v11 v12 v13 v14 v15 v16 v17 v18 v19 v20 v21 v22 v23 v24 v25 v26 v27 v28 v29 v30 v31 v32 v33 v34 v35 v36 v37 v38 v39 v40 v41 v42 v43 v44 v45 v46 v47 v48 v49 v50 : Value) (h : Q .normal (Act.mk #[v50, t1, t2, t3, t4, t5, t6, t7, t8, t9, t10, t11, t12, t13, t14, t15, t16, t17, t18, t19, t20, t21, t22, t23, t24, t25, t26, t27, t28, t29, t30, t31, t32, t33, t34, t35, t36, t37, t38, v0, v1, v2, v3, v4, v5, v6, v7, v8, v9, v10, v11, v12, v13, v14, v15, v16, v17, v18, v19, v20, v21, v22, v23, v24, v25, v26, v27, v28, v29, v30, v31, v32, v33, v34, v35, v36, v37, v38, v39, v40, v41, v42, v43, v44, v45, v46, v47, v48, v49] []) W) : FinAll W (fun A => Q .normal A W) [] fs (Act.put (Act.put (Act.put (Act.put (Act.put (Act.put (Act.put (Act.put (Act.put (Act.put (Act.put (Act.put (Act.put (Act.put (Act.put (Act.put (Act.put (Act.put (Act.put (Act.put (Act.put (Act.put (Act.put (Act.put (Act.put (Act.put (Act.put (Act.put (Act.put (Act.put (Act.put (Act.put (Act.put (Act.put (Act.put (Act.put (Act.put (Act.put (Act.put (Act.put (Act.put (Act.put (Act.put (Act.put (Act.put (Act.put (Act.put (Act.put (Act.put (Act.put (Act.put (Act.mk #[t0, t1, t2, t3, t4, t5, t6, t7, t8, t9, t10, t11, t12, t13, t14, t15, t16, t17, t18, t19, t20, t21, t22, t23, t24, t25, t26, t27, t28, t29, t30, t31, t32, t33, t34, t35, t36, t37, t38, t39, t40, t41, t42, t43, t44, t45, t46, t47, t48, t49, t50, t51, t52, t53, t54, t55, t56, t57, t58, t59, t60, t61, t62, t63, t64, t65, t66, t67, t68, t69, t70, t71, t72, t73, t74, t75, t76, t77, t78, t79, t80, t81, t82, t83, t84, t85, t86, t87, t88] []) (some 39) v0) (some 40) v1) (some 41) v2) (some 42) v3) (some 43) v4) (some 44) v5) (some 45) v6) (some 46) v7) (some 47) v8) (some 48) v9) (some 49) v10) (some 50) v11) (some 51) v12) (some 52) v13) (some 53) v14) (some 54) v15) (some 55) v16) (some 56) v17) (some 57) v18) (some 58) v19) (some 59) v20) (some 60) v21) (some 61) v22) (some 62) v23) (some 63) v24) (some 64) v25) (some 65) v26) (some 66) v27) (some 67) v28) (some 68) v29) (some 69) v30) (some 70) v31) (some 71) v32) (some 72) v33) (some 73) v34) (some 74) v35) (some 75) v36) (some 76) v37) (some 77) v38) (some 78) v39) (some 79) v40) (some 80) v41) (some 81) v42) (some 82) v43) (some 83) v44) (some 84) v45) (some 85) v46) (some 86) v47) (some 87) v48) (some 88) v49) (some 0) v50) :=
 fin_end (by kernel_rfl) h
set_option maxRecDepth 100000 in
set_option maxHeartbeats 8000000 in
theorem awake_any (w : World) (hG : Glob w) : Calls Tryz.prog 13 #[] w fun e w' => e = .returned (.bool true) ∧ Below w.heap.size w w' := by
 have HG := Lib.hid hG
 clear hG
 go_enter Tryz.func13, Tryz.ntmps13
 go_upto_region 2 with (go_at_call 26; refine (module_any [97] 1 _).mono ?_; rintro e w' ⟨rfl, rfl⟩)
 have HW3 := Lib.hid (show Below w.heap.size w (((w.alloc (.cells #[.string ⟨#[97]⟩, .int .i64 1, .int .i64 1, .int .i64 0] 26)).alloc (.cells #[.string ⟨#[120]⟩, .string ⟨#[121]⟩] 64)).alloc (.cells #[.string ⟨#[97]⟩, .int .i64 1, .int .i64 1, .int .i64 0, .slice none 0 0, .slice (some ⟨w.heap.size + 1, 0, none⟩) 1 1] 62)) from (((Below.refl _ _).alloc (Nat.le_refl _) _).alloc (by simp) _).alloc (by simp; omega) _)
 have hS3 := (Blk.new (w.alloc (.cells #[.string ⟨#[97]⟩, .int .i64 1, .int .i64 1, .int .i64 0] 26)) 64 #[.string ⟨#[120]⟩, .string ⟨#[121]⟩]).keep ((Below.refl _ _).alloc (Nat.le_refl _) (.cells #[.string ⟨#[97]⟩, .int .i64 1, .int .i64 1, .int .i64 0, .slice none 0 0, .slice (some ⟨w.heap.size + 1, 0, none⟩) 1 1] 62))
 have hR3 := Blk.new ((w.alloc (.cells #[.string ⟨#[97]⟩, .int .i64 1, .int .i64 1, .int .i64 0] 26)).alloc (.cells #[.string ⟨#[120]⟩, .string ⟨#[121]⟩] 64)) 62 #[.string ⟨#[97]⟩, .int .i64 1, .int .i64 1, .int .i64 0, .slice none 0 0, .slice (some ⟨w.heap.size + 1, 0, none⟩) 1 1]
 simp only [World.size_alloc] at hS3 hR3
 have HS3 := Lib.hid hS3
 have HR3 := Lib.hid hR3
 obtain ⟨gS, hgS⟩ : ∃ gS, gS = w.heap.size + 1 := ⟨_, rfl⟩
 rw [← hgS] at HW3 HS3 HR3 ⊢
 obtain ⟨gR, hgR⟩ : ∃ gR, gR = gS + 1 := ⟨_, rfl⟩
 rw [← hgR] at HR3 ⊢
 clear hS3 hR3
 generalize ((w.alloc (.cells #[.string ⟨#[97]⟩, .int .i64 1, .int .i64 1, .int .i64 0] 26)).alloc (.cells #[.string ⟨#[120]⟩, .string ⟨#[121]⟩] 64)).alloc (.cells #[.string ⟨#[97]⟩, .int .i64 1, .int .i64 1, .int .i64 0, .slice none 0 0, .slice (some ⟨gS, 0, none⟩) 1 1] 62) = w3 at HW3 HS3 HR3 ⊢
 clear hgS hgR
 go_upto_region 3 with (first | (go_at_call 26; refine (module_any [109] 0 _).mono ?_; rintro e w' ⟨rfl, rfl⟩) | (go_at_call 26; refine (module_any [97] 1 _).mono ?_; rintro e w' ⟨rfl, rfl⟩))
 have HW4 := Lib.hid (show Below w3.heap.size w3 ((((w3.alloc (.cells #[.string ⟨#[109]⟩, .int .i64 1, .int .i64 0, .int .i64 0] 26)).alloc (.cells #[.string ⟨#[97]⟩, .int .i64 1, .int .i64 1, .int .i64 0] 26)).alloc (.cells #[.string ⟨#[97]⟩, .int .i64 1, .int .i64 1, .int .i64 0] 26)).alloc (.cells #[.string ⟨#[109]⟩, .int .i64 1, .int .i64 0, .int .i64 0, .slice (some ⟨w3.heap.size + 1 + 1, 0, none⟩) 1 1] 29)) from ((((Below.refl _ _).alloc (Nat.le_refl _) _).alloc (by simp) _).alloc (by simp; omega) _).alloc (by simp; omega) _)
 have hT4 := (Blk.new ((w3.alloc (.cells #[.string ⟨#[109]⟩, .int .i64 1, .int .i64 0, .int .i64 0] 26)).alloc (.cells #[.string ⟨#[97]⟩, .int .i64 1, .int .i64 1, .int .i64 0] 26)) 26 #[.string ⟨#[97]⟩, .int .i64 1, .int .i64 1, .int .i64 0]).keep ((Below.refl _ _).alloc (Nat.le_refl _) (.cells #[.string ⟨#[109]⟩, .int .i64 1, .int .i64 0, .int .i64 0, .slice (some ⟨w3.heap.size + 1 + 1, 0, none⟩) 1 1] 29))
 have hM4 := Blk.new (((w3.alloc (.cells #[.string ⟨#[109]⟩, .int .i64 1, .int .i64 0, .int .i64 0] 26)).alloc (.cells #[.string ⟨#[97]⟩, .int .i64 1, .int .i64 1, .int .i64 0] 26)).alloc (.cells #[.string ⟨#[97]⟩, .int .i64 1, .int .i64 1, .int .i64 0] 26)) 29 #[.string ⟨#[109]⟩, .int .i64 1, .int .i64 0, .int .i64 0, .slice (some ⟨w3.heap.size + 1 + 1, 0, none⟩) 1 1]
 simp only [World.size_alloc] at hT4 hM4
 have HT4 := Lib.hid hT4
 have HM4 := Lib.hid hM4
 obtain ⟨gT, hgT⟩ : ∃ gT, gT = w3.heap.size + 1 + 1 := ⟨_, rfl⟩
 rw [← hgT] at HW4 HT4 HM4 ⊢
 obtain ⟨gM, hgM⟩ : ∃ gM, gM = gT + 1 := ⟨_, rfl⟩
 rw [← hgM] at HM4 ⊢
 clear hT4 hM4
 generalize (((w3.alloc (.cells #[.string ⟨#[109]⟩, .int .i64 1, .int .i64 0, .int .i64 0] 26)).alloc (.cells #[.string ⟨#[97]⟩, .int .i64 1, .int .i64 1, .int .i64 0] 26)).alloc (.cells #[.string ⟨#[97]⟩, .int .i64 1, .int .i64 1, .int .i64 0] 26)).alloc (.cells #[.string ⟨#[109]⟩, .int .i64 1, .int .i64 0, .int .i64 0, .slice (some ⟨gT, 0, none⟩) 1 1] 29) = w4 at HW4 HT4 HM4 ⊢
 have HB4 := Lib.hid (HW3.out.trans (HW4.out.mono HW3.out.size))
 have HS4 := Lib.hid (HS3.out.keep HW4.out)
 have HR4 := Lib.hid (HR3.out.keep HW4.out)
 clear hgT hgM HS3 HR3 HW3 HW4
 obtain ⟨r0, r1, r2, r3, r4, r5⟩ := relC HR4.out
 obtain ⟨m0, m1, m2, m3, m4⟩ := entC HM4.out
 have HW5 := Lib.hid (show Below w4.heap.size w4 (w4.alloc (.cells #[.string ⟨#[97]⟩, .int .i64 1, .int .i64 1, .int .i64 0, .slice none 0 0, .slice (some ⟨gS, 0, none⟩) 1 1] 62)) from (Below.refl _ _).alloc (Nat.le_refl _) _)
 have hm0' := cell_keep HW5.out m0
 have hm1' := cell_keep HW5.out m1
 have hm2' := cell_keep HW5.out m2
 have hm3' := cell_keep HW5.out m3
 have hm4' := cell_keep HW5.out m4
 have HB5 := Lib.hid (HB4.out.trans (HW5.out.mono HB4.out.size))
 have cC0 := Collect_any (some ⟨w4.heap.size, 0, none⟩) 1 [exA gS] (exR, some ⟨gT, 0, none⟩, 1, [exM]) (w4.alloc (.cells #[.string ⟨#[97]⟩, .int .i64 1, .int .i64 1, .int .i64 0, .slice none 0 0, .slice (some ⟨gS, 0, none⟩) 1 1] 62)) (sl_one6 (Blk.new w4 62 #[.string ⟨#[97]⟩, .int .i64 1, .int .i64 1, .int .i64 0, .slice none 0 0, .slice (some ⟨gS, 0, none⟩) 1 1])) (fun r hr => by rw [List.mem_singleton.1 hr]; exact (exOk (HS4.out.keep HW5.out)).2) (by simp) (exMan (HT4.out.keep HW5.out)).1 (HG.out.keep HB5.out)
 have hcv : collectP ([exA gS].map RelA.rel) exR [exM] = ([exRel], 0) := ex_coll
 simp only at cC0
 rw [hcv] at cC0
 unfold RetC at cC0
 simp only [exR, List.length_singleton] at cC0
 have cC := Lib.hid cC0
 clear cC0 hcv
 go_wp2_with fail
 refine cC.out.mono ?_
 rintro e w6 ⟨A6, c6, Q, rfl, hQ, hS6, hok6, hb6⟩
 have HX6 := Lib.hid (HW5.out.trans (hb6.mono HW5.out.size))
 have HB6 := Lib.hid (HB4.out.trans (HX6.out.mono HB4.out.size))
 obtain ⟨q, rfl⟩ : ∃ q, Q = [q] := by
  match Q, hQ with
  | [q], _ => exact ⟨q, rfl⟩
  | [], h => simp at h
  | _ :: _ :: _, h => simp at h
 have HQe := Lib.hid (show q.rel = exRel from by simpa using hQ)
 have HS6 := Lib.hid hS6
 have HO6 := Lib.hid (hok6 q (by simp))
 simp only [List.length_singleton]
 clear hQ hS6 hok6 hb6 cC r0 r1 r2 r3 r4 r5 m0 m1 m2 m3 m4 hm0' hm1' hm2' hm3' hm4' HW5 HB5
 have cL0 := Lock_any A6 c6 [q] w6 HS6.out (fun r hr => by rw [List.mem_singleton.1 hr]; exact HO6.out) (HG.out.keep HB6.out) (by simp)
 have hlk : lockP ([q].map RelA.rel) = ((lockP [exRel]).1, 0) := by
  rw [List.map_cons, List.map_nil, HQe.out, lockP_ok ex_lerr]
 rw [hlk] at cL0
 obtain ⟨sL, hsL⟩ : ∃ sL, sL = (lockP [exRel]).1 := ⟨_, rfl⟩
 have hsl1 : sL.length ≤ 1000 := by rw [hsL]; exact ex_len
 have HUn := Lib.hid (show unlockP sL = ([entR exRel], 0, 0) from by rw [hsL]; exact ex_unlock)
 have HCl := Lib.hid (show verifyP exR.1 [exM] [exRel] sL = [] ∧ outR exR.1 [exM] [exRel] = [] ∧ rdiffP [exRel] (unlockP sL).1 = [] from by rw [hsL]; exact ex_clean)
 rw [← hsL] at cL0
 unfold RetLk at cL0
 simp only [List.length_singleton] at cL0
 have cL := Lib.hid cL0
 clear cL0 hlk hsL
 go_wp2_with fail
 refine cL.out.mono ?_
 rintro e w7 ⟨rfl, hb7⟩
 have HX7 := Lib.hid (HX6.out.trans (hb7.mono HX6.out.size))
 have HB7 := Lib.hid (HB4.out.trans (HX7.out.mono HB4.out.size))
 have HX67 := Lib.hid hb7
 clear hb7 cL
 have cU0 := Unlock_any sL w7 (HG.out.keep HB7.out) (by omega)
 rw [HUn.out] at cU0
 unfold RetU at cU0
 simp only [List.length_singleton] at cU0
 have cU := Lib.hid cU0
 clear cU0
 go_wp2_with fail
 refine cU.out.mono ?_
 rintro e w8 ⟨A8, c8, rfl, hS8, hb8⟩
 have HS8 := Lib.hid hS8
 have HX8 := Lib.hid (HX7.out.trans (hb8.mono HX7.out.size))
 have HW9 := Lib.hid (show Below w8.heap.size w8 (w8.alloc (.cells #[.int .i64 0, .int .i64 0] 42)) from (Below.refl _ _).alloc (Nat.le_refl _) _)
 have HF9 := Lib.hid (Blk.new w8 42 #[.int .i64 0, .int .i64 0])
 have HX68 := Lib.hid (HX67.out.trans (hb8.mono HX67.out.size))
 clear hS8 hb8 cU
 go_upto_region 6 with fail
 obtain ⟨gF, hgF⟩ : ∃ gF, gF = w8.heap.size := ⟨_, rfl⟩
 rw [← hgF] at HF9 ⊢
 have HX9 := Lib.hid (HX8.out.trans (HW9.out.mono HX8.out.size))
 have HX69 := Lib.hid (HX68.out.trans (HW9.out.mono HX68.out.size))
 have HS9 := Lib.hid ((HS8.out.below HW9.out).more HW9.out.size)
 try simp only [Int.cast_ofNat_Int] at HF9 HW9 HX9 HX69 HS9 ⊢
 generalize w8.alloc (.cells #[.int .i64 0, .int .i64 0] 42) = w9 at HF9 HW9 HX9 HX69 HS9 ⊢
 clear hgF
 have HB9 := Lib.hid (HB4.out.trans (HX9.out.mono HB4.out.size))
 have hmap : [q].map RelA.rel = [exRel] := by rw [List.map_cons, List.map_nil, HQe.out]
 have hqe := HQe.out
 obtain ⟨qm, qA, qc, ql, qA', qc', qs⟩ := q
 simp only [RelA.rel, exRel] at hqe
 injection hqe with e1 e2
 injection e2 with e2 e3
 subst e1 e2 e3
 have okm : okMod exM := ((exMan HT4.out).2.2) exM (by simp)
 have cV0 := fun (s : List UInt8) (W : World) (hW : Below w9.heap.size w9 W) => Verify_any (exR, some ⟨gT, 0, none⟩, 1, [exM]) A6 c6 [⟨exM, qA, qc, [], qA', qc', exS⟩] s W ((exMan (HT4.out.keep (HX9.out.trans (hW.mono HX9.out.size)))).2.1) ((HS6.out.below (HX69.out.trans (hW.mono HX69.out.size))).more (Nat.le_trans HX69.out.size hW.size)) (fun r hr => by
  rw [List.mem_singleton.1 hr]
  exact ⟨HO6.out.below (HX69.out.trans (hW.mono HX69.out.size)), okm, by simp, by simp⟩) (fun x hx => by rw [List.mem_singleton.1 hx]; exact okm) (by simp)
 simp only [hmap] at cV0
 have cV1 := cV0 [] w9 (Below.refl _ _) (by simp) (HG.out.keep HB9.out) (by rw [ex_none.2]; decide) (fun h => by rw [ex_none.2] at h; cases h)
 rw [ex_none.1] at cV1
 have cV2 := fun W hW => cV0 sL W hW (by omega) (HG.out.keep (HB9.out.trans (hW.mono HB9.out.size))) (by rw [HCl.out.2.2]; simp) (fun _ => by rw [HCl.out.2.1]; simp)
 rw [HCl.out.1] at cV2
 unfold RetI at cV1 cV2
 simp only [exR, List.length_singleton, List.length_nil] at cV1 cV2
 have cVA := Lib.hid cV1
 have cVB := Lib.hid cV2
 have HM9 := Lib.hid (HM4.out.keep HX9.out)
 obtain ⟨m0, m1, m2, m3, m4⟩ := entC HM9.out
 clear cV0 cV1 cV2
 go_wp2_with fail
 refine cVA.out.mono ?_
 rintro e wq ⟨A9, c9, rfl, _, hSx, hb9⟩
 have HXq := Lib.hid (HX9.out.trans (hb9.mono HX9.out.size))
 have HX6q := Lib.hid (HX69.out.trans (hb9.mono HX69.out.size))
 have HBq := Lib.hid (HB4.out.trans (HXq.out.mono HB4.out.size))
 obtain ⟨bu, ou, hAu, hzu, u0', u1', u2', u3', _⟩ := ((HS9.out.below hb9).more hb9.size).ent (i := 0) (by simp)
 obtain ⟨bx, ox, hAx, hzx, x0', x1'⟩ := hSx.iss (i := 0) (by simp)
 have u0 : wq.cell? ⟨bu, ou, none⟩ = some (.string ⟨#[97]⟩) := by simpa [entR, exRel, exM] using u0'
 have u1 : wq.cell? ⟨bu, ou + 1, none⟩ = some (.int .i64 1) := by simpa [entR, exRel, exM] using u1'
 have u2 : wq.cell? ⟨bu, ou + 2, none⟩ = some (.int .i64 1) := by simpa [entR, exRel, exM] using u2'
 have u3 : wq.cell? ⟨bu, ou + 3, none⟩ = some (.int .i64 0) := by simpa [entR, exRel, exM] using u3'
 have x0 : wq.cell? ⟨bx, ox, none⟩ = some (.string ⟨#[97]⟩) := by simpa using x0'
 have x1 : wq.cell? ⟨bx, ox + 1, none⟩ = some (.int .i64 6) := by simpa using x1'
 have HRq := HR4.out.keep HXq.out
 have HMq := HM4.out.keep HXq.out
 have HFq := HF9.out.keep hb9
 have hzR : gR < wq.heap.size := HRq.lt
 have hzM : gM < wq.heap.size := HMq.lt
 have hzF : gF < wq.heap.size := HFq.lt
 have cS0 := fun (W : World) (A7 : Option Addr) (c7 : Nat) (hW : Below wq.heap.size wq W) (hS7 : Sl W W.heap.size 6 encR A7 [exA gS]) => sameL_any A6 c6 [⟨exM, qA, qc, [], qA', qc', exS⟩] A7 c7 [exA gS] W ((HS6.out.below (HX6q.out.trans (hW.mono HX6q.out.size))).more (Nat.le_trans HX6q.out.size hW.size)) hS7 (fun r hr => by
  rw [List.mem_singleton.1 hr]
  exact HO6.out.below (HX6q.out.trans (hW.mono HX6q.out.size))) (fun r hr => by
  rw [List.mem_singleton.1 hr]
  exact (exOk (HS4.out.keep (HXq.out.trans (hW.mono HXq.out.size)))).1.ok) rfl (by simp)
 simp only [List.length_singleton] at cS0
 have cSame := Lib.hid cS0
 have cV := Lib.hid (fun W (hW : Below wq.heap.size wq W) => cVB.out W (hb9.trans (hW.mono hb9.size)))
 have heqF := eq_flt
 have heqM := fun W => eq_mod [97] [97] 1 1 0 1 1 0 W
 have heqI := fun W => eq_issV [97] [97] 6 6 W
 simp only [decide_true] at heqM heqI
 obtain ⟨r0, r1, r2, r3, r4, r5⟩ := relC HRq
 clear m0 m1 m2 m3 m4
 obtain ⟨m0, m1, m2, m3, m4⟩ := entC HMq
 obtain ⟨f0, f1⟩ := fltC HFq
 have HAu := Lib.hid hAu
 have HAx := Lib.hid hAx
 subst hAu hAx
 clear u0' u1' u2' u3' x0' x1' hSx hb9 cS0 cVA cVB HRq HMq HFq
 go_upto_region 7 with fail
 apply wp_region_facts (by kernel_rfl) [isv _, isv _, isv _, isv _, isv _, isv _, isv _, isv _, isv _, isv _, isv _, isv _, isv _, isv _, (fun v W => ∃ (A : Option Addr) (c : Nat), v = .slice A 1 c ∧ Sl W W.heap.size 6 encR A [exA gS]), isv _, isv _, isv _, isv _, isv _, isv _, isv _, isv _, isv _, isv _, isv _, isv _, isv _, isv _, isv _, isv _, isv _, isv _, isv _, (fun v W => ∃ (A : Option Addr) (c : Nat), v = .slice A 0 c), isv _, isv _, isv _, isv _, isv _, isv _, isv _, isv _, isv _, isv _, isv _, isv _, isv _, isv _, isv _, isv _] wq.heap.size wq (Nat.le_refl _) (Below.refl _ _).drew (by kernel_rfl) (by kernel_rfl) (by kernel_rfl) (And.intro (isv_mono _) (And.intro (isv_mono _) (And.intro (isv_mono _) (And.intro (isv_mono _) (And.intro (isv_mono _) (And.intro (isv_mono _) (And.intro (isv_mono _) (And.intro (isv_mono _) (And.intro (isv_mono _) (And.intro (isv_mono _) (And.intro (isv_mono _) (And.intro (isv_mono _) (And.intro (isv_mono _) (And.intro (isv_mono _) (And.intro (fun _ _ _ ⟨A, c, e, h1⟩ hb => ⟨A, c, e, (h1.below hb).more hb.size⟩) (And.intro (isv_mono _) (And.intro (isv_mono _) (And.intro (isv_mono _) (And.intro (isv_mono _) (And.intro (isv_mono _) (And.intro (isv_mono _) (And.intro (isv_mono _) (And.intro (isv_mono _) (And.intro (isv_mono _) (And.intro (isv_mono _) (And.intro (isv_mono _) (And.intro (isv_mono _) (And.intro (isv_mono _) (And.intro (isv_mono _) (And.intro (isv_mono _) (And.intro (isv_mono _) (And.intro (isv_mono _) (And.intro (isv_mono _) (And.intro (isv_mono _) (And.intro (fun _ _ _ h _ => h) (And.intro (isv_mono _) (And.intro (isv_mono _) (And.intro (isv_mono _) (And.intro (isv_mono _) (And.intro (isv_mono _) (And.intro (isv_mono _) (And.intro (isv_mono _) (And.intro (isv_mono _) (And.intro (isv_mono _) (And.intro (isv_mono _) (And.intro (isv_mono _) (And.intro (isv_mono _) (And.intro (isv_mono _) (And.intro (isv_mono _) (And.intro (isv_mono _) (And.intro (isv_mono _) trivial))))))))))))))))))))))))))))))))))))))))))))))))))) ?steps (by rfl) ?fin
 case steps =>
  refine (And.intro ?o0 (And.intro ?o1 (And.intro ?o2 (And.intro ?o3 (And.intro ?o4 (And.intro ?o5 (And.intro ?o6 (And.intro ?o7 (And.intro ?o8 (And.intro ?o9 (And.intro ?o10 (And.intro ?o11 (And.intro ?o12 (And.intro ?o13 (And.intro ?o14 (And.intro ?o15 (And.intro ?o16 (And.intro ?o17 (And.intro ?o18 (And.intro ?o19 (And.intro ?o20 (And.intro ?o21 (And.intro ?o22 (And.intro ?o23 (And.intro ?o24 (And.intro ?o25 (And.intro ?o26 (And.intro ?o27 (And.intro ?o28 (And.intro ?o29 (And.intro ?o30 (And.intro ?o31 (And.intro ?o32 (And.intro ?o33 (And.intro ?o34 (And.intro ?o35 (And.intro ?o36 (And.intro ?o37 (And.intro ?o38 (And.intro ?o39 (And.intro ?o40 (And.intro ?o41 (And.intro ?o42 (And.intro ?o43 (And.intro ?o44 (And.intro ?o45 (And.intro ?o46 (And.intro ?o47 (And.intro ?o48 (And.intro ?o49 (And.intro ?o50 trivial)))))))))))))))))))))))))))))))))))))))))))))))))))
  case o0 =>
   intro AA W KK QQ hB hs hd hl hk
   have sl4 := hs 4 _ (by kernel_rfl) rfl
   clear hs hd hl
   go_simp
   exact hk _ _ rfl (Below.refl _ _)
  case o1 =>
   intro AA W KK QQ hB hs hd hl hk
   obtain ⟨_, sl39, rfl⟩ := hd 0 39 (by kernel_rfl) rfl
   clear hs hd hl
   go_simp
   exact hk _ _ rfl (Below.refl _ _)
  case o2 =>
   intro AA W KK QQ hB hs hd hl hk
   obtain ⟨_, sl40, rfl⟩ := hd 1 40 (by kernel_rfl) rfl
   clear hs hd hl
   go_simp
   exact hk _ _ rfl (Below.refl _ _)
  case o3 =>
   intro AA W KK QQ hB hs hd hl hk
   have sl6 := hs 6 _ (by kernel_rfl) rfl
   obtain ⟨_, sl41, rfl⟩ := hd 2 41 (by kernel_rfl) rfl
   clear hs hd hl
   refine ⟨_, _, rfl, sl41, ?_⟩
   first
    | (change Oper.wp _ _ _ _ _ _; go_simp; exact hk _ _ rfl (Below.refl _ _))
    | exact rfl
  case o4 =>
   intro AA W KK QQ hB hs hd hl hk
   obtain ⟨_, sl41, rfl⟩ := hd 2 41 (by kernel_rfl) rfl
   obtain ⟨_, sl42, rfl⟩ := hd 3 42 (by kernel_rfl) rfl
   clear hs hd hl
   refine ⟨_, _, rfl, sl41, ?_⟩
   first
    | (change Oper.wp _ _ _ _ _ _; go_simp; exact hk _ _ rfl (Below.refl _ _))
    | exact rfl
  case o5 =>
   intro AA W KK QQ hB hs hd hl hk
   obtain ⟨_, sl41, rfl⟩ := hd 2 41 (by kernel_rfl) rfl
   obtain ⟨_, sl43, rfl⟩ := hd 4 43 (by kernel_rfl) rfl
   clear hs hd hl
   go_simp
   exact hk _ _ rfl (Below.refl _ _)
  case o6 =>
   intro AA W KK QQ hB hs hd hl hk
   obtain ⟨_, sl44, rfl⟩ := hd 5 44 (by kernel_rfl) rfl
   clear hs hd hl
   go_simp
   exact hk _ _ rfl (Below.refl _ _)
  case o7 =>
   intro AA W KK QQ hB hs hd hl hk
   have sl8 := hs 8 _ (by kernel_rfl) rfl
   obtain ⟨_, sl45, rfl⟩ := hd 6 45 (by kernel_rfl) rfl
   clear hs hd hl
   have hx0 := hB.cell (p := ⟨gF, 0, none⟩) hzF
   have hx1 := hB.cell (p := ⟨gF, 1, none⟩) hzF
   rw [f0] at hx0
   rw [f1] at hx1
   refine ⟨_, _, rfl, sl45, ?_⟩
   first
    | (change Oper.wp _ _ _ _ _ _; go_simp; exact hk _ _ rfl (Below.refl _ _))
    | exact rfl
  case o8 =>
   intro AA W KK QQ hB hs hd hl hk
   obtain ⟨_, sl45, rfl⟩ := hd 6 45 (by kernel_rfl) rfl
   clear hs hd hl
   refine ⟨_, _, rfl, sl45, ?_⟩
   first
    | (change Oper.wp _ _ _ _ _ _; go_simp; exact hk _ _ rfl (Below.refl _ _))
    | exact rfl
  case o9 =>
   intro AA W KK QQ hB hs hd hl hk
   obtain ⟨_, sl45, rfl⟩ := hd 6 45 (by kernel_rfl) rfl
   obtain ⟨_, sl46, rfl⟩ := hd 7 46 (by kernel_rfl) rfl
   obtain ⟨_, sl47, rfl⟩ := hd 8 47 (by kernel_rfl) rfl
   clear hs hd hl
   have hq := heqF W
   refine ⟨_, _, rfl, sl45, ?_⟩
   first
    | (change Oper.wp _ _ _ _ _ _; go_simp; exact hk _ _ rfl (Below.refl _ _))
    | exact rfl
  case o10 =>
   intro AA W KK QQ hB hs hd hl hk
   obtain ⟨_, sl45, rfl⟩ := hd 6 45 (by kernel_rfl) rfl
   obtain ⟨_, sl48, rfl⟩ := hd 9 48 (by kernel_rfl) rfl
   clear hs hd hl
   go_simp
   exact hk _ _ rfl (Below.refl _ _)
  case o11 =>
   intro AA W KK QQ hB hs hd hl hk
   obtain ⟨_, sl49, rfl⟩ := hd 10 49 (by kernel_rfl) rfl
   clear hs hd hl
   go_simp
   exact hk _ _ rfl (Below.refl _ _)
  case o12 =>
   intro AA W KK QQ hB hs hd hl hk
   have sl3 := hs 3 _ (by kernel_rfl) rfl
   obtain ⟨_, sl50, rfl⟩ := hd 11 50 (by kernel_rfl) rfl
   clear hs hd hl
   refine ⟨_, _, rfl, sl50, ?_⟩
   first
    | (change Oper.wp _ _ _ _ _ _; go_simp; exact hk _ _ rfl (Below.refl _ _))
    | exact rfl
  case o13 =>
   intro AA W KK QQ hB hs hd hl hk
   have sl1 := hs 1 _ (by kernel_rfl) rfl
   obtain ⟨_, sl50, rfl⟩ := hd 11 50 (by kernel_rfl) rfl
   clear hs hd hl
   have hx0 := hB.cell (p := ⟨gR, 0, none⟩) hzR
   have hx1 := hB.cell (p := ⟨gR, 1, none⟩) hzR
   have hx2 := hB.cell (p := ⟨gR, 2, none⟩) hzR
   have hx3 := hB.cell (p := ⟨gR, 3, none⟩) hzR
   have hx4 := hB.cell (p := ⟨gR, 4, none⟩) hzR
   have hx5 := hB.cell (p := ⟨gR, 5, none⟩) hzR
   rw [r0] at hx0
   rw [r1] at hx1
   rw [r2] at hx2
   rw [r3] at hx3
   rw [r4] at hx4
   rw [r5] at hx5
   refine ⟨_, _, rfl, sl50, ?_⟩
   first
    | (change Oper.wp _ _ _ _ _ _; go_simp; exact hk _ _ rfl (Below.refl _ _))
    | exact rfl
  case o14 =>
   intro AA W KK QQ hB hs hd hl hk
   obtain ⟨_, sl50, rfl⟩ := hd 11 50 (by kernel_rfl) rfl
   obtain ⟨_, sl52, rfl⟩ := hd 13 52 (by kernel_rfl) rfl
   clear hs hd hl
   refine ⟨_, _, rfl, sl50, ?_⟩
   change Oper.wp _ _ _ _ _ _
   go_simp
   exact hk _ _ ⟨_, _, rfl, sl_one6 (Blk.new _ 62 #[.string ⟨#[97]⟩, .int .i64 1, .int .i64 1, .int .i64 0, .slice none 0 0, .slice (some ⟨gS, 0, none⟩) 1 1])⟩ ((Below.refl _ _).alloc (Nat.le_refl _) _)
  case o15 =>
   intro AA W KK QQ hB hs hd hl hk
   obtain ⟨_, sl50, rfl⟩ := hd 11 50 (by kernel_rfl) rfl
   obtain ⟨_, sl51, rfl⟩ := hd 12 51 (by kernel_rfl) rfl
   obtain ⟨_, sl53, ⟨A7, c7, rfl, hS7⟩⟩ := hd 14 53 (by kernel_rfl) rfl
   clear hs hd hl
   refine ⟨_, _, rfl, sl50, ?_⟩
   change Oper.wp _ _ _ _ _ _
   go_simp
   refine (cSame.out W A7 c7 hB hS7).mono ?_
   rintro e W2 ⟨rfl, hb2⟩
   exact hk _ _ rfl hb2
  case o16 =>
   intro AA W KK QQ hB hs hd hl hk
   obtain ⟨_, sl50, rfl⟩ := hd 11 50 (by kernel_rfl) rfl
   obtain ⟨_, sl54, rfl⟩ := hd 15 54 (by kernel_rfl) rfl
   clear hs hd hl
   go_simp
   exact hk _ _ rfl (Below.refl _ _)
  case o17 =>
   intro AA W KK QQ hB hs hd hl hk
   obtain ⟨_, sl55, rfl⟩ := hd 16 55 (by kernel_rfl) rfl
   clear hs hd hl
   go_simp
   exact hk _ _ rfl (Below.refl _ _)
  case o18 =>
   intro AA W KK QQ hB hs hd hl hk
   have sl7 := hs 7 _ (by kernel_rfl) rfl
   obtain ⟨_, sl56, rfl⟩ := hd 17 56 (by kernel_rfl) rfl
   clear hs hd hl
   refine ⟨_, _, rfl, sl56, ?_⟩
   first
    | (change Oper.wp _ _ _ _ _ _; go_simp; exact hk _ _ rfl (Below.refl _ _))
    | exact rfl
  case o19 =>
   intro AA W KK QQ hB hs hd hl hk
   obtain ⟨_, sl56, rfl⟩ := hd 17 56 (by kernel_rfl) rfl
   obtain ⟨_, sl57, rfl⟩ := hd 18 57 (by kernel_rfl) rfl
   clear hs hd hl
   refine ⟨_, _, rfl, sl56, ?_⟩
   first
    | (change Oper.wp _ _ _ _ _ _; go_simp; exact hk _ _ rfl (Below.refl _ _))
    | exact rfl
  case o20 =>
   intro AA W KK QQ hB hs hd hl hk
   obtain ⟨_, sl56, rfl⟩ := hd 17 56 (by kernel_rfl) rfl
   obtain ⟨_, sl58, rfl⟩ := hd 19 58 (by kernel_rfl) rfl
   clear hs hd hl
   refine ⟨_, _, rfl, sl56, ?_⟩
   first
    | (change Oper.wp _ _ _ _ _ _; go_simp; exact hk _ _ rfl (Below.refl _ _))
    | exact rfl
  case o21 =>
   intro AA W KK QQ hB hs hd hl hk
   obtain ⟨_, sl56, rfl⟩ := hd 17 56 (by kernel_rfl) rfl
   obtain ⟨_, sl59, rfl⟩ := hd 20 59 (by kernel_rfl) rfl
   clear hs hd hl
   go_simp
   exact hk _ _ rfl (Below.refl _ _)
  case o22 =>
   intro AA W KK QQ hB hs hd hl hk
   obtain ⟨_, sl60, rfl⟩ := hd 21 60 (by kernel_rfl) rfl
   clear hs hd hl
   go_simp
   exact hk _ _ rfl (Below.refl _ _)
  case o23 =>
   intro AA W KK QQ hB hs hd hl hk
   have sl7 := hs 7 _ (by kernel_rfl) rfl
   obtain ⟨_, sl61, rfl⟩ := hd 22 61 (by kernel_rfl) rfl
   clear hs hd hl
   refine ⟨_, _, rfl, sl61, ?_⟩
   first
    | (change Oper.wp _ _ _ _ _ _; go_simp; exact hk _ _ rfl (Below.refl _ _))
    | exact rfl
  case o24 =>
   intro AA W KK QQ hB hs hd hl hk
   obtain ⟨_, sl61, rfl⟩ := hd 22 61 (by kernel_rfl) rfl
   obtain ⟨_, sl62, rfl⟩ := hd 23 62 (by kernel_rfl) rfl
   clear hs hd hl
   refine ⟨_, _, rfl, sl61, ?_⟩
   first
    | (change Oper.wp _ _ _ _ _ _; go_simp; exact hk _ _ rfl (Below.refl _ _))
    | exact rfl
  case o25 =>
   intro AA W KK QQ hB hs hd hl hk
   obtain ⟨_, sl61, rfl⟩ := hd 22 61 (by kernel_rfl) rfl
   obtain ⟨_, sl63, rfl⟩ := hd 24 63 (by kernel_rfl) rfl
   clear hs hd hl
   refine ⟨_, _, rfl, sl61, ?_⟩
   first
    | (change Oper.wp _ _ _ _ _ _; go_simp; exact hk _ _ rfl (Below.refl _ _))
    | exact rfl
  case o26 =>
   intro AA W KK QQ hB hs hd hl hk
   obtain ⟨_, sl61, rfl⟩ := hd 22 61 (by kernel_rfl) rfl
   obtain ⟨_, sl64, rfl⟩ := hd 25 64 (by kernel_rfl) rfl
   clear hs hd hl
   have hx0 := hB.cell (p := ⟨bu, ou, none⟩) hzu
   have hx1 := hB.cell (p := ⟨bu, ou + 1, none⟩) hzu
   have hx2 := hB.cell (p := ⟨bu, ou + 2, none⟩) hzu
   have hx3 := hB.cell (p := ⟨bu, ou + 3, none⟩) hzu
   rw [u0] at hx0
   rw [u1] at hx1
   rw [u2] at hx2
   rw [u3] at hx3
   refine ⟨_, _, rfl, sl61, ?_⟩
   first
    | (change Oper.wp _ _ _ _ _ _; go_simp; exact hk _ _ rfl (Below.refl _ _))
    | exact rfl
  case o27 =>
   intro AA W KK QQ hB hs hd hl hk
   obtain ⟨_, sl61, rfl⟩ := hd 22 61 (by kernel_rfl) rfl
   clear hs hd hl
   refine ⟨_, _, rfl, sl61, ?_⟩
   change Oper.wp _ _ _ _ _ _
   go_simp
   refine (module_any [97] 1 W).mono ?_
   rintro e W2 ⟨rfl, rfl⟩
   exact hk _ _ rfl ((Below.refl _ _).alloc (Nat.le_refl _) _)
  case o28 =>
   intro AA W KK QQ hB hs hd hl hk
   obtain ⟨_, sl61, rfl⟩ := hd 22 61 (by kernel_rfl) rfl
   obtain ⟨_, sl65, rfl⟩ := hd 26 65 (by kernel_rfl) rfl
   obtain ⟨_, sl66, rfl⟩ := hd 27 66 (by kernel_rfl) rfl
   clear hs hd hl
   have hq := heqM W
   refine ⟨_, _, rfl, sl61, ?_⟩
   first
    | (change Oper.wp _ _ _ _ _ _; go_simp; exact hk _ _ rfl (Below.refl _ _))
    | exact rfl
  case o29 =>
   intro AA W KK QQ hB hs hd hl hk
   obtain ⟨_, sl61, rfl⟩ := hd 22 61 (by kernel_rfl) rfl
   obtain ⟨_, sl67, rfl⟩ := hd 28 67 (by kernel_rfl) rfl
   clear hs hd hl
   go_simp
   exact hk _ _ rfl (Below.refl _ _)
  case o30 =>
   intro AA W KK QQ hB hs hd hl hk
   obtain ⟨_, sl68, rfl⟩ := hd 29 68 (by kernel_rfl) rfl
   clear hs hd hl
   go_simp
   exact hk _ _ rfl (Below.refl _ _)
  case o31 =>
   intro AA W KK QQ hB hs hd hl hk
   have sl2 := hs 2 _ (by kernel_rfl) rfl
   obtain ⟨_, sl69, rfl⟩ := hd 30 69 (by kernel_rfl) rfl
   clear hs hd hl
   have hx0 := hB.cell (p := ⟨gM, 0, none⟩) hzM
   have hx1 := hB.cell (p := ⟨gM, 1, none⟩) hzM
   have hx2 := hB.cell (p := ⟨gM, 2, none⟩) hzM
   have hx3 := hB.cell (p := ⟨gM, 3, none⟩) hzM
   have hx4 := hB.cell (p := ⟨gM, 4, none⟩) hzM
   rw [m0] at hx0
   rw [m1] at hx1
   rw [m2] at hx2
   rw [m3] at hx3
   rw [m4] at hx4
   refine ⟨_, _, rfl, sl69, ?_⟩
   first
    | (change Oper.wp _ _ _ _ _ _; go_simp; exact hk _ _ rfl (Below.refl _ _))
    | exact rfl
  case o32 =>
   intro AA W KK QQ hB hs hd hl hk
   have sl3 := hs 3 _ (by kernel_rfl) rfl
   obtain ⟨_, sl69, rfl⟩ := hd 30 69 (by kernel_rfl) rfl
   clear hs hd hl
   refine ⟨_, _, rfl, sl69, ?_⟩
   first
    | (change Oper.wp _ _ _ _ _ _; go_simp; exact hk _ _ rfl (Below.refl _ _))
    | exact rfl
  case o33 =>
   intro AA W KK QQ hB hs hd hl hk
   have sl5 := hs 5 _ (by kernel_rfl) rfl
   obtain ⟨_, sl69, rfl⟩ := hd 30 69 (by kernel_rfl) rfl
   clear hs hd hl
   refine ⟨_, _, rfl, sl69, ?_⟩
   first
    | (change Oper.wp _ _ _ _ _ _; go_simp; exact hk _ _ rfl (Below.refl _ _))
    | exact rfl
  case o34 =>
   intro AA W KK QQ hB hs hd hl hk
   obtain ⟨_, sl69, rfl⟩ := hd 30 69 (by kernel_rfl) rfl
   obtain ⟨_, sl70, rfl⟩ := hd 31 70 (by kernel_rfl) rfl
   obtain ⟨_, sl71, rfl⟩ := hd 32 71 (by kernel_rfl) rfl
   obtain ⟨_, sl72, rfl⟩ := hd 33 72 (by kernel_rfl) rfl
   clear hs hd hl
   refine ⟨_, _, rfl, sl69, ?_⟩
   change Oper.wp _ _ _ _ _ _
   go_simp
   refine (cV.out W hB).mono ?_
   rintro e W2 ⟨A10, c10, rfl, _, _, hb2⟩
   exact hk _ _ ⟨A10, c10, rfl⟩ hb2
  case o35 =>
   intro AA W KK QQ hB hs hd hl hk
   obtain ⟨_, sl69, rfl⟩ := hd 30 69 (by kernel_rfl) rfl
   obtain ⟨_, sl73, ⟨A10, c10, rfl⟩⟩ := hd 34 73 (by kernel_rfl) rfl
   clear hs hd hl
   refine ⟨_, _, rfl, sl69, ?_⟩
   first
    | (change Oper.wp _ _ _ _ _ _; go_simp; exact hk _ _ rfl (Below.refl _ _))
    | exact rfl
  case o36 =>
   intro AA W KK QQ hB hs hd hl hk
   obtain ⟨_, sl69, rfl⟩ := hd 30 69 (by kernel_rfl) rfl
   obtain ⟨_, sl74, rfl⟩ := hd 35 74 (by kernel_rfl) rfl
   clear hs hd hl
   refine ⟨_, _, rfl, sl69, ?_⟩
   first
    | (change Oper.wp _ _ _ _ _ _; go_simp; exact hk _ _ rfl (Below.refl _ _))
    | exact rfl
  case o37 =>
   intro AA W KK QQ hB hs hd hl hk
   obtain ⟨_, sl69, rfl⟩ := hd 30 69 (by kernel_rfl) rfl
   obtain ⟨_, sl75, rfl⟩ := hd 36 75 (by kernel_rfl) rfl
   clear hs hd hl
   go_simp
   exact hk _ _ rfl (Below.refl _ _)
  case o38 =>
   intro AA W KK QQ hB hs hd hl hk
   obtain ⟨_, sl76, rfl⟩ := hd 37 76 (by kernel_rfl) rfl
   clear hs hd hl
   go_simp
   exact hk _ _ rfl (Below.refl _ _)
  case o39 =>
   intro AA W KK QQ hB hs hd hl hk
   have sl9 := hs 9 _ (by kernel_rfl) rfl
   obtain ⟨_, sl77, rfl⟩ := hd 38 77 (by kernel_rfl) rfl
   clear hs hd hl
   refine ⟨_, _, rfl, sl77, ?_⟩
   first
    | (change Oper.wp _ _ _ _ _ _; go_simp; exact hk _ _ rfl (Below.refl _ _))
    | exact rfl
  case o40 =>
   intro AA W KK QQ hB hs hd hl hk
   obtain ⟨_, sl77, rfl⟩ := hd 38 77 (by kernel_rfl) rfl
   obtain ⟨_, sl78, rfl⟩ := hd 39 78 (by kernel_rfl) rfl
   clear hs hd hl
   refine ⟨_, _, rfl, sl77, ?_⟩
   first
    | (change Oper.wp _ _ _ _ _ _; go_simp; exact hk _ _ rfl (Below.refl _ _))
    | exact rfl
  case o41 =>
   intro AA W KK QQ hB hs hd hl hk
   obtain ⟨_, sl77, rfl⟩ := hd 38 77 (by kernel_rfl) rfl
   obtain ⟨_, sl79, rfl⟩ := hd 40 79 (by kernel_rfl) rfl
   clear hs hd hl
   refine ⟨_, _, rfl, sl77, ?_⟩
   first
    | (change Oper.wp _ _ _ _ _ _; go_simp; exact hk _ _ rfl (Below.refl _ _))
    | exact rfl
  case o42 =>
   intro AA W KK QQ hB hs hd hl hk
   obtain ⟨_, sl77, rfl⟩ := hd 38 77 (by kernel_rfl) rfl
   obtain ⟨_, sl80, rfl⟩ := hd 41 80 (by kernel_rfl) rfl
   clear hs hd hl
   go_simp
   exact hk _ _ rfl (Below.refl _ _)
  case o43 =>
   intro AA W KK QQ hB hs hd hl hk
   obtain ⟨_, sl81, rfl⟩ := hd 42 81 (by kernel_rfl) rfl
   clear hs hd hl
   go_simp
   exact hk _ _ rfl (Below.refl _ _)
  case o44 =>
   intro AA W KK QQ hB hs hd hl hk
   have sl9 := hs 9 _ (by kernel_rfl) rfl
   obtain ⟨_, sl82, rfl⟩ := hd 43 82 (by kernel_rfl) rfl
   clear hs hd hl
   refine ⟨_, _, rfl, sl82, ?_⟩
   first
    | (change Oper.wp _ _ _ _ _ _; go_simp; exact hk _ _ rfl (Below.refl _ _))
    | exact rfl
  case o45 =>
   intro AA W KK QQ hB hs hd hl hk
   obtain ⟨_, sl82, rfl⟩ := hd 43 82 (by kernel_rfl) rfl
   obtain ⟨_, sl83, rfl⟩ := hd 44 83 (by kernel_rfl) rfl
   clear hs hd hl
   refine ⟨_, _, rfl, sl82, ?_⟩
   first
    | (change Oper.wp _ _ _ _ _ _; go_simp; exact hk _ _ rfl (Below.refl _ _))
    | exact rfl
  case o46 =>
   intro AA W KK QQ hB hs hd hl hk
   obtain ⟨_, sl82, rfl⟩ := hd 43 82 (by kernel_rfl) rfl
   obtain ⟨_, sl84, rfl⟩ := hd 45 84 (by kernel_rfl) rfl
   clear hs hd hl
   have hx0 := hB.cell (p := ⟨bx, ox, none⟩) hzx
   have hx1 := hB.cell (p := ⟨bx, ox + 1, none⟩) hzx
   rw [x0] at hx0
   rw [x1] at hx1
   refine ⟨_, _, rfl, sl82, ?_⟩
   first
    | (change Oper.wp _ _ _ _ _ _; go_simp; exact hk _ _ rfl (Below.refl _ _))
    | exact rfl
  case o47 =>
   intro AA W KK QQ hB hs hd hl hk
   obtain ⟨_, sl82, rfl⟩ := hd 43 82 (by kernel_rfl) rfl
   clear hs hd hl
   refine ⟨_, _, rfl, sl82, ?_⟩
   first
    | (change Oper.wp _ _ _ _ _ _; go_simp; exact hk _ _ rfl (Below.refl _ _))
    | exact rfl
  case o48 =>
   intro AA W KK QQ hB hs hd hl hk
   obtain ⟨_, sl82, rfl⟩ := hd 43 82 (by kernel_rfl) rfl
   obtain ⟨_, sl85, rfl⟩ := hd 46 85 (by kernel_rfl) rfl
   obtain ⟨_, sl86, rfl⟩ := hd 47 86 (by kernel_rfl) rfl
   clear hs hd hl
   have hq := heqI W
   refine ⟨_, _, rfl, sl82, ?_⟩
   first
    | (change Oper.wp _ _ _ _ _ _; go_simp; exact hk _ _ rfl (Below.refl _ _))
    | exact rfl
  case o49 =>
   intro AA W KK QQ hB hs hd hl hk
   obtain ⟨_, sl82, rfl⟩ := hd 43 82 (by kernel_rfl) rfl
   obtain ⟨_, sl87, rfl⟩ := hd 48 87 (by kernel_rfl) rfl
   clear hs hd hl
   go_simp
   exact hk _ _ rfl (Below.refl _ _)
  case o50 =>
   intro AA W KK QQ hB hs hd hl hk
   obtain ⟨_, sl88, rfl⟩ := hd 49 88 (by kernel_rfl) rfl
   clear hs hd hl
   go_simp
   exact hk _ _ rfl (Below.refl _ _)
 case fin =>
  intro wf hB
  refine fin_isv 39 rfl ?_
  refine fin_isv 40 rfl ?_
  refine fin_isv 41 rfl ?_
  refine fin_isv 42 rfl ?_
  refine fin_isv 43 rfl ?_
  refine fin_isv 44 rfl ?_
  refine fin_isv 45 rfl ?_
  refine fin_isv 46 rfl ?_
  refine fin_isv 47 rfl ?_
  refine fin_isv 48 rfl ?_
  refine fin_isv 49 rfl ?_
  refine fin_isv 50 rfl ?_
  refine fin_isv 51 rfl ?_
  refine fin_isv 52 rfl ?_
  refine fin_fact 53 rfl ?_
  rintro _ ⟨_, _, rfl, _⟩
  refine fin_isv 54 rfl ?_
  refine fin_isv 55 rfl ?_
  refine fin_isv 56 rfl ?_
  refine fin_isv 57 rfl ?_
  refine fin_isv 58 rfl ?_
  refine fin_isv 59 rfl ?_
  refine fin_isv 60 rfl ?_
  refine fin_isv 61 rfl ?_
  refine fin_isv 62 rfl ?_
  refine fin_isv 63 rfl ?_
  refine fin_isv 64 rfl ?_
  refine fin_isv 65 rfl ?_
  refine fin_isv 66 rfl ?_
  refine fin_isv 67 rfl ?_
  refine fin_isv 68 rfl ?_
  refine fin_isv 69 rfl ?_
  refine fin_isv 70 rfl ?_
  refine fin_isv 71 rfl ?_
  refine fin_isv 72 rfl ?_
  refine fin_fact 73 rfl ?_
  rintro _ ⟨_, _, rfl⟩
  refine fin_isv 74 rfl ?_
  refine fin_isv 75 rfl ?_
  refine fin_isv 76 rfl ?_
  refine fin_isv 77 rfl ?_
  refine fin_isv 78 rfl ?_
  refine fin_isv 79 rfl ?_
  refine fin_isv 80 rfl ?_
  refine fin_isv 81 rfl ?_
  refine fin_isv 82 rfl ?_
  refine fin_isv 83 rfl ?_
  refine fin_isv 84 rfl ?_
  refine fin_isv 85 rfl ?_
  refine fin_isv 86 rfl ?_
  refine fin_isv 87 rfl ?_
  refine fin_isv 88 rfl ?_
  refine fin_isv 0 rfl ?_
  refine frame89_297b8f9425 _ _ _ _ _ _ _ _ _ _ _ _ _ _ _ _ _ _ _ _ _ _ _ _ _ _ _ _ _ _ _ _ _ _ _ _ _ _ _ _ _ _ _ _ _ _ _ _ _ _ _ _ _ _ _ _ _ _ _ _ _ _ _ _ _ _ _ _ _ _ _ _ _ _ _ _ _ _ _ _ _ _ _ _ _ _ _ _ _ _ _ _ _ _ _ _ _ _ _ _ _ _ _ _ _ _ _ _ _ _ _ _ _ _ _ _ _ _ _ _ _ _ _ _ _ _ _ _ _ _ _ _ _ _ _ _ _ _ _ _ ?_
  have HBf := Lib.hid (HBq.out.trans (hB.mono HBq.out.size))
  clear hB
  go_wp2
  go_ret
  exact ⟨rfl, HBf.out⟩
end Go.Proofs.YthcgihgajdjfoaaGreatDoor
