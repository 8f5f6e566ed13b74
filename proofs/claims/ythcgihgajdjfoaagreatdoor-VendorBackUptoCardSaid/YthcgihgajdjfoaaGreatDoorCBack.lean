/- The law VendorBack holds of every list of releases of bulk at most 1048576: the tied card of the second form. No condition beside the row's own. -/
import Derived.Test.YthcgihgajdjfoaaGreatDoorU47
import Derived.BigQuiet
namespace Go.Proofs.YthcgihgajdjfoaaGreatDoor.lawBack
open Go.ChangeShapes Go.WideShapes Go.ChangeAt Go.RowKit
open Go.ChangeMaps (open_string shut_string)

set_option maxRecDepth 100000 in
theorem frame107_2fc8884302 {Q : Exit → Act → World → Prop} {W : World} {fs : List Fact} (t0 t1 t2 t3 t4 t5 t6 t7 t8 t9 t10 t11 t12 t13 t14 t15 t16 t17 t18 t19 t20 t21 t22 t23 t24 t25 t26 t27 t28 t29 t30 t31 t32 t33 t34 t35 t36 t37 t38 t39 t40 t41 t42 t43 t44 t45 t46 t47 t48 t49 t50 t51 t52 t53 t54 t55 t56 t57 t58 t59 t60 t61 t62 t63 t64 t65 t66 t67 t68 t69 t70 t71 t72 t73 t74 t75 t76 t77 t78 t79 t80 t81 t82 t83 t84 t85 t86 t87 t88 t89 t90 t91 t92 t93 t94 t95 t96 t97 t98 t99 t100 t101 t102 t103 t104 t105 t106 v0 v1 v2 v3 v4 v5 v6 v7 v8 v9 v10 v11 v12 v13 v14 v15 v16 : Value) (h : Q .normal (Act.mk #[t0, t1, t2, t3, t4, t5, t6, t7, t8, t9, t10, t11, t12, t13, t14, t15, t16, t17, t18, t19, t20, t21, t22, t23, t24, t25, t26, t27, t28, t29, t30, t31, t32, t33, t34, t35, t36, t37, t38, t39, t40, t41, t42, t43, t44, t45, t46, t47, t48, v0, v1, v2, v3, v4, v5, v6, v7, v8, v9, v10, v11, v12, v13, v14, v15, v16, t66, t67, t68, t69, t70, t71, t72, t73, t74, t75, t76, t77, t78, t79, t80, t81, t82, t83, t84, t85, t86, t87, t88, t89, t90, t91, t92, t93, t94, t95, t96, t97, t98, t99, t100, t101, t102, t103, t104, t105, t106] []) W) : FinAll W (fun A => Q .normal A W) [] fs (Act.put (Act.put (Act.put (Act.put (Act.put (Act.put (Act.put (Act.put (Act.put (Act.put (Act.put (Act.put (Act.put (Act.put (Act.put (Act.put (Act.put (Act.mk #[t0, t1, t2, t3, t4, t5, t6, t7, t8, t9, t10, t11, t12, t13, t14, t15, t16, t17, t18, t19, t20, t21, t22, t23, t24, t25, t26, t27, t28, t29, t30, t31, t32, t33, t34, t35, t36, t37, t38, t39, t40, t41, t42, t43, t44, t45, t46, t47, t48, t49, t50, t51, t52, t53, t54, t55, t56, t57, t58, t59, t60, t61, t62, t63, t64, t65, t66, t67, t68, t69, t70, t71, t72, t73, t74, t75, t76, t77, t78, t79, t80, t81, t82, t83, t84, t85, t86, t87, t88, t89, t90, t91, t92, t93, t94, t95, t96, t97, t98, t99, t100, t101, t102, t103, t104, t105, t106] []) (some 49) v0) (some 50) v1) (some 51) v2) (some 52) v3) (some 53) v4) (some 54) v5) (some 55) v6) (some 56) v7) (some 57) v8) (some 58) v9) (some 59) v10) (some 60) v11) (some 61) v12) (some 62) v13) (some 63) v14) (some 64) v15) (some 65) v16) :=
  fin_end (by kernel_rfl) h

set_option maxRecDepth 100000 in
set_option maxHeartbeats 8000000 in
theorem walk (A : Option Addr) (c : Nat) (L : List RelA) (w : World) (hS : Sl w w.heap.size 6 encR A L) (hO : ∀ r ∈ L, inR w 1048576 r) (_hl : L.length ≤ 1099511627776) (hG : Glob w) :
    Calls Tryz.prog 8 #[.slice A L.length c] w fun e w' => e = .returned (.bool true) ∧ Below w.heap.size w w' := by
  have HS := Lib.hid hS
  have HO := Lib.hid hO
  have HG := Lib.hid hG
  clear hS hO hG _hl
  have cS := Lib.hid (smallL_any A c L w HS.out fun r hr => (HO.out r hr).ok)
  have cL := Lib.hid (fun (h : smallL L) W (hW : Below w.heap.size w W) => Lock_any A c L W ((HS.out.below hW).more hW.size) (fun r hr => (HO.out r hr).ok.below hW) (HG.out.keep hW) (Nat.le_trans h.1 (by decide)))
  have cX := Lib.hid (fun W (hW : Below w.heap.size w W) => awake_any W (HG.out.keep hW))
  have HK := Lib.hid (fun (h : smallL L) (h0 : lerr (L.map RelA.rel) = 0) => show unlockP (nlL (lout (L.map RelA.rel))) = ((rsort (L.map RelA.rel)).map entR, 0, 0) ∧ ((rsort (L.map RelA.rel)).map entR).length = L.length ∧ (nlL (lout (L.map RelA.rel))).length ≤ 140737488355327 ∧ (∀ j k (hj : j < ((rsort (L.map RelA.rel)).map entR).length) (hk : k < ((rsort (L.map RelA.rel)).map entR).length), j < k → mcmp ((rsort (L.map RelA.rel)).map entR)[j].1 ((rsort (L.map RelA.rel)).map entR)[k].1 < 0) ∧ ∀ e ∈ (rsort (L.map RelA.rel)).map entR, ∃ (i : Nat) (hi : i < L.length), L[i].m = e.1 ∧ rtext L[i].rel = e.2 from by
    have hLL : (L.map RelA.rel).length ≤ 600 := by rw [List.length_map]; exact Nat.le_trans h.1 (by decide)
    refine ⟨unlock_lock h0 hLL, by rw [List.length_map, (rsort_perm _).length_eq, List.length_map], ?_, ?_, ?_⟩
    · have h1 := nlL_len (lout (L.map RelA.rel)) (lout_small _)
      have h2 := lout_le (L.map RelA.rel)
      have h3 : 101 * (lout (L.map RelA.rel)).length ≤ 101 * 600 := Nat.mul_le_mul_left _ (by omega)
      omega
    · intro j k hj hk hjk
      have hp := rsort_asc ((lerr_iff _).1 h0).2
      have := List.pairwise_iff_getElem.1 hp j k (by simpa using hj) (by simpa using hk) hjk
      simpa [entR] using this
    · intro e he
      obtain ⟨r, hr, rfl⟩ := List.mem_map.1 he
      obtain ⟨q, hq, hqr⟩ := List.mem_map.1 ((rsort_perm _).mem_iff.1 hr)
      obtain ⟨i, hi, hiq⟩ := List.mem_iff_getElem.1 hq
      refine ⟨i, hi, ?_, ?_⟩
      · rw [hiq]
        exact congrArg (·.1) hqr
      · rw [hiq, hqr]
        rfl)
  have cR := Lib.hid (fun r (hr : r ∈ L) W (hW : Below w.heap.size w W) => refRel_any r W (((HO.out r hr).relB).below hW))
  have HLn := Lib.hid (fun (h : smallL L) => h.1)
  generalize smallL L = P at cS cL HK HLn
  unfold RetSm at cS
  unfold RetLk at cL
  by_cases h0 : lerr (L.map RelA.rel) = 0
  rotate_left
  · rw [lockP_bad h0] at cL
    generalize lerr (L.map RelA.rel) = e1 at cL h0
    clear HK HLn cR
    have hd : decide (e1 = 0) = false := decide_eq_false h0
    have hbe : (e1 == 0) = false := beq_eq_false_iff_ne.2 h0
    simp only at cL
    go_enter Tryz.func8, Tryz.ntmps8
    go_wp2_with fail
    refine cS.out.mono ?_
    rintro e w1 ⟨b, rfl, hbi, hb1⟩
    have HB1 := Lib.hid hb1
    have HBI := Lib.hid hbi
    clear hb1 hbi cS
    cases b
    · go_wp2_with fail
      refine (cX.out _ HB1.out).mono ?_
      rintro e w2 ⟨rfl, hb2⟩
      have HB2 := Lib.hid (HB1.out.trans (hb2.mono HB1.out.size))
      clear hb2 cX
      go_wp2
      go_ret
      exact ⟨rfl, HB2.out⟩
    have HP := Lib.hid (show P from HBI.out rfl)
    clear HBI h0
    go_wp2_with fail
    refine (cL.out HP.out _ HB1.out).mono ?_
    rintro e w2 ⟨rfl, hb2⟩
    have HB2 := Lib.hid (HB1.out.trans (hb2.mono HB1.out.size))
    clear hb2 cL
    go_wp2_with fail
    refine (cX.out _ HB2.out).mono ?_
    rintro e w3 ⟨rfl, hb3⟩
    have HB3 := Lib.hid (HB2.out.trans (hb3.mono HB2.out.size))
    clear hb3 cX
    go_wp2
    go_ret
    exact ⟨rfl, HB3.out⟩
  rw [lockP_ok h0] at cL
  have HK2 := Lib.hid (fun h => HK.out h h0)
  clear HK h0
  simp only at cL
  generalize (rsort (L.map RelA.rel)).map entR = E at HK2
  generalize nlL (lout (L.map RelA.rel)) = s at cL HK2
  go_enter Tryz.func8, Tryz.ntmps8
  go_wp2_with fail
  refine cS.out.mono ?_
  rintro e w1 ⟨b, rfl, hbi, hb1⟩
  have HB1 := Lib.hid hb1
  have HBI := Lib.hid hbi
  clear hb1 hbi cS
  cases b
  · go_wp2_with fail
    refine (cX.out _ HB1.out).mono ?_
    rintro e w2 ⟨rfl, hb2⟩
    have HB2 := Lib.hid (HB1.out.trans (hb2.mono HB1.out.size))
    clear hb2 cX
    go_wp2
    go_ret
    exact ⟨rfl, HB2.out⟩
  have HP := Lib.hid (show P from HBI.out rfl)
  clear HBI
  obtain ⟨hun, hEl, hsl, hasc, hmem⟩ := HK2.out HP.out
  have hL10 := HLn.out HP.out
  have cU := Lib.hid (fun W (hW : Below w.heap.size w W) => Unlock_any s W (HG.out.keep hW) hsl)
  rw [hun] at cU
  unfold RetU at cU
  simp only at cU
  have HASC := Lib.hid hasc
  have HMEM := Lib.hid hmem
  clear hun hsl hasc hmem HK2 HLn
  go_wp2_with fail
  refine (cL.out HP.out _ HB1.out).mono ?_
  rintro e w2 ⟨rfl, hb2⟩
  have HB2 := Lib.hid (HB1.out.trans (hb2.mono HB1.out.size))
  clear hb2 cL
  go_wp2_with fail
  refine (cU.out _ HB2.out).mono ?_
  rintro e w3 ⟨A3, c3, rfl, hS3, hb3⟩
  have HB3 := Lib.hid (HB2.out.trans (hb3.mono HB2.out.size))
  have HW4 := Lib.hid (show Below w3.heap.size w3 (w3.alloc (.cells #[.int .i64 0, .int .i64 ((0 : Nat) : Int)] 42)) from (Below.refl _ _).alloc (Nat.le_refl _) _)
  have HB4 := Lib.hid (HB3.out.trans (HW4.out.mono HB3.out.size))
  have HS4 := Lib.hid ((hS3.below HW4.out).more HW4.out.size)
  have V4 := Lib.hid (Blk.new w3 42 #[.int .i64 0, .int .i64 ((0 : Nat) : Int)])
  clear hS3 hb3 cU
  obtain ⟨k0, k1⟩ := fltC V4.out
  have hne : decide ((E.length : Int) = (L.length : Int)) = true := decide_eq_true (by omega)
  have hne' : (E.length : Int) = (L.length : Int) := by omega
  go_wp2_with fail
  clear k0 k1
  generalize w3.alloc (.cells #[.int .i64 0, .int .i64 ((0 : Nat) : Int)] 42) = w4 at HW4 HB4 HS4 V4 ⊢
  go_loopw [7] (fun i wr => ∃ k : Nat, k ≤ E.length ∧ i = .int .i64 (k : Nat) ∧ Hid (Below w4.heap.size w4 wr)) (fun i _ => E.length - (intOf i).toNat)
  case atStart => exact ⟨0, Nat.zero_le _, rfl, Lib.hid (Below.refl _ _)⟩
  case round =>
    obtain ⟨wo, hwo⟩ : ∃ wo, wo = wr := ⟨_, rfl⟩
    subst hwo
    obtain ⟨k, hk, rfl, HB⟩ := hrel
    have HBo := Lib.hid (HB4.out.trans (HB.out.mono HB4.out.size))
    have HSo := Lib.hid ((HS4.out.below HB.out).more HB.out.size)
    by_cases hlt : k < E.length
    · have hlt' : (k : Int) < (E.length : Int) := by omega
      have hltL : (k : Int) < (L.length : Int) := by omega
      have hltN : k < L.length := by omega
      have hk0 : (0 : Int) ≤ (k : Int) := by omega
      obtain ⟨b1, o1, hA1, hbb1, h0, h1, h2, h3, h4⟩ := HSo.out.ent hlt
      have hin := HMEM.out E[k] (List.getElem_mem hlt)
      obtain ⟨ek, hek⟩ : ∃ ek, ek = E[k] := ⟨_, rfl⟩
      rw [← hek] at h0 h1 h2 h3 h4 hin
      have HIN := Lib.hid hin
      have HEK := Lib.hid hek
      clear hin hek
      have HH0 := Lib.hid h0
      have HH1 := Lib.hid h1
      have HH2 := Lib.hid h2
      have HH3 := Lib.hid h3
      have HH4 := Lib.hid h4
      by_cases hk1 : 0 < k
      · have hk1' : (0 : Int) < (k : Int) := by omega
        obtain ⟨j, hj⟩ : ∃ j, j + 1 = k := ⟨k - 1, by omega⟩
        have hjl : j < E.length := by omega
        have hji : (j : Int) < (L.length : Int) := by omega
        have hjN : j < L.length := by omega
        have hj0 : (0 : Int) ≤ (j : Int) := by omega
        have hjw : IntKind.i64.wrap ((k : Int) - 1) = (j : Int) := by simp [IntKind.wrap, IntKind.bits, IntKind.signed]; omega
        have hlt2 := HASC.out j k hjl hlt (by omega)
        rw [← HEK.out] at hlt2
        obtain ⟨b1', o1', hA2, _, g0, g1, g2, g3, _⟩ := HSo.out.ent hjl
        obtain ⟨rfl, rfl⟩ : b1 = b1' ∧ o1 = o1' := by rw [hA1] at hA2; injection hA2 with h; injection h with h1 h2; exact ⟨h1, h2⟩
        have cMC := Lib.hid (fun W => mrefCompare_any E[j].1.1 ek.1.1 E[j].1.2.1 E[j].1.2.2.1 E[j].1.2.2.2 ek.1.2.1 ek.1.2.2.1 ek.1.2.2.2 W)
        have hlt3 : mcmp (E[j].1.1, E[j].1.2.1, E[j].1.2.2.1, E[j].1.2.2.2) (ek.1.1, ek.1.2.1, ek.1.2.2.1, ek.1.2.2.2) < 0 := hlt2
        generalize mcmp (E[j].1.1, E[j].1.2.1, E[j].1.2.2.1, E[j].1.2.2.2) (ek.1.1, ek.1.2.1, ek.1.2.2.1, ek.1.2.2.2) = cv at cMC hlt3
        have hgd : decide ((0 : Int) ≤ cv) = false := decide_eq_false (by omega)
        have hgd2 : decide (cv ≥ (0 : Int)) = false := decide_eq_false (by omega)
        generalize E[j].1.1 = ej0 at cMC g0
        generalize E[j].1.2.1 = ej1 at cMC g1
        generalize E[j].1.2.2.1 = ej2 at cMC g2
        generalize E[j].1.2.2.2 = ej3 at cMC g3
        subst hA1
        clear hA2 hj hlt2
        go_upto_region 12 with fail
        apply wp_region_facts (by kernel_rfl) [isv _, isv _, isv _, isv _, isv _, isv _, isv _, isv _, isv _, isv _, isv _, isv _, isv _, isv _, isv _, isv _, isv _] wo.heap.size wo (Nat.le_refl _) (Below.refl _ _).drew (by kernel_rfl) (by kernel_rfl) (by kernel_rfl) (And.intro (isv_mono _) (And.intro (isv_mono _) (And.intro (isv_mono _) (And.intro (isv_mono _) (And.intro (isv_mono _) (And.intro (isv_mono _) (And.intro (isv_mono _) (And.intro (isv_mono _) (And.intro (isv_mono _) (And.intro (isv_mono _) (And.intro (isv_mono _) (And.intro (isv_mono _) (And.intro (isv_mono _) (And.intro (isv_mono _) (And.intro (isv_mono _) (And.intro (isv_mono _) (And.intro (isv_mono _) trivial))))))))))))))))) ?steps (by rfl) ?fin
        case steps =>
          refine (And.intro ?o0 (And.intro ?o1 (And.intro ?o2 (And.intro ?o3 (And.intro ?o4 (And.intro ?o5 (And.intro ?o6 (And.intro ?o7 (And.intro ?o8 (And.intro ?o9 (And.intro ?o10 (And.intro ?o11 (And.intro ?o12 (And.intro ?o13 (And.intro ?o14 (And.intro ?o15 (And.intro ?o16 trivial)))))))))))))))))
          case o0 =>
            intro AA W KK QQ hB hs hd hl hk
            have sl7 := hs 7 _ (by kernel_rfl) rfl
            clear hs hd hl
            go_simp
            exact hk _ _ rfl (Below.refl _ _)
          case o1 =>
            intro AA W KK QQ hB hs hd hl hk
            obtain ⟨_, sl49, rfl⟩ := hd 0 49 (by kernel_rfl) rfl
            clear hs hd hl
            go_simp
            exact hk _ _ rfl (Below.refl _ _)
          case o2 =>
            intro AA W KK QQ hB hs hd hl hk
            obtain ⟨_, sl50, rfl⟩ := hd 1 50 (by kernel_rfl) rfl
            clear hs hd hl
            go_simp
            exact hk _ _ rfl (Below.refl _ _)
          case o3 =>
            intro AA W KK QQ hB hs hd hl hk
            have sl5 := hs 5 _ (by kernel_rfl) rfl
            obtain ⟨_, sl51, rfl⟩ := hd 2 51 (by kernel_rfl) rfl
            clear hs hd hl
            refine ⟨_, _, rfl, sl51, ?_⟩
            first
              | (change Oper.wp _ _ _ _ _ _; go_simp; exact hk _ _ rfl (Below.refl _ _))
              | exact rfl
          case o4 =>
            intro AA W KK QQ hB hs hd hl hk
            have sl7 := hs 7 _ (by kernel_rfl) rfl
            obtain ⟨_, sl51, rfl⟩ := hd 2 51 (by kernel_rfl) rfl
            clear hs hd hl
            refine ⟨_, _, rfl, sl51, ?_⟩
            first
              | (change Oper.wp _ _ _ _ _ _; go_simp; exact hk _ _ rfl (Below.refl _ _))
              | exact rfl
          case o5 =>
            intro AA W KK QQ hB hs hd hl hk
            obtain ⟨_, sl51, rfl⟩ := hd 2 51 (by kernel_rfl) rfl
            obtain ⟨_, sl53, rfl⟩ := hd 4 53 (by kernel_rfl) rfl
            clear hs hd hl
            refine ⟨_, _, rfl, sl51, ?_⟩
            first
              | (change Oper.wp _ _ _ _ _ _; go_simp; exact hk _ _ rfl (Below.refl _ _))
              | exact rfl
          case o6 =>
            intro AA W KK QQ hB hs hd hl hk
            obtain ⟨_, sl51, rfl⟩ := hd 2 51 (by kernel_rfl) rfl
            obtain ⟨_, sl52, rfl⟩ := hd 3 52 (by kernel_rfl) rfl
            obtain ⟨_, sl54, rfl⟩ := hd 5 54 (by kernel_rfl) rfl
            clear hs hd hl
            refine ⟨_, _, rfl, sl51, ?_⟩
            first
              | (change Oper.wp _ _ _ _ _ _; go_simp; exact hk _ _ rfl (Below.refl _ _))
              | exact rfl
          case o7 =>
            intro AA W KK QQ hB hs hd hl hk
            obtain ⟨_, sl51, rfl⟩ := hd 2 51 (by kernel_rfl) rfl
            obtain ⟨_, sl55, rfl⟩ := hd 6 55 (by kernel_rfl) rfl
            clear hs hd hl
            refine ⟨_, _, rfl, sl51, ?_⟩
            first
              | (change Oper.wp _ _ _ _ _ _; go_simp; exact hk _ _ rfl (Below.refl _ _))
              | exact rfl
          case o8 =>
            intro AA W KK QQ hB hs hd hl hk
            obtain ⟨_, sl51, rfl⟩ := hd 2 51 (by kernel_rfl) rfl
            obtain ⟨_, sl56, rfl⟩ := hd 7 56 (by kernel_rfl) rfl
            clear hs hd hl
            have hx0 := hB.cell (p := ⟨b1, o1 + j * 5, none⟩) hbb1
            have hx1 := hB.cell (p := ⟨b1, o1 + j * 5 + 1, none⟩) hbb1
            have hx2 := hB.cell (p := ⟨b1, o1 + j * 5 + 2, none⟩) hbb1
            have hx3 := hB.cell (p := ⟨b1, o1 + j * 5 + 3, none⟩) hbb1
            rw [g0] at hx0
            rw [g1] at hx1
            rw [g2] at hx2
            rw [g3] at hx3
            refine ⟨_, _, rfl, sl51, ?_⟩
            first
              | (change Oper.wp _ _ _ _ _ _; go_simp; exact hk _ _ rfl (Below.refl _ _))
              | exact rfl
          case o9 =>
            intro AA W KK QQ hB hs hd hl hk
            have sl5 := hs 5 _ (by kernel_rfl) rfl
            obtain ⟨_, sl51, rfl⟩ := hd 2 51 (by kernel_rfl) rfl
            clear hs hd hl
            refine ⟨_, _, rfl, sl51, ?_⟩
            first
              | (change Oper.wp _ _ _ _ _ _; go_simp; exact hk _ _ rfl (Below.refl _ _))
              | exact rfl
          case o10 =>
            intro AA W KK QQ hB hs hd hl hk
            have sl7 := hs 7 _ (by kernel_rfl) rfl
            obtain ⟨_, sl51, rfl⟩ := hd 2 51 (by kernel_rfl) rfl
            clear hs hd hl
            refine ⟨_, _, rfl, sl51, ?_⟩
            first
              | (change Oper.wp _ _ _ _ _ _; go_simp; exact hk _ _ rfl (Below.refl _ _))
              | exact rfl
          case o11 =>
            intro AA W KK QQ hB hs hd hl hk
            obtain ⟨_, sl51, rfl⟩ := hd 2 51 (by kernel_rfl) rfl
            obtain ⟨_, sl58, rfl⟩ := hd 9 58 (by kernel_rfl) rfl
            obtain ⟨_, sl59, rfl⟩ := hd 10 59 (by kernel_rfl) rfl
            clear hs hd hl
            refine ⟨_, _, rfl, sl51, ?_⟩
            first
              | (change Oper.wp _ _ _ _ _ _; go_simp; exact hk _ _ rfl (Below.refl _ _))
              | exact rfl
          case o12 =>
            intro AA W KK QQ hB hs hd hl hk
            obtain ⟨_, sl51, rfl⟩ := hd 2 51 (by kernel_rfl) rfl
            obtain ⟨_, sl60, rfl⟩ := hd 11 60 (by kernel_rfl) rfl
            clear hs hd hl
            refine ⟨_, _, rfl, sl51, ?_⟩
            first
              | (change Oper.wp _ _ _ _ _ _; go_simp; exact hk _ _ rfl (Below.refl _ _))
              | exact rfl
          case o13 =>
            intro AA W KK QQ hB hs hd hl hk
            obtain ⟨_, sl51, rfl⟩ := hd 2 51 (by kernel_rfl) rfl
            obtain ⟨_, sl61, rfl⟩ := hd 12 61 (by kernel_rfl) rfl
            clear hs hd hl
            have hx0 := hB.cell (p := ⟨b1, o1 + k * 5, none⟩) hbb1
            have hx1 := hB.cell (p := ⟨b1, o1 + k * 5 + 1, none⟩) hbb1
            have hx2 := hB.cell (p := ⟨b1, o1 + k * 5 + 2, none⟩) hbb1
            have hx3 := hB.cell (p := ⟨b1, o1 + k * 5 + 3, none⟩) hbb1
            rw [h0] at hx0
            rw [h1] at hx1
            rw [h2] at hx2
            rw [h3] at hx3
            refine ⟨_, _, rfl, sl51, ?_⟩
            first
              | (change Oper.wp _ _ _ _ _ _; go_simp; exact hk _ _ rfl (Below.refl _ _))
              | exact rfl
          case o14 =>
            intro AA W KK QQ hB hs hd hl hk
            obtain ⟨_, sl51, rfl⟩ := hd 2 51 (by kernel_rfl) rfl
            obtain ⟨_, sl57, rfl⟩ := hd 8 57 (by kernel_rfl) rfl
            obtain ⟨_, sl62, rfl⟩ := hd 13 62 (by kernel_rfl) rfl
            clear hs hd hl
            refine ⟨_, _, rfl, sl51, ?_⟩
            change Oper.wp _ _ _ _ _ _
            go_simp
            refine (cMC.out W).mono ?_
            rintro e W2 ⟨rfl, hb2⟩
            exact hk _ _ rfl hb2
          case o15 =>
            intro AA W KK QQ hB hs hd hl hk
            obtain ⟨_, sl51, rfl⟩ := hd 2 51 (by kernel_rfl) rfl
            obtain ⟨_, sl63, rfl⟩ := hd 14 63 (by kernel_rfl) rfl
            clear hs hd hl
            refine ⟨_, _, rfl, sl51, ?_⟩
            first
              | (change Oper.wp _ _ _ _ _ _; go_simp; exact hk _ _ rfl (Below.refl _ _))
              | exact rfl
          case o16 =>
            intro AA W KK QQ hB hs hd hl hk
            obtain ⟨_, sl51, rfl⟩ := hd 2 51 (by kernel_rfl) rfl
            obtain ⟨_, sl64, rfl⟩ := hd 15 64 (by kernel_rfl) rfl
            clear hs hd hl
            go_simp
            exact hk _ _ rfl (Below.refl _ _)
        case fin =>
          intro wf hB
          refine fin_isv 49 rfl ?_
          refine fin_isv 50 rfl ?_
          refine fin_isv 51 rfl ?_
          refine fin_isv 52 rfl ?_
          refine fin_isv 53 rfl ?_
          refine fin_isv 54 rfl ?_
          refine fin_isv 55 rfl ?_
          refine fin_isv 56 rfl ?_
          refine fin_isv 57 rfl ?_
          refine fin_isv 58 rfl ?_
          refine fin_isv 59 rfl ?_
          refine fin_isv 60 rfl ?_
          refine fin_isv 61 rfl ?_
          refine fin_isv 62 rfl ?_
          refine fin_isv 63 rfl ?_
          refine fin_isv 64 rfl ?_
          refine fin_isv 65 rfl ?_
          refine frame107_2fc8884302 _ _ _ _ _ _ _ _ _ _ _ _ _ _ _ _ _ _ _ _ _ _ _ _ _ _ _ _ _ _ _ _ _ _ _ _ _ _ _ _ _ _ _ _ _ _ _ _ _ _ _ _ _ _ _ _ _ _ _ _ _ _ _ _ _ _ _ _ _ _ _ _ _ _ _ _ _ _ _ _ _ _ _ _ _ _ _ _ _ _ _ _ _ _ _ _ _ _ _ _ _ _ _ _ _ _ _ _ _ _ _ _ _ _ _ _ _ _ _ _ _ _ _ _ ?_
          have HBf := Lib.hid hB
          clear hB g0 g1 g2 g3 cMC h0 h1 h2 h3 h4 hgd hgd2 hlt3
          go_upto_region 16 with fail
          have HBF := Lib.hid (HBo.out.trans (HBf.out.mono HBo.out.size))
          go_loopw [8, 9] (fun fv i wr => ∃ (n : Nat) (fb : Bool), n ≤ L.length ∧ i = .int .i64 (n : Nat) ∧ fv = .bool fb ∧ Hid (∀ i (hi : i < L.length), i < n → L[i].m = ek.1 → rtext L[i].rel = ek.2 → fb = true) ∧ Hid (Below wf.heap.size wf wr)) (fun _ i _ => L.length - (intOf i).toNat)
          case atStart => exact ⟨0, false, Nat.zero_le _, rfl, rfl, Lib.hid (fun i hi h => absurd h (Nat.not_lt_zero _)), Lib.hid (Below.refl _ _)⟩
          case round =>
            obtain ⟨wk, hwk⟩ : ∃ wk, wk = wr := ⟨_, rfl⟩
            subst hwk
            obtain ⟨n, fb, hn, rfl, rfl, HF, HBk0⟩ := hrel
            have HBk := Lib.hid (HBF.out.trans (HBk0.out.mono HBF.out.size))
            by_cases hnl : n < L.length
            · have hnl' : (n : Int) < (L.length : Int) := by omega
              obtain ⟨b2, o2, rfl, hbb2, g0, g1, g2, g3, g4, g5⟩ := ((HS.out.below HBk.out).more HBk.out.size).rel hnl
              have cRn := Lib.hid (cR.out L[n] (List.getElem_mem hnl))
              have HFn := Lib.hid (fun (fb' : Bool) (h1 : fb = true → fb' = true) (h2 : L[n].m = ek.1 → rtext L[n].rel = ek.2 → fb' = true) => show ∀ i (hi : i < L.length), i < n + 1 → L[i].m = ek.1 → rtext L[i].rel = ek.2 → fb' = true from fun i hi hin hm ht => by
                by_cases he : i = n
                · subst he
                  exact h2 hm ht
                · exact h1 (HF.out i hi (by omega) hm ht))
              clear HF
              generalize L[n] = r at g0 g1 g2 g3 g4 g5 cRn HFn
              go_wp2_with fail
              refine (cRn.out _ HBk.out).mono ?_
              rintro e wq ⟨rfl, hbq⟩
              have HBq := Lib.hid hbq
              clear hbq
              have GG := Lib.hid (And.intro g0 (And.intro g1 (And.intro g2 g3)))
              clear g0 g1 g2 g3 g4 g5 cRn
              go_upto_region 19 with fail
              obtain ⟨g0, g1, g2, g3⟩ := GG.out
              have HQ := Lib.hid (HBf.out.trans ((HBk0.out.trans (HBq.out.mono HBk0.out.size)).mono HBf.out.size))
              have HQk := Lib.hid (HBk0.out.trans (HBq.out.mono HBk0.out.size))
              have e0 := HQ.out.cell (p := ⟨b1, o1 + k * 5, none⟩) hbb1
              have e1 := HQ.out.cell (p := ⟨b1, o1 + k * 5 + 1, none⟩) hbb1
              have e2 := HQ.out.cell (p := ⟨b1, o1 + k * 5 + 2, none⟩) hbb1
              have e3 := HQ.out.cell (p := ⟨b1, o1 + k * 5 + 3, none⟩) hbb1
              have e4 := HQ.out.cell (p := ⟨b1, o1 + k * 5 + 4, none⟩) hbb1
              rw [HH0.out] at e0
              rw [HH1.out] at e1
              rw [HH2.out] at e2
              rw [HH3.out] at e3
              rw [HH4.out] at e4
              have f0 := HBq.out.cell (p := ⟨b2, o2 + n * 6, none⟩) hbb2
              have f1 := HBq.out.cell (p := ⟨b2, o2 + n * 6 + 1, none⟩) hbb2
              have f2 := HBq.out.cell (p := ⟨b2, o2 + n * 6 + 2, none⟩) hbb2
              have f3 := HBq.out.cell (p := ⟨b2, o2 + n * 6 + 3, none⟩) hbb2
              rw [g0] at f0
              rw [g1] at f1
              rw [g2] at f2
              rw [g3] at f3
              clear g0 g1 g2 g3 GG
              have heq := fun W => eq_mod r.m.1 ek.1.1 r.m.2.1 r.m.2.2.1 r.m.2.2.2 ek.1.2.1 ek.1.2.2.1 ek.1.2.2.2 W
              have hmi : (r.m.1, r.m.2.1, r.m.2.2.1, r.m.2.2.2) = (ek.1.1, ek.1.2.1, ek.1.2.2.1, ek.1.2.2.2) ↔ r.m = ek.1 := Iff.rfl
              cases fb
              rotate_left
              · clear heq hmi
                go_quiet (fail)
                go_wp2
                go_roundw
                case rel => exact ⟨n + 1, true, by omega, by go_num, rfl, Lib.hid (HFn.out true (fun _ => rfl) fun _ _ => rfl), Lib.hid (HQk.out.drewN _)⟩
                case measure => simp [intOf]; omega
              · by_cases hm : r.m = ek.1
                · have hd := decide_eq_true (hmi.2 hm)
                  simp only [hd] at heq
                  by_cases ht : rtext r.rel = ek.2
                  · have hb : (rtext r.rel == ek.2) = true := by rw [ht]; simp
                    have hd2 : decide (rtext r.rel = ek.2) = true := decide_eq_true ht
                    have HFm := Lib.hid (HFn.out true (fun _ => rfl) fun _ _ => rfl)
                    clear HFn hm ht hd hmi
                    go_quiet (fail)
                    go_wp2
                    go_roundw
                    case rel => exact ⟨n + 1, true, by omega, by go_num, rfl, HFm, Lib.hid (HQk.out.drewN _)⟩
                    case measure => simp [intOf]; omega
                  · have hb : (rtext r.rel == ek.2) = false := beq_eq_false_iff_ne.2 ht
                    have hd2 : decide (rtext r.rel = ek.2) = false := decide_eq_false ht
                    have HFm := Lib.hid (HFn.out false id fun _ h => absurd h ht)
                    clear HFn hm ht hd hmi
                    go_quiet (fail)
                    go_wp2
                    go_roundw
                    case rel => exact ⟨n + 1, false, by omega, by go_num, rfl, HFm, Lib.hid (HQk.out.drewN _)⟩
                    case measure => simp [intOf]; omega
                · have hd := decide_eq_false (fun h => hm (hmi.1 h))
                  simp only [hd] at heq
                  have HFm := Lib.hid (HFn.out false id fun h _ => absurd h hm)
                  clear HFn hm hd hmi
                  go_quiet (fail)
                  go_wp2
                  go_roundw
                  case rel => exact ⟨n + 1, false, by omega, by go_num, rfl, HFm, Lib.hid (HQk.out.drewN _)⟩
                  case measure => simp [intOf]; omega
            · obtain rfl : n = L.length := by omega
              have hfb : fb = true := by
                obtain ⟨i, hi, hm, ht⟩ := HIN.out
                exact HF.out i hi hi hm ht
              subst hfb
              have hnl' : ¬ (L.length : Int) < (L.length : Int) := by omega
              have HBq := Lib.hid (HB.out.trans ((HBf.out.trans (HBk0.out.mono HBf.out.size)).mono HB.out.size))
              go_wp2
              go_roundw
              case rel => exact ⟨k + 1, by omega, by go_num, HBq⟩
              case measure => simp [intOf]; omega
      · have hk1' : ¬ (0 : Int) < (k : Int) := by omega
        have hgt : decide ((k : Int) > (0 : Int)) = false := decide_eq_false (by omega)
        subst hA1
        go_upto_region 12 with fail
        apply wp_region_facts (by kernel_rfl) [isv _, isv _, isv _, isv _, isv _, isv _, isv _, isv _, isv _, isv _, isv _, isv _, isv _, isv _, isv _, isv _, isv _] wo.heap.size wo (Nat.le_refl _) (Below.refl _ _).drew (by kernel_rfl) (by kernel_rfl) (by kernel_rfl) (And.intro (isv_mono _) (And.intro (isv_mono _) (And.intro (isv_mono _) (And.intro (isv_mono _) (And.intro (isv_mono _) (And.intro (isv_mono _) (And.intro (isv_mono _) (And.intro (isv_mono _) (And.intro (isv_mono _) (And.intro (isv_mono _) (And.intro (isv_mono _) (And.intro (isv_mono _) (And.intro (isv_mono _) (And.intro (isv_mono _) (And.intro (isv_mono _) (And.intro (isv_mono _) (And.intro (isv_mono _) trivial))))))))))))))))) ?steps (by rfl) ?fin
        case steps =>
          refine (And.intro ?o0 (And.intro ?o1 (And.intro ?o2 (And.intro ?o3 (And.intro ?o4 (And.intro ?o5 (And.intro ?o6 (And.intro ?o7 (And.intro ?o8 (And.intro ?o9 (And.intro ?o10 (And.intro ?o11 (And.intro ?o12 (And.intro ?o13 (And.intro ?o14 (And.intro ?o15 (And.intro ?o16 trivial)))))))))))))))))
          case o0 =>
            intro AA W KK QQ hB hs hd hl hk
            have sl7 := hs 7 _ (by kernel_rfl) rfl
            clear hs hd hl
            go_simp
            exact hk _ _ rfl (Below.refl _ _)
          case o1 =>
            intro AA W KK QQ hB hs hd hl hk
            obtain ⟨_, sl49, rfl⟩ := hd 0 49 (by kernel_rfl) rfl
            clear hs hd hl
            go_simp
            exact hk _ _ rfl (Below.refl _ _)
          case o2 =>
            intro AA W KK QQ hB hs hd hl hk
            obtain ⟨_, sl50, rfl⟩ := hd 1 50 (by kernel_rfl) rfl
            clear hs hd hl
            go_simp
            exact hk _ _ rfl (Below.refl _ _)
          case o3 =>
            intro AA W KK QQ hB hs hd hl hk
            have sl5 := hs 5 _ (by kernel_rfl) rfl
            obtain ⟨_, sl51, rfl⟩ := hd 2 51 (by kernel_rfl) rfl
            clear hs hd hl
            refine ⟨_, _, rfl, sl51, ?_⟩
            exact rfl
          case o4 =>
            intro AA W KK QQ hB hs hd hl hk
            have sl7 := hs 7 _ (by kernel_rfl) rfl
            obtain ⟨_, sl51, rfl⟩ := hd 2 51 (by kernel_rfl) rfl
            clear hs hd hl
            refine ⟨_, _, rfl, sl51, ?_⟩
            exact rfl
          case o5 =>
            intro AA W KK QQ hB hs hd hl hk
            obtain ⟨_, sl51, rfl⟩ := hd 2 51 (by kernel_rfl) rfl
            obtain ⟨_, sl53, rfl⟩ := hd 4 53 (by kernel_rfl) rfl
            clear hs hd hl
            refine ⟨_, _, rfl, sl51, ?_⟩
            exact rfl
          case o6 =>
            intro AA W KK QQ hB hs hd hl hk
            obtain ⟨_, sl51, rfl⟩ := hd 2 51 (by kernel_rfl) rfl
            obtain ⟨_, sl52, rfl⟩ := hd 3 52 (by kernel_rfl) rfl
            obtain ⟨_, sl54, rfl⟩ := hd 5 54 (by kernel_rfl) rfl
            clear hs hd hl
            refine ⟨_, _, rfl, sl51, ?_⟩
            exact rfl
          case o7 =>
            intro AA W KK QQ hB hs hd hl hk
            obtain ⟨_, sl51, rfl⟩ := hd 2 51 (by kernel_rfl) rfl
            obtain ⟨_, sl55, rfl⟩ := hd 6 55 (by kernel_rfl) rfl
            clear hs hd hl
            refine ⟨_, _, rfl, sl51, ?_⟩
            exact rfl
          case o8 =>
            intro AA W KK QQ hB hs hd hl hk
            obtain ⟨_, sl51, rfl⟩ := hd 2 51 (by kernel_rfl) rfl
            obtain ⟨_, sl56, rfl⟩ := hd 7 56 (by kernel_rfl) rfl
            clear hs hd hl
            refine ⟨_, _, rfl, sl51, ?_⟩
            exact rfl
          case o9 =>
            intro AA W KK QQ hB hs hd hl hk
            have sl5 := hs 5 _ (by kernel_rfl) rfl
            obtain ⟨_, sl51, rfl⟩ := hd 2 51 (by kernel_rfl) rfl
            clear hs hd hl
            refine ⟨_, _, rfl, sl51, ?_⟩
            exact rfl
          case o10 =>
            intro AA W KK QQ hB hs hd hl hk
            have sl7 := hs 7 _ (by kernel_rfl) rfl
            obtain ⟨_, sl51, rfl⟩ := hd 2 51 (by kernel_rfl) rfl
            clear hs hd hl
            refine ⟨_, _, rfl, sl51, ?_⟩
            exact rfl
          case o11 =>
            intro AA W KK QQ hB hs hd hl hk
            obtain ⟨_, sl51, rfl⟩ := hd 2 51 (by kernel_rfl) rfl
            obtain ⟨_, sl58, rfl⟩ := hd 9 58 (by kernel_rfl) rfl
            obtain ⟨_, sl59, rfl⟩ := hd 10 59 (by kernel_rfl) rfl
            clear hs hd hl
            refine ⟨_, _, rfl, sl51, ?_⟩
            exact rfl
          case o12 =>
            intro AA W KK QQ hB hs hd hl hk
            obtain ⟨_, sl51, rfl⟩ := hd 2 51 (by kernel_rfl) rfl
            obtain ⟨_, sl60, rfl⟩ := hd 11 60 (by kernel_rfl) rfl
            clear hs hd hl
            refine ⟨_, _, rfl, sl51, ?_⟩
            exact rfl
          case o13 =>
            intro AA W KK QQ hB hs hd hl hk
            obtain ⟨_, sl51, rfl⟩ := hd 2 51 (by kernel_rfl) rfl
            obtain ⟨_, sl61, rfl⟩ := hd 12 61 (by kernel_rfl) rfl
            clear hs hd hl
            refine ⟨_, _, rfl, sl51, ?_⟩
            exact rfl
          case o14 =>
            intro AA W KK QQ hB hs hd hl hk
            obtain ⟨_, sl51, rfl⟩ := hd 2 51 (by kernel_rfl) rfl
            obtain ⟨_, sl57, rfl⟩ := hd 8 57 (by kernel_rfl) rfl
            obtain ⟨_, sl62, rfl⟩ := hd 13 62 (by kernel_rfl) rfl
            clear hs hd hl
            refine ⟨_, _, rfl, sl51, ?_⟩
            exact rfl
          case o15 =>
            intro AA W KK QQ hB hs hd hl hk
            obtain ⟨_, sl51, rfl⟩ := hd 2 51 (by kernel_rfl) rfl
            obtain ⟨_, sl63, rfl⟩ := hd 14 63 (by kernel_rfl) rfl
            clear hs hd hl
            refine ⟨_, _, rfl, sl51, ?_⟩
            exact rfl
          case o16 =>
            intro AA W KK QQ hB hs hd hl hk
            obtain ⟨_, sl51, rfl⟩ := hd 2 51 (by kernel_rfl) rfl
            obtain ⟨_, sl64, rfl⟩ := hd 15 64 (by kernel_rfl) rfl
            clear hs hd hl
            go_simp
            exact hk _ _ rfl (Below.refl _ _)
        case fin =>
          intro wf hB
          refine fin_isv 49 rfl ?_
          refine fin_isv 50 rfl ?_
          refine fin_isv 51 rfl ?_
          refine fin_isv 52 rfl ?_
          refine fin_isv 53 rfl ?_
          refine fin_isv 54 rfl ?_
          refine fin_isv 55 rfl ?_
          refine fin_isv 56 rfl ?_
          refine fin_isv 57 rfl ?_
          refine fin_isv 58 rfl ?_
          refine fin_isv 59 rfl ?_
          refine fin_isv 60 rfl ?_
          refine fin_isv 61 rfl ?_
          refine fin_isv 62 rfl ?_
          refine fin_isv 63 rfl ?_
          refine fin_isv 64 rfl ?_
          refine fin_isv 65 rfl ?_
          refine frame107_2fc8884302 _ _ _ _ _ _ _ _ _ _ _ _ _ _ _ _ _ _ _ _ _ _ _ _ _ _ _ _ _ _ _ _ _ _ _ _ _ _ _ _ _ _ _ _ _ _ _ _ _ _ _ _ _ _ _ _ _ _ _ _ _ _ _ _ _ _ _ _ _ _ _ _ _ _ _ _ _ _ _ _ _ _ _ _ _ _ _ _ _ _ _ _ _ _ _ _ _ _ _ _ _ _ _ _ _ _ _ _ _ _ _ _ _ _ _ _ _ _ _ _ _ _ _ _ ?_
          have HBf := Lib.hid hB
          clear hB h0 h1 h2 h3 h4 hgt
          go_upto_region 16 with fail
          have HBF := Lib.hid (HBo.out.trans (HBf.out.mono HBo.out.size))
          go_loopw [8, 9] (fun fv i wr => ∃ (n : Nat) (fb : Bool), n ≤ L.length ∧ i = .int .i64 (n : Nat) ∧ fv = .bool fb ∧ Hid (∀ i (hi : i < L.length), i < n → L[i].m = ek.1 → rtext L[i].rel = ek.2 → fb = true) ∧ Hid (Below wf.heap.size wf wr)) (fun _ i _ => L.length - (intOf i).toNat)
          case atStart => exact ⟨0, false, Nat.zero_le _, rfl, rfl, Lib.hid (fun i hi h => absurd h (Nat.not_lt_zero _)), Lib.hid (Below.refl _ _)⟩
          case round =>
            obtain ⟨wk, hwk⟩ : ∃ wk, wk = wr := ⟨_, rfl⟩
            subst hwk
            obtain ⟨n, fb, hn, rfl, rfl, HF, HBk0⟩ := hrel
            have HBk := Lib.hid (HBF.out.trans (HBk0.out.mono HBF.out.size))
            by_cases hnl : n < L.length
            · have hnl' : (n : Int) < (L.length : Int) := by omega
              obtain ⟨b2, o2, rfl, hbb2, g0, g1, g2, g3, g4, g5⟩ := ((HS.out.below HBk.out).more HBk.out.size).rel hnl
              have cRn := Lib.hid (cR.out L[n] (List.getElem_mem hnl))
              have HFn := Lib.hid (fun (fb' : Bool) (h1 : fb = true → fb' = true) (h2 : L[n].m = ek.1 → rtext L[n].rel = ek.2 → fb' = true) => show ∀ i (hi : i < L.length), i < n + 1 → L[i].m = ek.1 → rtext L[i].rel = ek.2 → fb' = true from fun i hi hin hm ht => by
                by_cases he : i = n
                · subst he
                  exact h2 hm ht
                · exact h1 (HF.out i hi (by omega) hm ht))
              clear HF
              generalize L[n] = r at g0 g1 g2 g3 g4 g5 cRn HFn
              go_wp2_with fail
              refine (cRn.out _ HBk.out).mono ?_
              rintro e wq ⟨rfl, hbq⟩
              have HBq := Lib.hid hbq
              clear hbq
              have GG := Lib.hid (And.intro g0 (And.intro g1 (And.intro g2 g3)))
              clear g0 g1 g2 g3 g4 g5 cRn
              go_upto_region 19 with fail
              obtain ⟨g0, g1, g2, g3⟩ := GG.out
              have HQ := Lib.hid (HBf.out.trans ((HBk0.out.trans (HBq.out.mono HBk0.out.size)).mono HBf.out.size))
              have HQk := Lib.hid (HBk0.out.trans (HBq.out.mono HBk0.out.size))
              have e0 := HQ.out.cell (p := ⟨b1, o1 + k * 5, none⟩) hbb1
              have e1 := HQ.out.cell (p := ⟨b1, o1 + k * 5 + 1, none⟩) hbb1
              have e2 := HQ.out.cell (p := ⟨b1, o1 + k * 5 + 2, none⟩) hbb1
              have e3 := HQ.out.cell (p := ⟨b1, o1 + k * 5 + 3, none⟩) hbb1
              have e4 := HQ.out.cell (p := ⟨b1, o1 + k * 5 + 4, none⟩) hbb1
              rw [HH0.out] at e0
              rw [HH1.out] at e1
              rw [HH2.out] at e2
              rw [HH3.out] at e3
              rw [HH4.out] at e4
              have f0 := HBq.out.cell (p := ⟨b2, o2 + n * 6, none⟩) hbb2
              have f1 := HBq.out.cell (p := ⟨b2, o2 + n * 6 + 1, none⟩) hbb2
              have f2 := HBq.out.cell (p := ⟨b2, o2 + n * 6 + 2, none⟩) hbb2
              have f3 := HBq.out.cell (p := ⟨b2, o2 + n * 6 + 3, none⟩) hbb2
              rw [g0] at f0
              rw [g1] at f1
              rw [g2] at f2
              rw [g3] at f3
              clear g0 g1 g2 g3 GG
              have heq := fun W => eq_mod r.m.1 ek.1.1 r.m.2.1 r.m.2.2.1 r.m.2.2.2 ek.1.2.1 ek.1.2.2.1 ek.1.2.2.2 W
              have hmi : (r.m.1, r.m.2.1, r.m.2.2.1, r.m.2.2.2) = (ek.1.1, ek.1.2.1, ek.1.2.2.1, ek.1.2.2.2) ↔ r.m = ek.1 := Iff.rfl
              cases fb
              rotate_left
              · clear heq hmi
                go_quiet (fail)
                go_wp2
                go_roundw
                case rel => exact ⟨n + 1, true, by omega, by go_num, rfl, Lib.hid (HFn.out true (fun _ => rfl) fun _ _ => rfl), Lib.hid (HQk.out.drewN _)⟩
                case measure => simp [intOf]; omega
              · by_cases hm : r.m = ek.1
                · have hd := decide_eq_true (hmi.2 hm)
                  simp only [hd] at heq
                  by_cases ht : rtext r.rel = ek.2
                  · have hb : (rtext r.rel == ek.2) = true := by rw [ht]; simp
                    have hd2 : decide (rtext r.rel = ek.2) = true := decide_eq_true ht
                    have HFm := Lib.hid (HFn.out true (fun _ => rfl) fun _ _ => rfl)
                    clear HFn hm ht hd hmi
                    go_quiet (fail)
                    go_wp2
                    go_roundw
                    case rel => exact ⟨n + 1, true, by omega, by go_num, rfl, HFm, Lib.hid (HQk.out.drewN _)⟩
                    case measure => simp [intOf]; omega
                  · have hb : (rtext r.rel == ek.2) = false := beq_eq_false_iff_ne.2 ht
                    have hd2 : decide (rtext r.rel = ek.2) = false := decide_eq_false ht
                    have HFm := Lib.hid (HFn.out false id fun _ h => absurd h ht)
                    clear HFn hm ht hd hmi
                    go_quiet (fail)
                    go_wp2
                    go_roundw
                    case rel => exact ⟨n + 1, false, by omega, by go_num, rfl, HFm, Lib.hid (HQk.out.drewN _)⟩
                    case measure => simp [intOf]; omega
                · have hd := decide_eq_false (fun h => hm (hmi.1 h))
                  simp only [hd] at heq
                  have HFm := Lib.hid (HFn.out false id fun h _ => absurd h hm)
                  clear HFn hm hd hmi
                  go_quiet (fail)
                  go_wp2
                  go_roundw
                  case rel => exact ⟨n + 1, false, by omega, by go_num, rfl, HFm, Lib.hid (HQk.out.drewN _)⟩
                  case measure => simp [intOf]; omega
            · obtain rfl : n = L.length := by omega
              have hfb : fb = true := by
                obtain ⟨i, hi, hm, ht⟩ := HIN.out
                exact HF.out i hi hi hm ht
              subst hfb
              have hnl' : ¬ (L.length : Int) < (L.length : Int) := by omega
              have HBq := Lib.hid (HB.out.trans ((HBf.out.trans (HBk0.out.mono HBf.out.size)).mono HB.out.size))
              go_wp2
              go_roundw
              case rel => exact ⟨k + 1, by omega, by go_num, HBq⟩
              case measure => simp [intOf]; omega

    · have hnL : ¬ (k : Int) < (L.length : Int) := by omega
      have hnN : ¬ k < L.length := by omega
      clear hlt
      go_wp2_with fail
      refine (cX.out _ HBo.out).mono ?_
      rintro e w6 ⟨rfl, hb6⟩
      have HB7 := Lib.hid (HBo.out.trans (hb6.mono HBo.out.size))
      clear hb6 cX
      go_wp2
      go_ret
      exact ⟨rfl, HB7.out⟩

set_option maxRecDepth 100000 in
theorem contract (H : Type) (enc : TypeId × Value → H) (W : World) (base : Nat) (args : Array Value) (ds gs : List (DataW H)) (before : List MemPlace)
    (hval : ∀ (j : Nat) t v, Tryz.f8.params[j]? = some t → args[j]? = some v → Value.okWide Tryz.prog W .any base t v)
    (hW : DataW.Whole enc Tryz.prog Tryz.f8.params.toList Rows.vendorBackSpec.vars false W args.toList ds gs before) (hk : Rows.uptoSmall H (ds ++ gs) = true) (hG : Glob W) :
    Calls Tryz.prog 8 args W fun e W' => ∃ v, e = .returned v ∧ Rows.vendorBackSpec.post enc Tryz.prog Tryz.f8 false true false false W args v W' := by
  have hW' := hW
  obtain ⟨p, q, hA0, hV, rfl, hfz, hnd⟩ := hW
  have hA : DataW.TrodAll enc Tryz.prog W 0 (fun _ => true) true Tryz.f8.params.toList args.toList ds p := hA0
  rw [Tryz.params8] at hA hval
  obtain ⟨v0, vs0, d0, ds0, p0, q0, hargs, rfl, rfl, h0, r0⟩ := trodAll_cons hA
  obtain ⟨rfl, rfl, rfl⟩ := trodAll_nil r0
  obtain rfl : args = #[v0] := by cases args; simp_all
  obtain ⟨rfl, rfl⟩ := trodVars_none hV
  obtain ⟨A0, c0, L0, rfl, hS0, hO0, _, hN0⟩ := open_sl Tryz.underlying22 (opens_releases W 1048576 (by decide)) (hval 0 22 v0 rfl rfl) h0 (by have := bulk_of hk; simp only [List.append_nil, Rows.uptoBulkAll] at this; omega)
  have hl0 : L0.length ≤ 1099511627776 := by omega
  clear hA0
  have hw := walk A0 c0 L0 W hS0 hO0 hl0 hG
  refine hw.mono fun e W' ⟨he, hb⟩ => ?_
  subst he
  exact ⟨_, rfl, law_post hW' rfl (by kernel_rfl) (by kernel_rfl) rfl rfl rfl hb⟩

set_option maxRecDepth 100000 in
theorem reads (os : Os) {H : Type} (enc : TypeId × Value → H) : ∃ places, DataW.whole enc Tryz.prog ((laidWorld os).forCall (fun _ _ => 0) ⟨#[], #[.slice none 0 0], []⟩).memory Tryz.f8.params.toList Rows.vendorBackSpec.vars false (#[.slice none 0 0] : Array Value).toList 8 = some ([.nil], [], places) :=
  ⟨[], by kernel_rfl⟩

set_option maxRecDepth 100000 in
theorem lifted (os : Os) (started : os.Started) (H : Type) (enc : TypeId × Value → H) (F : Stop.Interp) :
    ReturnsInHanded {} Tryz.checked os 8 .any ((Rows.OpenSpec.upto Rows.vendorBackSpec).preRow enc Tryz.prog Tryz.f8 Rows.vendorBackUptoRow.domain false Rows.vendorBackUptoRow.laid) (((Rows.OpenSpec.upto Rows.vendorBackSpec).at F).post enc Tryz.prog Tryz.f8 false true false false) := by
  obtain ⟨places, hx⟩ := reads os enc
  refine returnsInHanded_of_row (C := Tryz.checked) (s := Rows.OpenSpec.upto Rows.vendorBackSpec) own started (by kernel_rfl) Tryz.func8
    (witness_row_at (enc := enc) (C := Tryz.checked) false (laidWorld os) #[.slice none 0 0] (World.laidAll_os _ _ _) (by kernel_rfl) (by kernel_rfl) (by kernel_rfl)
      (OpenSpec.preRow_of_cond 8 hx (by kernel_rfl) (fun k hk => by cases hk; kernel_rfl) (by kernel_rfl) (laid_met os _))) ?_
  intro W base args ds gs before hval hW _ hcond _ hL hsh _
  exact contract H enc W base args ds gs before hval hW (hcond _ rfl) (glob_of hL hsh)


set_option maxRecDepth 100000 in
theorem pf_inPlace : (Rows.vendorBackUptoRow.inPlace == Tryz.pinned.checked.prog.inPlace 8) = true := by kernel_rfl
set_option maxRecDepth 100000 in
theorem pf_unf : (Rows.vendorBackUptoRow.unfollowed == Tryz.pinned.checked.prog.unfollowed 8) = true := by kernel_rfl
set_option maxRecDepth 100000 in
theorem pf_rec : (Rows.vendorBackUptoRow.recurses == Tryz.pinned.checked.prog.recurses 8) = true := by kernel_rfl
set_option maxRecDepth 100000 in
theorem pf_named : (Rows.vendorBackUptoRow.named == Tryz.pinned.checked.prog.varsNamed 8) = true := by kernel_rfl
set_option maxRecDepth 100000 in
theorem pf_closed : joinedFacts Tryz.pinned.checked.prog 8 Tryz.f8 (Rows.OpenSpec.upto Rows.vendorBackSpec).bare Rows.vendorBackUptoRow = true := by
  unfold joinedFacts
  exact (and2 (and2 (and2 (and2 (and2 (and2 (and2 (and2 (and2 (and2 (and2 (and2 (and2 (and2 (and2 (and2 (and2 (and2 (and2 (and2 (and2 (and2 (and2 (and2 (and2 (and2 (and2 (and2 (and2 (and2 (and2 (by kernel_rfl) pf_laid) pf_rowed) (by kernel_rfl)) (by kernel_rfl)) (by kernel_rfl)) (by kernel_rfl)) (by kernel_rfl)) (by kernel_rfl)) pf_inPlace) pf_unf) pf_rec) pf_named) (by kernel_rfl)) (by kernel_rfl)) (by kernel_rfl)) (by kernel_rfl)) (by kernel_rfl)) (by kernel_rfl)) (by kernel_rfl)) (by kernel_rfl)) (by kernel_rfl)) (by kernel_rfl)) (by kernel_rfl)) pf_heard) pf_enter) (pf_lifts Rows.vendorBackUptoRow rfl)) (pf_make Rows.vendorBackUptoRow rfl)) (by kernel_rfl)) (by kernel_rfl)) (by kernel_rfl)) (by kernel_rfl))

set_option maxRecDepth 100000 in
theorem said : Rows.VendorBackUptoSaid :=
  OpenClaim.holds_of_cond 8 Tryz.f8 rfl rfl rfl rfl rfl rfl rfl ⟨rfl, rfl, rfl, rfl, rfl⟩ rfl rfl rfl rfl rfl (by kernel_rfl) Tryz.func8 pf_closed
    (of_decide_eq_true (by kernel_rfl)) (by unfold Func.isWrapper; first | (rw [if_pos (by decide +kernel)]; kernel_rfl) | (rw [if_neg (by decide +kernel)]; exact ⟨rfl, rfl⟩))
    (fun os started H enc _ F => by rw [OpenClaim.pre_eq_preRow]; exact lifted os started H enc F)

set_option maxRecDepth 100000 in
theorem plain (f : FuncId) (fn : Func) (hf : Tryz.pinned.checked.prog.funcNamed "configlang/configlanglaw48.VendorBack" = some f) (hfn : Tryz.pinned.checked.prog.funcs[f]? = some fn) :
    true = Tryz.pinned.checked.prog.looks [] ∧ ∀ (j : Nat) t, fn.params[j]? = some t → Tryz.pinned.checked.prog.wantsStandIn t = false := by
  obtain rfl : f = 8 := Option.some.inj ((show Tryz.prog.funcNamed "configlang/configlanglaw48.VendorBack" = some 8 by kernel_rfl).symm.trans hf) |>.symm
  obtain rfl : fn = Tryz.f8 := (Option.some.inj (Tryz.func8.symm.trans hfn)).symm
  refine ⟨by kernel_rfl, fun j t ht => ?_⟩
  rw [Tryz.params8] at ht
  obtain rfl : t = 22 := by simpa using Array.mem_of_getElem? ht
  exact (show Tryz.prog.wantsStandIn 22 = false by kernel_rfl)

set_option maxRecDepth 100000 in
theorem card : Rows.VendorBackUptoCardSaid :=
  Claim7.holds_tied_plain_at .later [] _ _ _ _ said (fun _ h => by cases h) (by kernel_rfl) (fun _ h => by cases h) vendorBackUpto_row_tie rfl ⟨rfl, rfl⟩ (by kernel_rfl) rfl plain (by kernel_rfl)
end Go.Proofs.YthcgihgajdjfoaaGreatDoor.lawBack
